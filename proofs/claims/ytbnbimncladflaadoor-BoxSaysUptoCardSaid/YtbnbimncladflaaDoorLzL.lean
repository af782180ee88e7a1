/- The law LzSays returns true. Conditions: none. -/
import Derived.Test.YtbnbimncladflaaDoorLzP
import Derived.Test.YtbnbimncladflaaDoorLzR
import Derived.Test.YtbnbimncladflaaDoorFwT
set_option linter.unusedSimpArgs false
set_option linter.unusedVariables false
set_option maxHeartbeats 4000000
set_option maxRecDepth 20000
namespace Go.X.Lz
open Go Go.X Go.RowKit Go.X.Lm
theorem parse_large (s : List UInt8) (win : Int) (M : Mem) (hs : 600 < s.length) :
    Meets Proofs.Tryd.prog 16 [.v (.string ⟨s.toArray⟩), .v (.int .i64 win)] M fun r _ _ => r = .tup [.v (.slice none 0 0), .v (.int .i64 2)] := by
  refine Meets.of_body [0,1,4,5,8,9,10,19,23,24] Proofs.Tryd.func16 rfl (by kernel_rfl) rfl fun w => ?_
  simp only [Proofs.Tryd.f16, shs, zts, sos, sls, zss, eqs, sx, sb1, sb2, sb3, sb4, sb5, sb6, sb7, ↓reduceIte, Nat.reduceAdd, Nat.reduceMul, Nat.reduceDiv, Nat.reduceEqDiff, Nat.reduceLT, Nat.reduceLeDiff, reduceCtorEq, Int.reduceEq, Int.reduceNe, Int.reduceLT, Int.reduceLE, Int.reduceAdd, Int.reduceSub, Int.reduceMul, Int.reduceNeg, Int.reduceToNat, Int.cast_ofNat_Int, Int.natCast_zero, Int.natCast_one, Int.toNat_natCast, Nat.reduceBEq, nzs]
  refine CallK.pure ⟨rfl, rfl⟩ rfl (longest_large s 0 win M hs) ?_
  simp only [shs, zts, sos, sls, zss, eqs, sx, sb1, sb2, sb3, sb4, sb5, sb6, sb7, ↓reduceIte, Nat.reduceAdd, Nat.reduceMul, Nat.reduceDiv, Nat.reduceEqDiff, Nat.reduceLT, Nat.reduceLeDiff, reduceCtorEq, Int.reduceEq, Int.reduceNe, Int.reduceLT, Int.reduceLE, Int.reduceAdd, Int.reduceSub, Int.reduceMul, Int.reduceNeg, Int.reduceToNat, Int.cast_ofNat_Int, Int.natCast_zero, Int.natCast_one, Int.toNat_natCast, Nat.reduceBEq, nzs]
theorem parse_arg (s : List UInt8) (win : Int) (M : Mem) (hs : s.length ≤ 600) (h : win < 1 ∨ 256 < win) :
    Meets Proofs.Tryd.prog 16 [.v (.string ⟨s.toArray⟩), .v (.int .i64 win)] M fun r _ _ => r = .tup [.v (.slice none 0 0), .v (.int .i64 1)] := by
  refine Meets.of_body [0,1,4,5,8,9,10,19,23,24] Proofs.Tryd.func16 rfl (by kernel_rfl) rfl fun w => ?_
  simp only [Proofs.Tryd.f16, shs, zts, sos, sls, zss, eqs, sx, sb1, sb2, sb3, sb4, sb5, sb6, sb7, ↓reduceIte, Nat.reduceAdd, Nat.reduceMul, Nat.reduceDiv, Nat.reduceEqDiff, Nat.reduceLT, Nat.reduceLeDiff, reduceCtorEq, Int.reduceEq, Int.reduceNe, Int.reduceLT, Int.reduceLE, Int.reduceAdd, Int.reduceSub, Int.reduceMul, Int.reduceNeg, Int.reduceToNat, Int.cast_ofNat_Int, Int.natCast_zero, Int.natCast_one, Int.toNat_natCast, Nat.reduceBEq, nzs]
  refine CallK.pure ⟨rfl, rfl⟩ rfl (longest_arg s 0 win M hs (h.elim (fun h => .inl (.inr h)) .inr)) ?_
  simp only [shs, zts, sos, sls, zss, eqs, sx, sb1, sb2, sb3, sb4, sb5, sb6, sb7, ↓reduceIte, Nat.reduceAdd, Nat.reduceMul, Nat.reduceDiv, Nat.reduceEqDiff, Nat.reduceLT, Nat.reduceLeDiff, reduceCtorEq, Int.reduceEq, Int.reduceNe, Int.reduceLT, Int.reduceLE, Int.reduceAdd, Int.reduceSub, Int.reduceMul, Int.reduceNeg, Int.reduceToNat, Int.cast_ofNat_Int, Int.natCast_zero, Int.natCast_one, Int.toNat_natCast, Nat.reduceBEq, nzs]
theorem rparse (s : List UInt8) (win : Nat) (M : Mem) (hs : s.length ≤ 600) (hw : 1 ≤ win) (hw2 : win ≤ 256) :
    Meets Proofs.Tryd.prog 11 [.v (.string ⟨s.toArray⟩), .v (.int .i64 win)] M (OwnR (fun t => t) 3 ((parse s win s.length 0).map encT)) := by
  refine Meets.of_body [0,1,4,5,6,7,8,12,21] Proofs.Tryd.func11 rfl (by kernel_rfl) rfl fun w => ?_
  simp only [Proofs.Tryd.f11, shs, zts, sos, sls, zss, eqs, sx, sb1, sb2, sb3, sb4, sb5, sb6, sb7, ↓reduceIte, Nat.reduceAdd, Nat.reduceMul, Nat.reduceDiv, Nat.reduceEqDiff, Nat.reduceLT, Nat.reduceLeDiff, reduceCtorEq, Int.reduceEq, Int.reduceNe, Int.reduceLT, Int.reduceLE, Int.reduceAdd, Int.reduceSub, Int.reduceMul, Int.reduceNeg, Int.reduceToNat, Int.cast_ofNat_Int, Int.natCast_zero, Int.natCast_one, Int.toNat_natCast, Nat.reduceBEq, nzs]
  refine LoopK.nilRow 5 27 3 rfl rfl rfl ?_
  refine LoopK.go (X := List Tk × Nat) (fun x => ([(0, true, .v (.string ⟨s.toArray⟩)), (1, true, .v (.int .i64 win)), (4, true, .v (.slice none 0 0)), (5, true, .own 216), (6, true, .v (.int .i64 (x.2 : Int)))], [(216, .row 3 (x.1.map encT))], M))
    (fun x => x.2 ≤ s.length ∧ x.1.length ≤ x.2 ∧ parse s win s.length 0 = x.1 ++ parse s win s.length x.2) (fun x => s.length - x.2) ([], 0) ⟨Nat.zero_le _, Nat.le_refl _, rfl⟩ (Ent.of ?_) ?_
  · simp only [sx, sb1, sb2, sb3, sb4, sb5, sb6, sb7, ↓reduceIte, Nat.reduceAdd, Nat.reduceMul, Nat.reduceDiv, Nat.reduceEqDiff, Nat.reduceLT, Nat.reduceLeDiff, reduceCtorEq, Int.reduceEq, Int.reduceNe, Int.reduceLT, Int.reduceLE, Int.reduceAdd, Int.reduceSub, Int.reduceMul, Int.reduceNeg, Int.reduceToNat, Int.cast_ofNat_Int, Int.natCast_zero, Int.natCast_one, Int.toNat_natCast, Nat.reduceBEq, List.map_nil, Int.natCast_zero]
  rintro ⟨pre, i⟩ ⟨hil, hp, hx⟩
  simp only at hil hp hx
  simp only [shs, zts, sos, sls, zss, eqs, sx, sb1, sb2, sb3, sb4, sb5, sb6, sb7, ↓reduceIte, Nat.reduceAdd, Nat.reduceMul, Nat.reduceDiv, Nat.reduceEqDiff, Nat.reduceLT, Nat.reduceLeDiff, reduceCtorEq, Int.reduceEq, Int.reduceNe, Int.reduceLT, Int.reduceLE, Int.reduceAdd, Int.reduceSub, Int.reduceMul, Int.reduceNeg, Int.reduceToNat, Int.cast_ofNat_Int, Int.natCast_zero, Int.natCast_one, Int.toNat_natCast, Nat.reduceBEq, nzs]
  refine ⟨fun h3 => ?_, fun h3 => ?_⟩
  · have hlt : i < s.length := by omega
    have hR := rlongest s i win M hs hil hw hw2
    rw [← lg_rl s i (min win i) hil (Nat.min_le_right _ _)] at hR
    refine CallK.pure ⟨rfl, rfl⟩ rfl hR ?_
    have hle := lgA_le s win i hil
    have hpx := parse_step s win i hlt
    obtain ⟨⟨d, m⟩, hr⟩ : ∃ r, lgA s win i = r := ⟨_, rfl⟩
    rw [show lg s i (min win i) 1 0 0 = (d, m) from hr]
    rw [hr] at hle
    simp only at hle
    have htk : tok s win i = if m < 2 then (0, 0, ((s.getD i 0).toNat : Int)) else ((d : Int), (m : Int), 0) := by unfold tok; rw [hr]
    have had : adv s win i = if m < 2 then 1 else m := by unfold adv; rw [hr]
    rw [hpx] at hx
    by_cases hm : m < 2
    · rw [if_pos hm] at htk had
      rw [htk, had] at hx
      have c1 : ((1 : Int) < (m : Int)) = False := eq_false (by omega)
      have c1b : ((m : Int) ≤ 1) = True := eq_true (by omega)
      have hix : strIx s (i : Int) = ((s.getD i 0).toNat : Nat) := strIx_at s _ _ rfl
      have hu8 := (s.getD i 0).toNat_lt
      have hwr : IntKind.i64.wrap ((s.getD i 0).toNat : Int) = ((s.getD i 0).toNat : Int) := wrap_in (k := .i64) ⟨by simp only [lo]; omega, by simp only [hi]; omega⟩
      simp only [shs, zts, sos, sls, zss, eqs, sx, sb1, sb2, sb3, sb4, sb5, sb6, sb7, ↓reduceIte, Nat.reduceAdd, Nat.reduceMul, Nat.reduceDiv, Nat.reduceEqDiff, Nat.reduceLT, Nat.reduceLeDiff, reduceCtorEq, Int.reduceEq, Int.reduceNe, Int.reduceLT, Int.reduceLE, Int.reduceAdd, Int.reduceSub, Int.reduceMul, Int.reduceNeg, Int.reduceToNat, Int.cast_ofNat_Int, Int.natCast_zero, Int.natCast_one, Int.toNat_natCast, Nat.reduceBEq, nzs, c1, c1b, inK, lo, hi, hix, hwr]
      refine ⟨⟨by omega, by omega⟩, ⟨by rw [List.length_map]; omega, by rw [List.length_map]; omega⟩, ⟨by omega, by omega⟩, (pre ++ [((0, 0, ((s.getD i 0).toNat : Int)) : Tk)], i + 1), ⟨⟨hlt, by simp only [List.length_append, List.length_singleton]; omega, by rw [hx, List.append_assoc]; rfl⟩, by simp only; omega⟩, Ent.rekey 5 27 304 3 _ rfl rfl rfl rfl (Ent.of ?_)⟩
      simp only [sx, sb1, sb2, sb3, sb4, sb5, sb6, sb7, ↓reduceIte, Nat.reduceAdd, Nat.reduceMul, Nat.reduceDiv, Nat.reduceEqDiff, Nat.reduceLT, Nat.reduceLeDiff, reduceCtorEq, Int.reduceEq, Int.reduceNe, Int.reduceLT, Int.reduceLE, Int.reduceAdd, Int.reduceSub, Int.reduceMul, Int.reduceNeg, Int.reduceToNat, Int.cast_ofNat_Int, Int.natCast_zero, Int.natCast_one, Int.toNat_natCast, Nat.reduceBEq, List.map_append, List.map_cons, List.map_nil, encT, Int.natCast_add, hdel, hdelk, sigDrop, sigDropA]
    · rw [if_neg hm] at htk had
      rw [htk, had] at hx
      have c1 : ((1 : Int) < (m : Int)) = True := eq_true (by omega)
      have c1b : ((m : Int) ≤ 1) = False := eq_false (by omega)
      simp only [shs, zts, sos, sls, zss, eqs, sx, sb1, sb2, sb3, sb4, sb5, sb6, sb7, ↓reduceIte, Nat.reduceAdd, Nat.reduceMul, Nat.reduceDiv, Nat.reduceEqDiff, Nat.reduceLT, Nat.reduceLeDiff, reduceCtorEq, Int.reduceEq, Int.reduceNe, Int.reduceLT, Int.reduceLE, Int.reduceAdd, Int.reduceSub, Int.reduceMul, Int.reduceNeg, Int.reduceToNat, Int.cast_ofNat_Int, Int.natCast_zero, Int.natCast_one, Int.toNat_natCast, Nat.reduceBEq, nzs, c1, c1b, inK, lo, hi]
      refine ⟨⟨by rw [List.length_map]; omega, by rw [List.length_map]; omega⟩, ⟨by omega, by omega⟩, (pre ++ [(((d : Int), (m : Int), 0) : Tk)], i + m), ⟨⟨hle, by simp only [List.length_append, List.length_singleton]; omega, by rw [hx, List.append_assoc]; rfl⟩, by simp only; omega⟩, Ent.of ?_⟩
      simp only [sx, sb1, sb2, sb3, sb4, sb5, sb6, sb7, ↓reduceIte, Nat.reduceAdd, Nat.reduceMul, Nat.reduceDiv, Nat.reduceEqDiff, Nat.reduceLT, Nat.reduceLeDiff, reduceCtorEq, Int.reduceEq, Int.reduceNe, Int.reduceLT, Int.reduceLE, Int.reduceAdd, Int.reduceSub, Int.reduceMul, Int.reduceNeg, Int.reduceToNat, Int.cast_ofNat_Int, Int.natCast_zero, Int.natCast_one, Int.toNat_natCast, Nat.reduceBEq, List.map_append, List.map_cons, List.map_nil, encT, Int.natCast_add]
  · have he : i = s.length := by omega
    subst he
    rw [parse_end, List.append_nil] at hx
    rw [hx]
    exact ⟨216, rfl, rfl⟩
end Go.X.Lz
