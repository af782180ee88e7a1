/- The law LzSays returns true. Conditions: none. -/
import Derived.Test.YtbnbimncladflaaLzP
import Derived.Test.YtbnbimncladflaaLzR
import Derived.Test.YtbnbimncladflaaFwT
set_option linter.unusedSimpArgs false
set_option linter.unusedVariables false
set_option maxHeartbeats 4000000
set_option maxRecDepth 20000
namespace Go.X.Lz
open Go Go.X Go.RowKit Go.X.Lm
theorem eqTk (x y : Value) (l m : List (Tk)) (M : Mem) (hx : RowM M x 3 (l.map Lz.encT)) (hy : RowM M y 3 (m.map Lz.encT)) :
    Meets Proofs.Try.prog 20 [.v x, .v y] M fun r _ _ => r = .v (.bool (decide (l = m))) := by
  refine Meets.of_body [0,1,4,5,10,12,13,14,24] Proofs.Try.func20 rfl (by kernel_rfl) rfl fun w => ?_
  simp only [Proofs.Try.f20, shs, zts, sos, sls, zss, eqs, sx, sb1, sb2, sb3, sb4, sb5, sb6, sb7, ↓reduceIte, Nat.reduceAdd, Nat.reduceMul, Nat.reduceDiv, Nat.reduceEqDiff, Nat.reduceLT, Nat.reduceLeDiff, reduceCtorEq, Int.reduceEq, Int.reduceNe, Int.reduceLT, Int.reduceLE, Int.reduceAdd, Int.reduceSub, Int.reduceMul, Int.reduceNeg, Int.reduceToNat, Int.cast_ofNat_Int, Int.natCast_zero, Int.natCast_one, Int.toNat_natCast, Nat.reduceBEq, hx.len, hy.len, hx.sl, hy.sl, List.length_map]
  refine ⟨fun h => ?_, fun h => ?_⟩
  · rw [decide_eq_false (fun e => h (by rw [e]))]
  have hlen : l.length = m.length := by omega
  have hle := hx.len_le
  rw [List.length_map] at hle
  refine LoopK.go (X := Nat × Nat) (fun p => ([(0, true, .v x), (1, true, .v y), (4, true, .v (.bool false)), (12, true, .v (.int .i64 l.length)), (13, true, .v (.int .i64 p.2))], [], M))
    (fun p => p.1 + p.2 = l.length ∧ (l = m ↔ l.drop p.2 = m.drop p.2)) (fun p => p.1) (l.length, 0) ⟨rfl, Iff.rfl⟩ (Ent.of ?_) ?_
  · simp only [sx, sb1, sb2, sb3, sb4, sb5, sb6, sb7, ↓reduceIte, Nat.reduceAdd, Nat.reduceMul, Nat.reduceDiv, Nat.reduceEqDiff, Nat.reduceLT, Nat.reduceLeDiff, reduceCtorEq, Int.reduceEq, Int.reduceNe, Int.reduceLT, Int.reduceLE, Int.reduceAdd, Int.reduceSub, Int.reduceMul, Int.reduceNeg, Int.reduceToNat, Int.cast_ofNat_Int, Int.natCast_zero, Int.natCast_one, Int.toNat_natCast, Nat.reduceBEq]
  rintro ⟨f, i⟩ ⟨h1, h2⟩
  simp only at h1 h2
  simp only [shs, zts, sos, sls, zss, eqs, sx, sb1, sb2, sb3, sb4, sb5, sb6, sb7, ↓reduceIte, Nat.reduceAdd, Nat.reduceMul, Nat.reduceDiv, Nat.reduceEqDiff, Nat.reduceLT, Nat.reduceLeDiff, reduceCtorEq, Int.reduceEq, Int.reduceNe, Int.reduceLT, Int.reduceLE, Int.reduceAdd, Int.reduceSub, Int.reduceMul, Int.reduceNeg, Int.reduceToNat, Int.cast_ofNat_Int, Int.natCast_zero, Int.natCast_one, Int.toNat_natCast, Nat.reduceBEq]
  refine ⟨fun h3 => ?_, fun h3 => ?_⟩
  · obtain ⟨⟨a0, a1, a2⟩, hl, hd⟩ := l_drop_at (l := l) (i := i) (by omega)
    obtain ⟨⟨b0, b1, b2⟩, hm, hd2⟩ := l_drop_at (l := m) (i := i) (by omega)
    have g0 := hx.cell (i := i) (e := [.int .i64 a0, .int .i64 a1, .int .i64 a2]) (by rw [List.getElem?_map, hl]; rfl) (off := 0) (by omega)
    have k0 := hy.cell (i := i) (e := [.int .i64 b0, .int .i64 b1, .int .i64 b2]) (by rw [List.getElem?_map, hm]; rfl) (off := 0) (by omega)
    have g1 := hx.cell (i := i) (e := [.int .i64 a0, .int .i64 a1, .int .i64 a2]) (by rw [List.getElem?_map, hl]; rfl) (off := 1) (by omega)
    have k1 := hy.cell (i := i) (e := [.int .i64 b0, .int .i64 b1, .int .i64 b2]) (by rw [List.getElem?_map, hm]; rfl) (off := 1) (by omega)
    have g2 := hx.cell (i := i) (e := [.int .i64 a0, .int .i64 a1, .int .i64 a2]) (by rw [List.getElem?_map, hl]; rfl) (off := 2) (by omega)
    have k2 := hy.cell (i := i) (e := [.int .i64 b0, .int .i64 b1, .int .i64 b2]) (by rw [List.getElem?_map, hm]; rfl) (off := 2) (by omega)
    have i1 := hx.ix (i := (i : Int)) (by omega) (by rw [List.length_map]; omega)
    have i2 := hy.ix (i := (i : Int)) (by omega) (by rw [List.length_map]; omega)
    simp only [List.getD_cons_zero, List.getD_cons_succ] at g0 k0 g1 k1 g2 k2
    refine DrawK.quiet (by kernel_rfl) (by kernel_rfl) ?_
    simp only [shs, zts, sos, sls, zss, eqs, sx, sb1, sb2, sb3, sb4, sb5, sb6, sb7, ↓reduceIte, Nat.reduceAdd, Nat.reduceMul, Nat.reduceDiv, Nat.reduceEqDiff, Nat.reduceLT, Nat.reduceLeDiff, reduceCtorEq, Int.reduceEq, Int.reduceNe, Int.reduceLT, Int.reduceLE, Int.reduceAdd, Int.reduceSub, Int.reduceMul, Int.reduceNeg, Int.reduceToNat, Int.cast_ofNat_Int, Int.natCast_zero, Int.natCast_one, Int.toNat_natCast, Nat.reduceBEq, nzs, g0.1, g0.2.1, k0.1, k0.2.1, g1.1, g1.2.1, k1.1, k1.2.1, g2.1, g2.2.1, k2.1, k2.2.1, i1, i2, i1.2, i2.2, hx.len, hy.len, hx.sl, hy.sl, inK, lo, hi, List.toArray_eq_iff]
    refine ⟨fun hne => ?_, fun he => ⟨by omega, (f - 1, i + 1), ⟨⟨by simp only; omega, ?_⟩, by simp only; omega⟩, Ent.of ?_⟩⟩
    · rw [decide_eq_false (fun e => ?_)]
      have := h2.1 e
      rw [hd, hd2] at this
      have := (List.cons.inj this).1
      simp_all
    · have e12 : (a0, a1, a2) = (b0, b1, b2) := by simp_all
      simp only
      rw [h2, hd, hd2, e12]
      exact ⟨fun e => (List.cons.inj e).2, fun e => by rw [e]⟩
    · simp only [sx, sb1, sb2, sb3, sb4, sb5, sb6, sb7, ↓reduceIte, Nat.reduceAdd, Nat.reduceMul, Nat.reduceDiv, Nat.reduceEqDiff, Nat.reduceLT, Nat.reduceLeDiff, reduceCtorEq, Int.reduceEq, Int.reduceNe, Int.reduceLT, Int.reduceLE, Int.reduceAdd, Int.reduceSub, Int.reduceMul, Int.reduceNeg, Int.reduceToNat, Int.cast_ofNat_Int, Int.natCast_zero, Int.natCast_one, Int.toNat_natCast, Nat.reduceBEq, Int.natCast_add]
  · have : i = l.length := by omega
    rw [decide_eq_true (h2.2 (by rw [List.drop_eq_nil_of_le (by omega), List.drop_eq_nil_of_le (by omega)]))]

theorem parse_large (s : List UInt8) (win : Int) (M : Mem) (hs : 600 < s.length) :
    Meets Proofs.Try.prog 19 [.v (.string ⟨s.toArray⟩), .v (.int .i64 win)] M fun r _ _ => r = .tup [.v (.slice none 0 0), .v (.int .i64 2)] := by
  refine Meets.of_body [0,1,4,5,8,9,10,19,23,24] Proofs.Try.func19 rfl (by kernel_rfl) rfl fun w => ?_
  simp only [Proofs.Try.f19, shs, zts, sos, sls, zss, eqs, sx, sb1, sb2, sb3, sb4, sb5, sb6, sb7, ↓reduceIte, Nat.reduceAdd, Nat.reduceMul, Nat.reduceDiv, Nat.reduceEqDiff, Nat.reduceLT, Nat.reduceLeDiff, reduceCtorEq, Int.reduceEq, Int.reduceNe, Int.reduceLT, Int.reduceLE, Int.reduceAdd, Int.reduceSub, Int.reduceMul, Int.reduceNeg, Int.reduceToNat, Int.cast_ofNat_Int, Int.natCast_zero, Int.natCast_one, Int.toNat_natCast, Nat.reduceBEq, nzs]
  refine CallK.pure ⟨rfl, rfl⟩ rfl (longest_large s 0 win M hs) ?_
  simp only [shs, zts, sos, sls, zss, eqs, sx, sb1, sb2, sb3, sb4, sb5, sb6, sb7, ↓reduceIte, Nat.reduceAdd, Nat.reduceMul, Nat.reduceDiv, Nat.reduceEqDiff, Nat.reduceLT, Nat.reduceLeDiff, reduceCtorEq, Int.reduceEq, Int.reduceNe, Int.reduceLT, Int.reduceLE, Int.reduceAdd, Int.reduceSub, Int.reduceMul, Int.reduceNeg, Int.reduceToNat, Int.cast_ofNat_Int, Int.natCast_zero, Int.natCast_one, Int.toNat_natCast, Nat.reduceBEq, nzs]
theorem parse_arg (s : List UInt8) (win : Int) (M : Mem) (hs : s.length ≤ 600) (h : win < 1 ∨ 256 < win) :
    Meets Proofs.Try.prog 19 [.v (.string ⟨s.toArray⟩), .v (.int .i64 win)] M fun r _ _ => r = .tup [.v (.slice none 0 0), .v (.int .i64 1)] := by
  refine Meets.of_body [0,1,4,5,8,9,10,19,23,24] Proofs.Try.func19 rfl (by kernel_rfl) rfl fun w => ?_
  simp only [Proofs.Try.f19, shs, zts, sos, sls, zss, eqs, sx, sb1, sb2, sb3, sb4, sb5, sb6, sb7, ↓reduceIte, Nat.reduceAdd, Nat.reduceMul, Nat.reduceDiv, Nat.reduceEqDiff, Nat.reduceLT, Nat.reduceLeDiff, reduceCtorEq, Int.reduceEq, Int.reduceNe, Int.reduceLT, Int.reduceLE, Int.reduceAdd, Int.reduceSub, Int.reduceMul, Int.reduceNeg, Int.reduceToNat, Int.cast_ofNat_Int, Int.natCast_zero, Int.natCast_one, Int.toNat_natCast, Nat.reduceBEq, nzs]
  refine CallK.pure ⟨rfl, rfl⟩ rfl (longest_arg s 0 win M hs (h.elim (fun h => .inl (.inr h)) .inr)) ?_
  simp only [shs, zts, sos, sls, zss, eqs, sx, sb1, sb2, sb3, sb4, sb5, sb6, sb7, ↓reduceIte, Nat.reduceAdd, Nat.reduceMul, Nat.reduceDiv, Nat.reduceEqDiff, Nat.reduceLT, Nat.reduceLeDiff, reduceCtorEq, Int.reduceEq, Int.reduceNe, Int.reduceLT, Int.reduceLE, Int.reduceAdd, Int.reduceSub, Int.reduceMul, Int.reduceNeg, Int.reduceToNat, Int.cast_ofNat_Int, Int.natCast_zero, Int.natCast_one, Int.toNat_natCast, Nat.reduceBEq, nzs]
theorem rparse (s : List UInt8) (win : Nat) (M : Mem) (hs : s.length ≤ 600) (hw : 1 ≤ win) (hw2 : win ≤ 256) :
    Meets Proofs.Try.prog 21 [.v (.string ⟨s.toArray⟩), .v (.int .i64 win)] M (OwnR (fun t => t) 3 ((parse s win s.length 0).map encT)) := by
  refine Meets.of_body [0,1,4,5,6,7,8,12,21] Proofs.Try.func21 rfl (by kernel_rfl) rfl fun w => ?_
  simp only [Proofs.Try.f21, shs, zts, sos, sls, zss, eqs, sx, sb1, sb2, sb3, sb4, sb5, sb6, sb7, ↓reduceIte, Nat.reduceAdd, Nat.reduceMul, Nat.reduceDiv, Nat.reduceEqDiff, Nat.reduceLT, Nat.reduceLeDiff, reduceCtorEq, Int.reduceEq, Int.reduceNe, Int.reduceLT, Int.reduceLE, Int.reduceAdd, Int.reduceSub, Int.reduceMul, Int.reduceNeg, Int.reduceToNat, Int.cast_ofNat_Int, Int.natCast_zero, Int.natCast_one, Int.toNat_natCast, Nat.reduceBEq, nzs]
  refine LoopK.nilRow 5 27 3 rfl rfl rfl ?_
  refine LoopK.go (X := List Tk × Nat) (fun x => ([(0, true, .v (.string ⟨s.toArray⟩)), (1, true, .v (.int .i64 win)), (4, true, .v (.slice none 0 0)), (5, true, .own 216), (6, true, .v (.int .i64 (x.2 : Int)))], [(216, .row 3 (x.1.map encT))], M))
    (fun x => x.2 ≤ s.length ∧ x.1.length ≤ x.2 ∧ parse s win s.length 0 = x.1 ++ parse s win s.length x.2) (fun x => s.length - x.2) ([], 0) ⟨Nat.zero_le _, Nat.le_refl _, rfl⟩ (Ent.of ?_) ?_
  · simp only [sx, sb1, sb2, sb3, sb4, sb5, sb6, sb7, ↓reduceIte, Nat.reduceAdd, Nat.reduceMul, Nat.reduceDiv, Nat.reduceEqDiff, Nat.reduceLT, Nat.reduceLeDiff, reduceCtorEq, Int.reduceEq, Int.reduceNe, Int.reduceLT, Int.reduceLE, Int.reduceAdd, Int.reduceSub, Int.reduceMul, Int.reduceNeg, Int.reduceToNat, Int.cast_ofNat_Int, Int.natCast_zero, Int.natCast_one, Int.toNat_natCast, Nat.reduceBEq, List.map_nil, Int.natCast_zero]
  rintro ⟨pre, i⟩ ⟨hil, hp, hx⟩
  simp only at hil hp hx
  simp only [shs, zts, sos, sls, zss, eqs, sx, sb1, sb2, sb3, sb4, sb5, sb6, sb7, ↓reduceIte, Nat.reduceAdd, Nat.reduceMul, Nat.reduceDiv, Nat.reduceEqDiff, Nat.reduceLT, Nat.reduceLeDiff, reduceCtorEq, Int.reduceEq, Int.reduceNe, Int.reduceLT, Int.reduceLE, Int.reduceAdd, Int.reduceSub, Int.reduceMul, Int.reduceNeg, Int.reduceToNat, Int.cast_ofNat_Int, Int.natCast_zero, Int.natCast_one, Int.toNat_natCast, Nat.reduceBEq, nzs]
  refine ⟨fun h3 => ?_, fun h3 => ?_⟩
  · have hlt : i < s.length := by omega
    have hR := rlongest s i win M hs hil hw hw2
    rw [← lg_rl s i (min win i) hil (Nat.min_le_right _ _)] at hR
    refine CallK.pure ⟨rfl, rfl⟩ rfl hR ?_
    have hle := lgA_le s win i hil
    have hpx := parse_step s win i hlt
    obtain ⟨⟨d, m⟩, hr⟩ : ∃ r, lgA s win i = r := ⟨_, rfl⟩
    rw [show lg s i (min win i) 1 0 0 = (d, m) from hr]
    rw [hr] at hle
    simp only at hle
    have htk : tok s win i = if m < 2 then (0, 0, ((s.getD i 0).toNat : Int)) else ((d : Int), (m : Int), 0) := by unfold tok; rw [hr]
    have had : adv s win i = if m < 2 then 1 else m := by unfold adv; rw [hr]
    rw [hpx] at hx
    by_cases hm : m < 2
    · rw [if_pos hm] at htk had
      rw [htk, had] at hx
      have c1 : ((1 : Int) < (m : Int)) = False := eq_false (by omega)
      have c1b : ((m : Int) ≤ 1) = True := eq_true (by omega)
      have hix : strIx s (i : Int) = ((s.getD i 0).toNat : Nat) := strIx_at s _ _ rfl
      have hu8 := (s.getD i 0).toNat_lt
      have hwr : IntKind.i64.wrap ((s.getD i 0).toNat : Int) = ((s.getD i 0).toNat : Int) := wrap_in (k := .i64) ⟨by simp only [lo]; omega, by simp only [hi]; omega⟩
      simp only [shs, zts, sos, sls, zss, eqs, sx, sb1, sb2, sb3, sb4, sb5, sb6, sb7, ↓reduceIte, Nat.reduceAdd, Nat.reduceMul, Nat.reduceDiv, Nat.reduceEqDiff, Nat.reduceLT, Nat.reduceLeDiff, reduceCtorEq, Int.reduceEq, Int.reduceNe, Int.reduceLT, Int.reduceLE, Int.reduceAdd, Int.reduceSub, Int.reduceMul, Int.reduceNeg, Int.reduceToNat, Int.cast_ofNat_Int, Int.natCast_zero, Int.natCast_one, Int.toNat_natCast, Nat.reduceBEq, nzs, c1, c1b, inK, lo, hi, hix, hwr]
      refine ⟨⟨by omega, by omega⟩, ⟨by rw [List.length_map]; omega, by rw [List.length_map]; omega⟩, ⟨by omega, by omega⟩, (pre ++ [((0, 0, ((s.getD i 0).toNat : Int)) : Tk)], i + 1), ⟨⟨hlt, by simp only [List.length_append, List.length_singleton]; omega, by rw [hx, List.append_assoc]; rfl⟩, by simp only; omega⟩, Ent.rekey 5 27 304 3 _ rfl rfl rfl rfl (Ent.of ?_)⟩
      simp only [sx, sb1, sb2, sb3, sb4, sb5, sb6, sb7, ↓reduceIte, Nat.reduceAdd, Nat.reduceMul, Nat.reduceDiv, Nat.reduceEqDiff, Nat.reduceLT, Nat.reduceLeDiff, reduceCtorEq, Int.reduceEq, Int.reduceNe, Int.reduceLT, Int.reduceLE, Int.reduceAdd, Int.reduceSub, Int.reduceMul, Int.reduceNeg, Int.reduceToNat, Int.cast_ofNat_Int, Int.natCast_zero, Int.natCast_one, Int.toNat_natCast, Nat.reduceBEq, List.map_append, List.map_cons, List.map_nil, encT, Int.natCast_add, hdel, hdelk, sigDrop, sigDropA]
    · rw [if_neg hm] at htk had
      rw [htk, had] at hx
      have c1 : ((1 : Int) < (m : Int)) = True := eq_true (by omega)
      have c1b : ((m : Int) ≤ 1) = False := eq_false (by omega)
      simp only [shs, zts, sos, sls, zss, eqs, sx, sb1, sb2, sb3, sb4, sb5, sb6, sb7, ↓reduceIte, Nat.reduceAdd, Nat.reduceMul, Nat.reduceDiv, Nat.reduceEqDiff, Nat.reduceLT, Nat.reduceLeDiff, reduceCtorEq, Int.reduceEq, Int.reduceNe, Int.reduceLT, Int.reduceLE, Int.reduceAdd, Int.reduceSub, Int.reduceMul, Int.reduceNeg, Int.reduceToNat, Int.cast_ofNat_Int, Int.natCast_zero, Int.natCast_one, Int.toNat_natCast, Nat.reduceBEq, nzs, c1, c1b, inK, lo, hi]
      refine ⟨⟨by rw [List.length_map]; omega, by rw [List.length_map]; omega⟩, ⟨by omega, by omega⟩, (pre ++ [(((d : Int), (m : Int), 0) : Tk)], i + m), ⟨⟨hle, by simp only [List.length_append, List.length_singleton]; omega, by rw [hx, List.append_assoc]; rfl⟩, by simp only; omega⟩, Ent.of ?_⟩
      simp only [sx, sb1, sb2, sb3, sb4, sb5, sb6, sb7, ↓reduceIte, Nat.reduceAdd, Nat.reduceMul, Nat.reduceDiv, Nat.reduceEqDiff, Nat.reduceLT, Nat.reduceLeDiff, reduceCtorEq, Int.reduceEq, Int.reduceNe, Int.reduceLT, Int.reduceLE, Int.reduceAdd, Int.reduceSub, Int.reduceMul, Int.reduceNeg, Int.reduceToNat, Int.cast_ofNat_Int, Int.natCast_zero, Int.natCast_one, Int.toNat_natCast, Nat.reduceBEq, List.map_append, List.map_cons, List.map_nil, encT, Int.natCast_add]
  · have he : i = s.length := by omega
    subst he
    rw [parse_end, List.append_nil] at hx
    rw [hx]
    exact ⟨216, rfl, rfl⟩
theorem says (s : List UInt8) (win : Int) (y : Value) (l : List Tk) (M : Mem) (hy : RowM M y 3 (l.map encT)) :
    Meets Proofs.Try.prog 5 [.v (.string ⟨s.toArray⟩), .v (.int .i64 win), .v y] M fun r _ _ => r = .v (.bool true) := by
  refine Meets.of_body [0,1,2,6,7,8,9,10,11,12,13,20,24,32,40,50] Proofs.Try.func5 rfl (by kernel_rfl) rfl fun w => ?_
  simp only [Proofs.Try.f5, shs, zts, sos, sls, zss, eqs, sx, sb1, sb2, sb3, sb4, sb5, sb6, sb7, ↓reduceIte, Nat.reduceAdd, Nat.reduceMul, Nat.reduceDiv, Nat.reduceEqDiff, Nat.reduceLT, Nat.reduceLeDiff, reduceCtorEq, Int.reduceEq, Int.reduceNe, Int.reduceLT, Int.reduceLE, Int.reduceAdd, Int.reduceSub, Int.reduceMul, Int.reduceNeg, Int.reduceToNat, Int.cast_ofNat_Int, Int.natCast_zero, Int.natCast_one, Int.toNat_natCast, Nat.reduceBEq, nzs]
  have hl0 : lenV (.slice none 0 0) = 0 := rfl
  by_cases h1 : 600 < s.length
  · refine CallK.pure ⟨rfl, rfl⟩ rfl (parse_large s win M h1) ?_
    have c1 : ((600 : Int) < (s.length : Int)) = True := eq_true (by omega)
    have c1b : ((s.length : Int) ≤ 600) = False := eq_false (by omega)
    simp only [shs, zts, sos, sls, zss, eqs, sx, sb1, sb2, sb3, sb4, sb5, sb6, sb7, ↓reduceIte, Nat.reduceAdd, Nat.reduceMul, Nat.reduceDiv, Nat.reduceEqDiff, Nat.reduceLT, Nat.reduceLeDiff, reduceCtorEq, Int.reduceEq, Int.reduceNe, Int.reduceLT, Int.reduceLE, Int.reduceAdd, Int.reduceSub, Int.reduceMul, Int.reduceNeg, Int.reduceToNat, Int.cast_ofNat_Int, Int.natCast_zero, Int.natCast_one, Int.toNat_natCast, Nat.reduceBEq, nzs, c1, c1b, hl0]
    refine CallK.pure ⟨rfl, rfl⟩ rfl (expand y l M hy) ?_
    simp only [shs, zts, sos, sls, zss, eqs, sx, sb1, sb2, sb3, sb4, sb5, sb6, sb7, ↓reduceIte, Nat.reduceAdd, Nat.reduceMul, Nat.reduceDiv, Nat.reduceEqDiff, Nat.reduceLT, Nat.reduceLeDiff, reduceCtorEq, Int.reduceEq, Int.reduceNe, Int.reduceLT, Int.reduceLE, Int.reduceAdd, Int.reduceSub, Int.reduceMul, Int.reduceNeg, Int.reduceToNat, Int.cast_ofNat_Int, Int.natCast_zero, Int.natCast_one, Int.toNat_natCast, Nat.reduceBEq, nzs]
    refine CallK.pure ⟨rfl, rfl⟩ rfl (rexpand y l M hy) ?_
    simp only [shs, zts, sos, sls, zss, eqs, sx, sb1, sb2, sb3, sb4, sb5, sb6, sb7, ↓reduceIte, Nat.reduceAdd, Nat.reduceMul, Nat.reduceDiv, Nat.reduceEqDiff, Nat.reduceLT, Nat.reduceLeDiff, reduceCtorEq, Int.reduceEq, Int.reduceNe, Int.reduceLT, Int.reduceLE, Int.reduceAdd, Int.reduceSub, Int.reduceMul, Int.reduceNeg, Int.reduceToNat, Int.cast_ofNat_Int, Int.natCast_zero, Int.natCast_one, Int.toNat_natCast, Nat.reduceBEq, nzs]
  have c1 : ((600 : Int) < (s.length : Int)) = False := eq_false (by omega)
  have c1b : ((s.length : Int) ≤ 600) = True := eq_true (by omega)
  by_cases h2 : win < 1 ∨ 256 < win
  · refine CallK.pure ⟨rfl, rfl⟩ rfl (parse_arg s win M (by omega) h2) ?_
    have c2 : (decide (win < 1) || decide (256 < win)) = true := by rcases h2 with h | h <;> simp [h]
    simp only [shs, zts, sos, sls, zss, eqs, sx, sb1, sb2, sb3, sb4, sb5, sb6, sb7, ↓reduceIte, Nat.reduceAdd, Nat.reduceMul, Nat.reduceDiv, Nat.reduceEqDiff, Nat.reduceLT, Nat.reduceLeDiff, reduceCtorEq, Int.reduceEq, Int.reduceNe, Int.reduceLT, Int.reduceLE, Int.reduceAdd, Int.reduceSub, Int.reduceMul, Int.reduceNeg, Int.reduceToNat, Int.cast_ofNat_Int, Int.natCast_zero, Int.natCast_one, Int.toNat_natCast, Nat.reduceBEq, nzs, c1, c1b, c2, hl0]
    refine CallK.pure ⟨rfl, rfl⟩ rfl (expand y l M hy) ?_
    simp only [shs, zts, sos, sls, zss, eqs, sx, sb1, sb2, sb3, sb4, sb5, sb6, sb7, ↓reduceIte, Nat.reduceAdd, Nat.reduceMul, Nat.reduceDiv, Nat.reduceEqDiff, Nat.reduceLT, Nat.reduceLeDiff, reduceCtorEq, Int.reduceEq, Int.reduceNe, Int.reduceLT, Int.reduceLE, Int.reduceAdd, Int.reduceSub, Int.reduceMul, Int.reduceNeg, Int.reduceToNat, Int.cast_ofNat_Int, Int.natCast_zero, Int.natCast_one, Int.toNat_natCast, Nat.reduceBEq, nzs]
    refine CallK.pure ⟨rfl, rfl⟩ rfl (rexpand y l M hy) ?_
    simp only [shs, zts, sos, sls, zss, eqs, sx, sb1, sb2, sb3, sb4, sb5, sb6, sb7, ↓reduceIte, Nat.reduceAdd, Nat.reduceMul, Nat.reduceDiv, Nat.reduceEqDiff, Nat.reduceLT, Nat.reduceLeDiff, reduceCtorEq, Int.reduceEq, Int.reduceNe, Int.reduceLT, Int.reduceLE, Int.reduceAdd, Int.reduceSub, Int.reduceMul, Int.reduceNeg, Int.reduceToNat, Int.cast_ofNat_Int, Int.natCast_zero, Int.natCast_one, Int.toNat_natCast, Nat.reduceBEq, nzs]
  obtain ⟨win, rfl⟩ := Int.eq_ofNat_of_zero_le (a := win) (by omega)
  have c2 : ((win : Int) < 1) = False := eq_false (by omega)
  have c3 : ((256 : Int) < (win : Int)) = False := eq_false (by omega)
  refine CallK.row (T := fun t => .tup [t, .v (.int .i64 0)]) (Ctx.fst _) rfl rfl (Meets.rows (lzparse s win M (by omega) (by omega) (by omega))) fun u M1 hM1 hu => ?_
  simp only [shs, zts, sos, sls, zss, eqs, sx, sb1, sb2, sb3, sb4, sb5, sb6, sb7, ↓reduceIte, Nat.reduceAdd, Nat.reduceMul, Nat.reduceDiv, Nat.reduceEqDiff, Nat.reduceLT, Nat.reduceLeDiff, reduceCtorEq, Int.reduceEq, Int.reduceNe, Int.reduceLT, Int.reduceLE, Int.reduceAdd, Int.reduceSub, Int.reduceMul, Int.reduceNeg, Int.reduceToNat, Int.cast_ofNat_Int, Int.natCast_zero, Int.natCast_one, Int.toNat_natCast, Nat.reduceBEq, nzs, c1, c1b, c2, c3]
  refine CallK.row (T := fun t => t) Ctx.id rfl rfl (Meets.rows (rparse s win M1 (by omega) (by omega) (by omega))) fun u2 M2 hM2 hu2 => ?_
  simp only [shs, zts, sos, sls, zss, eqs, sx, sb1, sb2, sb3, sb4, sb5, sb6, sb7, ↓reduceIte, Nat.reduceAdd, Nat.reduceMul, Nat.reduceDiv, Nat.reduceEqDiff, Nat.reduceLT, Nat.reduceLeDiff, reduceCtorEq, Int.reduceEq, Int.reduceNe, Int.reduceLT, Int.reduceLE, Int.reduceAdd, Int.reduceSub, Int.reduceMul, Int.reduceNeg, Int.reduceToNat, Int.cast_ofNat_Int, Int.natCast_zero, Int.natCast_one, Int.toNat_natCast, Nat.reduceBEq, nzs]
  refine CallK.pure ⟨rfl, rfl⟩ rfl (eqTk u u2 _ _ M2 (hu.le hM2) hu2) ?_
  have hy2 := (hy.le hM1).le hM2
  simp only [shs, zts, sos, sls, zss, eqs, sx, sb1, sb2, sb3, sb4, sb5, sb6, sb7, ↓reduceIte, Nat.reduceAdd, Nat.reduceMul, Nat.reduceDiv, Nat.reduceEqDiff, Nat.reduceLT, Nat.reduceLeDiff, reduceCtorEq, Int.reduceEq, Int.reduceNe, Int.reduceLT, Int.reduceLE, Int.reduceAdd, Int.reduceSub, Int.reduceMul, Int.reduceNeg, Int.reduceToNat, Int.cast_ofNat_Int, Int.natCast_zero, Int.natCast_one, Int.toNat_natCast, Nat.reduceBEq, nzs]
  refine CallK.pure ⟨rfl, rfl⟩ rfl (expand y l M2 hy2) ?_
  simp only [shs, zts, sos, sls, zss, eqs, sx, sb1, sb2, sb3, sb4, sb5, sb6, sb7, ↓reduceIte, Nat.reduceAdd, Nat.reduceMul, Nat.reduceDiv, Nat.reduceEqDiff, Nat.reduceLT, Nat.reduceLeDiff, reduceCtorEq, Int.reduceEq, Int.reduceNe, Int.reduceLT, Int.reduceLE, Int.reduceAdd, Int.reduceSub, Int.reduceMul, Int.reduceNeg, Int.reduceToNat, Int.cast_ofNat_Int, Int.natCast_zero, Int.natCast_one, Int.toNat_natCast, Nat.reduceBEq, nzs]
  refine CallK.pure ⟨rfl, rfl⟩ rfl (rexpand y l M2 hy2) ?_
  simp only [shs, zts, sos, sls, zss, eqs, sx, sb1, sb2, sb3, sb4, sb5, sb6, sb7, ↓reduceIte, Nat.reduceAdd, Nat.reduceMul, Nat.reduceDiv, Nat.reduceEqDiff, Nat.reduceLT, Nat.reduceLeDiff, reduceCtorEq, Int.reduceEq, Int.reduceNe, Int.reduceLT, Int.reduceLE, Int.reduceAdd, Int.reduceSub, Int.reduceMul, Int.reduceNeg, Int.reduceToNat, Int.cast_ofNat_Int, Int.natCast_zero, Int.natCast_one, Int.toNat_natCast, Nat.reduceBEq, nzs]
theorem law (s : List UInt8) (win : Int) (a2 : Value × List Tk) (M : Mem) (_ : s.length ≤ maxLen) (_ : inK .i64 win)
    (h2 : RowM M a2.1 3 (a2.2.map fun a => [Value.int .i64 a.1] ++ ([Value.int .i64 a.2.1] ++ [Value.int .i64 a.2.2])) ∧ ∀ x ∈ a2.2, inK .i64 x.1 ∧ inK .i64 x.2.1 ∧ inK .i64 x.2.2) :
    Meets Proofs.Try.prog 5 [.v (.string ⟨s.toArray⟩), .v (.int .i64 win), .v a2.1] M fun r _ _ => r = .v (.bool true) := says s win a2.1 a2.2 M h2.1
end Go.X.Lz
