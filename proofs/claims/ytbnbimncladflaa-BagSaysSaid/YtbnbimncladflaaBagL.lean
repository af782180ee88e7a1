/- The law BagSays returns true. Conditions: none. -/
import Derived.Test.YtbnbimncladflaaBagW
import Derived.Test.YtbnbimncladflaaBagG
import Derived.Test.YtbnbimncladflaaBagD
set_option linter.unusedSimpArgs false
set_option linter.unusedVariables false
set_option maxHeartbeats 4000000
set_option maxRecDepth 20000
namespace Go.X.Bp
open Go Go.X Go.RowKit Go.X.Bg Go.X.Sb

theorem zero_bad (y : Value) (M : Mem) (hy : RowM M y 4 ([zIt].map Bg.encT)) : Meets Proofs.Try.prog 27 [.v y] M fun r _ _ => r = .v (.int .i64 (bagE [zIt])) := rbag y [zIt] M hy
theorem says (y : Value) (l : List It) (s : List UInt8) (id : Id3) (M : Mem) (hy : RowM M y 4 (l.map Bg.encT)) :
    Meets Proofs.Try.prog 6 [.v y, .v (.string ⟨s.toArray⟩), idS id] M fun r _ _ => r = .v (.bool true) := by
  refine Meets.of_body [0,1,2,5,6,7,8,9,10,11,12,13,14,15,16,17,18,19,20,51,53,106,117] Proofs.Try.func6 rfl (by kernel_rfl) rfl fun w => ?_
  simp only [Proofs.Try.f6, idS, shs, zts, sos, sls, zss, eqs, sx, sb1, sb2, sb3, sb4, sb5, sb6, sb7, ↓reduceIte, Nat.reduceAdd, Nat.reduceMul, Nat.reduceDiv, Nat.reduceEqDiff, Nat.reduceLT, Nat.reduceLeDiff, reduceCtorEq, Int.reduceEq, Int.reduceNe, Int.reduceLT, Int.reduceLE, Int.reduceAdd, Int.reduceSub, Int.reduceMul, Int.reduceNeg, Int.reduceToNat, Int.cast_ofNat_Int, Int.natCast_zero, Int.natCast_one, Int.toNat_natCast, Nat.reduceBEq, nzs]
  refine CallK.row (putT_ctx _ _) rfl rfl (Meets.rows (put y l s M hy)) fun u1 M1 hM1 hu1 => ?_
  simp only [shs, zts, sos, sls, zss, eqs, sx, sb1, sb2, sb3, sb4, sb5, sb6, sb7, ↓reduceIte, Nat.reduceAdd, Nat.reduceMul, Nat.reduceDiv, Nat.reduceEqDiff, Nat.reduceLT, Nat.reduceLeDiff, reduceCtorEq, Int.reduceEq, Int.reduceNe, Int.reduceLT, Int.reduceLE, Int.reduceAdd, Int.reduceSub, Int.reduceMul, Int.reduceNeg, Int.reduceToNat, Int.cast_ofNat_Int, Int.natCast_zero, Int.natCast_one, Int.toNat_natCast, Nat.reduceBEq, nzs, putT, idS]
  have hG := get y l id M1 (hy.le hM1)
  simp only [idS] at hG
  refine CallK.pure ⟨rfl, rfl⟩ rfl hG ?_
  simp only [shs, zts, sos, sls, zss, eqs, sx, sb1, sb2, sb3, sb4, sb5, sb6, sb7, ↓reduceIte, Nat.reduceAdd, Nat.reduceMul, Nat.reduceDiv, Nat.reduceEqDiff, Nat.reduceLT, Nat.reduceLeDiff, reduceCtorEq, Int.reduceEq, Int.reduceNe, Int.reduceLT, Int.reduceLE, Int.reduceAdd, Int.reduceSub, Int.reduceMul, Int.reduceNeg, Int.reduceToNat, Int.cast_ofNat_Int, Int.natCast_zero, Int.natCast_one, Int.toNat_natCast, Nat.reduceBEq, nzs]
  have hD := Meets.rows (drop y l id M1 (hy.le hM1))
  simp only [idS] at hD
  refine CallK.row (T := fun s => .tup [s, .v (.int .i64 (dropS l id).2)]) (Ctx.fst _) rfl rfl hD fun u2 M2 hM2 hu2 => ?_
  simp only [shs, zts, sos, sls, zss, eqs, sx, sb1, sb2, sb3, sb4, sb5, sb6, sb7, ↓reduceIte, Nat.reduceAdd, Nat.reduceMul, Nat.reduceDiv, Nat.reduceEqDiff, Nat.reduceLT, Nat.reduceLeDiff, reduceCtorEq, Int.reduceEq, Int.reduceNe, Int.reduceLT, Int.reduceLE, Int.reduceAdd, Int.reduceSub, Int.reduceMul, Int.reduceNeg, Int.reduceToNat, Int.cast_ofNat_Int, Int.natCast_zero, Int.natCast_one, Int.toNat_natCast, Nat.reduceBEq, nzs]
  have hy2 := (hy.le hM1).le hM2
  refine CallK.pure ⟨rfl, rfl⟩ rfl (rbag y l M2 hy2) ?_
  simp only [shs, zts, sos, sls, zss, eqs, sx, sb1, sb2, sb3, sb4, sb5, sb6, sb7, ↓reduceIte, Nat.reduceAdd, Nat.reduceMul, Nat.reduceDiv, Nat.reduceEqDiff, Nat.reduceLT, Nat.reduceLeDiff, reduceCtorEq, Int.reduceEq, Int.reduceNe, Int.reduceLT, Int.reduceLE, Int.reduceAdd, Int.reduceSub, Int.reduceMul, Int.reduceNeg, Int.reduceToNat, Int.cast_ofNat_Int, Int.natCast_zero, Int.natCast_one, Int.toNat_natCast, Nat.reduceBEq, nzs]
  refine CallK.pure ⟨rfl, rfl⟩ rfl (check y l M2 hy2) ?_
  simp only [shs, zts, sos, sls, zss, eqs, sx, sb1, sb2, sb3, sb4, sb5, sb6, sb7, ↓reduceIte, Nat.reduceAdd, Nat.reduceMul, Nat.reduceDiv, Nat.reduceEqDiff, Nat.reduceLT, Nat.reduceLeDiff, reduceCtorEq, Int.reduceEq, Int.reduceNe, Int.reduceLT, Int.reduceLE, Int.reduceAdd, Int.reduceSub, Int.reduceMul, Int.reduceNeg, Int.reduceToNat, Int.cast_ofNat_Int, Int.natCast_zero, Int.natCast_one, Int.toNat_natCast, Nat.reduceBEq, nzs]
  have hz : bagE [zIt] ≠ 0 := by decide
  refine CallK.lend (k := 384) rfl rfl rfl (fun _ => rfl) (fun v M3 hM3 hv => check v [zIt] M3 hv) ?_
  generalize bagE [zIt] = z at hz ⊢
  have cz := eq_false hz
  by_cases h1 : bagE l = 0
  rotate_left
  · have c1 := eq_false h1
    have e1 : putS l s = ([], z3, bagE l) := if_pos h1
    have e2 : getE l id = bagE l := if_pos h1
    have e3 : dropS l id = ([], bagE l) := if_pos h1
    rw [e1] at hu1
    rw [e3] at hu2
    have l1 := hu1.len
    have l2 := hu2.len
    have s1 := hu1.sl
    have s2 := hu2.sl
    rw [List.map_nil, List.length_nil] at l1 l2
    rw [e1, e2, e3, if_neg h1]
    simp only [shs, zts, sos, sls, zss, eqs, sx, sb1, sb2, sb3, sb4, sb5, sb6, sb7, ↓reduceIte, Nat.reduceAdd, Nat.reduceMul, Nat.reduceDiv, Nat.reduceEqDiff, Nat.reduceLT, Nat.reduceLeDiff, reduceCtorEq, Int.reduceEq, Int.reduceNe, Int.reduceLT, Int.reduceLE, Int.reduceAdd, Int.reduceSub, Int.reduceMul, Int.reduceNeg, Int.reduceToNat, Int.cast_ofNat_Int, Int.natCast_zero, Int.natCast_one, Int.toNat_natCast, Nat.reduceBEq, nzs, c1, cz, l1, l2, s1, s2, z3]
  have e1 : putS l s = putG l s := if_neg (fun h => h h1)
  have e3 : dropS l id = lessG l id := if_neg (fun h => h h1)
  have hgE : getE l id = if idIx l id < 0 then 4 else 0 := if_neg (fun h => h h1)
  rw [e1] at hu1 ⊢
  rw [e3] at hu2 ⊢
  simp only [shs, zts, sos, sls, zss, eqs, sx, sb1, sb2, sb3, sb4, sb5, sb6, sb7, ↓reduceIte, Nat.reduceAdd, Nat.reduceMul, Nat.reduceDiv, Nat.reduceEqDiff, Nat.reduceLT, Nat.reduceLeDiff, reduceCtorEq, Int.reduceEq, Int.reduceNe, Int.reduceLT, Int.reduceLE, Int.reduceAdd, Int.reduceSub, Int.reduceMul, Int.reduceNeg, Int.reduceToNat, Int.cast_ofNat_Int, Int.natCast_zero, Int.natCast_one, Int.toNat_natCast, Nat.reduceBEq, nzs, h1, cz]
  refine CallK.row (putT_ctx _ _) rfl rfl (Meets.rows (rput y l s M2 hy2 h1)) fun u3 M3 hM3 hu3 => ?_
  simp only [shs, zts, sos, sls, zss, eqs, sx, sb1, sb2, sb3, sb4, sb5, sb6, sb7, ↓reduceIte, Nat.reduceAdd, Nat.reduceMul, Nat.reduceDiv, Nat.reduceEqDiff, Nat.reduceLT, Nat.reduceLeDiff, reduceCtorEq, Int.reduceEq, Int.reduceNe, Int.reduceLT, Int.reduceLE, Int.reduceAdd, Int.reduceSub, Int.reduceMul, Int.reduceNeg, Int.reduceToNat, Int.cast_ofNat_Int, Int.natCast_zero, Int.natCast_one, Int.toNat_natCast, Nat.reduceBEq, nzs, putT, idS]
  refine CallK.pure ⟨rfl, rfl⟩ rfl (eqB u1 u3 _ _ M3 ((hu1.le hM2).le hM3) hu3) ?_
  simp only [shs, zts, sos, sls, zss, eqs, sx, sb1, sb2, sb3, sb4, sb5, sb6, sb7, ↓reduceIte, Nat.reduceAdd, Nat.reduceMul, Nat.reduceDiv, Nat.reduceEqDiff, Nat.reduceLT, Nat.reduceLeDiff, reduceCtorEq, Int.reduceEq, Int.reduceNe, Int.reduceLT, Int.reduceLE, Int.reduceAdd, Int.reduceSub, Int.reduceMul, Int.reduceNeg, Int.reduceToNat, Int.cast_ofNat_Int, Int.natCast_zero, Int.natCast_one, Int.toNat_natCast, Nat.reduceBEq, nzs, beq_self_eq_true]
  have hR := Meets.rows (rless y l id M3 (hy2.le hM3) h1)
  simp only [idS] at hR
  refine CallK.row (T := fun s => .tup [s, .v (.int .i64 (lessG l id).2)]) (Ctx.fst _) rfl rfl hR fun u4 M4 hM4 hu4 => ?_
  simp only [shs, zts, sos, sls, zss, eqs, sx, sb1, sb2, sb3, sb4, sb5, sb6, sb7, ↓reduceIte, Nat.reduceAdd, Nat.reduceMul, Nat.reduceDiv, Nat.reduceEqDiff, Nat.reduceLT, Nat.reduceLeDiff, reduceCtorEq, Int.reduceEq, Int.reduceNe, Int.reduceLT, Int.reduceLE, Int.reduceAdd, Int.reduceSub, Int.reduceMul, Int.reduceNeg, Int.reduceToNat, Int.cast_ofNat_Int, Int.natCast_zero, Int.natCast_one, Int.toNat_natCast, Nat.reduceBEq, nzs]
  have hI := item y l id M4 ((hy2.le hM3).le hM4)
  simp only [idV] at hI
  refine CallK.pure ⟨rfl, rfl⟩ rfl hI ?_
  have hii : fidx (isId id) l 0 = idIx l id := rfl
  have l2 := (hu2.le hM3).len
  have s2 := hu2.sl
  rcases fidx_sp (isId id) l 0 with ⟨k1, _⟩ | ⟨j, x, k1, k2, k3, _⟩
  · have hg : lessG l id = ([], 4) := if_pos (by rw [← hii, k1]; decide)
    have hge : getE l id = 4 := by rw [hgE, if_pos (by rw [← hii, k1]; decide)]
    rw [hg, List.map_nil, List.length_nil] at l2
    rw [k1, hge, hg]
    simp only [shs, zts, sos, sls, zss, eqs, sx, sb1, sb2, sb3, sb4, sb5, sb6, sb7, ↓reduceIte, Nat.reduceAdd, Nat.reduceMul, Nat.reduceDiv, Nat.reduceEqDiff, Nat.reduceLT, Nat.reduceLeDiff, reduceCtorEq, Int.reduceEq, Int.reduceNe, Int.reduceLT, Int.reduceLE, Int.reduceAdd, Int.reduceSub, Int.reduceMul, Int.reduceNeg, Int.reduceToNat, Int.cast_ofNat_Int, Int.natCast_zero, Int.natCast_one, Int.toNat_natCast, Nat.reduceBEq, nzs, l2, s2]
  · rw [Nat.zero_add] at k1
    have hn : ¬ idIx l id < 0 := by rw [← hii, k1]; omega
    have hge : getE l id = 0 := by rw [hgE, if_neg hn]
    have hg : (lessG l id).2 = 0 := by unfold lessG; rw [if_neg hn]
    have ht : txtId l id = x.2.2.1 := by unfold txtId; rw [k1, Int.toNat_natCast, k2]; rfl
    have hy4 := (hy2.le hM3).le hM4
    obtain ⟨⟨y0, y1⟩, ⟨y2, y3⟩, yi⟩ := it_at hy4 k2
    have c2 : ((j : Int) < 0) = False := eq_false (by omega)
    rw [k1, hge, hg, if_pos rfl, ht]
    simp only [shs, zts, sos, sls, zss, eqs, sx, sb1, sb2, sb3, sb4, sb5, sb6, sb7, ↓reduceIte, Nat.reduceAdd, Nat.reduceMul, Nat.reduceDiv, Nat.reduceEqDiff, Nat.reduceLT, Nat.reduceLeDiff, reduceCtorEq, Int.reduceEq, Int.reduceNe, Int.reduceLT, Int.reduceLE, Int.reduceAdd, Int.reduceSub, Int.reduceMul, Int.reduceNeg, Int.reduceToNat, Int.cast_ofNat_Int, Int.natCast_zero, Int.natCast_one, Int.toNat_natCast, Nat.reduceBEq, nzs, c2, yi, yi.2, y2.1, y2.2]
    refine CallK.pure ⟨rfl, rfl⟩ rfl (eqB u2 u4 _ _ M4 ((hu2.le hM3).le hM4) hu4) ?_
    simp only [shs, zts, sos, sls, zss, eqs, sx, sb1, sb2, sb3, sb4, sb5, sb6, sb7, ↓reduceIte, Nat.reduceAdd, Nat.reduceMul, Nat.reduceDiv, Nat.reduceEqDiff, Nat.reduceLT, Nat.reduceLeDiff, reduceCtorEq, Int.reduceEq, Int.reduceNe, Int.reduceLT, Int.reduceLE, Int.reduceAdd, Int.reduceSub, Int.reduceMul, Int.reduceNeg, Int.reduceToNat, Int.cast_ofNat_Int, Int.natCast_zero, Int.natCast_one, Int.toNat_natCast, Nat.reduceBEq, nzs]

theorem law (a0 : Value × List It) (s : List UInt8) (id : Id3) (M : Mem)
    (h0 : RowM M a0.1 4 (a0.2.map fun a => [Value.int .i64 a.1] ++ ([Value.int .i64 a.2.1] ++ ([Value.string ⟨a.2.2.1.toArray⟩] ++ [Value.int .i64 a.2.2.2]))) ∧ ∀ x ∈ a0.2, inK .i64 x.1 ∧ inK .i64 x.2.1 ∧ x.2.2.1.length ≤ maxLen ∧ inK .i64 x.2.2.2)
    (_ : s.length ≤ maxLen) (_ : True ∧ inK .i64 id.2.1 ∧ inK .i64 id.2.2) :
    Meets Proofs.Try.prog 6 [.v a0.1, .v (.string ⟨s.toArray⟩), .agg [.v (.bool id.1), .v (.int .i64 id.2.1), .v (.int .i64 id.2.2)]] M fun r _ _ => r = .v (.bool true) := says a0.1 a0.2 s id M h0.1
end Go.X.Bp
