/- woollaw.CutSays returns true. Conditions: none. -/
import Derived.Test.YtkhadbanpfngnaaCut
set_option linter.unusedSimpArgs false
set_option linter.unusedVariables false
set_option maxHeartbeats 4000000
set_option maxRecDepth 20000
namespace Go.X.Cu
open Go Go.X Go.X.Pol Go.X.Pl Go.X.Rp Go.X.Pd Go.X.Md Go.X.Mv Go.X.Pt

theorem says (s : List UInt8) (least most mask : Int) (M : Mem) (_ : s.length ≤ maxLen) (_ : inK .i64 least) (_ : inK .i64 most) (_ : inK .i64 mask) :
    Meets Proofs.Try.prog 6 [.v (.string ⟨s.toArray⟩), .v (.int .i64 least), .v (.int .i64 most), .v (.int .i64 mask)] M fun r _ _ => r = .v (.bool true) := by
  refine Meets.of_body [0,1,2,3,8,9,10,11,20,24,45] Proofs.Try.func6 rfl (by kernel_rfl) rfl fun w => ?_
  simp only [Proofs.Try.f6, shs, zts, sos, sls, zss, sx, sb1, sb2, sb3, sb4, sb5, ↓reduceIte, Nat.reduceAdd, Nat.reduceMul, Nat.reduceDiv, Nat.reduceEqDiff, Nat.reduceLT, Nat.reduceLeDiff, reduceCtorEq, Int.reduceEq, Int.reduceNe, Int.reduceLT, Int.reduceLE, Int.reduceAdd, Int.reduceSub, Int.reduceMul, Int.reduceNeg, Int.reduceToNat, Int.cast_ofNat_Int, Int.natCast_zero, Int.natCast_one, Int.toNat_natCast, Nat.reduceBEq]
  by_cases hs : 600 < (s.length : Int)
  · have e : cutB s least most mask = 2 := if_pos hs
    have c1 := ends_bad s least most mask M (by rw [e]; decide)
    rw [e] at c1
    have d1 : (600 < (s.length : Int)) = True := eq_true hs
    refine CallK.pure ⟨rfl, rfl⟩ rfl c1 ?_
    simp only [shs, zts, sos, sls, zss, sx, sb1, sb2, sb3, sb4, sb5, ↓reduceIte, Nat.reduceAdd, Nat.reduceMul, Nat.reduceDiv, Nat.reduceEqDiff, Nat.reduceLT, Nat.reduceLeDiff, reduceCtorEq, Int.reduceEq, Int.reduceNe, Int.reduceLT, Int.reduceLE, Int.reduceAdd, Int.reduceSub, Int.reduceMul, Int.reduceNeg, Int.reduceToNat, Int.cast_ofNat_Int, Int.natCast_zero, Int.natCast_one, Int.toNat_natCast, Nat.reduceBEq, d1, len_nil]
  have d1 : (600 < (s.length : Int)) = False := eq_false hs
  by_cases hb : (((least < 1 ∨ most < least) ∨ 600 < most) ∨ mask < 0) ∨ 65535 < mask
  · have e : cutB s least most mask = 1 := by rw [cutB, if_neg hs, if_pos hb]
    have c1 := ends_bad s least most mask M (by rw [e]; decide)
    rw [e] at c1
    refine CallK.pure ⟨rfl, rfl⟩ rfl c1 ?_
    simp only [shs, zts, sos, sls, zss, sx, sb1, sb2, sb3, sb4, sb5, ↓reduceIte, Nat.reduceAdd, Nat.reduceMul, Nat.reduceDiv, Nat.reduceEqDiff, Nat.reduceLT, Nat.reduceLeDiff, reduceCtorEq, Int.reduceEq, Int.reduceNe, Int.reduceLT, Int.reduceLE, Int.reduceAdd, Int.reduceSub, Int.reduceMul, Int.reduceNeg, Int.reduceToNat, Int.cast_ofNat_Int, Int.natCast_zero, Int.natCast_one, Int.toNat_natCast, Nat.reduceBEq, d1, len_nil]
    exact fun h => by omega
  · obtain ⟨least, rfl⟩ : ∃ k : Nat, least = k := ⟨least.toNat, by omega⟩
    obtain ⟨most, rfl⟩ : ∃ k : Nat, most = k := ⟨most.toNat, by omega⟩
    obtain ⟨mask, rfl⟩ : ∃ k : Nat, mask = k := ⟨mask.toNat, by omega⟩
    have d2 : ((least : Int) < 1) = False := eq_false (by omega)
    have d3 : ((most : Int) < (least : Int)) = False := eq_false (by omega)
    have d4 : (600 < (most : Int)) = False := eq_false (by omega)
    have d5 : ((mask : Int) < 0) = False := eq_false (by omega)
    have d6 : (65535 < (mask : Int)) = False := eq_false (by omega)
    refine CallK.row (Ctx.fst _) rfl rfl (ends_ok s least most mask M (by omega) (by omega) (by omega) (by omega) (by omega)) fun v1 M1 hM1 hv1 => ?_
    simp only [shs, zts, sos, sls, zss, sx, sb1, sb2, sb3, sb4, sb5, ↓reduceIte, Nat.reduceAdd, Nat.reduceMul, Nat.reduceDiv, Nat.reduceEqDiff, Nat.reduceLT, Nat.reduceLeDiff, reduceCtorEq, Int.reduceEq, Int.reduceNe, Int.reduceLT, Int.reduceLE, Int.reduceAdd, Int.reduceSub, Int.reduceMul, Int.reduceNeg, Int.reduceToNat, Int.cast_ofNat_Int, Int.natCast_zero, Int.natCast_one, Int.toNat_natCast, Nat.reduceBEq, d1, d2, d3, d4, d5, d6, hv1.sl]
    refine CallK.row Ctx.id rfl rfl (rends 600 s least most mask M1 (by omega) (Nat.le_refl _) (by omega) (by omega) (by omega) (by omega)) fun v2 M2 hM2 hv2 => ?_
    simp only [shs, zts, sos, sls, zss, sx, sb1, sb2, sb3, sb4, sb5, ↓reduceIte, Nat.reduceAdd, Nat.reduceMul, Nat.reduceDiv, Nat.reduceEqDiff, Nat.reduceLT, Nat.reduceLeDiff, reduceCtorEq, Int.reduceEq, Int.reduceNe, Int.reduceLT, Int.reduceLE, Int.reduceAdd, Int.reduceSub, Int.reduceMul, Int.reduceNeg, Int.reduceToNat, Int.cast_ofNat_Int, Int.natCast_zero, Int.natCast_one, Int.toNat_natCast, Nat.reduceBEq]
    refine CallK.pure ⟨rfl, rfl⟩ rfl (eqInt v1 v2 _ _ M2 (hv1.le hM2) hv2) ?_
    simp only [shs, zts, sos, sls, zss, sx, sb1, sb2, sb3, sb4, sb5, ↓reduceIte, Nat.reduceAdd, Nat.reduceMul, Nat.reduceDiv, Nat.reduceEqDiff, Nat.reduceLT, Nat.reduceLeDiff, reduceCtorEq, Int.reduceEq, Int.reduceNe, Int.reduceLT, Int.reduceLE, Int.reduceAdd, Int.reduceSub, Int.reduceMul, Int.reduceNeg, Int.reduceToNat, Int.cast_ofNat_Int, Int.natCast_zero, Int.natCast_one, Int.toNat_natCast, Nat.reduceBEq]
end Go.X.Cu
