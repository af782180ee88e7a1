/- woollaw.ResvMay returns true. Conditions: none. -/
import Derived.Test.YtkhadbanpfngnaaResvB
set_option linter.unusedSimpArgs false
set_option linter.unusedVariables false
set_option maxHeartbeats 4000000
set_option maxRecDepth 20000
namespace Go.X.Rv
open Go Go.X Go.X.Rp

theorem says (g : Int) (y : Value) (kd hd : Int) (l : List (Int × Int)) (w : Int) (wr : Bool) (M : Mem) (hy : RowM M y 2 (l.map encR)) :
    Meets Proofs.Try.prog 9 [resvV g y kd hd, .v (.int .i64 w), .v (.bool wr)] M fun r _ _ => r = .v (.bool true) := by
  refine Meets.of_body [0,1,2,3,6,7,8,9,28,30] Proofs.Try.func9 rfl (by kernel_rfl) rfl fun w0 => ?_
  simp only [Proofs.Try.f9, resvV, shs, zts, sos, sls, zss, sx, sb1, sb2, sb3, sb4, sb5, ↓reduceIte, Nat.reduceAdd, Nat.reduceMul, Nat.reduceDiv, Nat.reduceEqDiff, Nat.reduceLT, Nat.reduceLeDiff, reduceCtorEq, Int.reduceEq, Int.reduceNe, Int.reduceLT, Int.reduceLE, Int.reduceAdd, Int.reduceSub, Int.reduceMul, Int.reduceNeg, Int.reduceToNat, Int.cast_ofNat_Int, Int.natCast_zero, Int.natCast_one, Int.toNat_natCast, Nat.reduceBEq, nz]
  refine CallK.pure ⟨rfl, rfl⟩ rfl (may g y kd hd w wr l M hy) ?_
  simp only [shs, zts, sos, sls, zss, sx, sb1, sb2, sb3, sb4, sb5, ↓reduceIte, Nat.reduceAdd, Nat.reduceMul, Nat.reduceDiv, Nat.reduceEqDiff, Nat.reduceLT, Nat.reduceLeDiff, reduceCtorEq, Int.reduceEq, Int.reduceNe, Int.reduceLT, Int.reduceLE, Int.reduceAdd, Int.reduceSub, Int.reduceMul, Int.reduceNeg, Int.reduceToNat, Int.cast_ofNat_Int, Int.natCast_zero, Int.natCast_one, Int.toNat_natCast, Nat.reduceBEq, nz]
  refine CallK.pure ⟨rfl, rfl⟩ rfl (resv g y kd hd l M hy) ?_
  by_cases he : resvE g l kd hd = 0
  · have hme : mayE g l kd hd w = if whoB w = true then 0 else 1 := by unfold mayE; rw [if_neg (by simp [he])]
    cases hw : whoB w with
    | true =>
      rw [hw, if_pos rfl] at hme
      have h1 : (0 ≤ w ∧ w ≤ 7) := by unfold whoB at hw; simpa using hw
      have d1 : (w < 0) = False := eq_false (by omega)
      have d2 : (7 < w) = False := eq_false (by omega)
      simp only [shs, zts, sos, sls, zss, sx, sb1, sb2, sb3, sb4, sb5, ↓reduceIte, Nat.reduceAdd, Nat.reduceMul, Nat.reduceDiv, Nat.reduceEqDiff, Nat.reduceLT, Nat.reduceLeDiff, reduceCtorEq, Int.reduceEq, Int.reduceNe, Int.reduceLT, Int.reduceLE, Int.reduceAdd, Int.reduceSub, Int.reduceMul, Int.reduceNeg, Int.reduceToNat, Int.cast_ofNat_Int, Int.natCast_zero, Int.natCast_one, Int.toNat_natCast, Nat.reduceBEq, nz, he, hme, d1, d2]
      have hck : ck l (-1) = 0 ∧ 0 ≤ kd := by
        unfold resvE at he
        split at he
        · cases he
        · split at he
          · rename_i h2
            exact (h2 he).elim
          · rename_i h2
            refine ⟨Classical.not_not.1 h2, ?_⟩
            unfold kE at he
            split at he
            · rename_i h3
              rcases h3 with h3 | h3
              · omega
              · have := allB_ne h3; omega
            · split at he
              · cases he
              · rename_i h4
                have h5 : kindB kd = true := by simpa using h4
                unfold kindB at h5
                simp at h5
                omega
      refine CallK.pure ⟨rfl, rfl⟩ rfl (rmay g y kd hd w wr l M hy (ck_nil hck.1) hck.2) ?_
      simp only [shs, zts, sos, sls, zss, sx, sb1, sb2, sb3, sb4, sb5, ↓reduceIte, Nat.reduceAdd, Nat.reduceMul, Nat.reduceDiv, Nat.reduceEqDiff, Nat.reduceLT, Nat.reduceLeDiff, reduceCtorEq, Int.reduceEq, Int.reduceNe, Int.reduceLT, Int.reduceLE, Int.reduceAdd, Int.reduceSub, Int.reduceMul, Int.reduceNeg, Int.reduceToNat, Int.cast_ofNat_Int, Int.natCast_zero, Int.natCast_one, Int.toNat_natCast, Nat.reduceBEq, nz, beq_self_eq_true]
    | false =>
      rw [hw, if_neg (by decide)] at hme
      have h1 : ¬ (0 ≤ w ∧ w ≤ 7) := by unfold whoB at hw; simpa using hw
      simp only [shs, zts, sos, sls, zss, sx, sb1, sb2, sb3, sb4, sb5, ↓reduceIte, Nat.reduceAdd, Nat.reduceMul, Nat.reduceDiv, Nat.reduceEqDiff, Nat.reduceLT, Nat.reduceLeDiff, reduceCtorEq, Int.reduceEq, Int.reduceNe, Int.reduceLT, Int.reduceLE, Int.reduceAdd, Int.reduceSub, Int.reduceMul, Int.reduceNeg, Int.reduceToNat, Int.cast_ofNat_Int, Int.natCast_zero, Int.natCast_one, Int.toNat_natCast, Nat.reduceBEq, nz, he, hme]
      exact fun h => (h1 h).elim
  · have hme : mayE g l kd hd w = resvE g l kd hd := by unfold mayE; rw [if_pos he]
    generalize resvE g l kd hd = e at *
    have de : (e = 0) = False := eq_false he
    simp only [shs, zts, sos, sls, zss, sx, sb1, sb2, sb3, sb4, sb5, ↓reduceIte, Nat.reduceAdd, Nat.reduceMul, Nat.reduceDiv, Nat.reduceEqDiff, Nat.reduceLT, Nat.reduceLeDiff, reduceCtorEq, Int.reduceEq, Int.reduceNe, Int.reduceLT, Int.reduceLE, Int.reduceAdd, Int.reduceSub, Int.reduceMul, Int.reduceNeg, Int.reduceToNat, Int.cast_ofNat_Int, Int.natCast_zero, Int.natCast_one, Int.toNat_natCast, Nat.reduceBEq, nz, hme, de]

theorem said (g : Int) (y : Value) (l : List (Int × Int)) (kd hd w : Int) (wr : Bool) (M : Mem) (_ : inK .i64 g) (hy : RowM M y 2 (l.map fun a : Int × Int => [.int .i64 a.1, .int .i64 a.2])) (_ : ∀ s ∈ l, inK .i64 s.1 ∧ inK .i64 s.2) (_ : inK .i64 kd) (_ : inK .i64 hd) (_ : inK .i64 w) :
    Meets Proofs.Try.prog 9 [resvV g y kd hd, .v (.int .i64 w), .v (.bool wr)] M fun r _ _ => r = .v (.bool true) := says g y kd hd l w wr M hy
end Go.X.Rv
