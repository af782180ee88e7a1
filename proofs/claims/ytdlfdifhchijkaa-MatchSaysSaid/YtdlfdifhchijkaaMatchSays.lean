/- woollaw.MatchSays returns true. Conditions: none. -/
import Derived.Test.YtdlfdifhchijkaaMatchL
set_option linter.unusedSimpArgs false
set_option linter.unusedVariables false
namespace Go.X.Lm
open Go Go.X

theorem says (s : List UInt8) (i win : Int) (M : Mem) (_ : s.length ≤ maxLen) (_ : inK .i64 i) (_ : inK .i64 win) :
    Meets Proofs.Try.prog 4 [.v (.string ⟨s.toArray⟩), .v (.int .i64 i), .v (.int .i64 win)] M fun r _ _ => r = .v (.bool true) := by
  refine Meets.of_body [0,1,2,6,7,8,9,10,11,12,21,25,43] Proofs.Try.func4 rfl (by kernel_rfl) rfl fun w => ?_
  simp only [Proofs.Try.f4, shs, sx, sb1, sb2, sb3, sb4, sb5, ↓reduceIte, Nat.reduceAdd, Nat.reduceMul, Nat.reduceDiv, Nat.reduceEqDiff, Nat.reduceLT, Nat.reduceLeDiff, reduceCtorEq, Int.reduceEq, Int.reduceNe, Int.reduceLT, Int.reduceLE, Int.reduceAdd, Int.reduceSub, Int.reduceMul, Int.reduceNeg, Int.reduceToNat]
  by_cases h1 : 600 < s.length
  · refine CallK.pure ⟨rfl, rfl⟩ rfl (longest_large s i win M h1) ?_
    simp only [shs, sx, sb1, sb2, sb3, sb4, sb5, ↓reduceIte, Nat.reduceAdd, Nat.reduceMul, Nat.reduceDiv, Nat.reduceEqDiff, Nat.reduceLT, Nat.reduceLeDiff, reduceCtorEq, Int.reduceEq, Int.reduceNe, Int.reduceLT, Int.reduceLE, Int.reduceAdd, Int.reduceSub, Int.reduceMul, Int.reduceNeg, Int.reduceToNat]
    exact fun h => by omega
  by_cases h2 : ((i < 0 ∨ s.length < i) ∨ win < 1) ∨ 256 < win
  · refine CallK.pure ⟨rfl, rfl⟩ rfl (longest_arg s i win M (by omega) h2) ?_
    simp only [shs, sx, sb1, sb2, sb3, sb4, sb5, ↓reduceIte, Nat.reduceAdd, Nat.reduceMul, Nat.reduceDiv, Nat.reduceEqDiff, Nat.reduceLT, Nat.reduceLeDiff, reduceCtorEq, Int.reduceEq, Int.reduceNe, Int.reduceLT, Int.reduceLE, Int.reduceAdd, Int.reduceSub, Int.reduceMul, Int.reduceNeg, Int.reduceToNat]
    exact ⟨fun h => by omega, fun _ h => by omega⟩
  obtain ⟨i, rfl⟩ := Int.eq_ofNat_of_zero_le (a := i) (by omega)
  obtain ⟨win, rfl⟩ := Int.eq_ofNat_of_zero_le (a := win) (by omega)
  refine CallK.pure ⟨rfl, rfl⟩ rfl (longest s i win M (by omega) (by omega) (by omega) (by omega)) ?_
  simp only [shs, sx, sb1, sb2, sb3, sb4, sb5, ↓reduceIte, Nat.reduceAdd, Nat.reduceMul, Nat.reduceDiv, Nat.reduceEqDiff, Nat.reduceLT, Nat.reduceLeDiff, reduceCtorEq, Int.reduceEq, Int.reduceNe, Int.reduceLT, Int.reduceLE, Int.reduceAdd, Int.reduceSub, Int.reduceMul, Int.reduceNeg, Int.reduceToNat]
  refine ⟨fun h => by omega, fun h => ⟨fun h => by omega, fun h => ?_⟩⟩
  refine CallK.pure ⟨rfl, rfl⟩ rfl (rlongest s i win M (by omega) (by omega) (by omega) (by omega)) ?_
  rw [lg_rl s i (min win i) (by omega) (by omega)]
  simp only [shs, sx, sb1, sb2, sb3, sb4, sb5, ↓reduceIte, Nat.reduceAdd, Nat.reduceMul, Nat.reduceDiv, Nat.reduceEqDiff, Nat.reduceLT, Nat.reduceLeDiff, reduceCtorEq, Int.reduceEq, Int.reduceNe, Int.reduceLT, Int.reduceLE, Int.reduceAdd, Int.reduceSub, Int.reduceMul, Int.reduceNeg, Int.reduceToNat]
end Go.X.Lm
