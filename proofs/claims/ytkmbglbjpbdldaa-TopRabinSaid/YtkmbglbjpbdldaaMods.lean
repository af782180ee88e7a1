/- Products and powers of polynomials by a modulus; woollaw.PolyMods returns true. Conditions: none. -/
import Derived.Test.YtkmbglbjpbdldaaPolyD
set_option linter.unusedSimpArgs false
set_option linter.unusedVariables false
set_option maxHeartbeats 4000000
set_option maxRecDepth 20000
namespace Go.X.Md
open Go Go.X Go.X.Pol Go.X.Pl Go.X.Rp Go.X.Pd

def powp (a : Nat) : Nat → Nat
  | 0 => 1
  | n + 1 => mulp (powp a n) a
theorem powp_one (a : Nat) : powp a 1 = a := mulp_one a
theorem powp_add (a n k : Nat) : powp a (n + k) = mulp (powp a n) (powp a k) := by
  induction k with
  | zero => rw [Nat.add_zero, powp, mulp_one_right]
  | succ k ih => rw [← Nat.add_assoc, powp, powp, ih, mulp_assoc]
theorem powp_sq (a n : Nat) : powp (mulp a a) n = powp a (n + n) := by
  induction n with
  | zero => rfl
  | succ n ih =>
    rw [powp, ih, show n + 1 + (n + 1) = (n + n) + 1 + 1 by omega, powp, powp, mulp_assoc]
theorem powp_mod {a m : Nat} (hm : m ≠ 0) (x n : Nat) : pmod (mulp x (powp (pmod a m) n)) m = pmod (mulp x (powp a n)) m := by
  induction n generalizing x with
  | zero => rfl
  | succ n ih =>
    rw [powp, powp, ← mulp_assoc, pmod_mul_right hm, mulp_comm (mulp x (powp (pmod a m) n)) a, ← mulp_assoc, ih, mulp_comm a x, mulp_assoc, mulp_comm a]

theorem modmul (a b m : Nat) (M : Mem) (ha : a ≤ 2147483647) (hb : b ≤ 2147483647) (hm : m ≤ 2147483647) (h0 : m ≠ 0) :
    Meets Proofs.Try.prog 131 [.v (.int .i64 (a : Int)), .v (.int .i64 (b : Int)), .v (.int .i64 (m : Int))] M fun r _ _ => r = .tup [.v (.int .i64 ((pmod (mulp a b) m : Nat) : Int)), .v (.int .i64 0)] := by
  refine Meets.of_body [0,1,2,6,7,8,9,11,16,21,24] Proofs.Try.func131 rfl (by kernel_rfl) rfl fun w => ?_
  have h62 := mulp_62 ha hb
  have hp := pmod_le (a := mulp a b) h0 hm
  simp only [Proofs.Try.f131, shs, zts, sos, sls, zss, eqs, sx, sb1, sb2, sb3, sb4, sb5, ↓reduceIte, Nat.reduceAdd, Nat.reduceMul, Nat.reduceDiv, Nat.reduceEqDiff, Nat.reduceLT, Nat.reduceLeDiff, reduceCtorEq, Int.reduceEq, Int.reduceNe, Int.reduceLT, Int.reduceLE, Int.reduceAdd, Int.reduceSub, Int.reduceMul, Int.reduceNeg, Int.reduceToNat, Int.cast_ofNat_Int, Int.natCast_zero, Int.natCast_one, Int.toNat_natCast, Nat.reduceBEq]
  refine CallK.pure ⟨rfl, rfl⟩ rfl (two a b M) ?_
  simp only [shs, zts, sos, sls, zss, eqs, sx, sb1, sb2, sb3, sb4, sb5, ↓reduceIte, Nat.reduceAdd, Nat.reduceMul, Nat.reduceDiv, Nat.reduceEqDiff, Nat.reduceLT, Nat.reduceLeDiff, reduceCtorEq, Int.reduceEq, Int.reduceNe, Int.reduceLT, Int.reduceLE, Int.reduceAdd, Int.reduceSub, Int.reduceMul, Int.reduceNeg, Int.reduceToNat, Int.cast_ofNat_Int, Int.natCast_zero, Int.natCast_one, Int.toNat_natCast, Nat.reduceBEq, er2_ok ha hb]
  refine CallK.pure ⟨rfl, rfl⟩ rfl (check m M) ?_
  simp only [shs, zts, sos, sls, zss, eqs, sx, sb1, sb2, sb3, sb4, sb5, ↓reduceIte, Nat.reduceAdd, Nat.reduceMul, Nat.reduceDiv, Nat.reduceEqDiff, Nat.reduceLT, Nat.reduceLeDiff, reduceCtorEq, Int.reduceEq, Int.reduceNe, Int.reduceLT, Int.reduceLE, Int.reduceAdd, Int.reduceSub, Int.reduceMul, Int.reduceNeg, Int.reduceToNat, Int.cast_ofNat_Int, Int.natCast_zero, Int.natCast_one, Int.toNat_natCast, Nat.reduceBEq, er_ok (show ¬ ((m : Int) < 0 ∨ 2147483647 < (m : Int)) by omega)]
  refine ⟨fun h => (h0 (by omega)).elim, fun _ => ?_⟩
  refine CallK.pure ⟨rfl, rfl⟩ rfl (times a b M ha hb) ?_
  simp only [shs, zts, sos, sls, zss, eqs, sx, sb1, sb2, sb3, sb4, sb5, ↓reduceIte, Nat.reduceAdd, Nat.reduceMul, Nat.reduceDiv, Nat.reduceEqDiff, Nat.reduceLT, Nat.reduceLeDiff, reduceCtorEq, Int.reduceEq, Int.reduceNe, Int.reduceLT, Int.reduceLE, Int.reduceAdd, Int.reduceSub, Int.reduceMul, Int.reduceNeg, Int.reduceToNat, Int.cast_ofNat_Int, Int.natCast_zero, Int.natCast_one, Int.toNat_natCast, Nat.reduceBEq]
  refine CallK.pure ⟨rfl, rfl⟩ rfl (over (mulp a b) m M (by omega) hm h0) ?_
  simp only [shs, zts, sos, sls, zss, eqs, sx, sb1, sb2, sb3, sb4, sb5, ↓reduceIte, Nat.reduceAdd, Nat.reduceMul, Nat.reduceDiv, Nat.reduceEqDiff, Nat.reduceLT, Nat.reduceLeDiff, reduceCtorEq, Int.reduceEq, Int.reduceNe, Int.reduceLT, Int.reduceLE, Int.reduceAdd, Int.reduceSub, Int.reduceMul, Int.reduceNeg, Int.reduceToNat, Int.cast_ofNat_Int, Int.natCast_zero, Int.natCast_one, Int.toNat_natCast, Nat.reduceBEq, iw (show pmod (mulp a b) m < 9223372036854775808 by omega)]
  exact fun h => by cases h

theorem powp_odd {x a n m : Nat} (hm : m ≠ 0) (h : n % 2 = 1) : pmod (mulp (pmod (mulp x a) m) (powp (pmod (mulp a a) m) (n / 2))) m = pmod (mulp x (powp a n)) m := by
  rw [powp_mod hm, pmod_mul_left hm, powp_sq, mulp_assoc]
  conv => rhs; rw [show n = 1 + (n / 2 + n / 2) by omega, powp_add, powp_one]
theorem powp_even {x a n m : Nat} (hm : m ≠ 0) (h : n % 2 = 0) : pmod (mulp x (powp (pmod (mulp a a) m) (n / 2))) m = pmod (mulp x (powp a n)) m := by
  rw [powp_mod hm, powp_sq]
  conv => rhs; rw [show n = n / 2 + n / 2 by omega]

/-- the errors of ModMul and ModPow, in their order -/
def mmE (a b m : Int) : Int := if a < 0 ∨ 2147483647 < a then 1 else if b < 0 ∨ 2147483647 < b then 1 else if m < 0 ∨ 2147483647 < m then 1 else if m = 0 then 10 else 0
theorem modmul_bad (a b m : Int) (M : Mem) (h : mmE a b m ≠ 0) :
    Meets Proofs.Try.prog 131 [.v (.int .i64 a), .v (.int .i64 b), .v (.int .i64 m)] M fun r _ _ => r = .tup [.v (.int .i64 0), .v (.int .i64 (mmE a b m))] := by
  refine Meets.of_body [0,1,2,6,7,8,9,11,16,21,24] Proofs.Try.func131 rfl (by kernel_rfl) rfl fun w => ?_
  generalize hc : mmE a b m = c at h
  simp only [Proofs.Try.f131, shs, zts, sos, sls, zss, eqs, sx, sb1, sb2, sb3, sb4, sb5, ↓reduceIte, Nat.reduceAdd, Nat.reduceMul, Nat.reduceDiv, Nat.reduceEqDiff, Nat.reduceLT, Nat.reduceLeDiff, reduceCtorEq, Int.reduceEq, Int.reduceNe, Int.reduceLT, Int.reduceLE, Int.reduceAdd, Int.reduceSub, Int.reduceMul, Int.reduceNeg, Int.reduceToNat, Int.cast_ofNat_Int, Int.natCast_zero, Int.natCast_one, Int.toNat_natCast, Nat.reduceBEq]
  refine CallK.pure ⟨rfl, rfl⟩ rfl (two a b M) ?_
  simp only [shs, zts, sos, sls, zss, eqs, sx, sb1, sb2, sb3, sb4, sb5, ↓reduceIte, Nat.reduceAdd, Nat.reduceMul, Nat.reduceDiv, Nat.reduceEqDiff, Nat.reduceLT, Nat.reduceLeDiff, reduceCtorEq, Int.reduceEq, Int.reduceNe, Int.reduceLT, Int.reduceLE, Int.reduceAdd, Int.reduceSub, Int.reduceMul, Int.reduceNeg, Int.reduceToNat, Int.cast_ofNat_Int, Int.natCast_zero, Int.natCast_one, Int.toNat_natCast, Nat.reduceBEq]
  by_cases h1 : (a < 0 ∨ 2147483647 < a) ∨ (b < 0 ∨ 2147483647 < b)
  · have : c = 1 := by
      rw [← hc, mmE]
      split
      · rfl
      · rw [if_pos (by omega)]
    simp only [er2_bad h1, this, sx, sb1, sb2, sb3, sb4, sb5, ↓reduceIte, Nat.reduceAdd, Nat.reduceMul, Nat.reduceDiv, Nat.reduceEqDiff, Nat.reduceLT, Nat.reduceLeDiff, reduceCtorEq, Int.reduceEq, Int.reduceNe, Int.reduceLT, Int.reduceLE, Int.reduceAdd, Int.reduceSub, Int.reduceMul, Int.reduceNeg, Int.reduceToNat, Int.cast_ofNat_Int, Int.natCast_zero, Int.natCast_one, Int.toNat_natCast, Nat.reduceBEq]
  · have h2 : er2 a b = 0 := by unfold er2; rw [if_neg (by omega), er_ok (by omega)]
    simp only [h2, sx, sb1, sb2, sb3, sb4, sb5, ↓reduceIte, Nat.reduceAdd, Nat.reduceMul, Nat.reduceDiv, Nat.reduceEqDiff, Nat.reduceLT, Nat.reduceLeDiff, reduceCtorEq, Int.reduceEq, Int.reduceNe, Int.reduceLT, Int.reduceLE, Int.reduceAdd, Int.reduceSub, Int.reduceMul, Int.reduceNeg, Int.reduceToNat, Int.cast_ofNat_Int, Int.natCast_zero, Int.natCast_one, Int.toNat_natCast, Nat.reduceBEq]
    rw [mmE, if_neg (by omega), if_neg (by omega)] at hc
    refine CallK.pure ⟨rfl, rfl⟩ rfl (check m M) ?_
    simp only [shs, zts, sos, sls, zss, eqs, sx, sb1, sb2, sb3, sb4, sb5, ↓reduceIte, Nat.reduceAdd, Nat.reduceMul, Nat.reduceDiv, Nat.reduceEqDiff, Nat.reduceLT, Nat.reduceLeDiff, reduceCtorEq, Int.reduceEq, Int.reduceNe, Int.reduceLT, Int.reduceLE, Int.reduceAdd, Int.reduceSub, Int.reduceMul, Int.reduceNeg, Int.reduceToNat, Int.cast_ofNat_Int, Int.natCast_zero, Int.natCast_one, Int.toNat_natCast, Nat.reduceBEq]
    by_cases h3 : m < 0 ∨ 2147483647 < m
    · rw [if_pos h3] at hc
      simp only [er_bad h3, ← hc, sx, sb1, sb2, sb3, sb4, sb5, ↓reduceIte, Nat.reduceAdd, Nat.reduceMul, Nat.reduceDiv, Nat.reduceEqDiff, Nat.reduceLT, Nat.reduceLeDiff, reduceCtorEq, Int.reduceEq, Int.reduceNe, Int.reduceLT, Int.reduceLE, Int.reduceAdd, Int.reduceSub, Int.reduceMul, Int.reduceNeg, Int.reduceToNat, Int.cast_ofNat_Int, Int.natCast_zero, Int.natCast_one, Int.toNat_natCast, Nat.reduceBEq]
    · rw [if_neg h3] at hc
      simp only [er_ok h3, sx, sb1, sb2, sb3, sb4, sb5, ↓reduceIte, Nat.reduceAdd, Nat.reduceMul, Nat.reduceDiv, Nat.reduceEqDiff, Nat.reduceLT, Nat.reduceLeDiff, reduceCtorEq, Int.reduceEq, Int.reduceNe, Int.reduceLT, Int.reduceLE, Int.reduceAdd, Int.reduceSub, Int.reduceMul, Int.reduceNeg, Int.reduceToNat, Int.cast_ofNat_Int, Int.natCast_zero, Int.natCast_one, Int.toNat_natCast, Nat.reduceBEq]
      refine ⟨fun h4 => ?_, fun h4 => ?_⟩
      · rw [if_pos (by omega)] at hc
        rw [hc]
      · rw [if_neg (by omega)] at hc
        exact (h hc.symm).elim
def mpE (a n m : Int) : Int := if a < 0 ∨ 2147483647 < a then 1 else if m < 0 ∨ 2147483647 < m then 1 else if n < 0 then 1 else if m = 0 then 10 else 0
end Go.X.Md
