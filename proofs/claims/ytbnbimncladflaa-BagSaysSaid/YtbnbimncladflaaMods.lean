/- Products and powers of polynomials by a modulus; woollaw.PolyMods returns true. Conditions: none. -/
import Derived.Test.YtbnbimncladflaaPolyD
set_option linter.unusedSimpArgs false
set_option linter.unusedVariables false
set_option maxHeartbeats 4000000
set_option maxRecDepth 20000
namespace Go.X.Md
open Go Go.X Go.X.Pol Go.X.Pl Go.X.Rp Go.X.Pd

def powp (a : Nat) : Nat → Nat
  | 0 => 1
  | n + 1 => mulp (powp a n) a
theorem powp_one (a : Nat) : powp a 1 = a := mulp_one a
theorem powp_add (a n k : Nat) : powp a (n + k) = mulp (powp a n) (powp a k) := by
  induction k with
  | zero => rw [Nat.add_zero, powp, mulp_one_right]
  | succ k ih => rw [← Nat.add_assoc, powp, powp, ih, mulp_assoc]
theorem powp_sq (a n : Nat) : powp (mulp a a) n = powp a (n + n) := by
  induction n with
  | zero => rfl
  | succ n ih =>
    rw [powp, ih, show n + 1 + (n + 1) = (n + n) + 1 + 1 by omega, powp, powp, mulp_assoc]
theorem powp_mod {a m : Nat} (hm : m ≠ 0) (x n : Nat) : pmod (mulp x (powp (pmod a m) n)) m = pmod (mulp x (powp a n)) m := by
  induction n generalizing x with
  | zero => rfl
  | succ n ih =>
    rw [powp, powp, ← mulp_assoc, pmod_mul_right hm, mulp_comm (mulp x (powp (pmod a m) n)) a, ← mulp_assoc, ih, mulp_comm a x, mulp_assoc, mulp_comm a]

theorem powp_odd {x a n m : Nat} (hm : m ≠ 0) (h : n % 2 = 1) : pmod (mulp (pmod (mulp x a) m) (powp (pmod (mulp a a) m) (n / 2))) m = pmod (mulp x (powp a n)) m := by
  rw [powp_mod hm, pmod_mul_left hm, powp_sq, mulp_assoc]
  conv => rhs; rw [show n = 1 + (n / 2 + n / 2) by omega, powp_add, powp_one]
theorem powp_even {x a n m : Nat} (hm : m ≠ 0) (h : n % 2 = 0) : pmod (mulp x (powp (pmod (mulp a a) m) (n / 2))) m = pmod (mulp x (powp a n)) m := by
  rw [powp_mod hm, powp_sq]
  conv => rhs; rw [show n = n / 2 + n / 2 by omega]

/-- the errors of ModMul and ModPow, in their order -/
def mmE (a b m : Int) : Int := if a < 0 ∨ 2147483647 < a then 1 else if b < 0 ∨ 2147483647 < b then 1 else if m < 0 ∨ 2147483647 < m then 1 else if m = 0 then 10 else 0
def mpE (a n m : Int) : Int := if a < 0 ∨ 2147483647 < a then 1 else if m < 0 ∨ 2147483647 < m then 1 else if n < 0 then 1 else if m = 0 then 10 else 0
end Go.X.Md
