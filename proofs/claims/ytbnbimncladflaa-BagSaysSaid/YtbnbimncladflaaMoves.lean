/- Joining and rolling prints: what print.Join, print.Roll and woolref return. Conditions: none. -/
import Derived.Test.YtbnbimncladflaaMods
set_option linter.unusedSimpArgs false
set_option linter.unusedVariables false
set_option maxHeartbeats 4000000
set_option maxRecDepth 20000
namespace Go.X.Mv
open Go Go.X Go.X.Pol Go.X.Pl Go.X.Rp Go.X.Pd Go.X.Md

def mdE (m : Int) : Int := if m < 2 ∨ 2147483647 < m then 1 else 0
/-- may it be left? -/
def rb (m : Nat) (a : Int) : Bool := decide (0 ≤ a ∧ a < 2 ^ (sz m - 1))
theorem p30 {m : Nat} (hm : m ≤ 2147483647) : 2 ^ (sz m - 1) ≤ 1073741824 := Nat.pow_le_pow_right (n := 2) (j := 30) (by omega) (by have := sz31 hm; omega)
theorem rb_nat {m : Nat} {a : Int} (hm : m ≤ 2147483647) (h : rb m a = true) : ∃ n : Nat, a = n ∧ n < 2 ^ (sz m - 1) ∧ n ≤ 1073741824 := by
  have hp := p30 hm
  unfold rb at h
  rw [pw] at h
  generalize hP : 2 ^ (sz m - 1) = P at hp h
  have := of_decide_eq_true h
  exact ⟨a.toNat, by omega, by omega, by omega⟩
theorem red_lt {m x : Nat} (h0 : m ≠ 0) : pmod x m < 2 ^ (sz m - 1) := sz_le.1 (by have := (divmod (a := x) h0).2; omega)
theorem red_le {m x : Nat} (h0 : m ≠ 0) (hm : m ≤ 2147483647) : pmod x m ≤ 1073741824 := Nat.le_trans (Nat.le_of_lt (red_lt h0)) (p30 hm)
theorem xor30 {a b : Nat} (ha : a < 2147483648) (hb : b < 2147483648) : a ^^^ b < 2147483648 := Nat.xor_lt_two_pow (n := 31) ha hb
theorem e8 (n : Nat) : (8 : Int) * (n : Int) = ((8 * n : Nat) : Int) := by omega

def joinV (m a b n : Nat) : Nat := pmod (mulp a (pmod (powp 2 (8 * n)) m)) m ^^^ b ^^^ pmod (powp 2 (8 * n)) m
theorem mdE_ok {m : Nat} (h2 : 2 ≤ m) (hm : m ≤ 2147483647) : mdE m = 0 := if_neg (by omega)
def rollV (m a x y n : Nat) : Nat := pmod ((a ^^^ pmod (powp 2 (8 * n)) m ^^^ pmod (mulp x (pmod (powp 2 (8 * (n - 1))) m)) m) * 2 ^ 8 + y) m ^^^ pmod (powp 2 (8 * n)) m
def rollB (x y n : Int) : Prop := ((((x < 0 ∨ 255 < x) ∨ y < 0) ∨ 255 < y) ∨ n < 1) ∨ 600 < n
end Go.X.Mv
