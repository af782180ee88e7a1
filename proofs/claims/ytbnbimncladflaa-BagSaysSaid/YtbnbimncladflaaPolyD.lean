/- woollaw.PolyDivides returns true. Conditions: none. -/
import Derived.Test.YtbnbimncladflaaRefP
set_option linter.unusedSimpArgs false
set_option linter.unusedVariables false
set_option maxHeartbeats 4000000
set_option maxRecDepth 20000
namespace Go.X.Pd
open Go Go.X Go.X.Pol Go.X.Pl Go.X.Rp

theorem pe2_bad {a b : Int} (h : (a < 0 ∨ 2147483647 < a) ∨ (b < 0 ∨ 2147483647 < b)) : pe [a, b] = 1 := by
  simp only [pe]
  split
  · rfl
  · split
    · rfl
    · omega
theorem pe2_ok {a b : Nat} (ha : a ≤ 2147483647) (hb : b ≤ 2147483647) : pe [(a : Int), (b : Int)] = 0 := by
  simp only [pe]
  rw [if_neg (by omega), if_neg (by omega)]
theorem nat_of {a : Int} (h : ¬ (a < 0 ∨ 2147483647 < a)) : ∃ n : Nat, a = n ∧ n ≤ 2147483647 := ⟨a.toNat, by omega, by omega⟩

end Go.X.Pd
