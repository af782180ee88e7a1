/- Rabin's test, its theorem. Conditions: none. -/
import Derived.Test.YtkmbglbjpbdldaaRab
import Derived.Test.YtkmbglbjpbdldaaPoly
set_option linter.unusedSimpArgs false
set_option linter.unusedVariables false
set_option maxHeartbeats 4000000
set_option maxRecDepth 20000
namespace Go.X.Rb
open Go.X.Pol Go.X.Pl

theorem irr_sz {q : Nat} (h : Irr q) : 2 ≤ sz q := sz_two h.1
theorem dv_two_factor {d m : Nat} (hm : 2 ≤ m) (h : dv d m) (h1 : d ≠ 1) (h2 : d ≠ m) : 2 ≤ d ∧ ∃ c, m = mulp c d ∧ 2 ≤ c ∧ sz c + sz d = sz m + 1 := by
  obtain ⟨c, rfl⟩ := h
  have hc0 : c ≠ 0 := fun e => by rw [e, mulp_zero] at hm; omega
  have hd0 : d ≠ 0 := fun e => by rw [e, mulp_zero_right] at hm; omega
  have hc1 : c ≠ 1 := fun e => h2 (by rw [e, mulp_one])
  exact ⟨by omega, c, rfl, by omega, (sz_mulp hc0 hd0).symm⟩
/-- a prime that divides -/
theorem irr_factor : ∀ (n m : Nat), sz m ≤ n → 2 ≤ m → ∃ q, Irr q ∧ dv q m
  | 0, m, h, h2 => by have := sz_two h2; omega
  | n + 1, m, h, h2 => by
    by_cases hm : Irr m
    · exact ⟨m, hm, dv_refl m⟩
    · obtain ⟨d, hd, h1, h3⟩ : ∃ d, dv d m ∧ d ≠ 1 ∧ d ≠ m := by
        have hn : ¬ ∀ d, dv d m → d = 1 ∨ d = m := fun h => hm ⟨h2, h⟩
        obtain ⟨d, hd⟩ := Classical.not_forall.1 hn
        obtain ⟨h4, h5⟩ := Classical.not_imp.1 hd
        exact ⟨d, h4, fun e => h5 (.inl e), fun e => h5 (.inr e)⟩
      obtain ⟨d2, c, e, c2, es⟩ := dv_two_factor h2 hd h1 h3
      have := sz_two c2
      obtain ⟨q, hq, hqd⟩ := irr_factor n d (by omega) d2
      exact ⟨q, hq, dv_trans hqd hd⟩
theorem gcdp_spec : ∀ (f a b : Nat), sz b ≤ f → dv (gcdp f a b) a ∧ dv (gcdp f a b) b ∧ ∀ c, dv c a → dv c b → dv c (gcdp f a b)
  | 0, a, b, h => by
    have hb : b = 0 := Classical.byContradiction fun e => by have := sz_pos.2 e; omega
    subst hb
    exact ⟨dv_refl a, dv_zero a, fun c h _ => h⟩
  | f + 1, a, b, h => by
    simp only [gcdp]
    split
    · rename_i hb
      subst hb
      exact ⟨dv_refl a, dv_zero a, fun c h _ => h⟩
    · rename_i hb
      obtain ⟨h1, h2⟩ := divmod (a := a) hb
      obtain ⟨g1, g2, g3⟩ := gcdp_spec f b (pmod a b) (by omega)
      refine ⟨?_, g1, fun c c1 c2 => g3 c c2 ?_⟩
      · have := dv_xor (dv_mul (pdiv a b) g1) g2
        rwa [← h1] at this
      · have c3 : dv c (mulp (pdiv a b) b ^^^ pmod a b) := by rw [← h1]; exact c1
        exact dv_of_xor c3 (dv_mul _ c2)
/-- numbers that are prime, as the program looks at them -/
def prB (n : Nat) : Bool := decide (1 < n) && (List.range n).all fun d => decide (d < 2) || (decide (n < d * d) || decide (n % d ≠ 0))
theorem prB_ex : ∀ k, k < 31 → 2 ≤ k → ∃ p, p < 31 ∧ 2 ≤ p ∧ k % p = 0 ∧ prB p = true := by decide +kernel
theorem fr_mult {q d s : Nat} (h : dv q (fr d 2 ^^^ 2)) : ∀ k, dv q (fr (d * k + s) 2 ^^^ fr s 2)
  | 0 => by rw [Nat.mul_zero, Nat.zero_add, Nat.xor_self]; exact dv_zero q
  | k + 1 => by
    have ih := fr_mult (s := s) h k
    rw [show d * (k + 1) + s = d + (d * k + s) by rw [Nat.mul_succ]; omega, fr_add]
    have h1 : dv q (fr (d * k + s) (fr d 2) ^^^ fr (d * k + s) 2) := by rw [← fr_xor]; exact dv_fr _ h
    have h2 := dv_xor h1 ih
    rw [Nat.xor_assoc, xor_self3] at h2
    exact h2
theorem irr_1 {m n : Nat} (h : Irr m) (hn : sz m = n + 1) : pmod (fr n 2) m = pmod 2 m := (pmod_eq (by have := h.1; omega)).2 (fermat h hn)
theorem irr_2 {m n p : Nat} (h : Irr m) (hn : sz m = n + 1) (hp : 2 ≤ p) (hpn : p ≤ n) : gcdp (sz m) (pmod (fr (n / p) 2) m ^^^ pmod 2 m) m = 1 := by
  have hm0 : m ≠ 0 := by have := h.1; omega
  obtain ⟨g1, g2, _⟩ := gcdp_spec (sz m) (pmod (fr (n / p) 2) m ^^^ pmod 2 m) m (Nat.le_refl _)
  rcases h.2 _ g2 with e | e
  · exact e
  · rw [e, ← pmod_xor hm0] at g1
    have h1 := (dv_pmod hm0).1 g1
    rw [pmod_mod hm0] at h1
    have h2 := (dv_pmod hm0).2 h1
    have h3 : 1 ≤ n / p := (Nat.le_div_iff_mul_le (by omega)).2 (by omega)
    have h4 := back h hn h3 h2
    have h5 : n / p < n := Nat.div_lt_self (by omega) (by omega)
    omega
theorem irr_of {m n : Nat} (hm : 2 ≤ m) (hn : sz m = n + 1) (h30 : n ≤ 30) (h1 : pmod (fr n 2) m = pmod 2 m)
    (h2 : ∀ p, 2 ≤ p → p ≤ n → n % p = 0 → prB p = true → gcdp (sz m) (pmod (fr (n / p) 2) m ^^^ pmod 2 m) m = 1) : Irr m := by
  refine Classical.byContradiction fun hI => ?_
  have hm0 : m ≠ 0 := by omega
  obtain ⟨q, hq, hqm, hlt⟩ : ∃ q, Irr q ∧ dv q m ∧ sz q < sz m := by
    obtain ⟨d, hd, e1, e3⟩ : ∃ d, dv d m ∧ d ≠ 1 ∧ d ≠ m := by
      have hn : ¬ ∀ d, dv d m → d = 1 ∨ d = m := fun h => hI ⟨hm, h⟩
      obtain ⟨d, hd⟩ := Classical.not_forall.1 hn
      obtain ⟨h4, h5⟩ := Classical.not_imp.1 hd
      exact ⟨d, h4, fun e => h5 (.inl e), fun e => h5 (.inr e)⟩
    obtain ⟨d2, c, e, c2, es⟩ := dv_two_factor hm hd e1 e3
    have := sz_two c2
    obtain ⟨q, hq, hqd⟩ := irr_factor (sz d) d (Nat.le_refl _) d2
    have := dv_sz hqd (by omega)
    exact ⟨q, hq, dv_trans hqd hd, by omega⟩
  have hq2 := irr_sz hq
  obtain ⟨d, hd⟩ : ∃ d, sz q = d + 1 := ⟨sz q - 1, by omega⟩
  have hf := fermat hq hd
  have hdn := dv_trans hqm ((pmod_eq hm0).1 h1)
  have hr : n % d = 0 := by
    refine Classical.byContradiction fun h0 => ?_
    have h3 := fr_mult (s := n % d) hf (n / d)
    rw [Nat.div_add_mod] at h3
    have h4 := dv_xor h3 hdn
    rw [Nat.xor_comm (fr n 2), Nat.xor_assoc, xor_self3] at h4
    have h5 := back hq hd (by omega) h4
    have h6 := Nat.mod_lt n (show 0 < d by omega)
    omega
  obtain ⟨k, hk⟩ : ∃ k, n = d * k := ⟨n / d, by have := Nat.div_add_mod n d; omega⟩
  have hk2 : 2 ≤ k := by
    rcases Nat.lt_or_ge k 2 with h | h
    · have : k = 0 ∨ k = 1 := by omega
      rcases this with rfl | rfl
      · omega
      · omega
    · exact h
  have hkn : k ≤ n := by rw [hk]; exact Nat.le_mul_of_pos_left k (by omega)
  obtain ⟨p, _, p2, hkp, hpp⟩ := prB_ex k (by omega) hk2
  obtain ⟨j, hj⟩ : ∃ j, k = p * j := ⟨k / p, by have := Nat.div_add_mod k p; omega⟩
  have hj0 : 0 < j := Nat.pos_of_ne_zero fun e => by rw [e] at hj; omega
  have hpk : p ≤ k := by rw [hj]; exact Nat.le_mul_of_pos_right p hj0
  have hnp : n = p * (d * j) := by rw [hk, hj, ← Nat.mul_assoc, Nat.mul_comm d p, Nat.mul_assoc]
  have hdv : n / p = d * j := by rw [hnp]; exact Nat.mul_div_cancel_left _ (by omega)
  have h3 := fr_mult (s := 0) hf j
  rw [Nat.add_zero, ← hdv] at h3
  have h4 := h2 p p2 (by omega) (by rw [hnp]; exact Nat.mul_mod_right _ _) hpp
  obtain ⟨_, _, g3⟩ := gcdp_spec (sz m) (pmod (fr (n / p) 2) m ^^^ pmod 2 m) m (Nat.le_refl _)
  have h5 : dv q (pmod (fr (n / p) 2) m ^^^ pmod 2 m) := by
    rw [← pmod_xor hm0]
    have := dv_pmod_xor (a := fr (n / p) 2 ^^^ 2) hm0
    exact dv_of_xor (dv_trans hqm this) h3
  have h6 := g3 q h5 hqm
  rw [h4] at h6
  have := dv_sz h6 (by omega)
  have e1 : sz 1 = 1 := by decide
  omega
theorem irr_no {m : Nat} (h : m < 2) : ¬ Irr m := fun hI => by have := hI.1; omega
noncomputable def irB (m : Nat) : Bool := @decide (Irr m) (Classical.propDecidable _)
theorem irB_true {m : Nat} (h : Irr m) : irB m = true := by unfold irB; exact @decide_eq_true _ (Classical.propDecidable _) h
theorem irB_false {m : Nat} (h : ¬ Irr m) : irB m = false := by unfold irB; exact @decide_eq_false _ (Classical.propDecidable _) h
theorem irB_iff {m : Nat} : irB m = true ↔ Irr m := by unfold irB; exact @decide_eq_true_iff _ (Classical.propDecidable _)
end Go.X.Rb
