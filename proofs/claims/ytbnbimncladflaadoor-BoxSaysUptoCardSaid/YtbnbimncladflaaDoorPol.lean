/- Polynomials over two numbers, as natural numbers: products, what is left, lists of coefficients. Conditions: none. -/
import Derived.KernelRfl
set_option linter.unusedSimpArgs false
set_option linter.unusedVariables false
set_option maxHeartbeats 4000000
set_option maxRecDepth 20000
namespace Go.X.Pol

def sz (n : Nat) : Nat := if n = 0 then 0 else n.log2 + 1

theorem sz_le {n k : Nat} : sz n ≤ k ↔ n < 2 ^ k := by
  unfold sz
  split
  · rename_i h
    subst h
    exact ⟨fun _ => Nat.two_pow_pos k, fun _ => Nat.zero_le k⟩
  · rename_i h
    rw [Nat.succ_le_iff, Nat.log2_lt h]
theorem lt_sz {n k : Nat} : k < sz n ↔ 2 ^ k ≤ n := by
  have := @sz_le n k
  omega
theorem sz_zero : sz 0 = 0 := rfl
theorem sz_pos {n : Nat} : 0 < sz n ↔ n ≠ 0 := by
  rw [lt_sz]; simp; omega
theorem sz_eq {n k : Nat} (h1 : 2 ^ k ≤ n) (h2 : n < 2 ^ (k + 1)) : sz n = k + 1 := by
  have := lt_sz.2 h1
  have := sz_le.2 h2
  omega
theorem sz_rng {n : Nat} (h : n ≠ 0) : 2 ^ (sz n - 1) ≤ n ∧ n < 2 ^ (sz n) ∧ sz n = (sz n - 1) + 1 := by
  have := sz_pos.2 h
  exact ⟨lt_sz.1 (by omega), sz_le.1 (Nat.le_refl _), by omega⟩
theorem lt_two_sz (n : Nat) : n < 2 ^ sz n := sz_le.1 (Nat.le_refl _)

theorem xor_pow (x y k : Nat) : (x ^^^ y) * 2 ^ k = x * 2 ^ k ^^^ y * 2 ^ k := by
  have := Nat.shiftLeft_xor_distrib (a := x) (b := y) (i := k)
  simpa only [Nat.shiftLeft_eq] using this
theorem two_xor (x y : Nat) : 2 * (x ^^^ y) = 2 * x ^^^ 2 * y := by
  have := xor_pow x y 1
  simp only [Nat.pow_one] at this
  rw [Nat.mul_comm 2, this, Nat.mul_comm 2, Nat.mul_comm 2]
theorem xor_top {x y n : Nat} (h1 : 2 ^ n ≤ x) (h2 : x < 2 ^ (n + 1)) (h3 : y < 2 ^ n) : 2 ^ n ≤ x ^^^ y ∧ x ^^^ y < 2 ^ (n + 1) := by
  have hp : 2 ^ (n + 1) = 2 * 2 ^ n := by rw [Nat.pow_succ]; omega
  have hx : x / 2 ^ n = 1 := Nat.div_eq_of_lt_le (by omega) (by omega)
  have hy : y / 2 ^ n = 0 := Nat.div_eq_of_lt h3
  have := Nat.xor_div_two_pow (a := x) (b := y) (n := n)
  rw [hx, hy] at this
  refine ⟨?_, Nat.xor_lt_two_pow h2 (by omega)⟩
  have hq : (x ^^^ y) / 2 ^ n ≠ 0 := by rw [this]; decide
  rcases Nat.lt_or_ge (x ^^^ y) (2 ^ n) with h | h
  · exact (hq (Nat.div_eq_of_lt h)).elim
  · exact h
theorem xor_drop {x y n : Nat} (h1 : 2 ^ n ≤ x) (h2 : x < 2 ^ (n + 1)) (h3 : 2 ^ n ≤ y) (h4 : y < 2 ^ (n + 1)) : x ^^^ y < 2 ^ n := by
  have hp : 2 ^ (n + 1) = 2 * 2 ^ n := by rw [Nat.pow_succ]; omega
  have hx : x / 2 ^ n = 1 := Nat.div_eq_of_lt_le (by omega) (by omega)
  have hy : y / 2 ^ n = 1 := Nat.div_eq_of_lt_le (by omega) (by omega)
  have := Nat.xor_div_two_pow (a := x) (b := y) (n := n)
  rw [hx, hy, Nat.xor_self] at this
  have h0 := Nat.two_pow_pos n
  rcases Nat.lt_or_ge (x ^^^ y) (2 ^ n) with h | h
  · exact h
  · have := Nat.div_pos h h0
    omega
theorem bit_xor {e x : Nat} (he : e < 2) : e ^^^ 2 * x = e + 2 * x := by
  have h1 := Nat.xor_div_two (a := e) (b := 2 * x)
  rw [show e / 2 = 0 by omega, Nat.mul_div_cancel_left x (by omega), Nat.zero_xor] at h1
  have h2 := @Nat.xor_mod_two_eq_one e (2 * x)
  have : (2 * x) % 2 = 0 := by omega
  rw [this] at h2
  have : e = 0 ∨ e = 1 := by omega
  rcases this with rfl | rfl
  · simp
  · have h3 : (1 ^^^ 2 * x) % 2 = 1 := h2.2 (by decide)
    omega
theorem xor_cancel {a b c : Nat} (h : a ^^^ b = c) : a = c ^^^ b := by
  rw [← h, Nat.xor_assoc, Nat.xor_self, Nat.xor_zero]
theorem xor_eq_zero {a b : Nat} (h : a ^^^ b = 0) : a = b := by
  rw [xor_cancel h, Nat.zero_xor]

/-- the product of two polynomials -/
def mulp (a b : Nat) : Nat := if a = 0 then 0 else (if a % 2 = 1 then b else 0) ^^^ 2 * mulp (a / 2) b
termination_by a
decreasing_by omega

theorem mulp_zero (b : Nat) : mulp 0 b = 0 := by rw [mulp]; rfl
theorem mulp_rec (a b : Nat) : mulp a b = (if a % 2 = 1 then b else 0) ^^^ 2 * mulp (a / 2) b := by
  by_cases h : a = 0
  · subst h; simp [mulp_zero]
  · rw [mulp, if_neg h]
theorem halves {P : Nat → Prop} (h0 : P 0) (h : ∀ a, a ≠ 0 → P (a / 2) → P a) : ∀ a, P a := by
  intro a
  induction a using Nat.strongRecOn with
  | _ a ih =>
    by_cases h1 : a = 0
    · subst h1; exact h0
    · exact h a h1 (ih _ (by omega))
theorem mulp_zero_right (a : Nat) : mulp a 0 = 0 := by
  refine halves (P := fun a => mulp a 0 = 0) (mulp_zero 0) (fun a _ ih => ?_) a
  rw [mulp_rec, ih]; simp
theorem mulp_xor_right (a b c : Nat) : mulp a (b ^^^ c) = mulp a b ^^^ mulp a c := by
  refine halves (P := fun a => mulp a (b ^^^ c) = mulp a b ^^^ mulp a c) (by simp [mulp_zero]) (fun a _ ih => ?_) a
  rw [mulp_rec a (b ^^^ c), mulp_rec a b, mulp_rec a c, ih, two_xor]
  split
  · ac_rfl
  · simp only [Nat.zero_xor]
theorem mulp_two_right (a b : Nat) : mulp a (2 * b) = 2 * mulp a b := by
  refine halves (P := fun a => mulp a (2 * b) = 2 * mulp a b) (by simp [mulp_zero]) (fun a _ ih => ?_) a
  rw [mulp_rec a (2 * b), mulp_rec a b, ih, two_xor]
  split
  · rfl
  · simp only [Nat.mul_zero]
theorem mulp_two (a b : Nat) : mulp (2 * a) b = 2 * mulp a b := by
  rw [mulp_rec, if_neg (by omega), Nat.mul_div_cancel_left a (by omega), Nat.zero_xor]
theorem mulp_one (b : Nat) : mulp 1 b = b := by
  rw [mulp_rec]; simp [mulp_zero]
theorem mulp_xor (a c b : Nat) : mulp (a ^^^ c) b = mulp a b ^^^ mulp c b := by
  refine halves (P := fun a => ∀ c, mulp (a ^^^ c) b = mulp a b ^^^ mulp c b) (fun c => by simp [mulp_zero]) (fun a _ ih c => ?_) a c
  rw [mulp_rec (a ^^^ c), mulp_rec a, mulp_rec c, Nat.xor_div_two, ih, two_xor]
  by_cases h1 : a % 2 = 1 <;> by_cases h2 : c % 2 = 1 <;> simp only [Nat.xor_mod_two_eq_one, h1, h2, if_true, if_false, iff_true, iff_false, not_true, not_false_eq_true, Nat.zero_xor]
  · rw [show b ^^^ 2 * mulp (a / 2) b ^^^ (b ^^^ 2 * mulp (c / 2) b) = (b ^^^ b) ^^^ (2 * mulp (a / 2) b ^^^ 2 * mulp (c / 2) b) by ac_rfl, Nat.xor_self, Nat.zero_xor]
  · ac_rfl
  · ac_rfl
theorem mod_xor (a : Nat) : a = a % 2 ^^^ 2 * (a / 2) := by
  rw [bit_xor (by omega)]; omega
theorem mulp_one_right (a : Nat) : mulp a 1 = a := by
  refine halves (P := fun a => mulp a 1 = a) (mulp_zero 1) (fun a _ ih => ?_) a
  rw [mulp_rec, ih]
  conv => rhs; rw [mod_xor a]
  split
  · rename_i h; rw [h]
  · rename_i h; rw [show a % 2 = 0 by omega]
theorem mulp_comm (a b : Nat) : mulp a b = mulp b a := by
  refine halves (P := fun a => mulp a b = mulp b a) (by rw [mulp_zero, mulp_zero_right]) (fun a _ ih => ?_) a
  conv => rhs; rw [mod_xor a, mulp_xor_right, mulp_two_right]
  rw [mulp_rec a b, ih]
  split
  · rename_i h; rw [h, mulp_one_right]
  · rename_i h; rw [show a % 2 = 0 by omega, mulp_zero_right]
theorem mulp_assoc (a b c : Nat) : mulp (mulp a b) c = mulp a (mulp b c) := by
  refine halves (P := fun a => mulp (mulp a b) c = mulp a (mulp b c)) (by simp [mulp_zero]) (fun a _ ih => ?_) a
  rw [mulp_rec a b, mulp_xor, mulp_two, ih, mulp_rec a (mulp b c)]
  split
  · rfl
  · rw [mulp_zero]
theorem mulp_pow (a b k : Nat) : mulp (a * 2 ^ k) b = mulp a b * 2 ^ k := by
  induction k with
  | zero => simp
  | succ k ih => rw [Nat.pow_succ, ← Nat.mul_assoc, Nat.mul_comm _ 2, mulp_two, ih, Nat.mul_left_comm, Nat.mul_comm 2]
theorem mulp_pow1 (b k : Nat) : mulp (2 ^ k) b = b * 2 ^ k := by
  have := mulp_pow 1 b k
  rw [Nat.one_mul, mulp_one] at this
  exact this

theorem mulp_rng : ∀ (k l a b : Nat), 2 ^ k ≤ a → a < 2 ^ (k + 1) → 2 ^ l ≤ b → b < 2 ^ (l + 1) → 2 ^ (k + l) ≤ mulp a b ∧ mulp a b < 2 ^ (k + l + 1)
  | 0, l, a, b, h1, h2, h3, h4 => by
    obtain rfl : a = 1 := by simp at h1 h2; omega
    rw [mulp_one, Nat.zero_add]
    exact ⟨h3, h4⟩
  | k + 1, l, a, b, h1, h2, h3, h4 => by
    have e1 : 2 ^ (k + 1) = 2 * 2 ^ k := by rw [Nat.pow_succ]; omega
    have e2 : 2 ^ (k + 1 + 1) = 2 * 2 ^ (k + 1) := by rw [Nat.pow_succ]; omega
    obtain ⟨g1, g2⟩ := mulp_rng k l (a / 2) b (by omega) (by omega) h3 h4
    have e3 : 2 ^ (k + 1 + l) = 2 * 2 ^ (k + l) := by rw [show k + 1 + l = (k + l) + 1 by omega, Nat.pow_succ]; omega
    have e4 : 2 ^ (k + 1 + l + 1) = 2 * 2 ^ (k + l + 1) := by rw [show k + 1 + l + 1 = (k + l + 1) + 1 by omega, Nat.pow_succ]; omega
    have e5 : 2 ^ (l + 1) ≤ 2 ^ (k + 1 + l) := Nat.pow_le_pow_right (by omega) (by omega)
    rw [mulp_rec, Nat.xor_comm]
    have hy : (if a % 2 = 1 then b else 0) < 2 ^ (k + 1 + l) := by split <;> omega
    exact xor_top (by omega) (by omega) hy
theorem sz_mulp {a b : Nat} (ha : a ≠ 0) (hb : b ≠ 0) : sz (mulp a b) + 1 = sz a + sz b := by
  obtain ⟨h1, h2, h3⟩ := sz_rng ha
  obtain ⟨h4, h5, h6⟩ := sz_rng hb
  rw [h3] at h2
  rw [h6] at h5
  obtain ⟨h7, h8⟩ := mulp_rng _ _ _ _ h1 h2 h4 h5
  rw [sz_eq h7 h8]
  omega
theorem sz_mul_pow {b k : Nat} (hb : b ≠ 0) : sz (b * 2 ^ k) = sz b + k := by
  have h := sz_mulp (a := 2 ^ k) (Nat.ne_of_gt (Nat.two_pow_pos k)) hb
  rw [mulp_pow1, sz_eq (n := 2 ^ k) (k := k) (Nat.le_refl _) (Nat.pow_lt_pow_right (by omega) (by omega))] at h
  omega
theorem sz_xor {a b n : Nat} (h1 : sz a ≤ n) (h2 : sz b ≤ n) : sz (a ^^^ b) ≤ n := by
  rw [sz_le] at *
  exact Nat.xor_lt_two_pow h1 h2
theorem sz_xor_drop {a b : Nat} (h : a ≠ 0) (he : sz a = sz b) : sz (a ^^^ b) < sz a := by
  obtain ⟨h1, h2, h3⟩ := sz_rng h
  have hb : b ≠ 0 := sz_pos.1 (by rw [← he]; exact sz_pos.2 h)
  obtain ⟨h4, h5, h6⟩ := sz_rng hb
  rw [h3] at h2
  rw [← he] at h4 h5
  rw [h3] at h5
  have := sz_le.2 (xor_drop h1 h2 h4 h5)
  omega

theorem uniq {q q' r r' b : Nat} (h : mulp q b ^^^ r = mulp q' b ^^^ r') (h1 : sz r < sz b) (h2 : sz r' < sz b) : q = q' ∧ r = r' := by
  have hb : b ≠ 0 := sz_pos.1 (by omega)
  have h3 : mulp (q ^^^ q') b = r ^^^ r' := by
    rw [mulp_xor]
    have := xor_cancel h
    rw [this, show mulp q' b ^^^ r' ^^^ r ^^^ mulp q' b = (mulp q' b ^^^ mulp q' b) ^^^ (r ^^^ r') by ac_rfl, Nat.xor_self, Nat.zero_xor]
  by_cases hq : q ^^^ q' = 0
  · rw [hq, mulp_zero] at h3
    exact ⟨xor_eq_zero hq, xor_eq_zero h3.symm⟩
  · have h4 := sz_mulp hq hb
    rw [h3] at h4
    have h5 := sz_xor (n := sz b - 1) (a := r) (b := r') (by omega) (by omega)
    have := sz_pos.2 hq
    omega

/-- division -/
def pdm : Nat → Nat → Nat → Nat × Nat
  | 0, a, _ => (0, a)
  | f + 1, a, b => if sz a < sz b then (0, a) else ((pdm f (a ^^^ b * 2 ^ (sz a - sz b)) b).1 ^^^ 2 ^ (sz a - sz b), (pdm f (a ^^^ b * 2 ^ (sz a - sz b)) b).2)
theorem sz_step {a b : Nat} (hb : b ≠ 0) (h : sz b ≤ sz a) : sz (a ^^^ b * 2 ^ (sz a - sz b)) < sz a := by
  have ha : a ≠ 0 := sz_pos.1 (by have := sz_pos.2 hb; omega)
  exact sz_xor_drop ha (by rw [sz_mul_pow hb]; omega)
theorem pdm_spec : ∀ (f a b : Nat), b ≠ 0 → sz a ≤ f → a = mulp (pdm f a b).1 b ^^^ (pdm f a b).2 ∧ sz (pdm f a b).2 < sz b
  | 0, a, b, hb, hf => by
    simp only [pdm, mulp_zero, Nat.zero_xor, true_and]
    have := sz_pos.2 hb
    omega
  | f + 1, a, b, hb, hf => by
    simp only [pdm]
    split
    · rename_i h
      simp only [mulp_zero, Nat.zero_xor, true_and]
      exact h
    · rename_i h
      obtain ⟨h1, h2⟩ := pdm_spec f (a ^^^ b * 2 ^ (sz a - sz b)) b hb (by have := sz_step hb (show sz b ≤ sz a by omega); omega)
      refine ⟨?_, h2⟩
      have h3 := xor_cancel h1
      simp only [mulp_xor, mulp_pow1]
      refine h3.trans ?_
      ac_rfl
def pdiv (a b : Nat) : Nat := (pdm (sz a) a b).1
def pmod (a b : Nat) : Nat := (pdm (sz a) a b).2
theorem divmod {a b : Nat} (hb : b ≠ 0) : a = mulp (pdiv a b) b ^^^ pmod a b ∧ sz (pmod a b) < sz b := pdm_spec _ a b hb (Nat.le_refl _)
theorem divmod_uniq {a b q r : Nat} (h : a = mulp q b ^^^ r) (hr : sz r < sz b) : pdiv a b = q ∧ pmod a b = r := by
  have hb : b ≠ 0 := sz_pos.1 (by omega)
  obtain ⟨h1, h2⟩ := divmod (a := a) hb
  exact uniq (by rw [← h1, ← h]) h2 hr
theorem pmod_small {a m : Nat} (h : sz a < sz m) : pmod a m = a := (divmod_uniq (q := 0) (by rw [mulp_zero, Nat.zero_xor]) h).2
theorem pmod_add {q x m : Nat} (hm : m ≠ 0) : pmod (mulp q m ^^^ x) m = pmod x m := by
  obtain ⟨h1, h2⟩ := divmod (a := x) hm
  refine (divmod_uniq (q := q ^^^ pdiv x m) ?_ h2).2
  conv => lhs; rw [h1]
  rw [mulp_xor]
  ac_rfl
theorem pmod_xor {a b m : Nat} (hm : m ≠ 0) : pmod (a ^^^ b) m = pmod a m ^^^ pmod b m := by
  obtain ⟨h1, h2⟩ := divmod (a := a) hm
  obtain ⟨h3, h4⟩ := divmod (a := b) hm
  refine (divmod_uniq (q := pdiv a m ^^^ pdiv b m) ?_ ?_).2
  · conv => lhs; rw [h1, h3]
    rw [mulp_xor]
    ac_rfl
  · have := sz_xor (n := sz m - 1) (a := pmod a m) (b := pmod b m) (by omega) (by omega)
    omega
theorem pmod_mul_left {a b m : Nat} (hm : m ≠ 0) : pmod (mulp (pmod a m) b) m = pmod (mulp a b) m := by
  obtain ⟨h1, h2⟩ := divmod (a := a) hm
  conv => rhs; rw [h1]
  rw [mulp_xor, mulp_assoc, mulp_comm m b, ← mulp_assoc, pmod_add hm]
theorem pmod_mul_right {a b m : Nat} (hm : m ≠ 0) : pmod (mulp a (pmod b m)) m = pmod (mulp a b) m := by
  rw [mulp_comm, pmod_mul_left hm, mulp_comm]
theorem pmod_mod {a m : Nat} (hm : m ≠ 0) : pmod (pmod a m) m = pmod a m := pmod_small (divmod hm).2

/-! ### Lists of coefficients -/
def bitsL (n x : Nat) : List Bool := (List.range n).map x.testBit
theorem bitsL_len (n x : Nat) : (bitsL n x).length = n := by simp [bitsL]
theorem bitsL_get {n x i : Nat} (h : i < n) : (bitsL n x)[i]? = some (x.testBit i) := by
  simp [bitsL, List.getElem?_map, List.getElem?_range h]
theorem bitsL_ext {n x y : Nat} (h : ∀ i, i < n → x.testBit i = y.testBit i) : bitsL n x = bitsL n y := by
  unfold bitsL
  exact List.map_congr_left fun i hi => h i (List.mem_range.1 hi)
theorem bitsL_set {n x k : Nat} {v : Bool} {y : Nat} (h1 : y.testBit k = v) (h2 : ∀ i, i ≠ k → y.testBit i = x.testBit i) : (bitsL n x).set k v = bitsL n y := by
  apply List.ext_getElem?
  intro i
  rw [List.getElem?_set]
  by_cases hi : i < n
  · rw [bitsL_get hi, bitsL_get hi]
    split
    · rename_i e
      subst e
      rw [bitsL_len, if_pos hi, h1]
    · rename_i e
      rw [h2 i (fun h => e h.symm)]
  · have h3 : ∀ z, (bitsL n z)[i]? = none := fun z => List.getElem?_eq_none (by rw [bitsL_len]; omega)
    rw [h3, h3]
    split
    · rename_i e
      rw [bitsL_len, if_neg (by omega)]
    · rfl
theorem bitsL_succ (n x : Nat) : bitsL (n + 1) x = bitsL n x ++ [x.testBit n] := by
  simp [bitsL, List.range_succ]
theorem bitsL_zero (x : Nat) : bitsL 0 x = [] := rfl
theorem bitsL_take {n x k : Nat} (h : k ≤ n) : (bitsL n x).take k = bitsL k x := by
  unfold bitsL
  rw [← List.map_take, List.take_range, Nat.min_eq_left h]
theorem testBit_flip (x k i : Nat) : (x ^^^ 2 ^ k).testBit i = if i = k then !x.testBit i else x.testBit i := by
  rw [Nat.testBit_xor, Nat.testBit_two_pow]
  by_cases h : k = i
  · subst h; simp
  · rw [if_neg (fun e => h e.symm)]; simp [h]
theorem bitsL_flip (n x k : Nat) : (bitsL n x).set k (!x.testBit k) = bitsL n (x ^^^ 2 ^ k) :=
  bitsL_set (by rw [testBit_flip, if_pos rfl]) (fun i hi => by rw [testBit_flip, if_neg hi])
theorem mod_succ (b i : Nat) : b % 2 ^ (i + 1) = b % 2 ^ i ^^^ (if b.testBit i then 2 ^ i else 0) := by
  apply Nat.eq_of_testBit_eq
  intro j
  rw [Nat.testBit_xor, Nat.testBit_mod_two_pow, Nat.testBit_mod_two_pow]
  have : (if b.testBit i then 2 ^ i else 0).testBit j = (b.testBit i && decide (i = j)) := by
    cases b.testBit i
    · simp
    · simp [Nat.testBit_two_pow]
  rw [this]
  by_cases h1 : j < i
  · simp [show j < i + 1 by omega, h1, show ¬ i = j by omega]
  · by_cases h2 : i = j
    · subst h2; simp
    · simp [show ¬ j < i + 1 by omega, h1, h2]
theorem div_succ (x i : Nat) : x / 2 ^ i = 2 * (x / 2 ^ (i + 1)) + (if x.testBit i then 1 else 0) := by
  rw [Nat.pow_succ, ← Nat.div_div_eq_div_mul, Nat.testBit_eq_decide_div_mod_eq]
  by_cases h : x / 2 ^ i % 2 = 1
  · simp [h]; omega
  · simp [h]; omega
theorem mod_of_lt {x n : Nat} (h : sz x ≤ n) : x % 2 ^ n = x := Nat.mod_eq_of_lt (sz_le.1 h)
theorem testBit_sz {x i : Nat} (h : sz x ≤ i) : x.testBit i = false := Nat.testBit_lt_two_pow (sz_le.1 h)
theorem testBit_top {x : Nat} (h : x ≠ 0) : x.testBit (sz x - 1) = true := by
  obtain ⟨h1, h2, h3⟩ := sz_rng h
  rw [Nat.testBit_eq_decide_div_mod_eq]
  rw [h3, Nat.pow_succ] at h2
  have : x / 2 ^ (sz x - 1) = 1 := Nat.div_eq_of_lt_le (by omega) (by omega)
  simp [this]
theorem sz_of_top {x n : Nat} (h1 : ∀ i, n ≤ i → x.testBit i = false) (h2 : n = 0 ∨ x.testBit (n - 1) = true) : sz x = n := by
  have h3 : x < 2 ^ n := by
    rcases Nat.lt_or_ge x (2 ^ n) with h | h
    · exact h
    · have hx : x ≠ 0 := by have := Nat.two_pow_pos n; omega
      have := testBit_top hx
      rw [h1 _ (by have := lt_sz.2 h; omega)] at this
      cases this
  have h4 := sz_le.2 h3
  rcases h2 with rfl | h2
  · omega
  · rcases Nat.lt_or_ge (n - 1) (sz x) with h | h
    · omega
    · rw [testBit_sz h] at h2; cases h2
/-- an addend whose bits are free is an or -/
theorem or_pow {q s : Nat} (h : q.testBit s = false) : q ||| 2 ^ s = q ^^^ 2 ^ s := by
  apply Nat.eq_of_testBit_eq
  intro i
  rw [Nat.testBit_or, Nat.testBit_xor, Nat.testBit_two_pow]
  by_cases hi : s = i
  · subst hi; simp [h]
  · simp [hi]
theorem or_low {p c k : Nat} (h : c < 2 ^ k) : p * 2 ^ k ||| c = p * 2 ^ k + c := by
  have := Nat.shiftLeft_add_eq_or_of_lt h p
  rw [Nat.shiftLeft_eq] at this
  exact this.symm
theorem xor_low {p c k : Nat} (h : c < 2 ^ k) : p * 2 ^ k ^^^ c = p * 2 ^ k + c := by
  rw [← or_low h]
  apply Nat.eq_of_testBit_eq
  intro i
  rw [Nat.testBit_xor, Nat.testBit_or]
  rcases Nat.lt_or_ge i k with hi | hi
  · rw [Nat.mul_comm, Nat.testBit_two_pow_mul]
    simp [show ¬ k ≤ i by omega]
  · rw [Nat.testBit_lt_two_pow (Nat.lt_of_lt_of_le h (Nat.pow_le_pow_right (by omega) hi))]
    simp
end Go.X.Pol
