/- Rabin's test over two elements: a polynomial is prime just if the test says so. Conditions: none. -/
import Derived.Test.YtkmbglbjpbdldaaPol
set_option linter.unusedSimpArgs false
set_option linter.unusedVariables false
set_option maxHeartbeats 4000000
set_option maxRecDepth 20000
namespace Go.X.Rb
open Go.X.Pol

def dv (d a : Nat) : Prop := ∃ c, a = mulp c d
theorem dv_zero (d : Nat) : dv d 0 := ⟨0, (mulp_zero d).symm⟩
theorem dv_refl (d : Nat) : dv d d := ⟨1, (mulp_one d).symm⟩
theorem dv_trans {a b c : Nat} (h : dv a b) (h' : dv b c) : dv a c := by
  obtain ⟨x, rfl⟩ := h
  obtain ⟨y, rfl⟩ := h'
  exact ⟨mulp y x, (mulp_assoc y x a).symm⟩
theorem dv_xor {d a b : Nat} (h : dv d a) (h' : dv d b) : dv d (a ^^^ b) := by
  obtain ⟨x, rfl⟩ := h
  obtain ⟨y, rfl⟩ := h'
  exact ⟨x ^^^ y, (mulp_xor x y d).symm⟩
theorem dv_mul {d a : Nat} (b : Nat) (h : dv d a) : dv d (mulp b a) := by
  obtain ⟨x, rfl⟩ := h
  exact ⟨mulp b x, (mulp_assoc b x d).symm⟩
theorem dv_mul' {d a : Nat} (b : Nat) (h : dv d a) : dv d (mulp a b) := by rw [mulp_comm]; exact dv_mul b h
theorem xor_self3 (a b : Nat) : a ^^^ (a ^^^ b) = b := by rw [← Nat.xor_assoc, Nat.xor_self, Nat.zero_xor]
theorem xor_self3' (a b : Nat) : (b ^^^ a) ^^^ a = b := by rw [Nat.xor_assoc, Nat.xor_self, Nat.xor_zero]
theorem dv_of_xor {d a b : Nat} (h : dv d (a ^^^ b)) (h' : dv d a) : dv d b := by
  have := dv_xor h' h
  rwa [xor_self3] at this
theorem dv_sz {d a : Nat} (h : dv d a) (ha : a ≠ 0) : sz d ≤ sz a := by
  obtain ⟨c, rfl⟩ := h
  have hc : c ≠ 0 := fun e => ha (by rw [e, mulp_zero])
  have hd : d ≠ 0 := fun e => ha (by rw [e, mulp_zero_right])
  have := sz_mulp hc hd
  have := sz_pos.2 hc
  omega
theorem dv_pmod {d a : Nat} (hd : d ≠ 0) : dv d a ↔ pmod a d = 0 := by
  constructor
  · rintro ⟨c, rfl⟩
    have := pmod_add (q := c) (x := 0) hd
    rw [Nat.xor_zero] at this
    rw [this]
    exact pmod_small (by rw [sz_zero]; exact sz_pos.2 hd)
  · intro h
    have := (divmod (a := a) hd).1
    rw [h, Nat.xor_zero] at this
    exact ⟨_, this⟩
theorem dv_pmod_xor {d a : Nat} (hd : d ≠ 0) : dv d (a ^^^ pmod a d) := by
  have := (divmod (a := a) hd).1
  refine ⟨pdiv a d, ?_⟩
  conv => lhs; lhs; rw [this]
  exact xor_self3' _ _
theorem pmod_eq {d a b : Nat} (hd : d ≠ 0) : pmod a d = pmod b d ↔ dv d (a ^^^ b) := by
  rw [dv_pmod hd, pmod_xor hd]
  constructor
  · intro h; rw [h, Nat.xor_self]
  · intro h; exact xor_eq_zero h

def Irr (q : Nat) : Prop := 2 ≤ q ∧ ∀ d, dv d q → d = 1 ∨ d = q
theorem sz_two {q : Nat} (h : 2 ≤ q) : 2 ≤ sz q := (lt_sz (k := 1)).2 h
theorem sz_one {c : Nat} (h0 : c ≠ 0) (h1 : c ≠ 1) : 2 ≤ sz c := sz_two (by omega)

theorem bezout : ∀ (n a b : Nat), sz b ≤ n → ∃ u v g, mulp u a ^^^ mulp v b = g ∧ dv g a ∧ dv g b
  | n, a, b, h => by
    by_cases hb : b = 0
    · subst hb
      exact ⟨1, 0, a, by rw [mulp_one, mulp_zero, Nat.xor_zero], dv_refl a, dv_zero a⟩
    · obtain ⟨h1, h2⟩ := divmod (a := a) hb
      match n, h with
      | 0, h => have := sz_pos.2 hb; omega
      | n + 1, h =>
        obtain ⟨u, v, g, e, g1, g2⟩ := bezout n b (pmod a b) (by omega)
        refine ⟨v, u ^^^ mulp v (pdiv a b), g, ?_, ?_, g1⟩
        · rw [← e]
          conv => lhs; lhs; rw [h1]
          rw [mulp_xor_right, mulp_xor, mulp_assoc]
          rw [Nat.xor_comm (mulp u b), ← Nat.xor_assoc, Nat.xor_comm (mulp v (mulp (pdiv a b) b)), xor_self3', Nat.xor_comm]
        · rw [h1]
          exact dv_xor (dv_mul _ g1) g2
theorem euclid {q a b : Nat} (hq : Irr q) (h : dv q (mulp a b)) : dv q a ∨ dv q b := by
  obtain ⟨u, v, g, e, g1, g2⟩ := bezout (sz q) a q (Nat.le_refl _)
  rcases hq.2 g g2 with rfl | rfl
  · right
    have e2 : mulp u (mulp a b) ^^^ mulp v (mulp q b) = b := by rw [← mulp_assoc, ← mulp_assoc, ← mulp_xor, e, mulp_one]
    rw [← e2]
    exact dv_xor (dv_mul u h) (dv_mul v (dv_mul' b (dv_refl q)))
  · exact .inl g1

/-! ### how many roots -/
def ev : List Nat → Nat → Nat
  | [], _ => 0
  | c :: r, b => c ^^^ mulp b (ev r b)
def gd (a : Nat) : List Nat → List Nat
  | [] => []
  | [_] => []
  | _ :: c :: r => ev (c :: r) a :: gd a (c :: r)
theorem ev_gd (a b : Nat) : ∀ p : List Nat, ev p b ^^^ ev p a = mulp (b ^^^ a) (ev (gd a p) b)
  | [] => by simp [ev, gd, mulp_zero_right]
  | [c] => by simp [ev, gd, mulp_zero_right]
  | c :: c1 :: r => by
    have ih := ev_gd a b (c1 :: r)
    generalize hp : c1 :: r = p at ih
    have e : gd a (c :: p) = ev p a :: gd a p := by rw [← hp]; rfl
    rw [e]
    simp only [ev]
    generalize ev (gd a p) b = G at *
    have e1 : mulp (b ^^^ a) (ev p a ^^^ mulp b G) = mulp (b ^^^ a) (ev p a) ^^^ mulp b (mulp (b ^^^ a) G) := by
      rw [mulp_xor_right, ← mulp_assoc, mulp_comm (b ^^^ a) b, mulp_assoc]
    rw [e1, ← ih, mulp_xor, mulp_xor_right]
    rw [show (c ^^^ mulp b (ev p b)) ^^^ (c ^^^ mulp a (ev p a)) = mulp b (ev p b) ^^^ mulp a (ev p a) by
      rw [Nat.xor_comm c (mulp b (ev p b)), Nat.xor_assoc, xor_self3]]
    rw [Nat.xor_comm (mulp b (ev p a)), Nat.xor_assoc, Nat.xor_comm (mulp b (ev p b)) (mulp b (ev p a)), xor_self3, Nat.xor_comm]
theorem gd_len (a : Nat) : ∀ p : List Nat, (gd a p).length = p.length - 1
  | [] => rfl
  | [_] => rfl
  | _ :: c :: r => by
    have := gd_len a (c :: r)
    simp only [gd, List.length_cons] at this ⊢
    omega
theorem gd_last (a : Nat) : ∀ p : List Nat, 2 ≤ p.length → (gd a p).getLast? = p.getLast?
  | [], h => by simp at h
  | [_], h => by simp at h
  | [c, c1], _ => by simp [gd, ev, mulp_zero_right]
  | c :: c1 :: c2 :: r, _ => by
    have ih := gd_last a (c1 :: c2 :: r) (by simp)
    rw [show gd a (c :: c1 :: c2 :: r) = ev (c1 :: c2 :: r) a :: gd a (c1 :: c2 :: r) from rfl]
    obtain ⟨y, hy⟩ : ∃ y, (c1 :: c2 :: r).getLast? = some y := ⟨_, List.getLast?_eq_some_getLast (by simp)⟩
    rw [List.getLast?_cons, ih, hy, List.getLast?_cons_cons, hy]
    rfl
theorem roots {q : Nat} (hq : Irr q) : ∀ (N : Nat) (p : List Nat) (c : Nat), p.length = N + 1 → p.getLast? = some c → ¬ dv q c → ∀ L : List Nat, L.Pairwise (fun a b => ¬ dv q (b ^^^ a)) → (∀ a ∈ L, dv q (ev p a)) → L.length ≤ N
  | N, p, c, hl, hc, hn, [], _, _ => Nat.zero_le _
  | 0, p, c, hl, hc, hn, a :: L, _, hr => by
    obtain ⟨x, rfl⟩ := List.length_eq_one_iff.1 hl
    simp only [List.getLast?_singleton, Option.some.injEq] at hc
    subst hc
    have := hr a (by simp)
    simp only [ev, mulp_zero_right, Nat.xor_zero] at this
    exact (hn this).elim
  | N + 1, p, c, hl, hc, hn, a :: L, hp, hr => by
    obtain ⟨hp1, hp2⟩ := List.pairwise_cons.1 hp
    have := roots hq N (gd a p) c (by rw [gd_len]; omega) (by rw [gd_last a p (by omega)]; exact hc) hn L hp2 (fun b hb => by
      have h1 := dv_xor (hr b (List.mem_cons_of_mem _ hb)) (hr a List.mem_cons_self)
      rw [ev_gd] at h1
      exact (euclid hq h1).resolve_left (hp1 b hb))
    simpa using this

/-! ### squares -/
def fr : Nat → Nat → Nat
  | 0, a => a
  | r + 1, a => mulp (fr r a) (fr r a)
theorem sq_xor (a b : Nat) : mulp (a ^^^ b) (a ^^^ b) = mulp a a ^^^ mulp b b := by
  rw [mulp_xor, mulp_xor_right, mulp_xor_right, mulp_comm b a, Nat.xor_assoc, xor_self3]
theorem fr_xor : ∀ (r a b : Nat), fr r (a ^^^ b) = fr r a ^^^ fr r b
  | 0, _, _ => rfl
  | r + 1, a, b => by simp only [fr]; rw [fr_xor r, sq_xor]
theorem fr_mul : ∀ (r a b : Nat), fr r (mulp a b) = mulp (fr r a) (fr r b)
  | 0, _, _ => rfl
  | r + 1, a, b => by
    simp only [fr]
    rw [fr_mul r, mulp_assoc, mulp_assoc, ← mulp_assoc (fr r b), mulp_comm (fr r b), mulp_assoc]
theorem fr_one : ∀ r, fr r 1 = 1
  | 0 => rfl
  | r + 1 => by simp only [fr]; rw [fr_one r, mulp_one]
theorem fr_zero : ∀ r, fr r 0 = 0
  | 0 => rfl
  | r + 1 => by simp only [fr]; rw [fr_zero r, mulp_zero]
theorem fr_add : ∀ (s r a : Nat), fr (r + s) a = fr s (fr r a)
  | 0, _, _ => rfl
  | s + 1, r, a => by
    show mulp (fr (r + s) a) (fr (r + s) a) = _
    rw [fr_add s r a]
    rfl
theorem dv_fr {q a : Nat} : ∀ r, dv q a → dv q (fr r a)
  | 0, h => h
  | r + 1, h => dv_mul _ (dv_fr r h)
theorem mulp_two' (a : Nat) : mulp 2 a = 2 * a := by
  have := mulp_two 1 a
  rw [mulp_one] at this
  exact this
/-- what is so of x is so of all -/
theorem fr_all {q r : Nat} (h : dv q (fr r 2 ^^^ 2)) : ∀ a, dv q (fr r a ^^^ a) := by
  apply halves
  · rw [fr_zero]; exact dv_zero q
  · intro a _ ih
    have e : a = a % 2 ^^^ mulp 2 (a / 2) := by rw [mulp_two']; exact mod_xor a
    have e0 : fr r (a % 2) = a % 2 := by
      rcases Nat.mod_two_eq_zero_or_one a with h | h <;> rw [h]
      · exact fr_zero r
      · exact fr_one r
    have e1 : fr r a ^^^ a = mulp (fr r 2) (fr r (a / 2) ^^^ a / 2) ^^^ mulp (fr r 2 ^^^ 2) (a / 2) := by
      conv => lhs; rw [e, fr_xor, fr_mul, e0]
      rw [mulp_xor_right, mulp_xor]
      rw [show (a % 2 ^^^ mulp (fr r 2) (fr r (a / 2))) ^^^ (a % 2 ^^^ mulp 2 (a / 2)) = mulp (fr r 2) (fr r (a / 2)) ^^^ mulp 2 (a / 2) by
        rw [Nat.xor_comm (a % 2), Nat.xor_assoc, xor_self3]]
      rw [Nat.xor_assoc, xor_self3]
    rw [e1]
    exact dv_xor (dv_mul _ ih) (dv_mul' _ h)
def pp (a : Nat) : Nat → Nat
  | 0 => 1
  | n + 1 => mulp a (pp a n)
theorem pp_add (a n : Nat) : ∀ m, pp a (m + n) = mulp (pp a m) (pp a n)
  | 0 => by rw [Nat.zero_add, pp, mulp_one]
  | m + 1 => by rw [show m + 1 + n = (m + n) + 1 by omega, pp, pp_add a n m, pp, mulp_assoc]
theorem pp_fr (a : Nat) : ∀ r, pp a (2 ^ r) = fr r a
  | 0 => by simp [pp, fr, mulp_one_right]
  | r + 1 => by rw [Nat.pow_succ, Nat.mul_two, pp_add, pp_fr a r]; rfl
theorem ev_rep (b : Nat) : ∀ k, ev (List.replicate k 0 ++ [1]) b = pp b k
  | 0 => by simp [ev, pp, mulp_zero_right]
  | k + 1 => by
    rw [List.replicate_succ, List.cons_append, ev, ev_rep b k, pp, Nat.zero_xor]
theorem lt_not_dv {q a d : Nat} (hq : sz q = d + 1) (h0 : a ≠ 0) (h : a < 2 ^ d) : ¬ dv q a := fun hd => by
  have := dv_sz hd h0
  have := sz_le.2 h
  omega
theorem xor_lt {a b d : Nat} (ha : a < 2 ^ d) (hb : b < 2 ^ d) : a ^^^ b < 2 ^ d := Nat.xor_lt_two_pow ha hb
/-- L2: fewer squares do not bring x back -/
theorem back {q d r : Nat} (hq : Irr q) (hd : sz q = d + 1) (hr : 1 ≤ r) (h : dv q (fr r 2 ^^^ 2)) : d ≤ r := by
  have h2 : 2 ≤ 2 ^ r := by
    have := Nat.pow_le_pow_right (n := 2) (by omega) hr
    simpa using this
  have key := roots hq (2 ^ r) (0 :: 1 :: (List.replicate (2 ^ r - 2) 0 ++ [1])) 1 (by simp; omega) (by show ((0 :: 1 :: List.replicate (2 ^ r - 2) 0) ++ [1]).getLast? = some 1; rw [List.getLast?_append]; rfl) (fun h1 => by
    have := dv_sz h1 (by omega)
    have hq1 : Irr q := hq
    have := sz_two hq1.1
    have e1 : sz 1 = 1 := by decide
    omega) (List.range (2 ^ d)) ?_ ?_
  · rw [List.length_range] at key
    rcases Nat.lt_or_ge r d with h3 | h3
    · have := Nat.pow_lt_pow_right (a := 2) (by omega) h3
      omega
    · exact h3
  · rw [List.pairwise_iff_getElem]
    intro i j hi hj hij
    simp only [List.length_range, List.getElem_range] at *
    exact lt_not_dv hd (fun e => by have := xor_eq_zero e; omega) (xor_lt (by simpa using hj) (by simpa using hi))
  · intro a _
    have e : ev (0 :: 1 :: (List.replicate (2 ^ r - 2) 0 ++ [1])) a = fr r a ^^^ a := by
      rw [ev, ev, ev_rep, Nat.zero_xor, mulp_xor_right, mulp_one_right, ← pp_fr]
      rw [show 2 ^ r = (2 ^ r - 2) + 1 + 1 by omega]
      simp only [pp]
      rw [show 2 ^ r - 2 + 1 + 1 - 2 = 2 ^ r - 2 by omega, Nat.xor_comm]
    rw [e]
    exact fr_all h a

/-! ### Fermat -/
def prodP : List Nat → Nat
  | [] => 1
  | a :: l => mulp a (prodP l)
theorem prodP_erase : ∀ {l : List Nat} {a : Nat}, a ∈ l → prodP l = mulp a (prodP (l.erase a))
  | b :: l, a, h => by
    by_cases e : b = a
    · subst e; simp [prodP]
    · have hm : a ∈ l := by
        rcases List.mem_cons.1 h with h | h
        · exact (e h.symm).elim
        · exact h
      rw [List.erase_cons_tail (by simpa using e), prodP, prodP, prodP_erase hm, ← mulp_assoc, mulp_comm b a, mulp_assoc]
theorem prodP_sub : ∀ {l' l : List Nat}, l'.Nodup → (∀ a ∈ l', a ∈ l) → l'.length = l.length → prodP l' = prodP l
  | [], l, _, _, h => by
    have : l = [] := List.length_eq_zero_iff.1 h.symm
    rw [this]
  | a :: t, l, hn, hs, h => by
    obtain ⟨hn1, hn2⟩ := List.nodup_cons.1 hn
    have ha := hs a List.mem_cons_self
    have h1 : ∀ b ∈ t, b ∈ l.erase a := fun b hb => (List.mem_erase_of_ne (by rintro rfl; exact hn1 hb)).2 (hs b (List.mem_cons_of_mem _ hb))
    have h2 : t.length = (l.erase a).length := by rw [List.length_erase_of_mem ha, ← h]; simp
    rw [prodP_erase ha, prodP, prodP_sub hn2 h1 h2]
theorem prodP_map {q : Nat} (hq : q ≠ 0) : ∀ l : List Nat, dv q (prodP (l.map fun a => pmod (mulp 2 a) q) ^^^ mulp (pp 2 l.length) (prodP l))
  | [] => by simp [prodP, pp, mulp_one]; exact dv_zero q
  | a :: l => by
    have ih := prodP_map hq l
    simp only [List.map_cons, prodP, List.length_cons, pp]
    generalize prodP (l.map fun a => pmod (mulp 2 a) q) = X at *
    generalize prodP l = Y at *
    generalize pp 2 l.length = Z at *
    have e : mulp (pmod (mulp 2 a) q) X ^^^ mulp (mulp 2 Z) (mulp a Y) = mulp (mulp 2 a ^^^ pmod (mulp 2 a) q) X ^^^ mulp (mulp 2 a) (X ^^^ mulp Z Y) := by
      rw [mulp_xor, mulp_xor_right]
      rw [show mulp (mulp 2 Z) (mulp a Y) = mulp (mulp 2 a) (mulp Z Y) by
        rw [mulp_assoc, mulp_assoc, ← mulp_assoc Z, mulp_comm Z a, mulp_assoc]]
      rw [Nat.xor_comm (mulp (mulp 2 a) X), Nat.xor_assoc, xor_self3]
    rw [e]
    exact dv_xor (dv_mul' _ (dv_pmod_xor hq)) (dv_mul _ ih)
theorem prodP_not {q : Nat} (hq : Irr q) : ∀ l : List Nat, (∀ a ∈ l, ¬ dv q a) → ¬ dv q (prodP l)
  | [], _, h => by
    have := dv_sz h (by simp [prodP])
    have := sz_two hq.1
    have e1 : sz 1 = 1 := by decide
    simp only [prodP] at *
    omega
  | a :: l, hl, h => by
    rcases euclid hq h with h | h
    · exact hl a List.mem_cons_self h
    · exact prodP_not hq l (fun b hb => hl b (List.mem_cons_of_mem _ hb)) h
theorem fermat {q d : Nat} (hq : Irr q) (hd : sz q = d + 1) : dv q (fr d 2 ^^^ 2) := by
  have hq0 : q ≠ 0 := by have := hq.1; omega
  by_cases h2 : dv q 2
  · exact dv_xor (dv_fr d h2) h2
  · have hp := Nat.two_pow_pos d
    let R := (List.range (2 ^ d - 1)).map (· + 1)
    have hR : ∀ a, a ∈ R ↔ a ≠ 0 ∧ a < 2 ^ d := fun a => by
      simp only [R, List.mem_map, List.mem_range]
      constructor
      · rintro ⟨b, hb, rfl⟩; omega
      · intro h; exact ⟨a - 1, by omega, by omega⟩
    have hRl : R.length = 2 ^ d - 1 := by simp [R]
    have hRn : R.Nodup := by
      simp only [R]
      rw [List.nodup_iff_pairwise_ne, List.pairwise_map]
      exact List.Pairwise.imp (fun h e => h (by omega)) (List.nodup_range (n := 2 ^ d - 1))
    have hnot : ∀ a ∈ R, ¬ dv q a := fun a ha => lt_not_dv hd ((hR a).1 ha).1 ((hR a).1 ha).2
    have hperm : prodP (R.map fun a => pmod (mulp 2 a) q) = prodP R := by
      refine prodP_sub ?_ ?_ (by simp)
      · rw [List.nodup_iff_pairwise_ne, List.pairwise_map]
        refine List.Pairwise.imp_of_mem (fun {a b} ha hb hab e => hab ?_) hRn
        have h1 := (pmod_eq hq0).1 e
        rw [← mulp_xor_right] at h1
        have h3 := (euclid hq h1).resolve_left h2
        by_cases h0 : a ^^^ b = 0
        · exact xor_eq_zero h0
        · exact (lt_not_dv hd h0 (xor_lt ((hR a).1 ha).2 ((hR b).1 hb).2) h3).elim
      · intro c hc
        obtain ⟨a, ha, rfl⟩ := List.mem_map.1 hc
        refine (hR _).2 ⟨fun e => ?_, ?_⟩
        · rcases euclid hq ((dv_pmod hq0).2 e) with h | h
          · exact h2 h
          · exact hnot a ha h
        · have := (divmod (a := mulp 2 a) hq0).2
          exact sz_le.1 (by omega)
    have h1 := prodP_map hq0 R
    rw [hperm, hRl] at h1
    have h3 : dv q (mulp (1 ^^^ pp 2 (2 ^ d - 1)) (prodP R)) := by rw [mulp_xor, mulp_one]; exact h1
    have h4 := (euclid hq h3).resolve_right (prodP_not hq R hnot)
    have h5 := dv_mul 2 h4
    rw [mulp_xor_right, mulp_one_right, show mulp 2 (pp 2 (2 ^ d - 1)) = pp 2 (2 ^ d - 1 + 1) from rfl, show 2 ^ d - 1 + 1 = 2 ^ d by omega, pp_fr, Nat.xor_comm] at h5
    exact h5
end Go.X.Rb
