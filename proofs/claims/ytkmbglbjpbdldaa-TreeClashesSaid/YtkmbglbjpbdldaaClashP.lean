/- The plain law of comparing trees: level by level, and by halves. Conditions: none. -/
import Derived.Test.YtkmbglbjpbdldaaTreeL
set_option linter.unusedSimpArgs false
set_option linter.unusedVariables false
set_option maxHeartbeats 4000000
set_option maxRecDepth 20000
namespace Go.X.Ts
open Go Go.X Go.X.Pol Go.X.Pl Go.X.Rp Go.X.Pd Go.X.Md Go.X.Mv Go.X.Pt Go.X.Tv

def blk {α : Type} (l : List α) (d i : Nat) : List α := (l.drop (i * 2 ^ d)).take (2 ^ d)
theorem blk_lv0 (l : List (List UInt8)) (d i : Nat) : lv0 (blk l d i) = blk (lv0 l) d i := by
  unfold lv0 blk
  rw [List.map_take, List.map_drop]
theorem blk_len {α : Type} (l : List α) (d i : Nat) : (blk l d i).length = min (2 ^ d) (l.length - i * 2 ^ d) := by
  unfold blk
  rw [List.length_take, List.length_drop]
def cl : Nat → Nat → Nat
  | 0, n => n
  | d + 1, n => cl d ((n + 1) / 2)
theorem cl_iff : ∀ (d n i : Nat), i < cl d n ↔ i * 2 ^ d < n
  | 0, n, i => by simp [cl]
  | d + 1, n, i => by
    rw [cl, cl_iff d, Nat.pow_succ, ← Nat.mul_assoc]
    omega
theorem upN_len : ∀ (d : Nat) (l : List Nat), (upN d l).length = cl d l.length
  | 0, l => rfl
  | d + 1, l => by
    simp only [upN, cl]
    rw [upN_len d, upL_len]
theorem upN_get {d : Nat} (hd : d ≤ 5) : ∀ (i : Nat) (l : List Nat), i * 2 ^ d < l.length → (upN d l)[i]? = some (topV (blk l d i))
  | i, l, h => by
    have hp := Nat.two_pow_pos d
    by_cases hl : l.length ≤ 2 ^ d
    · have e0 : i = 0 := by
        rcases Nat.eq_zero_or_pos i with h0 | h0
        · exact h0
        · have := Nat.mul_le_mul_right (2 ^ d) h0
          omega
      subst e0
      rw [upN_topV (d := d) (by omega) hl hd]
      simp only [blk, Nat.zero_mul, List.drop_zero]
      rw [List.take_of_length_le hl]
      rfl
    · have e : l = l.take (2 ^ d) ++ l.drop (2 ^ d) := (List.take_append_drop _ _).symm
      have ht : (l.take (2 ^ d)).length = 2 ^ d := by rw [List.length_take]; omega
      have hU : upN d l = topV (l.take (2 ^ d)) :: upN d (l.drop (2 ^ d)) := by
        conv => lhs; rw [e]
        rw [upN_app d _ _ ht, upN_topV (d := d) (l := l.take (2 ^ d)) (by omega) (by omega) hd]
        rfl
      rw [hU]
      cases i with
      | zero => simp only [blk, Nat.zero_mul, List.drop_zero, List.getElem?_cons_zero]
      | succ i =>
        rw [List.getElem?_cons_succ, upN_get hd i _ (by rw [List.length_drop]; rw [Nat.add_mul] at h; omega)]
        simp only [blk, List.drop_drop]
        rw [show 2 ^ d + i * 2 ^ d = (i + 1) * 2 ^ d by rw [Nat.add_mul]; omega]
def tpN : Nat → Nat → Nat
  | 0, _ => 0
  | f + 1, n => if 1 < n then tpN f ((n + 1) / 2) + 1 else 0
theorem levs_len : ∀ (f : Nat) (l : List Nat), (levs f l).length = tpN f l.length + 1
  | 0, l => rfl
  | f + 1, l => by
    simp only [levs, tpN]
    split
    · rw [List.length_cons, levs_len f, upL_len]
    · rfl
theorem levs_get : ∀ (f : Nat) (l : List Nat) (d : Nat), d ≤ tpN f l.length → (levs f l)[d]? = some (upN d l)
  | 0, l, d, h => by
    simp only [tpN, Nat.le_zero_eq] at h
    subst h
    rfl
  | f + 1, l, d, h => by
    simp only [levs, tpN] at h ⊢
    split at h
    · rename_i h1
      rw [if_pos h1]
      cases d with
      | zero => rfl
      | succ d =>
        rw [List.getElem?_cons_succ, levs_get f (upL l) d (by rw [upL_len]; omega)]
        rfl
    · rename_i h1
      have : d = 0 := by omega
      subst this
      rw [if_neg h1]
      rfl
theorem tp_facts : ∀ n, n < 33 → 1 ≤ n → tpN 32 n ≤ 5 ∧ n ≤ 2 ^ tpN 32 n := by decide +kernel
theorem sp_at : ∀ d, d < 5 → ∀ L, L < 33 → 2 ^ d < L → L ≤ 2 ^ (d + 1) → spF L 6 1 = 2 ^ d := by decide +kernel

/-- where two lists of leaves differ, and how many nodes are looked at -/
def rc : Nat → List Nat → List Nat → List Nat × Nat
  | 0, _, _ => ([], 0)
  | f + 1, a, b => if topV a = topV b then ([], 1) else if a.length = 1 then ([0], 1) else
    ((rc f (a.take (spF a.length 6 1)) (b.take (spF a.length 6 1))).1 ++ (rc f (a.drop (spF a.length 6 1)) (b.drop (spF a.length 6 1))).1.map (· + spF a.length 6 1),
      (rc f (a.take (spF a.length 6 1)) (b.take (spF a.length 6 1))).2 + (rc f (a.drop (spF a.length 6 1)) (b.drop (spF a.length 6 1))).2 + 1)
theorem rc_bound : ∀ (f : Nat) (a b : List Nat), 1 ≤ a.length → a.length ≤ 32 → (rc f a b).1.length ≤ a.length ∧ (rc f a b).2 + 1 ≤ 2 * a.length ∧ ∀ x ∈ (rc f a b).1, x < a.length
  | 0, a, b, h, h32 => ⟨by simp [rc], by simp only [rc]; omega, by simp [rc]⟩
  | f + 1, a, b, h, h32 => by
    simp only [rc]
    split
    · exact ⟨by simp, by simp only; omega, by simp⟩
    · split
      · exact ⟨by simpa using h, by simp only; omega, fun x hx => by simp at hx; omega⟩
      · obtain ⟨d, h1, h2, h3, h4⟩ := sp_pow a.length (by omega) (by omega)
        have hp := Nat.two_pow_pos d
        rw [h2]
        obtain ⟨p1, p2, p3⟩ := rc_bound f (a.take (2 ^ d)) (b.take (2 ^ d)) (by rw [List.length_take]; omega) (by rw [List.length_take]; omega)
        obtain ⟨q1, q2, q3⟩ := rc_bound f (a.drop (2 ^ d)) (b.drop (2 ^ d)) (by rw [List.length_drop]; omega) (by rw [List.length_drop]; omega)
        rw [List.length_take] at p1 p2 p3
        rw [List.length_drop] at q1 q2 q3
        refine ⟨by rw [List.length_append, List.length_map]; omega, by simp only; omega, fun x hx => ?_⟩
        rcases List.mem_append.1 hx with hx | hx
        · have := p3 x hx; omega
        · obtain ⟨y, hy, rfl⟩ := List.mem_map.1 hx
          have := q3 y hy
          omega
/-- a block whose upper half is not there is the block one level down -/
theorem blk_down {α : Type} {l : List α} {d i : Nat} (h : l.length ≤ (2 * i + 1) * 2 ^ d) : blk l (d + 1) i = blk l d (2 * i) := by
  unfold blk
  have e : i * 2 ^ (d + 1) = 2 * i * 2 ^ d := by rw [Nat.pow_succ, Nat.mul_comm 2 i, Nat.mul_assoc, Nat.mul_comm (2 ^ d)]
  rw [e]
  rw [Nat.add_mul, Nat.one_mul] at h
  have hp := Nat.two_pow_pos d
  have h1 : (l.drop (2 * i * 2 ^ d)).length ≤ 2 ^ d := by rw [List.length_drop]; omega
  rw [List.take_of_length_le h1, List.take_of_length_le (Nat.le_trans h1 (by rw [Nat.pow_succ]; omega))]
theorem blk_half {α : Type} (l : List α) (d i : Nat) : (blk l (d + 1) i).take (2 ^ d) = blk l d (2 * i) ∧ (blk l (d + 1) i).drop (2 ^ d) = blk l d (2 * i + 1) := by
  have e : i * 2 ^ (d + 1) = 2 * i * 2 ^ d := by rw [Nat.pow_succ, Nat.mul_comm 2 i, Nat.mul_assoc, Nat.mul_comm (2 ^ d)]
  unfold blk
  rw [e]
  constructor
  · rw [List.take_take, Nat.min_eq_left (by rw [Nat.pow_succ]; omega)]
  · rw [List.drop_take, List.drop_drop, Nat.add_mul, Nat.one_mul]
    congr 1
    rw [Nat.pow_succ]; omega
theorem rc_node {f d i : Nat} {a b : List Nat} (hd : d < 5) (hl : a.length ≤ 32) (hm : (2 * i + 1) * 2 ^ d < a.length) (hne : topV (blk a (d + 1) i) ≠ topV (blk b (d + 1) i)) :
    rc (f + 1) (blk a (d + 1) i) (blk b (d + 1) i) = ((rc f (blk a d (2 * i)) (blk b d (2 * i))).1 ++ (rc f (blk a d (2 * i + 1)) (blk b d (2 * i + 1))).1.map (· + 2 ^ d),
      (rc f (blk a d (2 * i)) (blk b d (2 * i))).2 + (rc f (blk a d (2 * i + 1)) (blk b d (2 * i + 1))).2 + 1) := by
  have hp := Nat.two_pow_pos d
  have e : i * 2 ^ (d + 1) = 2 * i * 2 ^ d := by rw [Nat.pow_succ, Nat.mul_comm 2 i, Nat.mul_assoc, Nat.mul_comm (2 ^ d)]
  have hL := blk_len a (d + 1) i
  rw [Nat.add_mul, Nat.one_mul] at hm
  have hs : spF (blk a (d + 1) i).length 6 1 = 2 ^ d := by
    have hL2 := hL
    rw [e, Nat.pow_succ] at hL2
    exact sp_at d hd _ (by omega) (by omega) (by rw [Nat.pow_succ]; omega)
  rw [rc, if_neg hne, if_neg (by rw [hL, e, Nat.pow_succ]; omega), hs, (blk_half a d i).1, (blk_half a d i).2, (blk_half b d i).1, (blk_half b d i).2]
theorem rc_leaf {f i : Nat} {a b : List Nat} (hi : i < a.length) (hne : topV (blk a 0 i) ≠ topV (blk b 0 i)) : rc (f + 1) (blk a 0 i) (blk b 0 i) = ([0], 1) := by
  rw [rc, if_neg hne, if_pos (by rw [blk_len]; simp; omega)]
theorem rc_same {f : Nat} {a b : List Nat} (h : topV a = topV b) : rc (f + 1) a b = ([], 1) := by rw [rc, if_pos h]
/-- enough fuel is enough -/
theorem rc_fuel : ∀ (f g : Nat) (a b : List Nat), a.length ≤ f → a.length ≤ g → 1 ≤ a.length → a.length ≤ 32 → rc f a b = rc g a b
  | 0, g, a, b, h, _, h1, _ => by omega
  | f + 1, 0, a, b, _, h, h1, _ => by omega
  | f + 1, g + 1, a, b, h, h', h1, h32 => by
    simp only [rc]
    split
    · rfl
    · split
      · rfl
      · obtain ⟨d, h3, h4, h5, h6⟩ := sp_pow a.length (by omega) (by omega)
        have hp := Nat.two_pow_pos d
        rw [h4, rc_fuel f g (a.take (2 ^ d)) _ (by rw [List.length_take]; omega) (by rw [List.length_take]; omega) (by rw [List.length_take]; omega) (by rw [List.length_take]; omega),
          rc_fuel f g (a.drop (2 ^ d)) _ (by rw [List.length_drop]; omega) (by rw [List.length_drop]; omega) (by rw [List.length_drop]; omega) (by rw [List.length_drop]; omega)]

/-! ### Clash -/
def nd (a : List Nat) (e i : Nat) : List UInt8 := saidN (topV (blk a e (2 * i))) (topV (blk a e (2 * i + 1)))
def srI (a b : List Nat) (e : Nat) : Nat → Nat → Option (List UInt8 × List UInt8)
  | 0, _ => none
  | f + 1, i => if (2 * i + 1) * 2 ^ e < a.length ∧ nd a e i ≠ nd b e i then some (nd a e i, nd b e i) else srI a b e f (i + 1)
def orO {α : Type} : Option α → Option α → Option α
  | some p, _ => some p
  | none, q => q
theorem orO_assoc {α : Type} (x y z : Option α) : orO (orO x y) z = orO x (orO y z) := by cases x <;> rfl
def srD (a b : List Nat) : Nat → Option (List UInt8 × List UInt8)
  | 0 => none
  | e + 1 => orO (srI a b e (cl (e + 1) a.length) 0) (srD a b e)
theorem srI_none {a b : List Nat} {e : Nat} (h : a.length ≤ 2 ^ e) : ∀ f i, srI a b e f i = none
  | 0, _ => rfl
  | f + 1, i => by
    rw [srI, if_neg (fun h' => by have := h'.1; rw [Nat.add_mul, Nat.one_mul] at this; omega), srI_none h f]
theorem srD_top {a b : List Nat} {t : Nat} (h : a.length ≤ 2 ^ t) : ∀ k, srD a b (t + k) = srD a b t
  | 0 => rfl
  | k + 1 => by
    have : a.length ≤ 2 ^ (t + k) := Nat.le_trans h (Nat.pow_le_pow_right (by omega) (by omega))
    rw [← Nat.add_assoc, srD, srI_none this, orO, srD_top h k]
def srL : List (List UInt8) → List (List UInt8) → Option (List UInt8 × List UInt8)
  | x :: a, y :: b => if x = y then srL a b else some (108 :: x, 108 :: y)
  | _, _ => none
theorem srL_none : ∀ {a b : List (List UInt8)}, a.length = b.length → srL a b = none → a = b
  | [], [], _, _ => rfl
  | x :: a, y :: b, h, h' => by
    simp only [srL] at h'
    split at h'
    · rename_i e
      rw [e, srL_none (by simpa using h) h']
    · cases h'
  | [], _ :: _, h, _ => by simp at h
  | _ :: _, [], h, _ => by simp at h
def clP (a b : List (List UInt8)) : Option (List UInt8 × List UInt8) := orO (srD (lv0 a) (lv0 b) 5) (srL a b)
end Go.X.Ts
