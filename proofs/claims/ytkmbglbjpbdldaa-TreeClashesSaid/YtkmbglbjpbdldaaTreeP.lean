/- The plain law of trees: level by level, and by halves. Conditions: none. -/
import Derived.Test.YtkmbglbjpbdldaaTreeS
set_option linter.unusedSimpArgs false
set_option linter.unusedVariables false
set_option maxHeartbeats 4000000
set_option maxRecDepth 20000
namespace Go.X.Ts
open Go Go.X Go.X.Pol Go.X.Pl Go.X.Rp Go.X.Pd Go.X.Md Go.X.Mv Go.X.Pt Go.X.Tv

def upN : Nat → List Nat → List Nat
  | 0, l => l
  | d + 1, l => upN d (upL l)
theorem upN_one (x : Nat) : ∀ d, upN d [x] = [x]
  | 0 => rfl
  | d + 1 => by simp only [upN, upL]; exact upN_one x d
theorem upL_app : ∀ (l1 l2 : List Nat), l1.length % 2 = 0 → upL (l1 ++ l2) = upL l1 ++ upL l2
  | [], l2, _ => by simp [upL]
  | [x], l2, h => by simp at h
  | x :: y :: r, l2, h => by
    simp only [List.cons_append, upL]
    rw [upL_app r l2 (by simp only [List.length_cons] at h; omega)]
theorem upN_app : ∀ (d : Nat) (l1 l2 : List Nat), l1.length = 2 ^ d → upN d (l1 ++ l2) = upN d l1 ++ upN d l2
  | 0, _, _, _ => rfl
  | d + 1, l1, l2, h => by
    have h2 : l1.length = 2 ^ d * 2 := by rw [h, Nat.pow_succ]
    simp only [upN]
    rw [upL_app l1 l2 (by omega), upN_app d _ _ (by rw [upL_len]; omega)]
theorem upN_add (b : Nat) : ∀ (a : Nat) (l : List Nat), upN (a + b) l = upN b (upN a l)
  | 0, l => by rw [Nat.zero_add]; rfl
  | a + 1, l => by
    rw [show a + 1 + b = (a + b) + 1 by omega]
    simp only [upN]
    exact upN_add b a (upL l)
theorem upN_top : ∀ (d : Nat) (l : List Nat), 1 ≤ l.length → l.length ≤ 2 ^ d → ∃ x, upN d l = [x]
  | 0, [x], _, _ => ⟨x, rfl⟩
  | 0, _ :: _ :: _, _, h => by simp at h
  | d + 1, l, h1, h2 => by
    have h3 := upL_len l
    rw [Nat.pow_succ] at h2
    simp only [upN]
    exact upN_top d (upL l) (by omega) (by omega)
def topV (l : List Nat) : Nat := (upN 5 l).headD 0
theorem upN_topV {d : Nat} {l : List Nat} (h1 : 1 ≤ l.length) (h2 : l.length ≤ 2 ^ d) (hd : d ≤ 5) : upN d l = [topV l] := by
  obtain ⟨x, hx⟩ := upN_top d l h1 h2
  have : upN 5 l = [x] := by
    rw [show 5 = d + (5 - d) by omega, upN_add, hx, upN_one]
  rw [hx, topV, this]
  rfl
theorem topV_split {d : Nat} {l1 l2 : List Nat} (h1 : l1.length = 2 ^ d) (h2 : 1 ≤ l2.length) (h3 : l2.length ≤ 2 ^ d) (hd : d ≤ 4) : topV (l1 ++ l2) = nodeP (topV l1) (topV l2) := by
  have hp := Nat.two_pow_pos d
  have e : upN (d + 1) (l1 ++ l2) = [nodeP (topV l1) (topV l2)] := by
    rw [upN_add, upN_app d _ _ h1, upN_topV (d := d) (l := l1) (by omega) (by omega) (by omega), upN_topV (d := d) (l := l2) h2 h3 (by omega)]
    rfl
  have e2 := upN_topV (d := d + 1) (l := l1 ++ l2) (by rw [List.length_append]; omega) (by rw [List.length_append, Nat.pow_succ]; omega) (by omega)
  rw [e] at e2
  injection e2 with e2 _
  exact e2.symm

def stp1 (l : List Nat) (i : Nat) : List (Bool × Int) := if i ^^^ 1 < l.length then [(decide (i ^^^ 1 < i), ((l.getD (i ^^^ 1) 0 : Nat) : Int))] else []
def pf : Nat → List Nat → Nat → List (Bool × Int)
  | 0, _, _ => []
  | d + 1, l, i => stp1 l i ++ pf d (upL l) (i / 2)
def pfL : List (List Nat) → Nat → List (Bool × Int)
  | [], _ => []
  | l :: r, i => stp1 l i ++ pfL r (i / 2)
theorem stp1_one (x : Nat) : stp1 [x] 0 = [] := rfl
theorem pf_one (x : Nat) : ∀ d, pf d [x] 0 = []
  | 0 => rfl
  | d + 1 => by
    simp only [pf, upL, stp1_one, Nat.zero_div, List.nil_append]
    exact pf_one x d
theorem pf_add (b : Nat) : ∀ (a : Nat) (l : List Nat) (i : Nat), pf (a + b) l i = pf a l i ++ pf b (upN a l) (i / 2 ^ a)
  | 0, l, i => by simp [pf, upN]
  | a + 1, l, i => by
    rw [show a + 1 + b = (a + b) + 1 by omega]
    simp only [pf, upN]
    rw [pf_add b a, List.append_assoc, Nat.div_div_eq_div_mul, Nat.pow_succ, Nat.mul_comm 2]
theorem pf_enough {d k : Nat} {l : List Nat} {i : Nat} (hi : i < l.length) (h : l.length ≤ 2 ^ d) : pf (d + k) l i = pf d l i := by
  obtain ⟨x, hx⟩ := upN_top d l (by omega) h
  rw [pf_add, hx, Nat.div_eq_of_lt (by omega), pf_one, List.append_nil]
theorem xor1 (i : Nat) : i ^^^ 1 = if i % 2 = 0 then i + 1 else i - 1 := by
  have h1 := Nat.xor_div_two (a := i) (b := 1)
  have h2 := @Nat.xor_mod_two_eq_one i 1
  have h3 : i / 2 ^^^ 1 / 2 = i / 2 := by simp
  rw [h3] at h1
  split <;> omega
theorem pf_left : ∀ (d : Nat) (l1 l2 : List Nat) (i : Nat), l1.length = 2 ^ d → i < 2 ^ d → pf d (l1 ++ l2) i = pf d l1 i
  | 0, _, _, _, _, _ => rfl
  | d + 1, l1, l2, i, h, hi => by
    have h2 : l1.length = 2 ^ d * 2 := by rw [h, Nat.pow_succ]
    rw [Nat.pow_succ] at hi
    have hx : i ^^^ 1 < l1.length := by rw [xor1]; split <;> omega
    simp only [pf]
    rw [upL_app l1 l2 (by omega), pf_left d _ _ _ (by rw [upL_len]; omega) (by omega)]
    congr 1
    unfold stp1
    rw [if_pos hx, if_pos (by rw [List.length_append]; omega), List.getD_eq_getElem?_getD, List.getElem?_append_left hx, List.getD_eq_getElem?_getD]
theorem pf_right : ∀ (d : Nat) (l1 l2 : List Nat) (i : Nat), l1.length = 2 ^ d → 2 ^ d ≤ i → i - 2 ^ d < l2.length → pf d (l1 ++ l2) i = pf d l2 (i - 2 ^ d)
  | 0, _, _, _, _, _, _ => rfl
  | d + 1, l1, l2, i, h, hi, hi2 => by
    have h2 : l1.length = 2 ^ d * 2 := by rw [h, Nat.pow_succ]
    rw [Nat.pow_succ] at hi hi2 ⊢
    have hx : i ^^^ 1 = l1.length + ((i - 2 ^ d * 2) ^^^ 1) := by rw [xor1, xor1]; split <;> split <;> omega
    simp only [pf]
    have hul := upL_len l2
    rw [upL_app l1 l2 (by omega), pf_right d _ _ _ (by rw [upL_len]; omega) (by omega) (by omega), show (i - 2 ^ d * 2) / 2 = i / 2 - 2 ^ d by omega]
    congr 1
    unfold stp1
    rw [hx, List.length_append, List.getD_eq_getElem?_getD, List.getElem?_append_right (by omega), Nat.add_sub_cancel_left, List.getD_eq_getElem?_getD]
    have e1 : (l1.length + ((i - 2 ^ d * 2) ^^^ 1) < l1.length + l2.length) ↔ ((i - 2 ^ d * 2) ^^^ 1) < l2.length := by omega
    have e2 : decide (l1.length + ((i - 2 ^ d * 2) ^^^ 1) < i) = decide (((i - 2 ^ d * 2) ^^^ 1) < i - 2 ^ d * 2) := by
      apply decide_eq_decide.2
      omega
    simp only [e1, e2]
theorem pf_split1 {d : Nat} {l1 l2 : List Nat} {i : Nat} (h1 : l1.length = 2 ^ d) (h2 : 1 ≤ l2.length) (h3 : l2.length ≤ 2 ^ d) (hd : d ≤ 4) (hi : i < 2 ^ d) : pf 5 (l1 ++ l2) i = pf 5 l1 i ++ [(false, (topV l2 : Int))] := by
  rw [show 5 = (d + 1) + (4 - d) by omega, pf_enough (by rw [List.length_append]; omega) (by rw [List.length_append, Nat.pow_succ]; omega), pf_add, pf_left d _ _ _ h1 hi, upN_app d _ _ h1, upN_topV (d := d) (l := l1) (by omega) (by omega) (by omega), upN_topV (d := d) (l := l2) h2 h3 (by omega),
    Nat.div_eq_of_lt hi]
  rw [show (d + 1) + (4 - d) = d + (5 - d) by omega, pf_enough (by omega) (by omega)]
  rfl
theorem pf_split2 {d : Nat} {l1 l2 : List Nat} {i : Nat} (h1 : l1.length = 2 ^ d) (h3 : l2.length ≤ 2 ^ d) (hd : d ≤ 4) (hi : 2 ^ d ≤ i) (hi2 : i - 2 ^ d < l2.length) : pf 5 (l1 ++ l2) i = pf 5 l2 (i - 2 ^ d) ++ [(true, (topV l1 : Int))] := by
  have hp := Nat.two_pow_pos d
  rw [show 5 = (d + 1) + (4 - d) by omega, pf_enough (by rw [List.length_append]; omega) (by rw [List.length_append, Nat.pow_succ]; omega), pf_add, pf_right d _ _ _ h1 hi hi2, upN_app d _ _ h1, upN_topV (d := d) (l := l1) (by omega) (by omega) (by omega), upN_topV (d := d) (l := l2) (by omega) h3 (by omega),
    show i / 2 ^ d = 1 from Nat.div_eq_of_lt_le (by omega) (by omega)]
  rw [show (d + 1) + (4 - d) = d + (5 - d) by omega, pf_enough (by omega) (by omega)]
  rfl
theorem pfL_levs : ∀ (f : Nat) (l : List Nat) (i : Nat), i < l.length → l.length ≤ f + 1 → pfL (levs f l) i = pf (f + 1) l i
  | 0, l, i, h, h2 => rfl
  | f + 1, l, i, h, h2 => by
    simp only [levs]
    split
    · rename_i h3
      have := upL_len l
      simp only [pfL]
      rw [pfL_levs f (upL l) (i / 2) (by omega) (by omega)]
      rfl
    · obtain ⟨x, rfl⟩ : ∃ x, l = [x] := by
        match l with
        | [] => simp at h
        | [x] => exact ⟨x, rfl⟩
        | _ :: _ :: _ => rename_i h3; simp at h3
      have : i = 0 := by simpa using h
      subst this
      rw [pf_one]
      rfl
theorem levs_top : ∀ (f : Nat) (l : List Nat), 1 ≤ l.length → l.length ≤ f + 1 → ∃ pre d x, levs f l = pre ++ [[x]] ∧ upN d l = [x] ∧ pre.length ≤ f
  | 0, l, h, h2 => by
    match l with
    | [] => simp at h
    | [x] => exact ⟨[], 0, x, rfl, rfl, Nat.le_refl _⟩
    | _ :: _ :: _ => simp at h2
  | f + 1, l, h, h2 => by
    simp only [levs]
    split
    · have := upL_len l
      obtain ⟨pre, d, x, h3, h4, h5⟩ := levs_top f (upL l) (by omega) (by omega)
      exact ⟨l :: pre, d + 1, x, by rw [h3]; rfl, h4, by simp only [List.length_cons]; omega⟩
    · match l with
      | [] => simp at h
      | [x] => exact ⟨[], 0, x, rfl, rfl, by simp⟩
      | _ :: _ :: _ => rename_i h3; simp at h3
theorem levs_topV {l : List Nat} (h : 1 ≤ l.length) (h2 : l.length ≤ 32) : ∃ pre, levs 32 l = pre ++ [[topV l]] ∧ pre.length ≤ 32 := by
  obtain ⟨pre, d, x, h3, h4, h5⟩ := levs_top 32 l h (by omega)
  refine ⟨pre, ?_, h5⟩
  have e1 : upN (5 + d) l = [topV l] := by rw [upN_add, upN_topV (d := 5) h (by omega) (Nat.le_refl _), upN_one]
  have e2 : upN (d + 5) l = [x] := by rw [upN_add, h4, upN_one]
  rw [Nat.add_comm, e2] at e1
  rw [h3, e1]
theorem topV_le : ∀ {l : List Nat}, okL l → l ≠ [] → l.length ≤ 32 → topV l ≤ 1073741824 := by
  intro l h h0 h32
  have key : ∀ d (l : List Nat), okL l → okL (upN d l) := by
    intro d
    induction d with
    | zero => intro l h; exact h
    | succ d ih => intro l h; exact ih _ (upL_ok h)
  have h1 := upN_topV (d := 5) (l := l) (List.length_pos_iff.2 h0) (by omega) (Nat.le_refl _)
  have := key 5 l h
  rw [h1] at this
  exact this _ (by simp)
theorem sp_pow : ∀ n, n < 33 → 2 ≤ n → ∃ d, d < 5 ∧ spF n 6 1 = 2 ^ d ∧ 2 ^ d < n ∧ n ≤ 2 ^ d + 2 ^ d := by decide +kernel
end Go.X.Ts
