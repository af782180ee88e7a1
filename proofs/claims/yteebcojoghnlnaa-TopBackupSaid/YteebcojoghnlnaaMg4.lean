/- Contracts of functions and the logic that they are proved in (7 texts in one). Conditions: none. -/
import Derived.ChangeSlices
import Derived.OpenShut
import Derived.Test.YteebcojoghnlnaaMg3
import Derived.Deep.Slices
import Derived.Lib.SmallJoins
import Derived.WideShapes
import Derived.SizedLaws
import Derived.Test.YteebcojoghnlnaaRows
import Derived.WalkKit
import Derived.ProofKit
import Derived.KernelRfl
namespace Go.X.Pol
end Go.X.Pol
namespace Go.X.Pl
end Go.X.Pl
namespace Go.X.Rp
end Go.X.Rp
namespace Go.X.Pd
end Go.X.Pd
namespace Go.X.Md
end Go.X.Md
set_option linter.unusedSimpArgs false
set_option linter.unusedVariables false
set_option maxHeartbeats 4000000
set_option maxRecDepth 20000
namespace Go.X
open Go Go.RowKit

theorem Meets.law {P : Program} {f : FuncId} {args : List SV} {W : World} {v : Value} (h : Meets P f args (fun b => W.heap[b]?) (fun r _ _ => r = .v v)) :
    Calls P f (SV.vals ν0 args).toArray W fun e w' => e = .returned v ∧ Below W.heap.size W w' := by
  refine (h.2 W fun _ _ e => e).mono fun e w' ⟨s, H', M', ν, he, hh, hR⟩ => ?_
  subst hR
  exact ⟨he, hh.below⟩

theorem wf_i64 {n : Int} (h : (Lit.int .i64 n).wf = true) : inK .i64 n := by
  have := bounds_i64 h
  exact this

theorem cellM_heap (W : World) (a : Addr) : cellM (fun b => W.heap[b]?) a = W.cell? a := by
  unfold cellM World.cell?
  rfl

end Go.X

namespace Go.X
open Go Go.RowKit Go.ChangeShapes Go.WideShapes

theorem list_of {α : Type} {Q : Nat → α → Prop} : ∀ (n : Nat), (∀ i, i < n → ∃ x, Q i x) → ∃ l : List α, l.length = n ∧ ∀ i x, l[i]? = some x → Q i x
  | 0, _ => ⟨[], rfl, fun i x h => by simp at h⟩
  | n + 1, h => by
    obtain ⟨l, h1, h2⟩ := list_of n (fun i hi => h i (by omega))
    obtain ⟨x, hx⟩ := h n (by omega)
    refine ⟨l ++ [x], by simp [h1], fun i y hy => ?_⟩
    rcases Nat.lt_or_ge i l.length with hi | hi
    · rw [List.getElem?_append_left hi] at hy
      exact h2 i y hy
    · rw [List.getElem?_append_right hi] at hy
      have h0 : i - l.length = 0 := by
        rcases Nat.eq_zero_or_pos (i - l.length) with h0 | h0
        · exact h0
        · rw [List.getElem?_eq_none (by simp; omega)] at hy; cases hy
      rw [h0] at hy
      simp only [List.getElem?_cons_zero, Option.some.injEq] at hy
      subst hy
      rwa [show i = n by omega]

def fits {H : Type} (P : Program) (t : TypeId) (d : DataW H) : Prop := ∀ n ∈ d.weights P t, n ≤ reachBytes
theorem weightsAll_mem {H : Type} {P : Program} {e : TypeId} : ∀ {l : List (DataW H)} {d : DataW H}, d ∈ l → ∀ n ∈ d.weights P e, n ∈ DataW.weightsAll P e l
  | d0 :: l, d, h, n, hn => by
    simp only [DataW.weightsAll, List.mem_append]
    rcases List.mem_cons.1 h with rfl | h
    · exact .inl hn
    · exact .inr (weightsAll_mem h n hn)
/-- the cells of type t are read as α -/
structure Rd (P : Program) (W : World) (t : TypeId) (w : Nat) {α : Type} (E : α → List Value) (ok : α → Prop) : Prop where
  size : P.cellsOf t = w
  len : ∀ a, (E a).length = w
  one : ∀ a, ok a → ∀ u ∈ E a, u.oneCell' = true
  rd : ∀ {H : Type} {enc : TypeId × Value → H} {spare : Nat → Bool} {held : Bool} {n : Nat} {cs : List Value} {y : DataW H × List MemPlace}, DataW.trod enc P W 0 spare held n t cs = some y → fits P t y.1 → ∃ a, cs = E a ∧ ok a
structure RdF (P : Program) (W : World) (fs : List Field) (off w : Nat) {α : Type} (E : α → List Value) (ok : α → Prop) : Prop where
  len : ∀ a, (E a).length = w
  one : ∀ a, ok a → ∀ u ∈ E a, u.oneCell' = true
  rd : ∀ {H : Type} {enc : TypeId × Value → H} {spare : Nat → Bool} {held : Bool} {n : Nat} {cs : List Value}, cs.length = off + w → (∀ f ∈ fs, ∃ y, DataW.trod enc P W 0 spare held n f.type ((cs.drop f.offset).take (P.cellsOf f.type)) = some y ∧ fits P f.type y.1) → ∃ a, cs.drop off = E a ∧ ok a

section
variable {P : Program} {W : World} {t e w off w1 w2 : Nat} {α β : Type} {E : α → List Value} {ok : α → Prop} {E2 : β → List Value} {ok2 : β → Prop}

theorem Rd.int (ht : P.underlying t = some (.int .i64)) (hc : P.cellsOf t = 1) : Rd P W t 1 (fun a : Int => [.int .i64 a]) (fun a => inK .i64 a) where
  size := hc
  len := fun _ => rfl
  one := fun a _ u hu => by simp at hu; subst hu; rfl
  rd := fun h hf => by
    obtain ⟨z, hz1, _, hz2⟩ := DataW.trod_int ht h
    exact ⟨z, hz1, wf_i64 hz2⟩
theorem Rd.bool (ht : P.underlying t = some .bool) (hc : P.cellsOf t = 1) : Rd P W t 1 (fun a : Bool => [.bool a]) (fun _ => True) where
  size := hc
  len := fun _ => rfl
  one := fun a _ u hu => by simp at hu; subst hu; rfl
  rd := fun h hf => by
    obtain ⟨b, hb1, _⟩ := DataW.trod_bool ht h
    exact ⟨b, hb1, trivial⟩
theorem Rd.str (ht : P.underlying t = some .string) (hc : P.cellsOf t = 1) : Rd P W t 1 (fun a : List UInt8 => [.string ⟨a.toArray⟩]) (fun a => a.length ≤ reachBytes) where
  size := hc
  len := fun _ => rfl
  one := fun a _ u hu => by simp at hu; subst hu; rfl
  rd := fun h hf => by
    obtain ⟨s, h1, h3, h2⟩ := DataW.trod_string ht h
    exact ⟨bl s, by rw [h1]; exact congrArg (fun x => [Value.string x]) (B_bl s).symm, by
      subst h3
      exact hf (bl s).length (by simp [DataW.weights, bl])⟩

theorem Rd.slice {bt : Nat} (ht : P.underlying t = some (.slice e)) (hc : P.cellsOf t = 1) (hb : P.bytesOf e = bt) (hE : Rd P W e w E ok) :
    Rd P W t 1 (fun a : Value × List α => [a.1]) (fun a => RowM (fun b => W.heap[b]?) a.1 w (a.2.map E) ∧ a.2.length * bt ≤ reachBytes ∧ ∀ x ∈ a.2, ok x) where
  size := hc
  len := fun _ => rfl
  one := fun a h u hu => by
    simp at hu
    subst hu
    have := h.1.sl
    cases hv : a.1 <;> rw [hv] at this <;> first | rfl | cases this
  rd := fun {H enc spare held n cs y} h hfit => by
    rcases Go.Deep.open_slice ht h with ⟨hcs, _⟩ | ⟨a, len, cp, m, n, D, Pl, hcs, _, hl, hm, hmm, hy, hel⟩
    · exact ⟨(.slice none 0 0, []), hcs, RowM.nil _ _, by simp, fun s hs => by simp at hs⟩
    · subst hy
      have hfit' : ((len + (m - len)) * bt ≤ reachBytes) ∧ ∀ i, i < len → fits P e (D i) := by
        unfold fits at hfit
        simp only [DataW.weights, ht, List.length_map, List.length_range, hb] at hfit
        exact ⟨hfit _ List.mem_cons_self, fun i hi n hn => hfit n (List.mem_cons_of_mem _ (List.mem_append_left _ (weightsAll_mem (List.mem_map.2 ⟨i, List.mem_range.2 hi, rfl⟩) n hn)))⟩
      have hlm : len ≤ m := by rw [hmm]; split <;> omega
      obtain ⟨l, h1, h2⟩ := list_of (Q := fun i (s : α) => ((E s).length = w ∧ ∀ j u, (E s)[j]? = some u → W.cell? (a.add (i * w + j)) = some u) ∧ ok s) len (fun i hil => by
        obtain ⟨cs', hc, htr⟩ := hel i (by omega)
        rw [hE.size] at hc
        obtain ⟨_, hlen, hat⟩ := World.cells?_some hc
        obtain ⟨b, rfl, hb⟩ := hE.rd htr (hfit'.2 i hil)
        refine ⟨b, ⟨hlen, fun j u hu => ?_⟩, hb⟩
        have hj := (List.getElem?_eq_some_iff.1 hu).1
        have := hat j (by omega)
        rw [← Go.Deep.add_add, this, hu])
      refine ⟨(.slice (some a) len cp, l), hcs, ⟨⟨rfl, by simp only [lenV, List.length_map]; omega, hl, hm⟩, fun _ => rfl, fun i e' he' => ?_⟩, by simp only; rw [h1]; exact Nat.le_trans (Nat.mul_le_mul_right _ (by omega)) hfit'.1, fun s hs => ?_⟩
      · rw [List.getElem?_map, Option.map_eq_some_iff] at he'
        obtain ⟨s, hs, rfl⟩ := he'
        obtain ⟨⟨g0, g1⟩, gk⟩ := h2 i s hs
        refine ⟨g0, fun j u hu => ?_⟩
        have := g1 j u hu
        exact ⟨by simp only [cellE, cellM_heap]; exact this, hE.one s gk u (List.mem_of_getElem? hu)⟩
      · obtain ⟨i, hi⟩ := List.mem_iff_getElem?.1 hs
        exact (h2 i s hi).2

theorem RdF.cons {f : Field} {fs : List Field} (h : Rd P W f.type w1 E ok) (ho : f.offset = off) (r : RdF P W fs (off + w1) w2 E2 ok2) :
    RdF P W (f :: fs) off (w1 + w2) (fun a : α × β => E a.1 ++ E2 a.2) (fun a => ok a.1 ∧ ok2 a.2) where
  len := fun a => by rw [List.length_append, h.len, r.len]
  one := fun a ha u hu => by
    rcases List.mem_append.1 hu with hu | hu
    · exact h.one _ ha.1 u hu
    · exact r.one _ ha.2 u hu
  rd := fun {H enc spare held n cs} hl hf => by
    obtain ⟨y, hy, hw⟩ := hf f (by simp)
    rw [h.size, ho] at hy
    obtain ⟨a, ha, oka⟩ := h.rd hy hw
    obtain ⟨b, hb, okb⟩ := r.rd (by omega) (fun g hg => hf g (List.mem_cons_of_mem _ hg))
    refine ⟨(a, b), ?_, oka, okb⟩
    simp only
    rw [← ha, ← hb, ← List.drop_drop, List.take_append_drop]
theorem Rd.struct {fs : Array Field} (ht : P.underlying t = some (.struct fs)) (hc : P.cellsOf t = w) (r : RdF P W fs.toList 0 w E ok) : Rd P W t w E ok where
  size := hc
  len := r.len
  one := r.one
  rd := fun {H enc spare held n cs y} h hfit => by
    obtain ⟨xs, n', _, hy, hl, hlen, hf⟩ := DataW.trod_struct ht h
    subst hy
    obtain ⟨a, ha, hk⟩ := r.rd (H := H) (enc := enc) (spare := spare) (held := held) (n := n') (cs := cs) (by omega) (fun f hm => by
      obtain ⟨i, hi⟩ := List.mem_iff_getElem?.1 hm
      have hi' : fs[i]? = some f := by simpa using hi
      have hx := hf i f hi'
      have hil : i < xs.length := by
        have := (List.getElem?_eq_some_iff.1 hi).1
        simp at this
        omega
      refine ⟨xs[i], by rw [hx, List.getElem?_eq_getElem hil], fun n hn => hfit n ?_⟩
      simp only [DataW.weights, ht]
      exact DataW.weights_mem_each (j := i) (by rw [List.getElem?_map, hi]; rfl) (by rw [List.getElem?_map, List.getElem?_eq_getElem hil]; rfl) n hn)
    exact ⟨a, by simpa using ha, hk⟩

theorem Rd.top_slice {H : Type} {enc : TypeId × Value → H} {spare : Nat → Bool} {held : Bool} {r : Reach} {b0 : Nat} {v : Value} {d : DataW H} {ps : List MemPlace} {ok : Value × List α → Prop} (h : Rd P W t 1 (fun a : Value × List α => [a.1]) ok) (ht : P.underlying t = some (.slice e)) (hv : Value.okWide P W r b0 t v)
    (hd : DataW.Trod enc P W 0 spare held t v d ps) (hw : fits P t d) : ∃ a : Value × List α, v = a.1 ∧ ok a := by
  obtain ⟨a, n, c, rfl⟩ := okWide_slice ht hv
  obtain ⟨fuel, hf⟩ := hd
  obtain ⟨a, ha, hk⟩ := h.rd hf hw
  refine ⟨a, ?_, hk⟩
  simpa [Value.cells] using ha
theorem fits_of {H : Type} {ts : List TypeId} {ds : List (DataW H)} (h : (DataW.weightsEach P ts ds).all (· ≤ reachBytes) = true) (j : Nat) {d : DataW H} (ht : ts[j]? = some t) (hd : ds[j]? = some d) : fits P t d := fun n hn => by
  have := List.all_eq_true.1 h n (DataW.weights_mem_each ht hd n hn)
  simpa using this
end
theorem str_fits {H : Type} {P : Program} {t : TypeId} {l : List UInt8} (h : fits (H := H) P t (.lit (.string l))) : l.length ≤ reachBytes := h l.length (by simp [DataW.weights])
end Go.X

namespace Go.Proofs.Yteebcojoghnlnaa.Clo
open Go
theorem laidOut : laidOutB Try.prog = true := by kernel_rfl
end Go.Proofs.Yteebcojoghnlnaa.Clo

namespace Go.X.Pol

def sz (n : Nat) : Nat := if n = 0 then 0 else n.log2 + 1

theorem sz_le {n k : Nat} : sz n ≤ k ↔ n < 2 ^ k := by
  unfold sz
  split
  · rename_i h
    subst h
    exact ⟨fun _ => Nat.two_pow_pos k, fun _ => Nat.zero_le k⟩
  · rename_i h
    rw [Nat.succ_le_iff, Nat.log2_lt h]
theorem lt_sz {n k : Nat} : k < sz n ↔ 2 ^ k ≤ n := by
  have := @sz_le n k
  omega
theorem sz_zero : sz 0 = 0 := rfl
theorem sz_pos {n : Nat} : 0 < sz n ↔ n ≠ 0 := by
  rw [lt_sz]; simp; omega
theorem sz_eq {n k : Nat} (h1 : 2 ^ k ≤ n) (h2 : n < 2 ^ (k + 1)) : sz n = k + 1 := by
  have := lt_sz.2 h1
  have := sz_le.2 h2
  omega
theorem sz_rng {n : Nat} (h : n ≠ 0) : 2 ^ (sz n - 1) ≤ n ∧ n < 2 ^ (sz n) ∧ sz n = (sz n - 1) + 1 := by
  have := sz_pos.2 h
  exact ⟨lt_sz.1 (by omega), sz_le.1 (Nat.le_refl _), by omega⟩
theorem xor_pow (x y k : Nat) : (x ^^^ y) * 2 ^ k = x * 2 ^ k ^^^ y * 2 ^ k := by
  have := Nat.shiftLeft_xor_distrib (a := x) (b := y) (i := k)
  simpa only [Nat.shiftLeft_eq] using this
theorem two_xor (x y : Nat) : 2 * (x ^^^ y) = 2 * x ^^^ 2 * y := by
  have := xor_pow x y 1
  simp only [Nat.pow_one] at this
  rw [Nat.mul_comm 2, this, Nat.mul_comm 2, Nat.mul_comm 2]
theorem xor_top {x y n : Nat} (h1 : 2 ^ n ≤ x) (h2 : x < 2 ^ (n + 1)) (h3 : y < 2 ^ n) : 2 ^ n ≤ x ^^^ y ∧ x ^^^ y < 2 ^ (n + 1) := by
  have hp : 2 ^ (n + 1) = 2 * 2 ^ n := by rw [Nat.pow_succ]; omega
  have hx : x / 2 ^ n = 1 := Nat.div_eq_of_lt_le (by omega) (by omega)
  have hy : y / 2 ^ n = 0 := Nat.div_eq_of_lt h3
  have := Nat.xor_div_two_pow (a := x) (b := y) (n := n)
  rw [hx, hy] at this
  refine ⟨?_, Nat.xor_lt_two_pow h2 (by omega)⟩
  have hq : (x ^^^ y) / 2 ^ n ≠ 0 := by rw [this]; decide
  rcases Nat.lt_or_ge (x ^^^ y) (2 ^ n) with h | h
  · exact (hq (Nat.div_eq_of_lt h)).elim
  · exact h
theorem xor_drop {x y n : Nat} (h1 : 2 ^ n ≤ x) (h2 : x < 2 ^ (n + 1)) (h3 : 2 ^ n ≤ y) (h4 : y < 2 ^ (n + 1)) : x ^^^ y < 2 ^ n := by
  have hp : 2 ^ (n + 1) = 2 * 2 ^ n := by rw [Nat.pow_succ]; omega
  have hx : x / 2 ^ n = 1 := Nat.div_eq_of_lt_le (by omega) (by omega)
  have hy : y / 2 ^ n = 1 := Nat.div_eq_of_lt_le (by omega) (by omega)
  have := Nat.xor_div_two_pow (a := x) (b := y) (n := n)
  rw [hx, hy, Nat.xor_self] at this
  have h0 := Nat.two_pow_pos n
  rcases Nat.lt_or_ge (x ^^^ y) (2 ^ n) with h | h
  · exact h
  · have := Nat.div_pos h h0
    omega
theorem bit_xor {e x : Nat} (he : e < 2) : e ^^^ 2 * x = e + 2 * x := by
  have h1 := Nat.xor_div_two (a := e) (b := 2 * x)
  rw [show e / 2 = 0 by omega, Nat.mul_div_cancel_left x (by omega), Nat.zero_xor] at h1
  have h2 := @Nat.xor_mod_two_eq_one e (2 * x)
  have : (2 * x) % 2 = 0 := by omega
  rw [this] at h2
  have : e = 0 ∨ e = 1 := by omega
  rcases this with rfl | rfl
  · simp
  · have h3 : (1 ^^^ 2 * x) % 2 = 1 := h2.2 (by decide)
    omega
theorem xor_cancel {a b c : Nat} (h : a ^^^ b = c) : a = c ^^^ b := by
  rw [← h, Nat.xor_assoc, Nat.xor_self, Nat.xor_zero]
theorem xor_eq_zero {a b : Nat} (h : a ^^^ b = 0) : a = b := by
  rw [xor_cancel h, Nat.zero_xor]

/-- the product of two polynomials -/
def mulp (a b : Nat) : Nat := if a = 0 then 0 else (if a % 2 = 1 then b else 0) ^^^ 2 * mulp (a / 2) b
termination_by a
decreasing_by omega

theorem mulp_zero (b : Nat) : mulp 0 b = 0 := by rw [mulp]; rfl
theorem mulp_rec (a b : Nat) : mulp a b = (if a % 2 = 1 then b else 0) ^^^ 2 * mulp (a / 2) b := by
  by_cases h : a = 0
  · subst h; simp [mulp_zero]
  · rw [mulp, if_neg h]
theorem halves {P : Nat → Prop} (h0 : P 0) (h : ∀ a, a ≠ 0 → P (a / 2) → P a) : ∀ a, P a := by
  intro a
  induction a using Nat.strongRecOn with
  | _ a ih =>
    by_cases h1 : a = 0
    · subst h1; exact h0
    · exact h a h1 (ih _ (by omega))
theorem mulp_zero_right (a : Nat) : mulp a 0 = 0 := by
  refine halves (P := fun a => mulp a 0 = 0) (mulp_zero 0) (fun a _ ih => ?_) a
  rw [mulp_rec, ih]; simp
theorem mulp_xor_right (a b c : Nat) : mulp a (b ^^^ c) = mulp a b ^^^ mulp a c := by
  refine halves (P := fun a => mulp a (b ^^^ c) = mulp a b ^^^ mulp a c) (by simp [mulp_zero]) (fun a _ ih => ?_) a
  rw [mulp_rec a (b ^^^ c), mulp_rec a b, mulp_rec a c, ih, two_xor]
  split
  · ac_rfl
  · simp only [Nat.zero_xor]
theorem mulp_two_right (a b : Nat) : mulp a (2 * b) = 2 * mulp a b := by
  refine halves (P := fun a => mulp a (2 * b) = 2 * mulp a b) (by simp [mulp_zero]) (fun a _ ih => ?_) a
  rw [mulp_rec a (2 * b), mulp_rec a b, ih, two_xor]
  split
  · rfl
  · simp only [Nat.mul_zero]
theorem mulp_two (a b : Nat) : mulp (2 * a) b = 2 * mulp a b := by
  rw [mulp_rec, if_neg (by omega), Nat.mul_div_cancel_left a (by omega), Nat.zero_xor]
theorem mulp_one (b : Nat) : mulp 1 b = b := by
  rw [mulp_rec]; simp [mulp_zero]
theorem mulp_xor (a c b : Nat) : mulp (a ^^^ c) b = mulp a b ^^^ mulp c b := by
  refine halves (P := fun a => ∀ c, mulp (a ^^^ c) b = mulp a b ^^^ mulp c b) (fun c => by simp [mulp_zero]) (fun a _ ih c => ?_) a c
  rw [mulp_rec (a ^^^ c), mulp_rec a, mulp_rec c, Nat.xor_div_two, ih, two_xor]
  by_cases h1 : a % 2 = 1 <;> by_cases h2 : c % 2 = 1 <;> simp only [Nat.xor_mod_two_eq_one, h1, h2, if_true, if_false, iff_true, iff_false, not_true, not_false_eq_true, Nat.zero_xor]
  · rw [show b ^^^ 2 * mulp (a / 2) b ^^^ (b ^^^ 2 * mulp (c / 2) b) = (b ^^^ b) ^^^ (2 * mulp (a / 2) b ^^^ 2 * mulp (c / 2) b) by ac_rfl, Nat.xor_self, Nat.zero_xor]
  · ac_rfl
  · ac_rfl
theorem mod_xor (a : Nat) : a = a % 2 ^^^ 2 * (a / 2) := by
  rw [bit_xor (by omega)]; omega
theorem mulp_one_right (a : Nat) : mulp a 1 = a := by
  refine halves (P := fun a => mulp a 1 = a) (mulp_zero 1) (fun a _ ih => ?_) a
  rw [mulp_rec, ih]
  conv => rhs; rw [mod_xor a]
  split
  · rename_i h; rw [h]
  · rename_i h; rw [show a % 2 = 0 by omega]
theorem mulp_comm (a b : Nat) : mulp a b = mulp b a := by
  refine halves (P := fun a => mulp a b = mulp b a) (by rw [mulp_zero, mulp_zero_right]) (fun a _ ih => ?_) a
  conv => rhs; rw [mod_xor a, mulp_xor_right, mulp_two_right]
  rw [mulp_rec a b, ih]
  split
  · rename_i h; rw [h, mulp_one_right]
  · rename_i h; rw [show a % 2 = 0 by omega, mulp_zero_right]
theorem mulp_pow (a b k : Nat) : mulp (a * 2 ^ k) b = mulp a b * 2 ^ k := by
  induction k with
  | zero => simp
  | succ k ih => rw [Nat.pow_succ, ← Nat.mul_assoc, Nat.mul_comm _ 2, mulp_two, ih, Nat.mul_left_comm, Nat.mul_comm 2]
theorem mulp_pow1 (b k : Nat) : mulp (2 ^ k) b = b * 2 ^ k := by
  have := mulp_pow 1 b k
  rw [Nat.one_mul, mulp_one] at this
  exact this

theorem mulp_rng : ∀ (k l a b : Nat), 2 ^ k ≤ a → a < 2 ^ (k + 1) → 2 ^ l ≤ b → b < 2 ^ (l + 1) → 2 ^ (k + l) ≤ mulp a b ∧ mulp a b < 2 ^ (k + l + 1)
  | 0, l, a, b, h1, h2, h3, h4 => by
    obtain rfl : a = 1 := by simp at h1 h2; omega
    rw [mulp_one, Nat.zero_add]
    exact ⟨h3, h4⟩
  | k + 1, l, a, b, h1, h2, h3, h4 => by
    have e1 : 2 ^ (k + 1) = 2 * 2 ^ k := by rw [Nat.pow_succ]; omega
    have e2 : 2 ^ (k + 1 + 1) = 2 * 2 ^ (k + 1) := by rw [Nat.pow_succ]; omega
    obtain ⟨g1, g2⟩ := mulp_rng k l (a / 2) b (by omega) (by omega) h3 h4
    have e3 : 2 ^ (k + 1 + l) = 2 * 2 ^ (k + l) := by rw [show k + 1 + l = (k + l) + 1 by omega, Nat.pow_succ]; omega
    have e4 : 2 ^ (k + 1 + l + 1) = 2 * 2 ^ (k + l + 1) := by rw [show k + 1 + l + 1 = (k + l + 1) + 1 by omega, Nat.pow_succ]; omega
    have e5 : 2 ^ (l + 1) ≤ 2 ^ (k + 1 + l) := Nat.pow_le_pow_right (by omega) (by omega)
    rw [mulp_rec, Nat.xor_comm]
    have hy : (if a % 2 = 1 then b else 0) < 2 ^ (k + 1 + l) := by split <;> omega
    exact xor_top (by omega) (by omega) hy
theorem sz_mulp {a b : Nat} (ha : a ≠ 0) (hb : b ≠ 0) : sz (mulp a b) + 1 = sz a + sz b := by
  obtain ⟨h1, h2, h3⟩ := sz_rng ha
  obtain ⟨h4, h5, h6⟩ := sz_rng hb
  rw [h3] at h2
  rw [h6] at h5
  obtain ⟨h7, h8⟩ := mulp_rng _ _ _ _ h1 h2 h4 h5
  rw [sz_eq h7 h8]
  omega
theorem sz_mul_pow {b k : Nat} (hb : b ≠ 0) : sz (b * 2 ^ k) = sz b + k := by
  have h := sz_mulp (a := 2 ^ k) (Nat.ne_of_gt (Nat.two_pow_pos k)) hb
  rw [mulp_pow1, sz_eq (n := 2 ^ k) (k := k) (Nat.le_refl _) (Nat.pow_lt_pow_right (by omega) (by omega))] at h
  omega
theorem sz_xor {a b n : Nat} (h1 : sz a ≤ n) (h2 : sz b ≤ n) : sz (a ^^^ b) ≤ n := by
  rw [sz_le] at *
  exact Nat.xor_lt_two_pow h1 h2
theorem sz_xor_drop {a b : Nat} (h : a ≠ 0) (he : sz a = sz b) : sz (a ^^^ b) < sz a := by
  obtain ⟨h1, h2, h3⟩ := sz_rng h
  have hb : b ≠ 0 := sz_pos.1 (by rw [← he]; exact sz_pos.2 h)
  obtain ⟨h4, h5, h6⟩ := sz_rng hb
  rw [h3] at h2
  rw [← he] at h4 h5
  rw [h3] at h5
  have := sz_le.2 (xor_drop h1 h2 h4 h5)
  omega

theorem uniq {q q' r r' b : Nat} (h : mulp q b ^^^ r = mulp q' b ^^^ r') (h1 : sz r < sz b) (h2 : sz r' < sz b) : q = q' ∧ r = r' := by
  have hb : b ≠ 0 := sz_pos.1 (by omega)
  have h3 : mulp (q ^^^ q') b = r ^^^ r' := by
    rw [mulp_xor]
    have := xor_cancel h
    rw [this, show mulp q' b ^^^ r' ^^^ r ^^^ mulp q' b = (mulp q' b ^^^ mulp q' b) ^^^ (r ^^^ r') by ac_rfl, Nat.xor_self, Nat.zero_xor]
  by_cases hq : q ^^^ q' = 0
  · rw [hq, mulp_zero] at h3
    exact ⟨xor_eq_zero hq, xor_eq_zero h3.symm⟩
  · have h4 := sz_mulp hq hb
    rw [h3] at h4
    have h5 := sz_xor (n := sz b - 1) (a := r) (b := r') (by omega) (by omega)
    have := sz_pos.2 hq
    omega

/-- division -/
def pdm : Nat → Nat → Nat → Nat × Nat
  | 0, a, _ => (0, a)
  | f + 1, a, b => if sz a < sz b then (0, a) else ((pdm f (a ^^^ b * 2 ^ (sz a - sz b)) b).1 ^^^ 2 ^ (sz a - sz b), (pdm f (a ^^^ b * 2 ^ (sz a - sz b)) b).2)
theorem sz_step {a b : Nat} (hb : b ≠ 0) (h : sz b ≤ sz a) : sz (a ^^^ b * 2 ^ (sz a - sz b)) < sz a := by
  have ha : a ≠ 0 := sz_pos.1 (by have := sz_pos.2 hb; omega)
  exact sz_xor_drop ha (by rw [sz_mul_pow hb]; omega)
theorem pdm_spec : ∀ (f a b : Nat), b ≠ 0 → sz a ≤ f → a = mulp (pdm f a b).1 b ^^^ (pdm f a b).2 ∧ sz (pdm f a b).2 < sz b
  | 0, a, b, hb, hf => by
    simp only [pdm, mulp_zero, Nat.zero_xor, true_and]
    have := sz_pos.2 hb
    omega
  | f + 1, a, b, hb, hf => by
    simp only [pdm]
    split
    · rename_i h
      simp only [mulp_zero, Nat.zero_xor, true_and]
      exact h
    · rename_i h
      obtain ⟨h1, h2⟩ := pdm_spec f (a ^^^ b * 2 ^ (sz a - sz b)) b hb (by have := sz_step hb (show sz b ≤ sz a by omega); omega)
      refine ⟨?_, h2⟩
      have h3 := xor_cancel h1
      simp only [mulp_xor, mulp_pow1]
      refine h3.trans ?_
      ac_rfl
def pdiv (a b : Nat) : Nat := (pdm (sz a) a b).1
def pmod (a b : Nat) : Nat := (pdm (sz a) a b).2
theorem divmod {a b : Nat} (hb : b ≠ 0) : a = mulp (pdiv a b) b ^^^ pmod a b ∧ sz (pmod a b) < sz b := pdm_spec _ a b hb (Nat.le_refl _)
theorem divmod_uniq {a b q r : Nat} (h : a = mulp q b ^^^ r) (hr : sz r < sz b) : pdiv a b = q ∧ pmod a b = r := by
  have hb : b ≠ 0 := sz_pos.1 (by omega)
  obtain ⟨h1, h2⟩ := divmod (a := a) hb
  exact uniq (by rw [← h1, ← h]) h2 hr
theorem pmod_small {a m : Nat} (h : sz a < sz m) : pmod a m = a := (divmod_uniq (q := 0) (by rw [mulp_zero, Nat.zero_xor]) h).2
/-! ### Lists of coefficients -/
theorem testBit_flip (x k i : Nat) : (x ^^^ 2 ^ k).testBit i = if i = k then !x.testBit i else x.testBit i := by
  rw [Nat.testBit_xor, Nat.testBit_two_pow]
  by_cases h : k = i
  · subst h; simp
  · rw [if_neg (fun e => h e.symm)]; simp [h]
theorem mod_succ (b i : Nat) : b % 2 ^ (i + 1) = b % 2 ^ i ^^^ (if b.testBit i then 2 ^ i else 0) := by
  apply Nat.eq_of_testBit_eq
  intro j
  rw [Nat.testBit_xor, Nat.testBit_mod_two_pow, Nat.testBit_mod_two_pow]
  have : (if b.testBit i then 2 ^ i else 0).testBit j = (b.testBit i && decide (i = j)) := by
    cases b.testBit i
    · simp
    · simp [Nat.testBit_two_pow]
  rw [this]
  by_cases h1 : j < i
  · simp [show j < i + 1 by omega, h1, show ¬ i = j by omega]
  · by_cases h2 : i = j
    · subst h2; simp
    · simp [show ¬ j < i + 1 by omega, h1, h2]
/-- an addend whose bits are free is an or -/
theorem or_pow {q s : Nat} (h : q.testBit s = false) : q ||| 2 ^ s = q ^^^ 2 ^ s := by
  apply Nat.eq_of_testBit_eq
  intro i
  rw [Nat.testBit_or, Nat.testBit_xor, Nat.testBit_two_pow]
  by_cases hi : s = i
  · subst hi; simp [h]
  · simp [hi]
theorem or_low {p c k : Nat} (h : c < 2 ^ k) : p * 2 ^ k ||| c = p * 2 ^ k + c := by
  have := Nat.shiftLeft_add_eq_or_of_lt h p
  rw [Nat.shiftLeft_eq] at this
  exact this.symm
end Go.X.Pol

namespace Go.X.Pl
open Go Go.X Go.X.Pol

theorem sz_shift {x k : Nat} (h : 2 ^ k ≤ x) : sz x = k + sz (x / 2 ^ k) := by
  have h0 := Nat.two_pow_pos k
  have h1 : x / 2 ^ k ≠ 0 := Nat.ne_of_gt (Nat.div_pos h h0)
  obtain ⟨h2, h3, h4⟩ := sz_rng h1
  have h5 := Nat.div_mul_le_self x (2 ^ k)
  have h6 : 2 ^ (sz (x / 2 ^ k) - 1) * 2 ^ k ≤ x := Nat.le_trans (Nat.mul_le_mul_right _ h2) h5
  have h7 : x < 2 ^ sz (x / 2 ^ k) * 2 ^ k := (Nat.div_lt_iff_lt_mul h0).1 h3
  rw [← Nat.pow_add] at h6 h7
  rw [sz_eq (k := sz (x / 2 ^ k) - 1 + k) h6 (by rw [show sz (x / 2 ^ k) - 1 + k + 1 = sz (x / 2 ^ k) + k by omega]; exact h7)]
  omega

def tabB (T : List UInt8) : Bool := T.length == 256 && (List.range 256).all fun i => strIx T (i : Int) == (sz i : Int)
theorem tab (T : List UInt8) (hT : tabB T = true) (c y : Int) (n x : Nat) (hy : y = (n : Int)) (hn : n < 256) (hx : (sz x : Int) = c + sz n) (hc : 0 ≤ c ∧ c ≤ 56) :
    Shp.int IntKind.u64 ≠ Shp.bad ∧ (0 ≤ IntKind.u8.wrap y ∧ IntKind.u8.wrap y < (T.length : Int)) ∧ Shp.int IntKind.u8 ≠ Shp.bad ∧ inK IntKind.i64 (c + IntKind.i64.wrap (strIx T (IntKind.u8.wrap y))) ∧
      SV.v (Value.int IntKind.i64 (c + IntKind.i64.wrap (strIx T (IntKind.u8.wrap y)))) = SV.v (Value.int IntKind.i64 ((sz x : Nat) : Int)) := by
  simp only [tabB, Bool.and_eq_true, beq_iff_eq, List.all_eq_true, List.mem_range] at hT
  obtain ⟨h1, h2⟩ := hT
  have h3 := h2 n hn
  have h4 : IntKind.u8.wrap y = (n : Int) := by rw [hy]; exact wrap_in (k := .u8) ⟨by simp only [lo]; omega, by simp only [hi]; omega⟩
  have h5 : sz n ≤ 8 := sz_le.2 (by omega)
  rw [h4, h3, h1, wrap_in (k := .i64) (n := ((sz n : Nat) : Int)) ⟨by simp only [lo]; omega, by simp only [hi]; omega⟩, hx]
  exact ⟨(fun h => by cases h), ⟨by omega, by omega⟩, (fun h => by cases h), ⟨by simp only [lo]; omega, by simp only [hi]; omega⟩, rfl⟩
theorem tab0 (T : List UInt8) (hT : tabB T = true) (y : Int) (n x : Nat) (hy : y = (n : Int)) (hn : n < 256) (hx : (sz x : Int) = sz n) :
    Shp.int IntKind.u64 ≠ Shp.bad ∧ (0 ≤ IntKind.u8.wrap y ∧ IntKind.u8.wrap y < (T.length : Int)) ∧ Shp.int IntKind.u8 ≠ Shp.bad ∧ inK IntKind.i64 (0 + IntKind.i64.wrap (strIx T (IntKind.u8.wrap y))) ∧
      SV.v (Value.int IntKind.i64 (0 + IntKind.i64.wrap (strIx T (IntKind.u8.wrap y)))) = SV.v (Value.int IntKind.i64 ((sz x : Nat) : Int)) := tab T hT 0 y n x hy hn (by omega) (by omega)

theorem len64 (x : Nat) (M : Mem) (hx : x < 18446744073709551616) :
    Meets Proofs.Try.prog 111 [.v (.int .u64 (x : Int))] M fun r _ _ => r = .v (.int .i64 ((sz x : Nat) : Int)) := by
  refine Meets.of_body [0,2,4,8,14] Proofs.Try.func111 rfl (by kernel_rfl) rfl fun w => ?_
  simp only [Proofs.Try.f111, shs, zts, sos, sls, zss, eqs, sx, sb1, sb2, sb3, sb4, sb5, sb6, sb7, ↓reduceIte, Nat.reduceAdd, Nat.reduceMul, Nat.reduceDiv, Nat.reduceEqDiff, Nat.reduceLT, Nat.reduceLeDiff, reduceCtorEq, Int.reduceEq, Int.reduceNe, Int.reduceLT, Int.reduceLE, Int.reduceAdd, Int.reduceSub, Int.reduceMul, Int.reduceNeg, Int.reduceToNat, Int.cast_ofNat_Int, Int.natCast_zero, Int.natCast_one, Int.toNat_natCast, Nat.reduceBEq, inK, lo, hi]
  rw [show ((IntKind.u64.bits : Nat) : Int) = 64 from rfl]
  have e1 : 4294967296 ≤ x → sz x = 32 + sz (x / 4294967296) := fun h => sz_shift (k := 32) h
  have e2 : ∀ y, 65536 ≤ y → sz y = 16 + sz (y / 65536) := fun y h => sz_shift (k := 16) h
  have e3 : ∀ y, 256 ≤ y → sz y = 8 + sz (y / 256) := fun y h => sz_shift (k := 8) h
  have tx := e2 x
  have ty := e2 (x / 4294967296)
  have t1 := e3 x
  have t2 := e3 (x / 4294967296)
  have t3 := e3 (x / 65536)
  have t4 := e3 (x / 4294967296 / 65536)
  refine ⟨fun h1 => ⟨by omega, fun h2 => ⟨by omega, fun h3 => ⟨by omega, ?_⟩, fun h3 => ?_⟩, fun h2 => ⟨fun h3 => ⟨by omega, ?_⟩, fun h3 => ?_⟩⟩,
    fun h1 => ⟨fun h2 => ⟨by omega, fun h3 => ⟨by omega, ?_⟩, fun h3 => ?_⟩, fun h2 => ⟨fun h3 => ⟨by omega, ?_⟩, fun h3 => ?_⟩⟩⟩
  · exact tab _ (by kernel_rfl) _ _ (x / 4294967296 / 65536 / 256) x (by omega) (by omega) (by omega) (by omega)
  · exact tab _ (by kernel_rfl) _ _ (x / 4294967296 / 65536) x (by omega) (by omega) (by omega) (by omega)
  · exact tab _ (by kernel_rfl) _ _ (x / 4294967296 / 256) x (by omega) (by omega) (by omega) (by omega)
  · exact tab _ (by kernel_rfl) _ _ (x / 4294967296) x (by omega) (by omega) (by omega) (by omega)
  · exact tab _ (by kernel_rfl) _ _ (x / 65536 / 256) x (by omega) (by omega) (by omega) (by omega)
  · exact tab _ (by kernel_rfl) _ _ (x / 65536) x (by omega) (by omega) (by omega) (by omega)
  · exact tab _ (by kernel_rfl) _ _ (x / 256) x (by omega) (by omega) (by omega) (by omega)
  · exact tab0 _ (by kernel_rfl) _ x x (by omega) (by omega) (by omega)

theorem deg (x : Nat) (M : Mem) (hx : x < 18446744073709551616) :
    Meets Proofs.Try.prog 106 [.v (.int .u64 (x : Int))] M fun r _ _ => r = .v (.int .i64 ((sz x : Nat) - 1 : Int)) := by
  refine Meets.of_body [0,2] Proofs.Try.func106 rfl (by kernel_rfl) rfl fun w => ?_
  simp only [Proofs.Try.f106, shs, zts, sos, sls, zss, eqs, sx, sb1, sb2, sb3, sb4, sb5, sb6, sb7, ↓reduceIte, Nat.reduceAdd, Nat.reduceMul, Nat.reduceDiv, Nat.reduceEqDiff, Nat.reduceLT, Nat.reduceLeDiff, reduceCtorEq, Int.reduceEq, Int.reduceNe, Int.reduceLT, Int.reduceLE, Int.reduceAdd, Int.reduceSub, Int.reduceMul, Int.reduceNeg, Int.reduceToNat, Int.cast_ofNat_Int, Int.natCast_zero, Int.natCast_one, Int.toNat_natCast, Nat.reduceBEq, inK, lo, hi]
  refine CallK.pure ⟨rfl, rfl⟩ rfl (len64 x M hx) ?_
  have : sz x ≤ 64 := sz_le.2 hx
  simp only [shs, zts, sos, sls, zss, eqs, sx, sb1, sb2, sb3, sb4, sb5, sb6, sb7, ↓reduceIte, Nat.reduceAdd, Nat.reduceMul, Nat.reduceDiv, Nat.reduceEqDiff, Nat.reduceLT, Nat.reduceLeDiff, reduceCtorEq, Int.reduceEq, Int.reduceNe, Int.reduceLT, Int.reduceLE, Int.reduceAdd, Int.reduceSub, Int.reduceMul, Int.reduceNeg, Int.reduceToNat, Int.cast_ofNat_Int, Int.natCast_zero, Int.natCast_one, Int.toNat_natCast, Nat.reduceBEq, inK, lo, hi]
  omega

theorem pw (s : Nat) : (2 : Int) ^ s = ((2 ^ s : Nat) : Int) := by simp
theorem mw (a s : Nat) : (a : Int) * 2 ^ s = ((a * 2 ^ s : Nat) : Int) := by simp
theorem dw (a s : Nat) : (a : Int) / 2 ^ s = ((a / 2 ^ s : Nat) : Int) := by simp
theorem mwc (a s : Nat) : (a : Int) * ((2 ^ s : Nat) : Int) = ((a * 2 ^ s : Nat) : Int) := by simp
theorem b64 : ((IntKind.i64.bits : Nat) : Int) = 64 := rfl
theorem b64u : ((IntKind.u64.bits : Nat) : Int) = 64 := rfl
theorem uw {a : Nat} (h : a < 18446744073709551616) : IntKind.u64.wrap (a : Int) = (a : Int) := wrap_in (k := .u64) ⟨by simp only [lo]; omega, by simp only [hi]; omega⟩
theorem iw {a : Nat} (h : a < 9223372036854775808) : IntKind.i64.wrap (a : Int) = (a : Int) := wrap_in (k := .i64) ⟨by simp only [lo]; omega, by simp only [hi]; omega⟩
theorem orw {x y : Nat} (hx : x < 18446744073709551616) (hy : y < 18446744073709551616) : orV .u64 (x : Int) (y : Int) = ((x ||| y : Nat) : Int) := by
  show IntKind.u64.wrap ((BitVec.ofInt 64 (x : Int) ||| BitVec.ofInt 64 (y : Int)).toNat : Int) = _
  have hl := Nat.or_lt_two_pow (n := 64) hx hy
  rw [BitVec.toNat_or, toNat_ofInt _ _ (by omega) (by omega), toNat_ofInt _ _ (by omega) (by omega), Int.toNat_natCast, Int.toNat_natCast]
  exact uw hl
theorem sz31 {a : Nat} (h : a ≤ 2147483647) : sz a ≤ 31 := sz_le.2 (by omega)
theorem p31 {i : Nat} (h : i ≤ 31) : 2 ^ i ≤ 2147483648 := Nat.pow_le_pow_right (n := 2) (by omega) h
theorem sz_mulp_le {a b n m : Nat} (h1 : sz a ≤ n) (h2 : sz b ≤ m) : sz (mulp a b) ≤ n + m := by
  by_cases ha : a = 0
  · subst ha; rw [mulp_zero]; simp [sz_zero]
  by_cases hb : b = 0
  · subst hb; rw [mulp_zero_right]; simp [sz_zero]
  have := sz_mulp ha hb
  omega
theorem mulp_step (a b i : Nat) : mulp (b % 2 ^ (i + 1)) a = mulp (b % 2 ^ i) a ^^^ (if b / 2 ^ i % 2 = 1 then a * 2 ^ i else 0) := by
  rw [mod_succ, mulp_xor, Nat.testBit_eq_decide_div_mod_eq]
  by_cases h : b / 2 ^ i % 2 = 1
  · simp only [h, decide_true, if_true, mulp_pow1]
  · simp only [h, decide_false, Bool.false_eq_true, if_false, mulp_zero]
theorem sz_mod (b i : Nat) : sz (b % 2 ^ i) ≤ i := sz_le.2 (Nat.mod_lt _ (Nat.two_pow_pos i))

theorem times (a b : Nat) (M : Mem) (ha : a ≤ 2147483647) (hb : b ≤ 2147483647) :
    Meets Proofs.Try.prog 66 [.v (.int .i64 (a : Int)), .v (.int .i64 (b : Int))] M fun r _ _ => r = .v (.int .u64 ((mulp a b : Nat) : Int)) := by
  refine Meets.of_body [0,1,4,5,6,10,17] Proofs.Try.func66 rfl (by kernel_rfl) rfl fun w => ?_
  simp only [Proofs.Try.f66, shs, zts, sos, sls, zss, eqs, sx, sb1, sb2, sb3, sb4, sb5, sb6, sb7, ↓reduceIte, Nat.reduceAdd, Nat.reduceMul, Nat.reduceDiv, Nat.reduceEqDiff, Nat.reduceLT, Nat.reduceLeDiff, reduceCtorEq, Int.reduceEq, Int.reduceNe, Int.reduceLT, Int.reduceLE, Int.reduceAdd, Int.reduceSub, Int.reduceMul, Int.reduceNeg, Int.reduceToNat, Int.cast_ofNat_Int, Int.natCast_zero, Int.natCast_one, Int.toNat_natCast, Nat.reduceBEq]
  refine LoopK.go (X := Nat) (fun i => ([(0, true, .v (.int .i64 a)), (1, true, .v (.int .i64 b)), (5, true, .v (.int .u64 ((mulp (b % 2 ^ i) a : Nat) : Int))), (6, true, .v (.int .i64 i))], [], M))
    (fun i => i ≤ sz b) (fun i => sz b - i) 0 (Nat.zero_le _) (Ent.of ?_) ?_
  · simp only [sx, sb1, sb2, sb3, sb4, sb5, sb6, sb7, ↓reduceIte, Nat.reduceAdd, Nat.reduceMul, Nat.reduceDiv, Nat.reduceEqDiff, Nat.reduceLT, Nat.reduceLeDiff, reduceCtorEq, Int.reduceEq, Int.reduceNe, Int.reduceLT, Int.reduceLE, Int.reduceAdd, Int.reduceSub, Int.reduceMul, Int.reduceNeg, Int.reduceToNat, Int.cast_ofNat_Int, Int.natCast_zero, Int.natCast_one, Int.toNat_natCast, Nat.reduceBEq, Nat.pow_zero, Nat.mod_one, mulp_zero]
  intro i hi'
  have hs := sz31 hb
  have h1 : mulp (b % 2 ^ i) a < 2 ^ 62 := sz_le.1 (Nat.le_trans (sz_mulp_le (sz_mod b i) (sz31 ha)) (by omega))
  have h2 : a * 2 ^ i ≤ 2147483647 * 2147483648 := Nat.mul_le_mul ha (p31 (by omega))
  have h3 : b / 2 ^ i ≤ b := Nat.div_le_self _ _
  have h4 := mulp_step a b i
  simp only [shs, zts, sos, sls, zss, eqs, sx, sb1, sb2, sb3, sb4, sb5, sb6, sb7, ↓reduceIte, Nat.reduceAdd, Nat.reduceMul, Nat.reduceDiv, Nat.reduceEqDiff, Nat.reduceLT, Nat.reduceLeDiff, reduceCtorEq, Int.reduceEq, Int.reduceNe, Int.reduceLT, Int.reduceLE, Int.reduceAdd, Int.reduceSub, Int.reduceMul, Int.reduceNeg, Int.reduceToNat, Int.cast_ofNat_Int, Int.natCast_zero, Int.natCast_one, Int.toNat_natCast, Nat.reduceBEq, inK, lo, hi, b64, b64u, uw (show a < 18446744073709551616 by omega), mw, dw, Nat.and_one_is_mod]
  refine ⟨by omega, fun h5 => ?_, fun h5 => ?_⟩
  · have h6 : i < sz b := lt_sz.2 (by
      rcases Nat.lt_or_ge b (2 ^ i) with h | h
      · rw [Nat.div_eq_of_lt h] at h5; omega
      · exact h)
    refine ⟨by omega, by omega, fun h7 => ⟨(fun h => by cases h), by omega, by omega, by omega, i + 1, ⟨by omega, by omega⟩, Ent.of ?_⟩, fun h7 => ⟨by omega, i + 1, ⟨by omega, by omega⟩, Ent.of ?_⟩⟩
    · rw [if_pos (by omega)] at h4
      simp only [sx, sb1, sb2, sb3, sb4, sb5, sb6, sb7, ↓reduceIte, Nat.reduceAdd, Nat.reduceMul, Nat.reduceDiv, Nat.reduceEqDiff, Nat.reduceLT, Nat.reduceLeDiff, reduceCtorEq, Int.reduceEq, Int.reduceNe, Int.reduceLT, Int.reduceLE, Int.reduceAdd, Int.reduceSub, Int.reduceMul, Int.reduceNeg, Int.reduceToNat, Int.cast_ofNat_Int, Int.natCast_zero, Int.natCast_one, Int.toNat_natCast, Nat.reduceBEq, h4, Int.natCast_add]
    · rw [if_neg (by omega), Nat.xor_zero] at h4
      simp only [sx, sb1, sb2, sb3, sb4, sb5, sb6, sb7, ↓reduceIte, Nat.reduceAdd, Nat.reduceMul, Nat.reduceDiv, Nat.reduceEqDiff, Nat.reduceLT, Nat.reduceLeDiff, reduceCtorEq, Int.reduceEq, Int.reduceNe, Int.reduceLT, Int.reduceLE, Int.reduceAdd, Int.reduceSub, Int.reduceMul, Int.reduceNeg, Int.reduceToNat, Int.cast_ofNat_Int, Int.natCast_zero, Int.natCast_one, Int.toNat_natCast, Nat.reduceBEq, h4, Int.natCast_add]
  · have h6 : b < 2 ^ i := by
      rcases Nat.lt_or_ge b (2 ^ i) with h | h
      · exact h
      · have := Nat.div_pos h (Nat.two_pow_pos i)
        omega
    rw [Nat.mod_eq_of_lt h6, mulp_comm]

theorem over (a b : Nat) (M : Mem) (ha : a < 18446744073709551616) (hb : b ≤ 2147483647) (hb0 : b ≠ 0) :
    Meets Proofs.Try.prog 96 [.v (.int .u64 (a : Int)), .v (.int .i64 (b : Int))] M fun r _ _ => r = .tup [.v (.int .u64 ((pdiv a b : Nat) : Int)), .v (.int .u64 ((pmod a b : Nat) : Int))] := by
  refine Meets.of_body [0,1,4,5,6,7,8,15] Proofs.Try.func96 rfl (by kernel_rfl) rfl fun w => ?_
  have hb' : b < 18446744073709551616 := by omega
  have hsb := sz_pos.2 hb0
  simp only [Proofs.Try.f96, shs, zts, sos, sls, zss, eqs, sx, sb1, sb2, sb3, sb4, sb5, sb6, sb7, ↓reduceIte, Nat.reduceAdd, Nat.reduceMul, Nat.reduceDiv, Nat.reduceEqDiff, Nat.reduceLT, Nat.reduceLeDiff, reduceCtorEq, Int.reduceEq, Int.reduceNe, Int.reduceLT, Int.reduceLE, Int.reduceAdd, Int.reduceSub, Int.reduceMul, Int.reduceNeg, Int.reduceToNat, Int.cast_ofNat_Int, Int.natCast_zero, Int.natCast_one, Int.toNat_natCast, Nat.reduceBEq, uw hb']
  refine ⟨(fun h => by cases h), ?_⟩
  refine CallK.pure ⟨rfl, rfl⟩ rfl (deg b M hb') ?_
  simp only [shs, zts, sos, sls, zss, eqs, sx, sb1, sb2, sb3, sb4, sb5, sb6, sb7, ↓reduceIte, Nat.reduceAdd, Nat.reduceMul, Nat.reduceDiv, Nat.reduceEqDiff, Nat.reduceLT, Nat.reduceLeDiff, reduceCtorEq, Int.reduceEq, Int.reduceNe, Int.reduceLT, Int.reduceLE, Int.reduceAdd, Int.reduceSub, Int.reduceMul, Int.reduceNeg, Int.reduceToNat, Int.cast_ofNat_Int, Int.natCast_zero, Int.natCast_one, Int.toNat_natCast, Nat.reduceBEq]
  refine LoopK.go (X := Nat × Nat) (fun p => ([(0, true, .v (.int .u64 (p.2 : Int))), (1, true, .v (.int .i64 b)), (6, true, .v (.int .u64 (p.1 : Int))), (7, true, .v (.int .i64 ((sz b : Nat) - 1 : Int)))], [], M))
    (fun p => ((a = mulp p.1 b ^^^ p.2 ∧ ∀ j, j + sz b ≤ sz p.2 → p.1.testBit j = false) ∧ p.2 < 2 ^ 64) ∧ p.1 < 2 ^ 64) (fun p => sz p.2) (0, a) ⟨⟨⟨by rw [mulp_zero, Nat.zero_xor], fun j _ => Nat.zero_testBit j⟩, ha⟩, Nat.two_pow_pos 64⟩ (Ent.of ?_) ?_
  · simp only [sx, sb1, sb2, sb3, sb4, sb5, sb6, sb7, ↓reduceIte, Nat.reduceAdd, Nat.reduceMul, Nat.reduceDiv, Nat.reduceEqDiff, Nat.reduceLT, Nat.reduceLeDiff, reduceCtorEq, Int.reduceEq, Int.reduceNe, Int.reduceLT, Int.reduceLE, Int.reduceAdd, Int.reduceSub, Int.reduceMul, Int.reduceNeg, Int.reduceToNat, Int.cast_ofNat_Int, Int.natCast_zero, Int.natCast_one, Int.toNat_natCast, Nat.reduceBEq]
  rintro ⟨q, x⟩ ⟨⟨⟨h1, h2⟩, h3⟩, h4⟩
  simp only at h1 h2 h3 h4
  have h3' : x < 18446744073709551616 := h3
  have h4' : q < 18446744073709551616 := h4
  have hsx : sz x ≤ 64 := sz_le.2 h3
  simp only [shs, zts, sos, sls, zss, eqs, sx, sb1, sb2, sb3, sb4, sb5, sb6, sb7, ↓reduceIte, Nat.reduceAdd, Nat.reduceMul, Nat.reduceDiv, Nat.reduceEqDiff, Nat.reduceLT, Nat.reduceLeDiff, reduceCtorEq, Int.reduceEq, Int.reduceNe, Int.reduceLT, Int.reduceLE, Int.reduceAdd, Int.reduceSub, Int.reduceMul, Int.reduceNeg, Int.reduceToNat, Int.cast_ofNat_Int, Int.natCast_zero, Int.natCast_one, Int.toNat_natCast, Nat.reduceBEq]
  refine CallK.pure ⟨rfl, rfl⟩ rfl (deg x M h3') ?_
  simp only [shs, zts, sos, sls, zss, eqs, sx, sb1, sb2, sb3, sb4, sb5, sb6, sb7, ↓reduceIte, Nat.reduceAdd, Nat.reduceMul, Nat.reduceDiv, Nat.reduceEqDiff, Nat.reduceLT, Nat.reduceLeDiff, reduceCtorEq, Int.reduceEq, Int.reduceNe, Int.reduceLT, Int.reduceLE, Int.reduceAdd, Int.reduceSub, Int.reduceMul, Int.reduceNeg, Int.reduceToNat, Int.cast_ofNat_Int, Int.natCast_zero, Int.natCast_one, Int.toNat_natCast, Nat.reduceBEq]
  refine ⟨fun h5 => ?_, fun h5 => ?_⟩
  · refine CallK.pure ⟨rfl, rfl⟩ rfl (deg x M h3') ?_
    have hs : (sz x : Int) - 1 - ((sz b : Int) - 1) = ((sz x - sz b : Nat) : Int) := by omega
    have h6 : 2 ^ (sz x - sz b) < 2 ^ 64 := Nat.pow_lt_pow_right (by omega) (by omega)
    have h6' : 2 ^ (sz x - sz b) < 18446744073709551616 := h6
    have h7 : sz (b * 2 ^ (sz x - sz b)) = sz x := by rw [sz_mul_pow hb0]; omega
    have h8 : b * 2 ^ (sz x - sz b) < 2 ^ 64 := sz_le.1 (by omega)
    have h9 := sz_step hb0 (show sz b ≤ sz x by omega)
    have h10 := h2 (sz x - sz b) (by omega)
    have h11 : (0 : Int) ≤ ((2 ^ (sz x - sz b) : Nat) : Int) ∧ ((2 ^ (sz x - sz b) : Nat) : Int) ≤ 18446744073709551615 := by
      clear h10 h9 h8 h7 h6 hs
      generalize 2 ^ (sz x - sz b) = P at h6' ⊢
      omega
    simp only [shs, zts, sos, sls, zss, eqs, sx, sb1, sb2, sb3, sb4, sb5, sb6, sb7, ↓reduceIte, Nat.reduceAdd, Nat.reduceMul, Nat.reduceDiv, Nat.reduceEqDiff, Nat.reduceLT, Nat.reduceLeDiff, reduceCtorEq, Int.reduceEq, Int.reduceNe, Int.reduceLT, Int.reduceLE, Int.reduceAdd, Int.reduceSub, Int.reduceMul, Int.reduceNeg, Int.reduceToNat, Int.cast_ofNat_Int, Int.natCast_zero, Int.natCast_one, Int.toNat_natCast, Nat.reduceBEq, inK, lo, hi, hs, pw, mwc, Int.one_mul, b64, b64u, uw hb', orw h4' h6', or_pow h10]
    refine ⟨by omega, ⟨by omega, h11⟩, (fun h => by cases h), by omega, by omega, (q ^^^ 2 ^ (sz x - sz b), x ^^^ b * 2 ^ (sz x - sz b)), ⟨⟨⟨⟨?_, fun j hj => ?_⟩, Nat.xor_lt_two_pow h3 h8⟩, Nat.xor_lt_two_pow h4 h6⟩, h9⟩, Ent.of ?_⟩
    · simp only
      rw [mulp_xor, mulp_pow1]
      conv => lhs; rw [h1]
      rw [show mulp q b ^^^ b * 2 ^ (sz x - sz b) ^^^ (x ^^^ b * 2 ^ (sz x - sz b)) = (mulp q b ^^^ x) ^^^ (b * 2 ^ (sz x - sz b) ^^^ b * 2 ^ (sz x - sz b)) by ac_rfl, Nat.xor_self, Nat.xor_zero]
    · simp only at hj ⊢
      rw [testBit_flip, if_neg (by omega)]
      exact h2 j (by omega)
    · simp only [sx, sb1, sb2, sb3, sb4, sb5, sb6, sb7, ↓reduceIte, Nat.reduceAdd, Nat.reduceMul, Nat.reduceDiv, Nat.reduceEqDiff, Nat.reduceLT, Nat.reduceLeDiff, reduceCtorEq, Int.reduceEq, Int.reduceNe, Int.reduceLT, Int.reduceLE, Int.reduceAdd, Int.reduceSub, Int.reduceMul, Int.reduceNeg, Int.reduceToNat, Int.cast_ofNat_Int, Int.natCast_zero, Int.natCast_one, Int.toNat_natCast, Nat.reduceBEq]
  · obtain ⟨e1, e2⟩ := divmod_uniq h1 (show sz x < sz b by omega)
    rw [e1, e2]

/-! ### the exported functions -/
def bad (a : Int) : Prop := a < 0 ∨ 2147483647 < a
instance (a : Int) : Decidable (bad a) := inferInstanceAs (Decidable (_ ∨ _))
def er (a : Int) : Int := if a < 0 ∨ 2147483647 < a then 1 else 0
theorem er_bad {a : Int} (h : a < 0 ∨ 2147483647 < a) : er a = 1 := if_pos h
theorem er_ok {a : Int} (h : ¬ (a < 0 ∨ 2147483647 < a)) : er a = 0 := if_neg h
theorem check (a : Int) (M : Mem) : Meets Proofs.Try.prog 95 [.v (.int .i64 a)] M fun r _ _ => r = .v (.int .i64 (er a)) := by
  refine Meets.of_body [0,2,8] Proofs.Try.func95 rfl (by kernel_rfl) rfl fun w => ?_
  simp only [Proofs.Try.f95, shs, zts, sos, sls, zss, eqs, sx, sb1, sb2, sb3, sb4, sb5, sb6, sb7, ↓reduceIte, Nat.reduceAdd, Nat.reduceMul, Nat.reduceDiv, Nat.reduceEqDiff, Nat.reduceLT, Nat.reduceLeDiff, reduceCtorEq, Int.reduceEq, Int.reduceNe, Int.reduceLT, Int.reduceLE, Int.reduceAdd, Int.reduceSub, Int.reduceMul, Int.reduceNeg, Int.reduceToNat, Int.cast_ofNat_Int, Int.natCast_zero, Int.natCast_one, Int.toNat_natCast, Nat.reduceBEq]
  refine ⟨fun h => ?_, fun h => ?_⟩
  · rw [er_bad (by omega)]
  · rw [er_ok (by omega)]
def er2 (a b : Int) : Int := if a < 0 ∨ 2147483647 < a then 1 else er b
theorem two (a b : Int) (M : Mem) : Meets Proofs.Try.prog 65 [.v (.int .i64 a), .v (.int .i64 b)] M fun r _ _ => r = .v (.int .i64 (er2 a b)) := by
  refine Meets.of_body [0,1,4,5,9] Proofs.Try.func65 rfl (by kernel_rfl) rfl fun w => ?_
  simp only [Proofs.Try.f65, shs, zts, sos, sls, zss, eqs, sx, sb1, sb2, sb3, sb4, sb5, sb6, sb7, ↓reduceIte, Nat.reduceAdd, Nat.reduceMul, Nat.reduceDiv, Nat.reduceEqDiff, Nat.reduceLT, Nat.reduceLeDiff, reduceCtorEq, Int.reduceEq, Int.reduceNe, Int.reduceLT, Int.reduceLE, Int.reduceAdd, Int.reduceSub, Int.reduceMul, Int.reduceNeg, Int.reduceToNat, Int.cast_ofNat_Int, Int.natCast_zero, Int.natCast_one, Int.toNat_natCast, Nat.reduceBEq]
  refine CallK.pure ⟨rfl, rfl⟩ rfl (check a M) ?_
  simp only [shs, zts, sos, sls, zss, eqs, sx, sb1, sb2, sb3, sb4, sb5, sb6, sb7, ↓reduceIte, Nat.reduceAdd, Nat.reduceMul, Nat.reduceDiv, Nat.reduceEqDiff, Nat.reduceLT, Nat.reduceLeDiff, reduceCtorEq, Int.reduceEq, Int.reduceNe, Int.reduceLT, Int.reduceLE, Int.reduceAdd, Int.reduceSub, Int.reduceMul, Int.reduceNeg, Int.reduceToNat, Int.cast_ofNat_Int, Int.natCast_zero, Int.natCast_one, Int.toNat_natCast, Nat.reduceBEq, er2]
  by_cases h : a < 0 ∨ 2147483647 < a
  · simp only [er_bad h, if_pos h, sx, sb1, sb2, sb3, sb4, sb5, sb6, sb7, ↓reduceIte, Nat.reduceAdd, Nat.reduceMul, Nat.reduceDiv, Nat.reduceEqDiff, Nat.reduceLT, Nat.reduceLeDiff, reduceCtorEq, Int.reduceEq, Int.reduceNe, Int.reduceLT, Int.reduceLE, Int.reduceAdd, Int.reduceSub, Int.reduceMul, Int.reduceNeg, Int.reduceToNat, Int.cast_ofNat_Int, Int.natCast_zero, Int.natCast_one, Int.toNat_natCast, Nat.reduceBEq]
  · simp only [er_ok h, if_neg h, sx, sb1, sb2, sb3, sb4, sb5, sb6, sb7, ↓reduceIte, Nat.reduceAdd, Nat.reduceMul, Nat.reduceDiv, Nat.reduceEqDiff, Nat.reduceLT, Nat.reduceLeDiff, reduceCtorEq, Int.reduceEq, Int.reduceNe, Int.reduceLT, Int.reduceLE, Int.reduceAdd, Int.reduceSub, Int.reduceMul, Int.reduceNeg, Int.reduceToNat, Int.cast_ofNat_Int, Int.natCast_zero, Int.natCast_one, Int.toNat_natCast, Nat.reduceBEq]
    refine CallK.pure ⟨rfl, rfl⟩ rfl (check b M) ?_
    simp only [shs, zts, sos, sls, zss, eqs, sx, sb1, sb2, sb3, sb4, sb5, sb6, sb7, ↓reduceIte, Nat.reduceAdd, Nat.reduceMul, Nat.reduceDiv, Nat.reduceEqDiff, Nat.reduceLT, Nat.reduceLeDiff, reduceCtorEq, Int.reduceEq, Int.reduceNe, Int.reduceLT, Int.reduceLE, Int.reduceAdd, Int.reduceSub, Int.reduceMul, Int.reduceNeg, Int.reduceToNat, Int.cast_ofNat_Int, Int.natCast_zero, Int.natCast_one, Int.toNat_natCast, Nat.reduceBEq]
theorem er2_ok {a b : Nat} (ha : a ≤ 2147483647) (hb : b ≤ 2147483647) : er2 a b = 0 := by
  unfold er2; rw [if_neg (by omega), er_ok (by omega)]
/-- what Mul returns -/
def mulV (a b : Nat) : SV := if mulp a b ≤ 2147483647 then .tup [.v (.int .i64 ((mulp a b : Nat) : Int)), .v (.int .i64 0)] else .tup [.v (.int .i64 0), .v (.int .i64 2)]
theorem mulp_62 {a b : Nat} (ha : a ≤ 2147483647) (hb : b ≤ 2147483647) : mulp a b < 4611686018427387904 := sz_le.1 (Nat.le_trans (sz_mulp_le (sz31 ha) (sz31 hb)) (show 31 + 31 ≤ 62 by omega))
theorem Mul (a b : Nat) (M : Mem) (ha : a ≤ 2147483647) (hb : b ≤ 2147483647) : Meets Proofs.Try.prog 28 [.v (.int .i64 (a : Int)), .v (.int .i64 (b : Int))] M fun r _ _ => r = mulV a b := by
  refine Meets.of_body [0,1,4,5,6,7,12,18] Proofs.Try.func28 rfl (by kernel_rfl) rfl fun w => ?_
  have hm := mulp_62 ha hb
  simp only [Proofs.Try.f28, shs, zts, sos, sls, zss, eqs, sx, sb1, sb2, sb3, sb4, sb5, sb6, sb7, ↓reduceIte, Nat.reduceAdd, Nat.reduceMul, Nat.reduceDiv, Nat.reduceEqDiff, Nat.reduceLT, Nat.reduceLeDiff, reduceCtorEq, Int.reduceEq, Int.reduceNe, Int.reduceLT, Int.reduceLE, Int.reduceAdd, Int.reduceSub, Int.reduceMul, Int.reduceNeg, Int.reduceToNat, Int.cast_ofNat_Int, Int.natCast_zero, Int.natCast_one, Int.toNat_natCast, Nat.reduceBEq]
  refine CallK.pure ⟨rfl, rfl⟩ rfl (two a b M) ?_
  simp only [shs, zts, sos, sls, zss, eqs, sx, sb1, sb2, sb3, sb4, sb5, sb6, sb7, ↓reduceIte, Nat.reduceAdd, Nat.reduceMul, Nat.reduceDiv, Nat.reduceEqDiff, Nat.reduceLT, Nat.reduceLeDiff, reduceCtorEq, Int.reduceEq, Int.reduceNe, Int.reduceLT, Int.reduceLE, Int.reduceAdd, Int.reduceSub, Int.reduceMul, Int.reduceNeg, Int.reduceToNat, Int.cast_ofNat_Int, Int.natCast_zero, Int.natCast_one, Int.toNat_natCast, Nat.reduceBEq, er2_ok ha hb]
  refine CallK.pure ⟨rfl, rfl⟩ rfl (times a b M ha hb) ?_
  simp only [shs, zts, sos, sls, zss, eqs, sx, sb1, sb2, sb3, sb4, sb5, sb6, sb7, ↓reduceIte, Nat.reduceAdd, Nat.reduceMul, Nat.reduceDiv, Nat.reduceEqDiff, Nat.reduceLT, Nat.reduceLeDiff, reduceCtorEq, Int.reduceEq, Int.reduceNe, Int.reduceLT, Int.reduceLE, Int.reduceAdd, Int.reduceSub, Int.reduceMul, Int.reduceNeg, Int.reduceToNat, Int.cast_ofNat_Int, Int.natCast_zero, Int.natCast_one, Int.toNat_natCast, Nat.reduceBEq, iw (show mulp a b < 9223372036854775808 by omega), mulV]
  refine ⟨fun h => ?_, fun h => ⟨(fun h => by cases h), ?_⟩⟩
  · rw [if_neg (by omega)]
  · rw [if_pos (by omega)]
/-! ### greatest common divisors -/
end Go.X.Pl

namespace Go.X.Rp
open Go Go.X Go.X.Pol Go.X.Pl

def pe : List Int → Int
  | [] => 0
  | a :: l => if a < 0 ∨ 2147483647 < a then 1 else pe l

theorem drop_at {α : Type} {l : List α} {i : Nat} (h : i < l.length) : ∃ x, l[i]? = some x ∧ l.drop i = x :: l.drop (i + 1) :=
  ⟨_, List.getElem?_eq_getElem h, List.drop_eq_getElem_cons h⟩

theorem i64N {x : Nat} (h : x ≤ 9223372036854775807) : (-9223372036854775808 : Int) ≤ (x : Int) ∧ (x : Int) ≤ 9223372036854775807 := by omega

theorem pre {M : Mem} {v : Value} {sz k : Nat} {es : List (List Value)} (h : RowM M v sz es) (hk : k ≤ es.length) : RowM M (subV v sz 0 k) sz (es.take k) := by
  have := h.sub (Nat.zero_le k) hk
  simpa using this
/-! ### greatest common divisors -/
end Go.X.Rp

namespace Go.X.Mv
open Go Go.X Go.X.Pol Go.X.Pl Go.X.Rp Go.X.Pd Go.X.Md

theorem p30 {m : Nat} (hm : m ≤ 2147483647) : 2 ^ (sz m - 1) ≤ 1073741824 := Nat.pow_le_pow_right (n := 2) (j := 30) (by omega) (by have := sz31 hm; omega)
theorem red_lt {m x : Nat} (h0 : m ≠ 0) : pmod x m < 2 ^ (sz m - 1) := sz_le.1 (by have := (divmod (a := x) h0).2; omega)
theorem red_le {m x : Nat} (h0 : m ≠ 0) (hm : m ≤ 2147483647) : pmod x m ≤ 1073741824 := Nat.le_trans (Nat.le_of_lt (red_lt h0)) (p30 hm)
end Go.X.Mv

