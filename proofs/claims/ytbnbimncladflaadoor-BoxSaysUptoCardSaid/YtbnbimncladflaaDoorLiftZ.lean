/- Parameters of any shape, read as lists and tuples, no longer than memory reaches. Conditions: none. -/
import Derived.Test.YtbnbimncladflaaDoorLift
import Derived.Deep.Slices
import Derived.Lib.SmallJoins
import Derived.WideShapes
import Derived.SizedLaws
set_option linter.unusedSimpArgs false
set_option linter.unusedVariables false
set_option maxHeartbeats 4000000
set_option maxRecDepth 20000
namespace Go.X
open Go Go.RowKit Go.ChangeShapes Go.WideShapes

theorem list_of {α : Type} {Q : Nat → α → Prop} : ∀ (n : Nat), (∀ i, i < n → ∃ x, Q i x) → ∃ l : List α, l.length = n ∧ ∀ i x, l[i]? = some x → Q i x
  | 0, _ => ⟨[], rfl, fun i x h => by simp at h⟩
  | n + 1, h => by
    obtain ⟨l, h1, h2⟩ := list_of n (fun i hi => h i (by omega))
    obtain ⟨x, hx⟩ := h n (by omega)
    refine ⟨l ++ [x], by simp [h1], fun i y hy => ?_⟩
    rcases Nat.lt_or_ge i l.length with hi | hi
    · rw [List.getElem?_append_left hi] at hy
      exact h2 i y hy
    · rw [List.getElem?_append_right hi] at hy
      have h0 : i - l.length = 0 := by
        rcases Nat.eq_zero_or_pos (i - l.length) with h0 | h0
        · exact h0
        · rw [List.getElem?_eq_none (by simp; omega)] at hy; cases hy
      rw [h0] at hy
      simp only [List.getElem?_cons_zero, Option.some.injEq] at hy
      subst hy
      rwa [show i = n by omega]

def fits {H : Type} (P : Program) (t : TypeId) (d : DataW H) : Prop := ∀ n ∈ d.weights P t, n ≤ reachBytes
theorem weightsAll_mem {H : Type} {P : Program} {e : TypeId} : ∀ {l : List (DataW H)} {d : DataW H}, d ∈ l → ∀ n ∈ d.weights P e, n ∈ DataW.weightsAll P e l
  | d0 :: l, d, h, n, hn => by
    simp only [DataW.weightsAll, List.mem_append]
    rcases List.mem_cons.1 h with rfl | h
    · exact .inl hn
    · exact .inr (weightsAll_mem h n hn)
/-- the cells of type t are read as α -/
structure Rd (P : Program) (W : World) (t : TypeId) (w : Nat) {α : Type} (E : α → List Value) (ok : α → Prop) : Prop where
  size : P.cellsOf t = w
  len : ∀ a, (E a).length = w
  one : ∀ a, ok a → ∀ u ∈ E a, u.oneCell' = true
  rd : ∀ {H : Type} {enc : TypeId × Value → H} {spare : Nat → Bool} {held : Bool} {n : Nat} {cs : List Value} {y : DataW H × List MemPlace}, DataW.trod enc P W 0 spare held n t cs = some y → fits P t y.1 → ∃ a, cs = E a ∧ ok a
structure RdF (P : Program) (W : World) (fs : List Field) (off w : Nat) {α : Type} (E : α → List Value) (ok : α → Prop) : Prop where
  len : ∀ a, (E a).length = w
  one : ∀ a, ok a → ∀ u ∈ E a, u.oneCell' = true
  rd : ∀ {H : Type} {enc : TypeId × Value → H} {spare : Nat → Bool} {held : Bool} {n : Nat} {cs : List Value}, cs.length = off + w → (∀ f ∈ fs, ∃ y, DataW.trod enc P W 0 spare held n f.type ((cs.drop f.offset).take (P.cellsOf f.type)) = some y ∧ fits P f.type y.1) → ∃ a, cs.drop off = E a ∧ ok a

section
variable {P : Program} {W : World} {t e w off w1 w2 : Nat} {α β : Type} {E : α → List Value} {ok : α → Prop} {E2 : β → List Value} {ok2 : β → Prop}

theorem Rd.int (ht : P.underlying t = some (.int .i64)) (hc : P.cellsOf t = 1) : Rd P W t 1 (fun a : Int => [.int .i64 a]) (fun a => inK .i64 a) where
  size := hc
  len := fun _ => rfl
  one := fun a _ u hu => by simp at hu; subst hu; rfl
  rd := fun h hf => by
    obtain ⟨z, hz1, _, hz2⟩ := DataW.trod_int ht h
    exact ⟨z, hz1, wf_i64 hz2⟩
theorem Rd.bool (ht : P.underlying t = some .bool) (hc : P.cellsOf t = 1) : Rd P W t 1 (fun a : Bool => [.bool a]) (fun _ => True) where
  size := hc
  len := fun _ => rfl
  one := fun a _ u hu => by simp at hu; subst hu; rfl
  rd := fun h hf => by
    obtain ⟨b, hb1, _⟩ := DataW.trod_bool ht h
    exact ⟨b, hb1, trivial⟩
theorem Rd.str (ht : P.underlying t = some .string) (hc : P.cellsOf t = 1) : Rd P W t 1 (fun a : List UInt8 => [.string ⟨a.toArray⟩]) (fun a => a.length ≤ reachBytes) where
  size := hc
  len := fun _ => rfl
  one := fun a _ u hu => by simp at hu; subst hu; rfl
  rd := fun h hf => by
    obtain ⟨s, h1, h3, h2⟩ := DataW.trod_string ht h
    exact ⟨bl s, by rw [h1]; exact congrArg (fun x => [Value.string x]) (B_bl s).symm, by
      subst h3
      exact hf (bl s).length (by simp [DataW.weights, bl])⟩

theorem Rd.slice {bt : Nat} (ht : P.underlying t = some (.slice e)) (hc : P.cellsOf t = 1) (hb : P.bytesOf e = bt) (hE : Rd P W e w E ok) :
    Rd P W t 1 (fun a : Value × List α => [a.1]) (fun a => RowM (fun b => W.heap[b]?) a.1 w (a.2.map E) ∧ a.2.length * bt ≤ reachBytes ∧ ∀ x ∈ a.2, ok x) where
  size := hc
  len := fun _ => rfl
  one := fun a h u hu => by
    simp at hu
    subst hu
    have := h.1.sl
    cases hv : a.1 <;> rw [hv] at this <;> first | rfl | cases this
  rd := fun {H enc spare held n cs y} h hfit => by
    rcases Go.Deep.open_slice ht h with ⟨hcs, _⟩ | ⟨a, len, cp, m, n, D, Pl, hcs, _, hl, hm, hmm, hy, hel⟩
    · exact ⟨(.slice none 0 0, []), hcs, RowM.nil _ _, by simp, fun s hs => by simp at hs⟩
    · subst hy
      have hfit' : ((len + (m - len)) * bt ≤ reachBytes) ∧ ∀ i, i < len → fits P e (D i) := by
        unfold fits at hfit
        simp only [DataW.weights, ht, List.length_map, List.length_range, hb] at hfit
        exact ⟨hfit _ List.mem_cons_self, fun i hi n hn => hfit n (List.mem_cons_of_mem _ (List.mem_append_left _ (weightsAll_mem (List.mem_map.2 ⟨i, List.mem_range.2 hi, rfl⟩) n hn)))⟩
      have hlm : len ≤ m := by rw [hmm]; split <;> omega
      obtain ⟨l, h1, h2⟩ := list_of (Q := fun i (s : α) => ((E s).length = w ∧ ∀ j u, (E s)[j]? = some u → W.cell? (a.add (i * w + j)) = some u) ∧ ok s) len (fun i hil => by
        obtain ⟨cs', hc, htr⟩ := hel i (by omega)
        rw [hE.size] at hc
        obtain ⟨_, hlen, hat⟩ := World.cells?_some hc
        obtain ⟨b, rfl, hb⟩ := hE.rd htr (hfit'.2 i hil)
        refine ⟨b, ⟨hlen, fun j u hu => ?_⟩, hb⟩
        have hj := (List.getElem?_eq_some_iff.1 hu).1
        have := hat j (by omega)
        rw [← Go.Deep.add_add, this, hu])
      refine ⟨(.slice (some a) len cp, l), hcs, ⟨⟨rfl, by simp only [lenV, List.length_map]; omega, hl, hm⟩, fun _ => rfl, fun i e' he' => ?_⟩, by simp only; rw [h1]; exact Nat.le_trans (Nat.mul_le_mul_right _ (by omega)) hfit'.1, fun s hs => ?_⟩
      · rw [List.getElem?_map, Option.map_eq_some_iff] at he'
        obtain ⟨s, hs, rfl⟩ := he'
        obtain ⟨⟨g0, g1⟩, gk⟩ := h2 i s hs
        refine ⟨g0, fun j u hu => ?_⟩
        have := g1 j u hu
        exact ⟨by simp only [cellE, cellM_heap]; exact this, hE.one s gk u (List.mem_of_getElem? hu)⟩
      · obtain ⟨i, hi⟩ := List.mem_iff_getElem?.1 hs
        exact (h2 i s hi).2

theorem RdF.last {f : Field} (h : Rd P W f.type w E ok) (ho : f.offset = off) : RdF P W [f] off w E ok where
  len := h.len
  one := h.one
  rd := fun hl hf => by
    obtain ⟨y, hy, hw⟩ := hf f (by simp)
    rw [h.size, ho, List.take_of_length_le (by rw [List.length_drop]; omega)] at hy
    exact h.rd hy hw
theorem RdF.cons {f : Field} {fs : List Field} (h : Rd P W f.type w1 E ok) (ho : f.offset = off) (r : RdF P W fs (off + w1) w2 E2 ok2) :
    RdF P W (f :: fs) off (w1 + w2) (fun a : α × β => E a.1 ++ E2 a.2) (fun a => ok a.1 ∧ ok2 a.2) where
  len := fun a => by rw [List.length_append, h.len, r.len]
  one := fun a ha u hu => by
    rcases List.mem_append.1 hu with hu | hu
    · exact h.one _ ha.1 u hu
    · exact r.one _ ha.2 u hu
  rd := fun {H enc spare held n cs} hl hf => by
    obtain ⟨y, hy, hw⟩ := hf f (by simp)
    rw [h.size, ho] at hy
    obtain ⟨a, ha, oka⟩ := h.rd hy hw
    obtain ⟨b, hb, okb⟩ := r.rd (by omega) (fun g hg => hf g (List.mem_cons_of_mem _ hg))
    refine ⟨(a, b), ?_, oka, okb⟩
    simp only
    rw [← ha, ← hb, ← List.drop_drop, List.take_append_drop]
theorem Rd.struct {fs : Array Field} (ht : P.underlying t = some (.struct fs)) (hc : P.cellsOf t = w) (r : RdF P W fs.toList 0 w E ok) : Rd P W t w E ok where
  size := hc
  len := r.len
  one := r.one
  rd := fun {H enc spare held n cs y} h hfit => by
    obtain ⟨xs, n', _, hy, hl, hlen, hf⟩ := DataW.trod_struct ht h
    subst hy
    obtain ⟨a, ha, hk⟩ := r.rd (H := H) (enc := enc) (spare := spare) (held := held) (n := n') (cs := cs) (by omega) (fun f hm => by
      obtain ⟨i, hi⟩ := List.mem_iff_getElem?.1 hm
      have hi' : fs[i]? = some f := by simpa using hi
      have hx := hf i f hi'
      have hil : i < xs.length := by
        have := (List.getElem?_eq_some_iff.1 hi).1
        simp at this
        omega
      refine ⟨xs[i], by rw [hx, List.getElem?_eq_getElem hil], fun n hn => hfit n ?_⟩
      simp only [DataW.weights, ht]
      exact DataW.weights_mem_each (j := i) (by rw [List.getElem?_map, hi]; rfl) (by rw [List.getElem?_map, List.getElem?_eq_getElem hil]; rfl) n hn)
    exact ⟨a, by simpa using ha, hk⟩

theorem Rd.top_struct {H : Type} {enc : TypeId × Value → H} {spare : Nat → Bool} {held : Bool} {r : Reach} {b0 : Nat} {v : Value} {d : DataW H} {ps : List MemPlace} {fs : Array Field} (h : Rd P W t w E ok) (ht : P.underlying t = some (.struct fs)) (hv : Value.okWide P W r b0 t v)
    (hd : DataW.Trod enc P W 0 spare held t v d ps) (hw : fits P t d) : ∃ a, v = .agg (E a).toArray ∧ ok a := by
  obtain ⟨cs, rfl, _⟩ := okWide_struct ht hv
  obtain ⟨fuel, hf⟩ := hd
  obtain ⟨a, ha, hk⟩ := h.rd hf hw
  refine ⟨a, ?_, hk⟩
  rw [← ha]
  simp [Value.cells]
theorem Rd.top_slice {H : Type} {enc : TypeId × Value → H} {spare : Nat → Bool} {held : Bool} {r : Reach} {b0 : Nat} {v : Value} {d : DataW H} {ps : List MemPlace} {ok : Value × List α → Prop} (h : Rd P W t 1 (fun a : Value × List α => [a.1]) ok) (ht : P.underlying t = some (.slice e)) (hv : Value.okWide P W r b0 t v)
    (hd : DataW.Trod enc P W 0 spare held t v d ps) (hw : fits P t d) : ∃ a : Value × List α, v = a.1 ∧ ok a := by
  obtain ⟨a, n, c, rfl⟩ := okWide_slice ht hv
  obtain ⟨fuel, hf⟩ := hd
  obtain ⟨a, ha, hk⟩ := h.rd hf hw
  refine ⟨a, ?_, hk⟩
  simpa [Value.cells] using ha
theorem fits_of {H : Type} {ts : List TypeId} {ds : List (DataW H)} (h : (DataW.weightsEach P ts ds).all (· ≤ reachBytes) = true) (j : Nat) {d : DataW H} (ht : ts[j]? = some t) (hd : ds[j]? = some d) : fits P t d := fun n hn => by
  have := List.all_eq_true.1 h n (DataW.weights_mem_each ht hd n hn)
  simpa using this
end
theorem str_fits {H : Type} {P : Program} {t : TypeId} {l : List UInt8} (h : fits (H := H) P t (.lit (.string l))) : l.length ≤ reachBytes := h l.length (by simp [DataW.weights])
end Go.X
