/- Parameters that are slices of structs, as known rows. Conditions: none. -/
import Derived.Test.YtkhadbanpfngnaaLift
import Derived.Deep.Slices
import Derived.Lib.SmallJoins
set_option linter.unusedSimpArgs false
set_option linter.unusedVariables false
set_option maxHeartbeats 4000000
set_option maxRecDepth 20000
namespace Go.X
open Go Go.RowKit Go.ChangeShapes Go.WideShapes

theorem list_of {α : Type} {Q : Nat → α → Prop} : ∀ (n : Nat), (∀ i, i < n → ∃ x, Q i x) → ∃ l : List α, l.length = n ∧ ∀ i x, l[i]? = some x → Q i x
  | 0, _ => ⟨[], rfl, fun i x h => by simp at h⟩
  | n + 1, h => by
    obtain ⟨l, h1, h2⟩ := list_of n (fun i hi => h i (by omega))
    obtain ⟨x, hx⟩ := h n (by omega)
    refine ⟨l ++ [x], by simp [h1], fun i y hy => ?_⟩
    rcases Nat.lt_or_ge i l.length with hi | hi
    · rw [List.getElem?_append_left hi] at hy
      exact h2 i y hy
    · rw [List.getElem?_append_right hi] at hy
      have h0 : i - l.length = 0 := by
        rcases Nat.eq_zero_or_pos (i - l.length) with h0 | h0
        · exact h0
        · rw [List.getElem?_eq_none (by simp; omega)] at hy; cases hy
      rw [h0] at hy
      simp only [List.getElem?_cons_zero, Option.some.injEq] at hy
      subst hy
      rwa [show i = n by omega]

section
variable {H : Type} {enc : TypeId × Value → H} {P : Program} {W : World} {spare : Nat → Bool} {held : Bool}

theorem steps_rowM {t e : TypeId} {fuel : Nat} {v : Option Addr} {ml cap : Nat} {f0 f1 : Field} {x : DataW H × List MemPlace} (ht : P.underlying t = some (.slice e)) (he : P.underlying e = some (.struct #[f0, f1]))
    (o0 : f0.offset = 0) (o1 : f1.offset = 1) (hb : P.underlying f0.type = some .bool) (hi : P.underlying f1.type = some (.int .i64)) (c0 : P.cellsOf f0.type = 1) (c1 : P.cellsOf f1.type = 1) (ce : P.cellsOf e = 2)
    (h : DataW.trod enc P W 0 spare held fuel t [.slice v ml cap] = some x) :
    ∃ l : List (Bool × Int), RowM (fun b => W.heap[b]?) (.slice v ml cap) 2 (l.map fun s => [.bool s.1, .int .i64 s.2]) ∧ ∀ s ∈ l, inK .i64 s.2 := by
  rcases Go.Deep.open_slice ht h with ⟨hcs, _⟩ | ⟨a, len, cp, m, n, D, Pl, hcs, _, hl, hm, hmm, _, hel⟩
  · simp only [List.cons.injEq, and_true, Value.slice.injEq] at hcs
    obtain ⟨rfl, rfl, rfl⟩ := hcs
    exact ⟨[], RowM.nil _ _, fun s hs => by simp at hs⟩
  · simp only [List.cons.injEq, and_true, Value.slice.injEq] at hcs
    obtain ⟨rfl, rfl, rfl⟩ := hcs
    have hlm : ml ≤ m := by rw [hmm]; split <;> omega
    obtain ⟨l, h1, h2⟩ := list_of (Q := fun i (s : Bool × Int) => (W.cell? (a.add (i * 2 + 0)) = some (.bool s.1) ∧ W.cell? (a.add (i * 2 + 1)) = some (.int .i64 s.2)) ∧ inK .i64 s.2) ml (fun i hil => by
      obtain ⟨cs', hc, htr⟩ := hel i (by omega)
      rw [ce] at hc
      obtain ⟨xs, n', _, _, hlen, _, hf⟩ := DataW.trod_struct he htr
      rw [ce] at hlen
      obtain ⟨_, _, hat⟩ := World.cells?_some hc
      have hf0 := hf 0 f0 rfl
      have hf1 := hf 1 f1 rfl
      rw [o0, c0] at hf0
      rw [o1, c1] at hf1
      obtain ⟨u0, u1, rfl⟩ : ∃ u0 u1, cs' = [u0, u1] := by
        match cs', hlen with
        | [u0, u1], _ => exact ⟨u0, u1, rfl⟩
      have hx0 : xs[0]? = some (xs[0]'(by simp_all)) := List.getElem?_eq_getElem _
      have hx1 : xs[1]? = some (xs[1]'(by simp_all)) := List.getElem?_eq_getElem _
      obtain ⟨b, hb1, _⟩ := DataW.trod_bool hb (hf0.trans hx0)
      obtain ⟨z, hz1, _, hz2⟩ := DataW.trod_int hi (hf1.trans hx1)
      simp at hb1 hz1
      subst hb1 hz1
      refine ⟨(b, z), ⟨?_, ?_⟩, wf_i64 hz2⟩
      · have := hat 0 (by omega)
        rw [← Go.Deep.add_add]
        simpa using this
      · have := hat 1 (by omega)
        rw [← Go.Deep.add_add]
        simpa using this)
    refine ⟨l, ⟨⟨rfl, by simp only [lenV, List.length_map]; omega, hl, hm⟩, fun _ => rfl, fun i e' he' => ?_⟩, fun s hs => ?_⟩
    · rw [List.getElem?_map, Option.map_eq_some_iff] at he'
      obtain ⟨s, hs, rfl⟩ := he'
      obtain ⟨⟨g0, g1⟩, _⟩ := h2 i s hs
      refine ⟨rfl, fun j u hu => ?_⟩
      match j with
      | 0 =>
        simp only [List.getElem?_cons_zero, Option.some.injEq] at hu
        subst hu
        exact ⟨by simp only [cellE, cellM_heap]; exact g0, rfl⟩
      | 1 =>
        simp only [List.getElem?_cons_succ, List.getElem?_cons_zero, Option.some.injEq] at hu
        subst hu
        exact ⟨by simp only [cellE, cellM_heap]; exact g1, rfl⟩
      | j + 2 => simp at hu
    · obtain ⟨i, hi⟩ := List.mem_iff_getElem?.1 hs
      exact (h2 i s hi).2

theorem rowM_of {α : Type} {E : α → List Value} {ok : α → Prop} {t e : TypeId} {fuel w : Nat} {v : Option Addr} {ml cap : Nat} {x : DataW H × List MemPlace} (ht : P.underlying t = some (.slice e)) (ce : P.cellsOf e = w) (hE : ∀ a u, u ∈ E a → u.oneCell' = true)
    (hQ : ∀ n cs y, cs.length = w → DataW.trod enc P W 0 spare held n e cs = some y → ∃ a, cs = E a ∧ ok a)
    (h : DataW.trod enc P W 0 spare held fuel t [.slice v ml cap] = some x) :
    ∃ l : List α, RowM (fun b => W.heap[b]?) (.slice v ml cap) w (l.map E) ∧ ∀ s ∈ l, ok s := by
  rcases Go.Deep.open_slice ht h with ⟨hcs, _⟩ | ⟨a, len, cp, m, n, D, Pl, hcs, _, hl, hm, hmm, _, hel⟩
  · simp only [List.cons.injEq, and_true, Value.slice.injEq] at hcs
    obtain ⟨rfl, rfl, rfl⟩ := hcs
    exact ⟨[], RowM.nil _ _, fun s hs => by simp at hs⟩
  · simp only [List.cons.injEq, and_true, Value.slice.injEq] at hcs
    obtain ⟨rfl, rfl, rfl⟩ := hcs
    have hlm : ml ≤ m := by rw [hmm]; split <;> omega
    obtain ⟨l, h1, h2⟩ := list_of (Q := fun i (s : α) => ((E s).length = w ∧ ∀ j u, (E s)[j]? = some u → W.cell? (a.add (i * w + j)) = some u) ∧ ok s) ml (fun i hil => by
      obtain ⟨cs', hc, htr⟩ := hel i (by omega)
      rw [ce] at hc
      obtain ⟨_, hlen, hat⟩ := World.cells?_some hc
      obtain ⟨b, rfl, hb⟩ := hQ _ _ _ hlen htr
      refine ⟨b, ⟨hlen, fun j u hu => ?_⟩, hb⟩
      have hj := (List.getElem?_eq_some_iff.1 hu).1
      have := hat j (by omega)
      rw [← Go.Deep.add_add, this, hu])
    refine ⟨l, ⟨⟨rfl, by simp only [lenV, List.length_map]; omega, hl, hm⟩, fun _ => rfl, fun i e' he' => ?_⟩, fun s hs => ?_⟩
    · rw [List.getElem?_map, Option.map_eq_some_iff] at he'
      obtain ⟨s, hs, rfl⟩ := he'
      obtain ⟨⟨g0, g1⟩, _⟩ := h2 i s hs
      refine ⟨g0, fun j u hu => ?_⟩
      have := g1 j u hu
      exact ⟨by simp only [cellE, cellM_heap]; exact this, hE s u (List.mem_of_getElem? hu)⟩
    · obtain ⟨i, hi⟩ := List.mem_iff_getElem?.1 hs
      exact (h2 i s hi).2

theorem trod_i64 {t : TypeId} {n : Nat} {c : Value} {y : DataW H × List MemPlace} (ht : P.underlying t = some (.int .i64)) (h : DataW.trod enc P W 0 spare held n t [c] = some y) : ∃ a, c = .int .i64 a ∧ inK .i64 a := by
  obtain ⟨z, hz1, _, hz2⟩ := DataW.trod_int ht h
  simp at hz1
  exact ⟨z, hz1, wf_i64 hz2⟩

theorem el_pair {e : TypeId} {f0 f1 : Field} (he : P.underlying e = some (.struct #[f0, f1])) (h1 : Go.Deep.oneCellFields P #[f0, f1] = true) (hi0 : P.underlying f0.type = some (.int .i64)) (hi1 : P.underlying f1.type = some (.int .i64))
    (n : Nat) (cs : List Value) (y : DataW H × List MemPlace) (hlen : cs.length = 2) (h : DataW.trod enc P W 0 spare held n e cs = some y) : ∃ a : Int × Int, cs = [.int .i64 a.1, .int .i64 a.2] ∧ (inK .i64 a.1 ∧ inK .i64 a.2) := by
  obtain ⟨y0, y1, n', _, _, h0, h1'⟩ := trod_struct2 he h
  obtain ⟨u0, u1, rfl⟩ : ∃ u0 u1, cs = [u0, u1] := by
    match cs, hlen with
    | [u0, u1], _ => exact ⟨u0, u1, rfl⟩
  obtain ⟨o0, k0⟩ := Go.Deep.hone_of h1 0 f0 rfl
  obtain ⟨o1, k1⟩ := Go.Deep.hone_of h1 1 f1 rfl
  rw [o0, k0] at h0
  rw [o1, k1] at h1'
  obtain ⟨a, rfl, ha⟩ := trod_i64 hi0 h0
  obtain ⟨b, rfl, hb⟩ := trod_i64 hi1 h1'
  exact ⟨(a, b), rfl, ha, hb⟩
end
end Go.X
