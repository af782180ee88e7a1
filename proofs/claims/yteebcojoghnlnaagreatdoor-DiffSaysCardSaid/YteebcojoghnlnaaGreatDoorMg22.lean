/- Contracts of functions and the logic that they are proved in (4 texts in one). Conditions: none. -/
import Derived.Test.YteebcojoghnlnaaGreatDoorMg16
import Derived.Test.YteebcojoghnlnaaGreatDoorMg13
import Derived.Test.YteebcojoghnlnaaGreatDoorMg21
import Derived.Test.YteebcojoghnlnaaGreatDoorMg19
namespace Go.X.Bg
end Go.X.Bg
namespace Go.X.Nm
end Go.X.Nm
namespace Go.X.Bp
end Go.X.Bp
namespace Go.X.Sb
end Go.X.Sb
set_option linter.unusedSimpArgs false
set_option linter.unusedVariables false
set_option maxHeartbeats 4000000
set_option maxRecDepth 20000
namespace Go.X.Vo
open Go Go.X Go.RowKit Go.X.Bg Go.X.Nm Go.X.Bp Go.X.Sb

abbrev Txt := List UInt8
/-- what stands in a block: nothing, or a text -/
def obs (bag : List It) (id : Id3) : Option Txt := if id.1 = true then some (txtId bag id) else none
/-- the blocks of a volume of a name -/
def lookV (A : St) (n : Txt) : Option (List (Option Txt)) := if volIx A.2 n < 0 then none else some ((blks A.2 n).map (obs A.1))
theorem txt_it {bag : List It} (h : Dk bag) {id : Id3} (h1 : id.1 = true) {x : It} (hx : itK bag id.2 = some x) : txtId bag id = x.2.2.1 := by
  unfold txtId
  rcases idIx_cases h id h1 with ⟨_, k2⟩ | ⟨j, y, k1, k2, _, k4⟩
  · rw [k2] at hx; cases hx
  · rw [k4] at hx
    cases hx
    rw [show fidx (isId id) bag 0 = (j : Int) from k1, Int.toNat_natCast, k2]
    rfl
theorem obs_hole (bag : List It) : obs bag hole = none := rfl
theorem txt_less {bag : List It} (h : bagE bag = 0) {y id : Id3} (h1 : id.1 = true) (h2 : itK (lessId bag y) id.2 ≠ none) : txtId (lessId bag y) id = txtId bag id := by
  cases hy1 : y.1 with
  | false => rw [less_hole hy1]
  | true =>
    have hd := dk_of h
    have hd' := dk_of (bagE_lessId h y)
    cases hy : itK bag y.2 with
    | none =>
      have : lessG bag y = ([], 4) := by
        unfold lessG
        rcases idIx_cases hd y hy1 with ⟨k1, _⟩ | ⟨j, x, _, _, _, k4⟩
        · rw [if_pos k1]
        · rw [k4] at hy; cases hy
      have e : lessId bag y = [] := by unfold lessId; rw [if_pos hy1, this]
      rw [e] at h2
      exact absurd rfl h2
    | some z =>
      have hi := itK_less hd hy1 hy id.2
      by_cases hk : id.2 = y.2
      · rw [if_pos hk] at hi
        by_cases h0 : z.2.2.2 - 1 = 0
        · rw [if_pos h0] at hi; exact absurd hi h2
        · rw [if_neg h0] at hi
          rw [txt_it hd' h1 hi, txt_it hd h1 (by rw [hk]; exact hy)]
      · rw [if_neg hk] at hi
        cases hx : itK bag id.2 with
        | none => rw [hi] at h2; exact absurd hx h2
        | some x =>
          rw [hx] at hi
          rw [txt_it hd' h1 hi, txt_it hd h1 hx]
theorem txt_put {bag bag' : List It} {s : Txt} {i id : Id3} (h : bagE bag = 0) (hp : PutR bag s bag' i) (h1 : id.1 = true) (h2 : itK bag id.2 ≠ none) : txtId bag' id = txtId bag id := by
  have hd := dk_of h
  have hd' := dk_of hp.ok
  have hi := hp.itk id.2
  cases hx : itK bag id.2 with
  | none => exact absurd hx h2
  | some x =>
    by_cases hk : id.2 = i.2
    · rw [if_pos hk] at hi
      rw [txt_it hd' h1 hi, txt_it hd h1 hx]
      exact (hp.txt x (by rw [← hk]; exact hx)).symm
    · rw [if_neg hk, hx] at hi
      rw [txt_it hd' h1 hi, txt_it hd h1 hx]
theorem txt_new {bag bag' : List It} {s : Txt} {i : Id3} (hp : PutR bag s bag' i) : txtId bag' i = s := by
  have hi := hp.itk i.2
  rw [if_pos rfl] at hi
  exact txt_it (dk_of hp.ok) hp.is hi
/-! ### volumes by names -/
theorem names_ne {l : List Vol} (hs : l.Pairwise fun a b => Op.bytesLess a.1 b.1 = true) {i j : Nat} {x y : Vol} (hi : l[i]? = some x) (hj : l[j]? = some y) (e : x.1 = y.1) : i = j := by
  have hil := (List.getElem?_eq_some_iff.1 hi).1
  have hjl := (List.getElem?_eq_some_iff.1 hj).1
  have ex : l[i] = x := (List.getElem?_eq_some_iff.1 hi).2
  have ey : l[j] = y := (List.getElem?_eq_some_iff.1 hj).2
  rcases Nat.lt_trichotomy i j with hlt | heq | hlt
  · have := List.pairwise_iff_getElem.1 hs i j hil hjl hlt
    rw [ex, ey, e, less_irr] at this
    cases this
  · exact heq
  · have := List.pairwise_iff_getElem.1 hs j i hjl hil hlt
    rw [ex, ey, e, less_irr] at this
    cases this
/-- what is looked up, by membership -/
theorem look_mem {bag : List It} {l : List Vol} (hs : l.Pairwise fun a b => Op.bytesLess a.1 b.1 = true) {x : Vol} (hx : x ∈ l) : lookV (bag, l) x.1 = some (x.2.map (obs bag)) := by
  obtain ⟨j, hj⟩ := List.mem_iff_getElem?.1 hx
  unfold lookV
  rcases volIx_sp l x.1 with ⟨_, k2⟩ | ⟨i, y, k1, k2, k3⟩
  · exact absurd rfl (k2 x hx)
  · rw [if_neg (by rw [k1]; omega), blks_at k1 k2]
    have := names_ne hs k2 hj k3
    subst this
    rw [hj] at k2
    cases k2
    rfl
theorem look_none {bag : List It} {l : List Vol} {n : Txt} (h : ∀ x ∈ l, x.1 ≠ n) : lookV (bag, l) n = none := by
  unfold lookV
  rcases volIx_sp l n with ⟨k1, _⟩ | ⟨i, y, _, k2, k3⟩
  · simp only [k1]
    rfl
  · exact absurd k3 (h y (List.mem_of_getElem? k2))
theorem look_some {A : St} {n : Txt} {X : List (Option Txt)} (h : lookV A n = some X) : ∃ (i : Nat) (x : Vol), volIx A.2 n = (i : Int) ∧ A.2[i]? = some x ∧ x.1 = n ∧ x.2.map (obs A.1) = X := by
  unfold lookV at h
  split at h
  · cases h
  · rename_i h1
    obtain ⟨j, x, e, hx, hn⟩ := volIx_get h1
    rw [blks_at e hx] at h
    exact ⟨j, x, e, hx, hn, Option.some.inj h⟩
theorem look_get {A : St} {n : Txt} {i : Nat} {x : Vol} (e : volIx A.2 n = (i : Int)) (hx : A.2[i]? = some x) : lookV A n = some (x.2.map (obs A.1)) := by
  unfold lookV
  rw [if_neg (by rw [e]; omega), blks_at e hx]
/-- .. of two states with the volumes of names alike -/
theorem look_ext {bag bag' : List It} {l l' : List Vol} (hs : l.Pairwise fun a b => Op.bytesLess a.1 b.1 = true) (hs' : l'.Pairwise fun a b => Op.bytesLess a.1 b.1 = true) {m : Txt}
    (h1 : ∀ x ∈ l, x.1 = m → ∃ y ∈ l', y.1 = m ∧ y.2.map (obs bag') = x.2.map (obs bag)) (h2 : ∀ y ∈ l', y.1 = m → ∃ x ∈ l, x.1 = m) : lookV (bag', l') m = lookV (bag, l) m := by
  by_cases h : ∃ x ∈ l, x.1 = m
  · obtain ⟨x, hx, e⟩ := h
    obtain ⟨y, hy, e2, e3⟩ := h1 x hx e
    subst e
    rw [look_mem hs hx, ← e2, look_mem hs' hy, e3]
  · rw [look_none (fun x hx e => h ⟨x, hx, e⟩), look_none (fun y hy e => h (h2 y hy e))]
theorem look_setV {bag bag' : List It} {l : List Vol} (hs : l.Pairwise fun a b => Op.bytesLess a.1 b.1 = true) {i a : Nat} {x : Vol} (hx : l[i]? = some x) (ha : a < x.2.length) (id : Id3)
    (hc : ∀ v ∈ setV l i a id, ∀ q ∈ v.2, q = id ∨ q.1 = true → q = id ∨ txtId bag' q = txtId bag q) (hid : ∀ v ∈ l, id ∈ v.2 → obs bag' id = obs bag id) (m : Txt) :
    lookV (bag', setV l i a id) m = if m = x.1 then some ((x.2.map (obs bag)).set a (obs bag' id)) else lookV (bag, l) m := by
  have hs' := srt_names (setV_names hx (a := a) (id := id)) hs
  have hil := (List.getElem?_eq_some_iff.1 hx).1
  have hmem : (x.1, x.2.set a id) ∈ setV l i a id := by
    rw [setV_at hx]
    exact List.mem_of_getElem? (List.getElem?_set_self hil)
  have hob : ∀ v ∈ setV l i a id, ∀ q ∈ v.2, q ≠ id → obs bag' q = obs bag q := fun v hv q hq hne => by
    unfold obs
    by_cases h1 : q.1 = true
    · rw [if_pos h1, if_pos h1, (hc v hv q hq (.inr h1)).resolve_left hne]
    · rw [if_neg h1, if_neg h1]
  by_cases hm : m = x.1
  · rw [if_pos hm, hm, show x.1 = ((x.1, x.2.set a id) : Vol).1 from rfl, look_mem hs' hmem]
    congr 1
    apply List.ext_getElem?
    intro j
    rw [List.getElem?_map, List.getElem?_set, List.getElem?_set, List.length_map, List.getElem?_map]
    by_cases hj : a = j
    · subst hj
      rw [if_pos rfl, if_pos rfl, if_pos ha, if_pos ha]
      rfl
    · rw [if_neg hj, if_neg hj]
      cases hy : x.2[j]? with
      | none => rfl
      | some y =>
        simp only [Option.map_some, Option.some.injEq]
        by_cases he : y = id
        · rw [he]
          exact hid x (List.mem_of_getElem? hx) (by rw [← he]; exact List.mem_of_getElem? hy)
        · refine hob _ hmem y ?_ he
          show y ∈ x.2.set a id
          exact List.mem_of_getElem? (by rw [List.getElem?_set_ne hj]; exact hy)
  · rw [if_neg hm]
    refine look_ext hs hs' (fun v hv e => ?_) (fun y hy e => ?_)
    · obtain ⟨j, hj⟩ := List.mem_iff_getElem?.1 hv
      have hji : j ≠ i := fun e2 => by
        subst e2
        rw [hx] at hj
        cases hj
        exact hm e.symm
      have hv' : v ∈ setV l i a id := by
        rw [setV_at hx]
        exact List.mem_of_getElem? (i := j) (by rw [List.getElem?_set_ne (fun e => hji e.symm)]; exact hj)
      refine ⟨v, hv', e, List.map_congr_left fun q hq => ?_⟩
      by_cases he : q = id
      · rw [he]; exact hid v hv (by rw [← he]; exact hq)
      · exact hob v hv' q hq he
    · obtain ⟨u, hu, e1, _⟩ := setV_vol hx hy
      exact ⟨u, hu, by rw [← e1]; exact e⟩
theorem look_trim {bag : List It} {l : List Vol} (h : Rt bag l) {i a : Nat} {x : Vol} {y : Id3} (hx : l[i]? = some x) (hy : x.2[a]? = some y) (m : Txt) :
    lookV (lessId bag y, setV l i a hole) m = if m = x.1 then some ((x.2.map (obs bag)).set a none) else lookV (bag, l) m := by
  have ht := rt_trim h hx hy
  have := look_setV (bag := bag) (bag' := lessId bag y) h.srt hx (List.getElem?_eq_some_iff.1 hy).1 hole (fun v hv q hq hc => ?_) (fun v hv hq => rfl) m
  · rw [obs_hole] at this; exact this
  · rcases hc with hc | hc
    · exact .inl hc
    · exact .inr (txt_less h.ok hc (ht.it (mem_ids.2 ⟨v, hv, hq⟩) hc))
theorem look_put {bag bag' : List It} {l : List Vol} (h : Rt bag l) {i a : Nat} {x : Vol} {s : Txt} {id : Id3} (hx : l[i]? = some x) (hy : x.2[a]? = some hole) (hp : PutR bag s bag' id) (m : Txt) :
    lookV (bag', setV l i a id) m = if m = x.1 then some ((x.2.map (obs bag)).set a (some s)) else lookV (bag, l) m := by
  have := look_setV (bag := bag) (bag' := bag') h.srt hx (List.getElem?_eq_some_iff.1 hy).1 id (fun v hv q hq hc => ?_) (fun v hv hq => ?_) m
  · have e : obs bag' id = some s := by unfold obs; rw [if_pos hp.is, txt_new hp]
    rw [e] at this
    exact this
  · rcases mem_setV hx (mem_ids.2 ⟨v, hv, hq⟩) with he | hm
    · exact .inl he
    · rcases hc with hc | hc
      · exact .inl hc
      · exact .inr (txt_put h.ok hp hc (h.it hm hc))
  · unfold obs
    rw [if_pos hp.is, if_pos hp.is, txt_put h.ok hp hp.is (h.it (mem_ids.2 ⟨v, hv, hq⟩) hp.is)]
/-! ### the answers -/
theorem pl_look {bag : List It} {l : List Vol} {n : Txt} {X : List (Option Txt)} {j : Nat} (hs : stE bag l = 0) (h : lookV (bag, l) n = some X) (hj : j < X.length) : plE bag l n (j : Int) = 0 := by
  obtain ⟨i, x, e, hx, _, hX⟩ := look_some h
  have hl : x.2.length = X.length := by rw [← hX, List.length_map]
  unfold plE
  rw [if_neg (fun h => h hs), if_neg (by rw [show volIx l n = (i : Int) from e]; omega), blks_at e hx, if_neg (by omega)]
theorem rd_look {bag : List It} {l : List Vol} {n : Txt} {X : List (Option Txt)} {j : Nat} {o : Option Txt} (hs : stE bag l = 0) (h : lookV (bag, l) n = some X) (hj : X[j]? = some o) : rdS bag l n (j : Int) = o.getD [] := by
  have hp := pl_look hs h (List.getElem?_eq_some_iff.1 hj).1
  obtain ⟨i, x, e, hx, _, hX⟩ := look_some h
  rw [← hX, List.getElem?_map, Option.map_eq_some_iff] at hj
  obtain ⟨y, hy, ho⟩ := hj
  have hr : rdId l n (j : Int) = y := by unfold rdId; rw [blks_at e hx, Int.toNat_natCast, hy]; rfl
  unfold rdS
  rw [if_pos hp, hr, ← ho]
  show _ = (obs bag y).getD []
  unfold obs
  split <;> rfl
theorem look_trimA {bag : List It} {l : List Vol} {n : Txt} {j : Nat} (h : (trimA bag l n (j : Int)).2 = 0) :
    ∃ X, lookV (bag, l) n = some X ∧ j < X.length ∧ ∀ m, lookV (trimA bag l n (j : Int)).1 m = if m = n then some (X.set j none) else lookV (bag, l) m := by
  unfold trimA at h ⊢
  by_cases h1 : plE bag l n (j : Int) = 0
  · rw [if_neg (fun h => h h1)] at h ⊢
    obtain ⟨h2, i, x, m, y, e, hx, hn, ha, hy⟩ := pl_get h1
    obtain rfl : j = m := by omega
    refine ⟨_, look_get (A := (bag, l)) e hx, by rw [List.length_map]; exact (List.getElem?_eq_some_iff.1 hy).1, fun m => ?_⟩
    rw [e, Int.toNat_natCast, Int.toNat_natCast]
    simp only [trimS, idAt_at hx hy]
    rw [look_trim (rt_of h2) hx hy, hn]
  · rw [if_pos h1] at h
    exact absurd h h1
theorem look_writeA {bag : List It} {l : List Vol} {n s : Txt} {j : Nat} (h : (writeA bag l n (j : Int) s).2 = 0) :
    ∃ X, lookV (bag, l) n = some X ∧ j < X.length ∧ ∀ m, lookV (writeA bag l n (j : Int) s).1 m = if m = n then some (X.set j (some s)) else lookV (bag, l) m := by
  unfold writeA at h ⊢
  by_cases h1 : plE bag l n (j : Int) = 0
  · rw [if_neg (fun h => h h1)] at h ⊢
    obtain ⟨h2, i, x, m, y, e, hx, hn, ha, hy⟩ := pl_get h1
    obtain rfl : j = m := by omega
    rw [e, Int.toNat_natCast, Int.toNat_natCast] at h ⊢
    unfold writeS at h ⊢
    rw [idAt_at hx hy] at h ⊢
    by_cases h3 : (putG (lessId bag y) s).2.2 = 0
    · rw [if_neg (fun h => h h3)] at h ⊢
      refine ⟨_, look_get (A := (bag, l)) e hx, by rw [List.length_map]; exact (List.getElem?_eq_some_iff.1 hy).1, fun m => ?_⟩
      have ht := rt_trim (rt_of h2) hx hy
      obtain ⟨g1, g2⟩ := setV_two hx hy hole
      have := look_put ht g1 g2 (putR ht.ok h3) m
      rw [setV_setV (List.getElem?_eq_some_iff.1 hx).1] at this
      show lookV ((putG (lessId bag y) s).1, setV l i j (putG (lessId bag y) s).2.1) m = _
      rw [this, look_trim (rt_of h2) hx hy, hn]
      have hc : ((x.1, x.2.set j hole) : Vol).2.map (obs (lessId bag y)) = (x.2.map (obs bag)).set j none := by
        have h5 := look_mem (bag := lessId bag y) ht.srt (List.mem_of_getElem? g1)
        have h6 := look_trim (rt_of h2) hx hy x.1
        rw [if_pos rfl] at h6
        have h7 : lookV (lessId bag y, setV l i j hole) ((x.1, x.2.set j hole) : Vol).1 = some ((x.2.map (obs bag)).set j none) := h6
        rw [h7] at h5
        exact (Option.some.inj h5).symm
      simp only at hc
      simp only [hc, List.set_set, hn]
      split <;> rfl
    · rw [if_pos h3] at h
      exact absurd h h3
  · rw [if_pos h1] at h
    exact absurd h h1
end Go.X.Vo

namespace Go.X.Vo
open Go Go.X Go.RowKit Go.X.Bg Go.X.Nm

theorem names_inj {ws : List WV} (h : (ws.map (·.2)).Pairwise (fun a b => Op.bytesLess a.1 b.1 = true)) {i j : Nat} {x y : WV} (hi : ws[i]? = some x) (hj : ws[j]? = some y) (e : x.2.1 = y.2.1) : i = j := by
  have hil := (List.getElem?_eq_some_iff.1 hi).1
  have hjl := (List.getElem?_eq_some_iff.1 hj).1
  have ex : ws[i] = x := (List.getElem?_eq_some_iff.1 hi).2
  have ey : ws[j] = y := (List.getElem?_eq_some_iff.1 hj).2
  rcases Nat.lt_trichotomy i j with hlt | heq | hlt
  · have := List.pairwise_iff_getElem.1 h i j (by rw [List.length_map]; omega) (by rw [List.length_map]; omega) hlt
    rw [List.getElem_map, List.getElem_map, ex, ey, e, less_irr] at this
    cases this
  · exact heq
  · have := List.pairwise_iff_getElem.1 h j i (by rw [List.length_map]; omega) (by rw [List.length_map]; omega) hlt
    rw [List.getElem_map, List.getElem_map, ex, ey, e, less_irr] at this
    cases this
/-- what the map of names holds for a name -/
theorem txt_fnd {bag : List It} {ws : List WV} {es : List (List UInt8 × Value)} {M : Mem} (h : TxtM bag ws es M) (hs : (ws.map (·.2)).Pairwise (fun a b => Op.bytesLess a.1 b.1 = true)) {j : Nat} {x : WV} (hx : ws[j]? = some x) :
    ∃ u, ((fnd x.2.1 es 0).map (·.2)).getD (.slice none 0 0) = u ∧ RowM M u 1 ((x.2.2.map (tE bag)).map encS) := by
  obtain ⟨u, h1, h2⟩ := h.2 j x hx
  rcases fnd_spec x.2.1 es 0 with ⟨_, h4⟩ | ⟨k, v, h3, h4⟩
  · exact absurd rfl (h4 _ (List.mem_of_getElem? h1))
  · have hkl : k < ws.length := by rw [← h.1]; exact (List.getElem?_eq_some_iff.1 h4).1
    obtain ⟨u2, h5, _⟩ := h.2 k ws[k] (List.getElem?_eq_getElem hkl)
    rw [h4] at h5
    have e := Option.some.inj h5
    have hkj := names_inj hs (List.getElem?_eq_getElem hkl) hx (congrArg Prod.fst e).symm
    subst hkj
    rw [h1] at h4
    have e2 := Option.some.inj h4
    refine ⟨u, ?_, h2⟩
    rw [h3]
    exact (congrArg Prod.snd e2).symm
/-- a state, as the shell of a law reads it -/
abbrev StA := (Value × List (Int × Int × List UInt8 × Int)) × (Value × List (List UInt8 × Value × List (Bool × Int × Int)))
def wsA (a : StA) : List WV := a.2.2.map fun x => (x.2.1, (x.1, x.2.2))
theorem volsA {M : Mem} {a : StA} (h : RowM M a.2.1 2 (a.2.2.map fun a => [Value.string ⟨a.1.toArray⟩] ++ [a.2.1])) (hx : ∀ x ∈ a.2.2, RowM M x.2.1 3 (x.2.2.map fun a => [Value.bool a.1] ++ ([Value.int .i64 a.2.1] ++ [Value.int .i64 a.2.2]))) : VolsM M a.2.1 (wsA a) where
  row := by
    have e : (wsA a).map encV = a.2.2.map fun a => [Value.string ⟨a.1.toArray⟩] ++ [a.2.1] := by
      unfold wsA
      rw [List.map_map]
      rfl
    rw [e]
    exact h
  blk := fun w hw => by
    obtain ⟨x, hx1, rfl⟩ := List.mem_map.1 hw
    exact hx x hx1
end Go.X.Vo

namespace Go.X.Vo
open Go Go.X Go.RowKit Go.X.Bg Go.X.Nm Go.X.Bp Go.X.Sb

theorem eqJ (x y : Value) (l m : List (Int)) (M : Mem) (hx : RowM M x 1 (l.map encI)) (hy : RowM M y 1 (m.map encI)) :
    Meets Proofs.Tryz.prog 21 [.v x, .v y] M fun r _ _ => r = .v (.bool (decide (l = m))) := by
  refine Meets.of_body [0,1,4,5,10,12,13,14,24] Proofs.Tryz.func21 rfl (by kernel_rfl) rfl fun w => ?_
  simp only [Proofs.Tryz.f21, shs, zts, sos, sls, zss, eqs, sx, sb1, sb2, sb3, sb4, sb5, sb6, sb7, ↓reduceIte, Nat.reduceAdd, Nat.reduceMul, Nat.reduceDiv, Nat.reduceEqDiff, Nat.reduceLT, Nat.reduceLeDiff, reduceCtorEq, Int.reduceEq, Int.reduceNe, Int.reduceLT, Int.reduceLE, Int.reduceAdd, Int.reduceSub, Int.reduceMul, Int.reduceNeg, Int.reduceToNat, Int.cast_ofNat_Int, Int.natCast_zero, Int.natCast_one, Int.toNat_natCast, Nat.reduceBEq, hx.len, hy.len, hx.sl, hy.sl, List.length_map]
  refine ⟨fun h => ?_, fun h => ?_⟩
  · rw [decide_eq_false (fun e => h (by rw [e]))]
  have hlen : l.length = m.length := by omega
  have hle := hx.len_le
  rw [List.length_map] at hle
  refine LoopK.go (X := Nat × Nat) (fun p => ([(0, true, .v x), (1, true, .v y), (4, true, .v (.bool false)), (12, true, .v (.int .i64 l.length)), (13, true, .v (.int .i64 p.2))], [], M))
    (fun p => p.1 + p.2 = l.length ∧ (l = m ↔ l.drop p.2 = m.drop p.2)) (fun p => p.1) (l.length, 0) ⟨rfl, Iff.rfl⟩ (Ent.of ?_) ?_
  · simp only [sx, sb1, sb2, sb3, sb4, sb5, sb6, sb7, ↓reduceIte, Nat.reduceAdd, Nat.reduceMul, Nat.reduceDiv, Nat.reduceEqDiff, Nat.reduceLT, Nat.reduceLeDiff, reduceCtorEq, Int.reduceEq, Int.reduceNe, Int.reduceLT, Int.reduceLE, Int.reduceAdd, Int.reduceSub, Int.reduceMul, Int.reduceNeg, Int.reduceToNat, Int.cast_ofNat_Int, Int.natCast_zero, Int.natCast_one, Int.toNat_natCast, Nat.reduceBEq]
  rintro ⟨f, i⟩ ⟨h1, h2⟩
  simp only at h1 h2
  simp only [shs, zts, sos, sls, zss, eqs, sx, sb1, sb2, sb3, sb4, sb5, sb6, sb7, ↓reduceIte, Nat.reduceAdd, Nat.reduceMul, Nat.reduceDiv, Nat.reduceEqDiff, Nat.reduceLT, Nat.reduceLeDiff, reduceCtorEq, Int.reduceEq, Int.reduceNe, Int.reduceLT, Int.reduceLE, Int.reduceAdd, Int.reduceSub, Int.reduceMul, Int.reduceNeg, Int.reduceToNat, Int.cast_ofNat_Int, Int.natCast_zero, Int.natCast_one, Int.toNat_natCast, Nat.reduceBEq]
  refine ⟨fun h3 => ?_, fun h3 => ?_⟩
  · obtain ⟨a0, hl, hd⟩ := l_drop_at (l := l) (i := i) (by omega)
    obtain ⟨b0, hm, hd2⟩ := l_drop_at (l := m) (i := i) (by omega)
    have g0 := hx.cell (i := i) (e := [.int .i64 a0]) (by rw [List.getElem?_map, hl]; rfl) (off := 0) (by omega)
    have k0 := hy.cell (i := i) (e := [.int .i64 b0]) (by rw [List.getElem?_map, hm]; rfl) (off := 0) (by omega)
    have i1 := hx.ix (i := (i : Int)) (by omega) (by rw [List.length_map]; omega)
    have i2 := hy.ix (i := (i : Int)) (by omega) (by rw [List.length_map]; omega)
    simp only [List.getD_cons_zero, List.getD_cons_succ] at g0 k0
    refine DrawK.quiet (by kernel_rfl) (by kernel_rfl) ?_
    simp only [shs, zts, sos, sls, zss, eqs, sx, sb1, sb2, sb3, sb4, sb5, sb6, sb7, ↓reduceIte, Nat.reduceAdd, Nat.reduceMul, Nat.reduceDiv, Nat.reduceEqDiff, Nat.reduceLT, Nat.reduceLeDiff, reduceCtorEq, Int.reduceEq, Int.reduceNe, Int.reduceLT, Int.reduceLE, Int.reduceAdd, Int.reduceSub, Int.reduceMul, Int.reduceNeg, Int.reduceToNat, Int.cast_ofNat_Int, Int.natCast_zero, Int.natCast_one, Int.toNat_natCast, Nat.reduceBEq, nzs, g0.1, g0.2.1, k0.1, k0.2.1, i1, i2, i1.2, i2.2, hx.len, hy.len, hx.sl, hy.sl, inK, lo, hi, List.toArray_eq_iff]
    refine ⟨fun hne => ?_, fun he => ⟨by omega, (f - 1, i + 1), ⟨⟨by simp only; omega, ?_⟩, by simp only; omega⟩, Ent.of ?_⟩⟩
    · rw [decide_eq_false (fun e => ?_)]
      have := h2.1 e
      rw [hd, hd2] at this
      have := (List.cons.inj this).1
      simp_all
    · have e12 : a0 = b0 := by omega
      simp only
      rw [h2, hd, hd2, e12]
      exact ⟨fun e => (List.cons.inj e).2, fun e => by rw [e]⟩
    · simp only [sx, sb1, sb2, sb3, sb4, sb5, sb6, sb7, ↓reduceIte, Nat.reduceAdd, Nat.reduceMul, Nat.reduceDiv, Nat.reduceEqDiff, Nat.reduceLT, Nat.reduceLeDiff, reduceCtorEq, Int.reduceEq, Int.reduceNe, Int.reduceLT, Int.reduceLE, Int.reduceAdd, Int.reduceSub, Int.reduceMul, Int.reduceNeg, Int.reduceToNat, Int.cast_ofNat_Int, Int.natCast_zero, Int.natCast_one, Int.toNat_natCast, Nat.reduceBEq, Int.natCast_add]
  · have : i = l.length := by omega
    rw [decide_eq_true (h2.2 (by rw [List.drop_eq_nil_of_le (by omega), List.drop_eq_nil_of_le (by omega)]))]

def encJ (k : Nat) : List Value := [.int .i64 (k : Int)]
/-- the places where two lists of ids differ -/
def dfL (x y : List Id3) (n : Nat) : List Nat := (List.range n).filter fun i => !decide (x[i]? = y[i]?)
theorem dfL_succ (x y : List Id3) (n : Nat) : dfL x y (n + 1) = dfL x y n ++ if x[n]? = y[n]? then [] else [n] := by
  unfold dfL
  rw [List.range_succ, List.filter_append]
  congr 1
  by_cases h : x[n]? = y[n]?
  · rw [if_pos h, List.filter_cons, decide_eq_true h]; rfl
  · rw [if_neg h, List.filter_cons, decide_eq_false h]; rfl
theorem dfL_len (x y : List Id3) (n : Nat) : (dfL x y n).length ≤ n := Nat.le_trans (List.length_filter_le _ _) (by rw [List.length_range]; exact Nat.le_refl _)
def diffE (bag : List It) (l : List Vol) (a b : Txt) : Int := if blkE bag l a ≠ 0 then blkE bag l a else if blkE bag l b ≠ 0 then blkE bag l b else if (blks l a).length ≠ (blks l b).length then 11 else 0
def diffL (bag : List It) (l : List Vol) (a b : Txt) : List Nat := if diffE bag l a b = 0 then dfL (blks l a) (blks l b) (blks l a).length else []
theorem blk32 {bag : List It} {l : List Vol} {n : Txt} (h : blkE bag l n = 0) : (blks l n).length ≤ 32 := by
  unfold blkE at h
  by_cases h1 : stE bag l = 0
  · rw [if_neg (fun h => h h1)] at h
    by_cases h2 : volIx l n < 0
    · rw [if_pos h2] at h; cases h
    · obtain ⟨j, x, e, hx, _⟩ := volIx_get h2
      rw [blks_at e hx]
      exact ((volsE_ok (stE_ok h1).2.1).2 x (List.mem_of_getElem? hx)).1
  · rw [if_pos h1] at h; exact absurd h h1
theorem vdiff (b v : Value) (bag : List It) (ws : List WV) (n m : Txt) (M : Mem) (hb : RowM M b 4 (bag.map Bg.encT)) (hv : VolsM M v ws) :
    Meets Proofs.Tryz.prog 16 [stV b v, .v (.string ⟨n.toArray⟩), .v (.string ⟨m.toArray⟩)] M (OwnR (fun s => .tup [s, .v (.int .i64 (diffE bag (ws.map (·.2)) n m))]) 1 ((diffL bag (ws.map (·.2)) n m).map encJ)) := by
  refine Meets.nilOr (Ctx.fst _) ?_
  refine Meets.of_body [0,1,2,3,6,7,8,9,10,11,12,20,29,35,37,38,39,49] Proofs.Tryz.func16 rfl (by kernel_rfl) rfl fun w => ?_
  have hB1 := Meets.rows (blocks b v bag ws n M hb hv)
  have hB2 : ∀ M', M.le M' → Meets _ _ _ M' _ := fun M' h => Meets.rows (blocks b v bag ws m M' (hb.le h) (hv.le h))
  generalize hL : diffL bag (ws.map (·.2)) n m = L
  generalize hE : diffE bag (ws.map (·.2)) n m = e
  unfold diffL at hL
  rw [hE] at hL
  unfold diffE at hE
  unfold blkL at hB1 hB2
  have h32 := blk32 (bag := bag) (l := ws.map (·.2)) (n := n)
  generalize blkE bag (ws.map (·.2)) n = e1 at *
  generalize blkE bag (ws.map (·.2)) m = e2 at *
  generalize blks (ws.map (·.2)) n = x at *
  generalize blks (ws.map (·.2)) m = y at *
  simp only [stV] at hB1 hB2
  simp only [Proofs.Tryz.f16, stV, shs, zts, sos, sls, zss, eqs, sx, sb1, sb2, sb3, sb4, sb5, sb6, sb7, ↓reduceIte, Nat.reduceAdd, Nat.reduceMul, Nat.reduceDiv, Nat.reduceEqDiff, Nat.reduceLT, Nat.reduceLeDiff, reduceCtorEq, Int.reduceEq, Int.reduceNe, Int.reduceLT, Int.reduceLE, Int.reduceAdd, Int.reduceSub, Int.reduceMul, Int.reduceNeg, Int.reduceToNat, Int.cast_ofNat_Int, Int.natCast_zero, Int.natCast_one, Int.toNat_natCast, Nat.reduceBEq, nzs, hb.one, hv.row.one]
  refine CallK.row (T := fun s => .tup [s, .v (.int .i64 e1)]) (Ctx.fst _) rfl rfl hB1 fun u M1 hM1 hu => ?_
  by_cases h1 : e1 = 0
  rotate_left
  · have c1 := eq_false h1
    rw [if_pos h1] at hE
    subst hE
    rw [if_neg h1] at hL
    subst hL
    simp only [shs, zts, sos, sls, zss, eqs, sx, sb1, sb2, sb3, sb4, sb5, sb6, sb7, ↓reduceIte, Nat.reduceAdd, Nat.reduceMul, Nat.reduceDiv, Nat.reduceEqDiff, Nat.reduceLT, Nat.reduceLeDiff, reduceCtorEq, Int.reduceEq, Int.reduceNe, Int.reduceLT, Int.reduceLE, Int.reduceAdd, Int.reduceSub, Int.reduceMul, Int.reduceNeg, Int.reduceToNat, Int.cast_ofNat_Int, Int.natCast_zero, Int.natCast_one, Int.toNat_natCast, Nat.reduceBEq, nzs, c1]
  subst h1
  rw [if_neg (fun h => h rfl)] at hE
  rw [if_pos rfl] at hu
  simp only [shs, zts, sos, sls, zss, eqs, sx, sb1, sb2, sb3, sb4, sb5, sb6, sb7, ↓reduceIte, Nat.reduceAdd, Nat.reduceMul, Nat.reduceDiv, Nat.reduceEqDiff, Nat.reduceLT, Nat.reduceLeDiff, reduceCtorEq, Int.reduceEq, Int.reduceNe, Int.reduceLT, Int.reduceLE, Int.reduceAdd, Int.reduceSub, Int.reduceMul, Int.reduceNeg, Int.reduceToNat, Int.cast_ofNat_Int, Int.natCast_zero, Int.natCast_one, Int.toNat_natCast, Nat.reduceBEq, nzs]
  refine CallK.row (T := fun s => .tup [s, .v (.int .i64 e2)]) (Ctx.fst _) rfl rfl (hB2 M1 hM1) fun t M2 hM2 ht => ?_
  by_cases h2 : e2 = 0
  rotate_left
  · have c2 := eq_false h2
    rw [if_pos h2] at hE
    subst hE
    rw [if_neg h2] at hL
    subst hL
    simp only [shs, zts, sos, sls, zss, eqs, sx, sb1, sb2, sb3, sb4, sb5, sb6, sb7, ↓reduceIte, Nat.reduceAdd, Nat.reduceMul, Nat.reduceDiv, Nat.reduceEqDiff, Nat.reduceLT, Nat.reduceLeDiff, reduceCtorEq, Int.reduceEq, Int.reduceNe, Int.reduceLT, Int.reduceLE, Int.reduceAdd, Int.reduceSub, Int.reduceMul, Int.reduceNeg, Int.reduceToNat, Int.cast_ofNat_Int, Int.natCast_zero, Int.natCast_one, Int.toNat_natCast, Nat.reduceBEq, nzs, c2]
  subst h2
  rw [if_neg (fun h => h rfl)] at hE
  rw [if_pos rfl] at ht
  have hu2 := hu.le hM2
  have hx32 := h32 rfl
  by_cases h3 : x.length = y.length
  rotate_left
  · have c3 : ((x.length : Int) = (y.length : Int)) = False := eq_false (by omega)
    rw [if_pos h3] at hE
    subst hE
    rw [if_neg (by decide)] at hL
    subst hL
    simp only [shs, zts, sos, sls, zss, eqs, sx, sb1, sb2, sb3, sb4, sb5, sb6, sb7, ↓reduceIte, Nat.reduceAdd, Nat.reduceMul, Nat.reduceDiv, Nat.reduceEqDiff, Nat.reduceLT, Nat.reduceLeDiff, reduceCtorEq, Int.reduceEq, Int.reduceNe, Int.reduceLT, Int.reduceLE, Int.reduceAdd, Int.reduceSub, Int.reduceMul, Int.reduceNeg, Int.reduceToNat, Int.cast_ofNat_Int, Int.natCast_zero, Int.natCast_one, Int.toNat_natCast, Nat.reduceBEq, nzs, hu2.len, hu2.sl, ht.len, ht.sl, List.length_map, c3]
  have c3 : ((x.length : Int) = (y.length : Int)) = True := eq_true (by omega)
  rw [if_neg (fun h => h h3)] at hE
  subst hE
  rw [if_pos rfl] at hL
  simp only [shs, zts, sos, sls, zss, eqs, sx, sb1, sb2, sb3, sb4, sb5, sb6, sb7, ↓reduceIte, Nat.reduceAdd, Nat.reduceMul, Nat.reduceDiv, Nat.reduceEqDiff, Nat.reduceLT, Nat.reduceLeDiff, reduceCtorEq, Int.reduceEq, Int.reduceNe, Int.reduceLT, Int.reduceLE, Int.reduceAdd, Int.reduceSub, Int.reduceMul, Int.reduceNeg, Int.reduceToNat, Int.cast_ofNat_Int, Int.natCast_zero, Int.natCast_one, Int.toNat_natCast, Nat.reduceBEq, nzs, hu2.len, hu2.sl, ht.len, ht.sl, List.length_map, c3]
  refine LoopK.nilRow 11 100 1 rfl rfl rfl (LoopK.go (X := Nat) (fun i => ([(8, true, .v u), (10, true, .v t), (11, true, .own 800), (37, true, .v (.int .i64 x.length)), (38, true, .v (.int .i64 i))], [(800, .row 1 ((dfL x y i).map encJ))], M2))
    (fun i => i ≤ x.length) (fun i => x.length - i) 0 (Nat.zero_le _) (Ent.of ?_) ?_)
  · simp only [sx, sb1, sb2, sb3, sb4, sb5, sb6, sb7, ↓reduceIte, Nat.reduceAdd, Nat.reduceMul, Nat.reduceDiv, Nat.reduceEqDiff, Nat.reduceLT, Nat.reduceLeDiff, reduceCtorEq, Int.reduceEq, Int.reduceNe, Int.reduceLT, Int.reduceLE, Int.reduceAdd, Int.reduceSub, Int.reduceMul, Int.reduceNeg, Int.reduceToNat, Int.cast_ofNat_Int, Int.natCast_zero, Int.natCast_one, Int.toNat_natCast, Nat.reduceBEq, Int.natCast_zero, dfL, List.range_zero, List.filter_nil, List.map_nil]
  intro i n1
  by_cases hil : i < x.length
  rotate_left
  · have d1 : ((i : Int) < (x.length : Int)) = False := eq_false (by omega)
    have ei : i = x.length := by omega
    subst ei
    rw [hL]
    simp only [shs, zts, sos, sls, zss, eqs, sx, sb1, sb2, sb3, sb4, sb5, sb6, sb7, ↓reduceIte, Nat.reduceAdd, Nat.reduceMul, Nat.reduceDiv, Nat.reduceEqDiff, Nat.reduceLT, Nat.reduceLeDiff, reduceCtorEq, Int.reduceEq, Int.reduceNe, Int.reduceLT, Int.reduceLE, Int.reduceAdd, Int.reduceSub, Int.reduceMul, Int.reduceNeg, Int.reduceToNat, Int.cast_ofNat_Int, Int.natCast_zero, Int.natCast_one, Int.toNat_natCast, Nat.reduceBEq, nzs, d1]
    exact .inr ⟨800, rfl, rfl⟩
  have d1 : ((i : Int) < (x.length : Int)) = True := eq_true (by omega)
  obtain ⟨p, hp, _⟩ := l_drop_at (l := x) (i := i) hil
  obtain ⟨q, hq, _⟩ := l_drop_at (l := y) (i := i) (by omega)
  obtain ⟨y0, y1, y2, yi⟩ := id_at hu2 hp
  obtain ⟨z0, z1, z2, zi⟩ := id_at ht hq
  have hsucc := dfL_succ x y i
  rw [hp, hq] at hsucc
  simp only [shs, zts, sos, sls, zss, eqs, sx, sb1, sb2, sb3, sb4, sb5, sb6, sb7, ↓reduceIte, Nat.reduceAdd, Nat.reduceMul, Nat.reduceDiv, Nat.reduceEqDiff, Nat.reduceLT, Nat.reduceLeDiff, reduceCtorEq, Int.reduceEq, Int.reduceNe, Int.reduceLT, Int.reduceLE, Int.reduceAdd, Int.reduceSub, Int.reduceMul, Int.reduceNeg, Int.reduceToNat, Int.cast_ofNat_Int, Int.natCast_zero, Int.natCast_one, Int.toNat_natCast, Nat.reduceBEq, nzs, d1]
  refine DrawK.quiet (by kernel_rfl) (by kernel_rfl) ?_
  simp only [shs, zts, sos, sls, zss, eqs, sx, sb1, sb2, sb3, sb4, sb5, sb6, sb7, ↓reduceIte, Nat.reduceAdd, Nat.reduceMul, Nat.reduceDiv, Nat.reduceEqDiff, Nat.reduceLT, Nat.reduceLeDiff, reduceCtorEq, Int.reduceEq, Int.reduceNe, Int.reduceLT, Int.reduceLE, Int.reduceAdd, Int.reduceSub, Int.reduceMul, Int.reduceNeg, Int.reduceToNat, Int.cast_ofNat_Int, Int.natCast_zero, Int.natCast_one, Int.toNat_natCast, Nat.reduceBEq, nzs, yi, yi.2, y0.1, y0.2, y1.1, y1.2, y2.1, y2.2, zi, zi.2, z0.1, z0.2, z1.1, z1.2, z2.1, z2.2]
  have hlen := dfL_len x y i
  refine ⟨fun hne => ⟨?_, by simp only [inK, lo, hi]; omega, i + 1, ⟨by omega, by omega⟩, ?_⟩, fun he => ⟨by simp only [inK, lo, hi]; omega, i + 1, ⟨by omega, by omega⟩, Ent.of ?_⟩⟩
  · rw [List.length_map]
    omega
  · have hpq : ¬ some p = some q := fun e => by
      rw [Option.some.inj e] at hne
      exact hne (by rw [beq_self_eq_true]) rfl rfl
    rw [if_neg hpq] at hsucc
    have hm : (dfL x y i).map encJ ++ [[.int .i64 (i : Int)]] = (dfL x y (i + 1)).map encJ := by rw [hsucc, List.map_append]; rfl
    rw [hm]
    refine Ent.rekey 11 100 424 1 _ rfl rfl rfl rfl (Ent.of ?_)
    simp only [sx, sb1, sb2, sb3, sb4, sb5, sb6, sb7, ↓reduceIte, Nat.reduceAdd, Nat.reduceMul, Nat.reduceDiv, Nat.reduceEqDiff, Nat.reduceLT, Nat.reduceLeDiff, reduceCtorEq, Int.reduceEq, Int.reduceNe, Int.reduceLT, Int.reduceLE, Int.reduceAdd, Int.reduceSub, Int.reduceMul, Int.reduceNeg, Int.reduceToNat, Int.cast_ofNat_Int, Int.natCast_zero, Int.natCast_one, Int.toNat_natCast, Nat.reduceBEq, Int.natCast_add]
  · have hpq : some p = some q := by
      obtain ⟨e1, e2, e3⟩ := he
      obtain ⟨p0, p1, p2⟩ := p
      obtain ⟨q0, q1, q2⟩ := q
      simp only at e1 e2 e3
      rw [beq_iff_eq.1 e1, e2, e3]
    rw [if_pos hpq, List.append_nil] at hsucc
    simp only [sx, sb1, sb2, sb3, sb4, sb5, sb6, sb7, ↓reduceIte, Nat.reduceAdd, Nat.reduceMul, Nat.reduceDiv, Nat.reduceEqDiff, Nat.reduceLT, Nat.reduceLeDiff, reduceCtorEq, Int.reduceEq, Int.reduceNe, Int.reduceLT, Int.reduceLE, Int.reduceAdd, Int.reduceSub, Int.reduceMul, Int.reduceNeg, Int.reduceToNat, Int.cast_ofNat_Int, Int.natCast_zero, Int.natCast_one, Int.toNat_natCast, Nat.reduceBEq, Int.natCast_add, hsucc]
/-! ### copies -/
def cpS (x : List Id3) (n m : Txt) : List Int → St → St × Int
  | [], A => (A, 0)
  | i :: r, A =>
    if i < 0 ∨ (x.length : Int) ≤ i then (zSt, 1) else
    if (if ((x[i.toNat]?).getD hole).1 = true then writeA A.1 A.2 m i (rdS A.1 A.2 n i) else trimA A.1 A.2 m i).2 ≠ 0 then (zSt, (if ((x[i.toNat]?).getD hole).1 = true then writeA A.1 A.2 m i (rdS A.1 A.2 n i) else trimA A.1 A.2 m i).2) else
    cpS x n m r (if ((x[i.toNat]?).getD hole).1 = true then writeA A.1 A.2 m i (rdS A.1 A.2 n i) else trimA A.1 A.2 m i).1
def cpA (bag : List It) (l : List Vol) (n m : Txt) (at' : List Int) : St × Int :=
  if blkE bag l n ≠ 0 then (zSt, blkE bag l n) else if blkE bag l m ≠ 0 then (zSt, blkE bag l m) else cpS (blks l n) n m at' (bag, l)
theorem vcopy (b v : Value) (bag : List It) (ws : List WV) (n m : Txt) (y : Value) (at' : List Int) (M : Mem) (hb : RowM M b 4 (bag.map Bg.encT)) (hv : VolsM M v ws) (hy : RowM M y 1 (at'.map encI)) :
    Meets Proofs.Tryz.prog 17 [stV b v, .v (.string ⟨n.toArray⟩), .v (.string ⟨m.toArray⟩), .v y] M (StM (fun s => .tup [s, .v (.int .i64 (cpA bag (ws.map (·.2)) n m at').2)]) (cpA bag (ws.map (·.2)) n m at').1) := by
  refine Meets.of_body [0,1,2,3,4,8,9,10,11,13,14,16,17,18,27,37,42,43,44,45,55,61,85] Proofs.Tryz.func17 rfl (by kernel_rfl) rfl fun w => ?_
  have hB1 := Meets.rows (blocks b v bag ws n M hb hv)
  have hB2 : ∀ M', M.le M' → Meets _ _ _ M' _ := fun M' h => Meets.rows (blocks b v bag ws m M' (hb.le h) (hv.le h))
  generalize hc : cpA bag (ws.map (·.2)) n m at' = c
  unfold cpA at hc
  unfold blkL at hB1 hB2
  have h32 := blk32 (bag := bag) (l := ws.map (·.2)) (n := n)
  have hok : blkE bag (ws.map (·.2)) n = 0 → stE bag (ws.map (·.2)) = 0 := fun h => by
    unfold blkE at h
    by_cases h1 : stE bag (ws.map (·.2)) = 0
    · exact h1
    · rw [if_pos h1] at h; exact h
  generalize blkE bag (ws.map (·.2)) n = e1 at *
  generalize blkE bag (ws.map (·.2)) m = e2 at *
  generalize blks (ws.map (·.2)) n = x at *
  generalize blks (ws.map (·.2)) m = x2 at *
  simp only [stV] at hB1 hB2
  simp only [Proofs.Tryz.f17, stV, shs, zts, sos, sls, zss, eqs, sx, sb1, sb2, sb3, sb4, sb5, sb6, sb7, ↓reduceIte, Nat.reduceAdd, Nat.reduceMul, Nat.reduceDiv, Nat.reduceEqDiff, Nat.reduceLT, Nat.reduceLeDiff, reduceCtorEq, Int.reduceEq, Int.reduceNe, Int.reduceLT, Int.reduceLE, Int.reduceAdd, Int.reduceSub, Int.reduceMul, Int.reduceNeg, Int.reduceToNat, Int.cast_ofNat_Int, Int.natCast_zero, Int.natCast_one, Int.toNat_natCast, Nat.reduceBEq, nzs, hb.one, hv.row.one]
  refine CallK.row (T := fun s => .tup [s, .v (.int .i64 e1)]) (Ctx.fst _) rfl rfl hB1 fun u M1 hM1 hu => ?_
  by_cases h1 : e1 = 0
  rotate_left
  · have c1 := eq_false h1
    rw [if_pos h1] at hc
    subst hc
    simp only [shs, zts, sos, sls, zss, eqs, sx, sb1, sb2, sb3, sb4, sb5, sb6, sb7, ↓reduceIte, Nat.reduceAdd, Nat.reduceMul, Nat.reduceDiv, Nat.reduceEqDiff, Nat.reduceLT, Nat.reduceLeDiff, reduceCtorEq, Int.reduceEq, Int.reduceNe, Int.reduceLT, Int.reduceLE, Int.reduceAdd, Int.reduceSub, Int.reduceMul, Int.reduceNeg, Int.reduceToNat, Int.cast_ofNat_Int, Int.natCast_zero, Int.natCast_one, Int.toNat_natCast, Nat.reduceBEq, nzs, c1]
    exact ⟨_, _, [], rfl, rfl, RowM.nil _ _, zero_volsM _ |>.2⟩
  subst h1
  rw [if_neg (fun h => h rfl)] at hc
  rw [if_pos rfl] at hu
  simp only [shs, zts, sos, sls, zss, eqs, sx, sb1, sb2, sb3, sb4, sb5, sb6, sb7, ↓reduceIte, Nat.reduceAdd, Nat.reduceMul, Nat.reduceDiv, Nat.reduceEqDiff, Nat.reduceLT, Nat.reduceLeDiff, reduceCtorEq, Int.reduceEq, Int.reduceNe, Int.reduceLT, Int.reduceLE, Int.reduceAdd, Int.reduceSub, Int.reduceMul, Int.reduceNeg, Int.reduceToNat, Int.cast_ofNat_Int, Int.natCast_zero, Int.natCast_one, Int.toNat_natCast, Nat.reduceBEq, nzs, hb.one, hv.row.one]
  refine CallK.row (T := fun s => .tup [s, .v (.int .i64 e2)]) (Ctx.fst _) rfl rfl (hB2 M1 hM1) fun t M2 hM2 ht => ?_
  by_cases h2 : e2 = 0
  rotate_left
  · have c2 := eq_false h2
    rw [if_pos h2] at hc
    subst hc
    simp only [shs, zts, sos, sls, zss, eqs, sx, sb1, sb2, sb3, sb4, sb5, sb6, sb7, ↓reduceIte, Nat.reduceAdd, Nat.reduceMul, Nat.reduceDiv, Nat.reduceEqDiff, Nat.reduceLT, Nat.reduceLeDiff, reduceCtorEq, Int.reduceEq, Int.reduceNe, Int.reduceLT, Int.reduceLE, Int.reduceAdd, Int.reduceSub, Int.reduceMul, Int.reduceNeg, Int.reduceToNat, Int.cast_ofNat_Int, Int.natCast_zero, Int.natCast_one, Int.toNat_natCast, Nat.reduceBEq, nzs, c2]
    exact ⟨_, _, [], rfl, rfl, RowM.nil _ _, zero_volsM _ |>.2⟩
  subst h2
  rw [if_neg (fun h => h rfl)] at hc
  have h12 := hM1.trans hM2
  have hb2 := hb.le h12
  have hv2 := hv.le h12
  have hs := hok rfl
  obtain ⟨hB, hV, _⟩ := stE_ok hs
  have hVo := volsE_ok hV
  have hbl := bag_len hB
  rw [List.length_map] at hVo
  have hli : ∀ w ∈ ws, w.2.2.length ≤ 32 := fun w hw => (hVo.2 w.2 (List.mem_map_of_mem hw)).1
  have hcp := (copied b v bag ws M2 hb2 hv2 (by omega) (by omega) (fun w hw => Nat.le_trans (hli w hw) (by omega))).mono (fun r H M' _ h => h.weak)
  simp only [stV] at hcp
  have hyl := hy.len_le
  rw [List.length_map] at hyl
  simp only [shs, zts, sos, sls, zss, eqs, sx, sb1, sb2, sb3, sb4, sb5, sb6, sb7, ↓reduceIte, Nat.reduceAdd, Nat.reduceMul, Nat.reduceDiv, Nat.reduceEqDiff, Nat.reduceLT, Nat.reduceLeDiff, reduceCtorEq, Int.reduceEq, Int.reduceNe, Int.reduceLT, Int.reduceLE, Int.reduceAdd, Int.reduceSub, Int.reduceMul, Int.reduceNeg, Int.reduceToNat, Int.cast_ofNat_Int, Int.natCast_zero, Int.natCast_one, Int.toNat_natCast, Nat.reduceBEq, nzs, hb.one, hv.row.one]
  refine CallK.stM (T := fun s => s) (fun _ _ => rfl) rfl rfl hcp fun b3 v3 ws3 M3 hM3 hw3 hb3 hv3 => ?_
  have h23 := h12.trans hM3
  simp only [shs, zts, sos, sls, zss, eqs, sx, sb1, sb2, sb3, sb4, sb5, sb6, sb7, ↓reduceIte, Nat.reduceAdd, Nat.reduceMul, Nat.reduceDiv, Nat.reduceEqDiff, Nat.reduceLT, Nat.reduceLeDiff, reduceCtorEq, Int.reduceEq, Int.reduceNe, Int.reduceLT, Int.reduceLE, Int.reduceAdd, Int.reduceSub, Int.reduceMul, Int.reduceNeg, Int.reduceToNat, Int.cast_ofNat_Int, Int.natCast_zero, Int.natCast_one, Int.toNat_natCast, Nat.reduceBEq, nzs, stV, hb3.one, hv3.row.one, (hy.le h23).len, hy.sl, List.length_map]
  have hw3' : ws3.map (·.2) = ws.map (·.2) := hw3
  refine LoopK.go (X := Nat × Value × Value × List It × List WV × Mem) (fun z => ([(1, true, .v (.string ⟨n.toArray⟩)), (2, true, .v (.string ⟨m.toArray⟩)), (8, true, .ptr 64 0 0 0), (10, true, .v u), (14, true, .ptr 112 0 0 0), (42, true, .v y), (43, true, .v (.int .i64 at'.length)), (44, true, .v (.int .i64 z.1))],
      [(112, .box [.v z.2.1, .v z.2.2.1] none), (64, .box [.v (.slice none 0 0), .v (.slice none 0 0)] none)], z.2.2.2.2.2))
    (fun z => (z.1 ≤ at'.length ∧ M3.le z.2.2.2.2.2) ∧ (RowM z.2.2.2.2.2 z.2.1 4 (z.2.2.2.1.map Bg.encT) ∧ VolsM z.2.2.2.2.2 z.2.2.1 z.2.2.2.2.1) ∧ cpS x n m (at'.drop z.1) (z.2.2.2.1, z.2.2.2.2.1.map (·.2)) = c) (fun z => at'.length - z.1) (0, b3, v3, bag, ws3, M3) ⟨⟨Nat.zero_le _, Mem.le.refl _⟩, ⟨hb3, hv3⟩, by simp only [List.drop_zero, hw3']; exact hc⟩ (Ent.of ?_) ?_
  · simp only [sx, sb1, sb2, sb3, sb4, sb5, sb6, sb7, ↓reduceIte, Nat.reduceAdd, Nat.reduceMul, Nat.reduceDiv, Nat.reduceEqDiff, Nat.reduceLT, Nat.reduceLeDiff, reduceCtorEq, Int.reduceEq, Int.reduceNe, Int.reduceLT, Int.reduceLE, Int.reduceAdd, Int.reduceSub, Int.reduceMul, Int.reduceNeg, Int.reduceToNat, Int.cast_ofNat_Int, Int.natCast_zero, Int.natCast_one, Int.toNat_natCast, Nat.reduceBEq, Int.natCast_zero]
  rintro ⟨i, b4, v4, bag4, ws4, N⟩ ⟨⟨n1, nM⟩, ⟨n2, n3⟩, n4⟩
  simp only at n1 nM n2 n3 n4
  by_cases hil : i < at'.length
  rotate_left
  · have d1 : ((i : Int) < (at'.length : Int)) = False := eq_false (by omega)
    rw [List.drop_eq_nil_of_le (by omega)] at n4
    simp only [cpS] at n4
    subst n4
    simp only [shs, zts, sos, sls, zss, eqs, sx, sb1, sb2, sb3, sb4, sb5, sb6, sb7, ↓reduceIte, Nat.reduceAdd, Nat.reduceMul, Nat.reduceDiv, Nat.reduceEqDiff, Nat.reduceLT, Nat.reduceLeDiff, reduceCtorEq, Int.reduceEq, Int.reduceNe, Int.reduceLT, Int.reduceLE, Int.reduceAdd, Int.reduceSub, Int.reduceMul, Int.reduceNeg, Int.reduceToNat, Int.cast_ofNat_Int, Int.natCast_zero, Int.natCast_one, Int.toNat_natCast, Nat.reduceBEq, nzs, d1, n2.one, n3.row.one]
    exact ⟨b4, v4, ws4, rfl, rfl, n2, n3⟩
  have d1 : ((i : Int) < (at'.length : Int)) = True := eq_true (by omega)
  obtain ⟨p, hp, hd⟩ := l_drop_at (l := at') (i := i) hil
  rw [hd] at n4
  have hyN := hy.le (h23.trans nM)
  have huN := hu.le ((hM2.trans hM3).trans nM)
  have g0 := hyN.el1 (enc := encI) (l := at') hp rfl
  have ix := hyN.ix (i := (i : Int)) (by omega) (by rw [List.length_map]; omega)
  simp only [cpS] at n4
  have hx32 := h32 rfl
  by_cases h3 : p < 0
  · have c3 := eq_true h3
    rw [if_pos (.inl h3)] at n4
    subst n4
    simp only [shs, zts, sos, sls, zss, eqs, sx, sb1, sb2, sb3, sb4, sb5, sb6, sb7, ↓reduceIte, Nat.reduceAdd, Nat.reduceMul, Nat.reduceDiv, Nat.reduceEqDiff, Nat.reduceLT, Nat.reduceLeDiff, reduceCtorEq, Int.reduceEq, Int.reduceNe, Int.reduceLT, Int.reduceLE, Int.reduceAdd, Int.reduceSub, Int.reduceMul, Int.reduceNeg, Int.reduceToNat, Int.cast_ofNat_Int, Int.natCast_zero, Int.natCast_one, Int.toNat_natCast, Nat.reduceBEq, nzs, d1, ix, ix.2, g0.1, g0.2, c3]
    exact ⟨_, _, [], rfl, rfl, RowM.nil _ _, zero_volsM _ |>.2⟩
  have c3 := eq_false h3
  by_cases h4 : (x.length : Int) ≤ p
  · have c4 := eq_true h4
    rw [if_pos (.inr h4)] at n4
    subst n4
    simp only [shs, zts, sos, sls, zss, eqs, sx, sb1, sb2, sb3, sb4, sb5, sb6, sb7, ↓reduceIte, Nat.reduceAdd, Nat.reduceMul, Nat.reduceDiv, Nat.reduceEqDiff, Nat.reduceLT, Nat.reduceLeDiff, reduceCtorEq, Int.reduceEq, Int.reduceNe, Int.reduceLT, Int.reduceLE, Int.reduceAdd, Int.reduceSub, Int.reduceMul, Int.reduceNeg, Int.reduceToNat, Int.cast_ofNat_Int, Int.natCast_zero, Int.natCast_one, Int.toNat_natCast, Nat.reduceBEq, nzs, d1, ix, ix.2, g0.1, g0.2, c3, huN.len, huN.sl, List.length_map, c4]
    exact ⟨_, _, [], rfl, rfl, RowM.nil _ _, zero_volsM _ |>.2⟩
  have c4 := eq_false h4
  rw [if_neg (by omega)] at n4
  obtain ⟨k, rfl⟩ : ∃ k : Nat, p = k := ⟨p.toNat, by omega⟩
  obtain ⟨id, hid, _⟩ := l_drop_at (l := x) (i := k) (by omega)
  obtain ⟨y0, y1, y2, yi⟩ := id_at huN hid
  rw [Int.toNat_natCast, hid, Option.getD_some] at n4
  have hRd := read b4 v4 bag4 ws4 n (k : Int) N n2 n3
  have hWr := vwrite b4 v4 bag4 ws4 m (k : Int) (rdS bag4 (ws4.map (·.2)) n (k : Int)) N n2 n3
  have hTr := (vtrim b4 v4 bag4 ws4 m (k : Int) N n2 n3).mono (fun r H M' _ h => h.weak)
  simp only [stV] at hRd hWr hTr
  generalize rdS bag4 (ws4.map (·.2)) n (k : Int) = rs at *
  generalize plE bag4 (ws4.map (·.2)) n (k : Int) = pe at *
  generalize writeA bag4 (ws4.map (·.2)) m (k : Int) rs = A1 at *
  generalize trimA bag4 (ws4.map (·.2)) m (k : Int) = A2 at *
  have hEnd : ∀ (A : St × Int), True := fun _ => trivial
  cases hq : id.1 with
  | true =>
    rw [hq] at y0 n4
    simp only [if_true] at n4
    simp only [shs, zts, sos, sls, zss, eqs, sx, sb1, sb2, sb3, sb4, sb5, sb6, sb7, ↓reduceIte, Nat.reduceAdd, Nat.reduceMul, Nat.reduceDiv, Nat.reduceEqDiff, Nat.reduceLT, Nat.reduceLeDiff, reduceCtorEq, Int.reduceEq, Int.reduceNe, Int.reduceLT, Int.reduceLE, Int.reduceAdd, Int.reduceSub, Int.reduceMul, Int.reduceNeg, Int.reduceToNat, Int.cast_ofNat_Int, Int.natCast_zero, Int.natCast_one, Int.toNat_natCast, Nat.reduceBEq, nzs, d1, ix, ix.2, g0.1, g0.2, c3, huN.len, huN.sl, List.length_map, c4, yi, yi.2, y0.1, y0.2, n2.one, n3.row.one]
    refine CallK.pure ⟨rfl, rfl⟩ rfl hRd ?_
    simp only [shs, zts, sos, sls, zss, eqs, sx, sb1, sb2, sb3, sb4, sb5, sb6, sb7, ↓reduceIte, Nat.reduceAdd, Nat.reduceMul, Nat.reduceDiv, Nat.reduceEqDiff, Nat.reduceLT, Nat.reduceLeDiff, reduceCtorEq, Int.reduceEq, Int.reduceNe, Int.reduceLT, Int.reduceLE, Int.reduceAdd, Int.reduceSub, Int.reduceMul, Int.reduceNeg, Int.reduceToNat, Int.cast_ofNat_Int, Int.natCast_zero, Int.natCast_one, Int.toNat_natCast, Nat.reduceBEq, nzs, n2.one, n3.row.one]
    refine CallK.stM (T := fun s => .tup [s, .v (.int .i64 A1.2)]) (fun _ _ => rfl) rfl rfl hWr fun b5 v5 ws5 M5 hM5 hw5 hb5 hv5 => ?_
    by_cases h5 : A1.2 = 0
    rotate_left
    · have c5 := eq_false h5
      rw [if_pos h5] at n4
      subst n4
      simp only [shs, zts, sos, sls, zss, eqs, sx, sb1, sb2, sb3, sb4, sb5, sb6, sb7, ↓reduceIte, Nat.reduceAdd, Nat.reduceMul, Nat.reduceDiv, Nat.reduceEqDiff, Nat.reduceLT, Nat.reduceLeDiff, reduceCtorEq, Int.reduceEq, Int.reduceNe, Int.reduceLT, Int.reduceLE, Int.reduceAdd, Int.reduceSub, Int.reduceMul, Int.reduceNeg, Int.reduceToNat, Int.cast_ofNat_Int, Int.natCast_zero, Int.natCast_one, Int.toNat_natCast, Nat.reduceBEq, nzs, stV, c5, hb5.one, hv5.row.one]
      exact ⟨_, _, [], rfl, rfl, RowM.nil _ _, zero_volsM _ |>.2⟩
    rw [if_neg (fun h => h h5)] at n4
    simp only [shs, zts, sos, sls, zss, eqs, sx, sb1, sb2, sb3, sb4, sb5, sb6, sb7, ↓reduceIte, Nat.reduceAdd, Nat.reduceMul, Nat.reduceDiv, Nat.reduceEqDiff, Nat.reduceLT, Nat.reduceLeDiff, reduceCtorEq, Int.reduceEq, Int.reduceNe, Int.reduceLT, Int.reduceLE, Int.reduceAdd, Int.reduceSub, Int.reduceMul, Int.reduceNeg, Int.reduceToNat, Int.cast_ofNat_Int, Int.natCast_zero, Int.natCast_one, Int.toNat_natCast, Nat.reduceBEq, nzs, stV, h5, hb5.one, hv5.row.one, inK, lo, hi]
    refine ⟨by omega, (i + 1, b5, v5, A1.1.1, ws5, M5), ⟨⟨⟨by simp only; omega, nM.trans hM5⟩, ⟨hb5, hv5⟩, by simp only [hw5]; exact n4⟩, by simp only; omega⟩, Ent.of ?_⟩
    simp only [sx, sb1, sb2, sb3, sb4, sb5, sb6, sb7, ↓reduceIte, Nat.reduceAdd, Nat.reduceMul, Nat.reduceDiv, Nat.reduceEqDiff, Nat.reduceLT, Nat.reduceLeDiff, reduceCtorEq, Int.reduceEq, Int.reduceNe, Int.reduceLT, Int.reduceLE, Int.reduceAdd, Int.reduceSub, Int.reduceMul, Int.reduceNeg, Int.reduceToNat, Int.cast_ofNat_Int, Int.natCast_zero, Int.natCast_one, Int.toNat_natCast, Nat.reduceBEq, Int.natCast_add]
  | false =>
    rw [hq] at y0 n4
    simp only [Bool.false_eq_true, if_false] at n4
    simp only [shs, zts, sos, sls, zss, eqs, sx, sb1, sb2, sb3, sb4, sb5, sb6, sb7, ↓reduceIte, Nat.reduceAdd, Nat.reduceMul, Nat.reduceDiv, Nat.reduceEqDiff, Nat.reduceLT, Nat.reduceLeDiff, reduceCtorEq, Int.reduceEq, Int.reduceNe, Int.reduceLT, Int.reduceLE, Int.reduceAdd, Int.reduceSub, Int.reduceMul, Int.reduceNeg, Int.reduceToNat, Int.cast_ofNat_Int, Int.natCast_zero, Int.natCast_one, Int.toNat_natCast, Nat.reduceBEq, nzs, d1, ix, ix.2, g0.1, g0.2, c3, huN.len, huN.sl, List.length_map, c4, yi, yi.2, y0.1, y0.2, n2.one, n3.row.one]
    refine CallK.stM (T := fun s => .tup [s, .v (.int .i64 A2.2)]) (fun _ _ => rfl) rfl rfl hTr fun b5 v5 ws5 M5 hM5 hw5 hb5 hv5 => ?_
    by_cases h5 : A2.2 = 0
    rotate_left
    · have c5 := eq_false h5
      rw [if_pos h5] at n4
      subst n4
      simp only [shs, zts, sos, sls, zss, eqs, sx, sb1, sb2, sb3, sb4, sb5, sb6, sb7, ↓reduceIte, Nat.reduceAdd, Nat.reduceMul, Nat.reduceDiv, Nat.reduceEqDiff, Nat.reduceLT, Nat.reduceLeDiff, reduceCtorEq, Int.reduceEq, Int.reduceNe, Int.reduceLT, Int.reduceLE, Int.reduceAdd, Int.reduceSub, Int.reduceMul, Int.reduceNeg, Int.reduceToNat, Int.cast_ofNat_Int, Int.natCast_zero, Int.natCast_one, Int.toNat_natCast, Nat.reduceBEq, nzs, stV, c5, hb5.one, hv5.row.one]
      exact ⟨_, _, [], rfl, rfl, RowM.nil _ _, zero_volsM _ |>.2⟩
    rw [if_neg (fun h => h h5)] at n4
    simp only [shs, zts, sos, sls, zss, eqs, sx, sb1, sb2, sb3, sb4, sb5, sb6, sb7, ↓reduceIte, Nat.reduceAdd, Nat.reduceMul, Nat.reduceDiv, Nat.reduceEqDiff, Nat.reduceLT, Nat.reduceLeDiff, reduceCtorEq, Int.reduceEq, Int.reduceNe, Int.reduceLT, Int.reduceLE, Int.reduceAdd, Int.reduceSub, Int.reduceMul, Int.reduceNeg, Int.reduceToNat, Int.cast_ofNat_Int, Int.natCast_zero, Int.natCast_one, Int.toNat_natCast, Nat.reduceBEq, nzs, stV, h5, hb5.one, hv5.row.one, inK, lo, hi]
    refine ⟨by omega, (i + 1, b5, v5, A2.1.1, ws5, M5), ⟨⟨⟨by simp only; omega, nM.trans hM5⟩, ⟨hb5, hv5⟩, by simp only [hw5]; exact n4⟩, by simp only; omega⟩, Ent.of ?_⟩
    simp only [sx, sb1, sb2, sb3, sb4, sb5, sb6, sb7, ↓reduceIte, Nat.reduceAdd, Nat.reduceMul, Nat.reduceDiv, Nat.reduceEqDiff, Nat.reduceLT, Nat.reduceLeDiff, reduceCtorEq, Int.reduceEq, Int.reduceNe, Int.reduceLT, Int.reduceLE, Int.reduceAdd, Int.reduceSub, Int.reduceMul, Int.reduceNeg, Int.reduceToNat, Int.cast_ofNat_Int, Int.natCast_zero, Int.natCast_one, Int.toNat_natCast, Nat.reduceBEq, Int.natCast_add]
end Go.X.Vo

namespace Go.X.Vo
open Go Go.X Go.RowKit Go.X.Bg Go.X.Nm Go.X.Bp Go.X.Sb

abbrev StAOk (M : Mem) (a0 : StA) : Prop := (RowM M a0.1.1 4 (a0.1.2.map fun a => [Value.int .i64 a.1] ++ ([Value.int .i64 a.2.1] ++ ([Value.string ⟨a.2.2.1.toArray⟩] ++ [Value.int .i64 a.2.2.2]))) ∧ a0.1.2.length * 40 ≤ reachBytes ∧ ∀ x ∈ a0.1.2, inK .i64 x.1 ∧ inK .i64 x.2.1 ∧ x.2.2.1.length ≤ reachBytes ∧ inK .i64 x.2.2.2) ∧
      RowM M a0.2.1 2 (a0.2.2.map fun a => [Value.string ⟨a.1.toArray⟩] ++ [a.2.1]) ∧ a0.2.2.length * 40 ≤ reachBytes ∧ ∀ x ∈ a0.2.2, x.1.length ≤ reachBytes ∧ RowM M x.2.1 3 (x.2.2.map fun a => [Value.bool a.1] ++ ([Value.int .i64 a.2.1] ++ [Value.int .i64 a.2.2])) ∧ x.2.2.length * 24 ≤ reachBytes ∧ ∀ y ∈ x.2.2, True ∧ inK .i64 y.2.1 ∧ inK .i64 y.2.2
end Go.X.Vo

