/- Contracts of functions and the logic that they are proved in (2 texts in one). Conditions: none. -/
import Derived.Test.YteebcojoghnlnaaMg12
namespace Go.X.Bg
end Go.X.Bg
namespace Go.X.Nm
end Go.X.Nm
namespace Go.X.Bp
end Go.X.Bp
namespace Go.X.Sb
end Go.X.Sb
set_option linter.unusedSimpArgs false
set_option linter.unusedVariables false
set_option maxHeartbeats 4000000
set_option maxRecDepth 20000
namespace Go.X.Vo
open Go Go.X Go.RowKit Go.X.Bg Go.X.Nm Go.X.Bp Go.X.Sb

/-! ### a bag, by keys -/
abbrev K2 := Int × Int
def kOf (x : It) : K2 := (x.1, x.2.1)
def itK (bag : List It) (k : K2) : Option It := bag.find? fun x => decide (kOf x = k)
def refK (bag : List It) (k : K2) : Int := ((itK bag k).map (·.2.2.2)).getD 0
theorem itK_none {bag : List It} {k : K2} : itK bag k = none ↔ ∀ x ∈ bag, kOf x ≠ k := by
  unfold itK
  rw [List.find?_eq_none]
  simp
theorem itK_mem {bag : List It} {k : K2} {x : It} (h : itK bag k = some x) : x ∈ bag ∧ kOf x = k := by
  unfold itK at h
  exact ⟨List.mem_of_find?_eq_some h, by simpa using List.find?_some h⟩
theorem itK_mid {l1 l2 : List It} {x : It} (h : ∀ y ∈ l1, kOf y ≠ kOf x) (k : K2) : itK (l1 ++ x :: l2) k = if k = kOf x then some x else itK (l1 ++ l2) k := by
  unfold itK
  rw [List.find?_append, List.find?_append, List.find?_cons]
  by_cases hk : k = kOf x
  · subst hk
    rw [if_pos rfl, decide_eq_true rfl]
    have : List.find? (fun y => decide (kOf y = kOf x)) l1 = none := by
      rw [List.find?_eq_none]
      intro y hy
      simpa using h y hy
    rw [this]
    rfl
  · rw [if_neg hk, decide_eq_false (fun e => hk e.symm)]
def Dk (bag : List It) : Prop := (bag.map kOf).Nodup
theorem dk_of {bag : List It} (h : bagE bag = 0) : Dk bag := by
  have h3 := ((bagE_iff bag).1 h).2.2
  unfold Dk List.Nodup
  rw [List.pairwise_map] at h3 ⊢
  refine h3.imp fun {a b} h => ?_
  obtain ⟨h1, _⟩ := h
  intro e
  unfold kOf at e
  unfold kyT at h1
  have e1 := congrArg Prod.fst e
  have e2 := congrArg Prod.snd e
  simp only at e1 e2 h1
  omega
theorem split_at {α : Type} {l : List α} {j : Nat} {x : α} (h : l[j]? = some x) : l = l.take j ++ x :: l.drop (j + 1) := by
  have hj := (List.getElem?_eq_some_iff.1 h).1
  have e : l.drop j = x :: l.drop (j + 1) := by
    rw [List.drop_eq_getElem_cons hj, (List.getElem?_eq_some_iff.1 h).2]
  rw [← e, List.take_append_drop]
theorem set_split {α : Type} {l : List α} {j : Nat} {x : α} (h : l[j]? = some x) (y : α) : l.set j y = l.take j ++ y :: l.drop (j + 1) := by
  have hj := (List.getElem?_eq_some_iff.1 h).1
  rw [List.set_eq_take_append_cons_drop, if_pos hj]
theorem dk_mid {l1 l2 : List It} {x : It} (h : Dk (l1 ++ x :: l2)) : (∀ y ∈ l1, kOf y ≠ kOf x) ∧ ∀ y ∈ l2, kOf y ≠ kOf x := by
  unfold Dk at h
  rw [List.map_append, List.map_cons, List.nodup_append, List.nodup_cons] at h
  obtain ⟨_, ⟨h2, _⟩, h3⟩ := h
  refine ⟨fun y hy => h3 _ (List.mem_map_of_mem hy) _ (by simp), fun y hy e => h2 (by rw [← e]; exact List.mem_map_of_mem hy)⟩
theorem itK_at {bag : List It} (h : Dk bag) {x : It} (hx : x ∈ bag) : itK bag (kOf x) = some x := by
  obtain ⟨j, hj⟩ := List.mem_iff_getElem?.1 hx
  have e := split_at hj
  rw [e] at h
  conv => lhs; rw [e]
  rw [itK_mid (dk_mid h).1, if_pos rfl]
theorem itK_del {bag : List It} (h : Dk bag) {j : Nat} {x : It} (hj : bag[j]? = some x) (k : K2) : itK (bag.take j ++ bag.drop (j + 1)) k = if k = kOf x then none else itK bag k := by
  have e := split_at hj
  have h' := h
  rw [e] at h'
  obtain ⟨h1, h2⟩ := dk_mid h'
  by_cases hk : k = kOf x
  · rw [if_pos hk, itK_none, hk]
    intro y hy
    rcases List.mem_append.1 hy with hy | hy
    · exact h1 y hy
    · exact h2 y hy
  · rw [if_neg hk]
    conv => rhs; rw [e]
    rw [itK_mid h1, if_neg hk]
theorem itK_set {bag : List It} (h : Dk bag) {j : Nat} {x : It} (hj : bag[j]? = some x) (r : Int) (k : K2) : itK (setR bag j r) k = if k = kOf x then some (x.1, x.2.1, x.2.2.1, r) else itK bag k := by
  have e := split_at hj
  have h' := h
  rw [e] at h'
  obtain ⟨h1, h2⟩ := dk_mid h'
  unfold setR
  rw [atI_at hj, set_split hj]
  have h1' : ∀ y ∈ bag.take j, kOf y ≠ kOf (x.1, x.2.1, x.2.2.1, r) := h1
  rw [itK_mid h1']
  change (if k = kOf x then _ else _) = _
  by_cases hk : k = kOf x
  · rw [if_pos hk, if_pos hk]
  · rw [if_neg hk, if_neg hk]
    conv => rhs; rw [e]
    rw [itK_mid h1, if_neg hk]
theorem itK_ins {bag : List It} {x : It} (h : itK bag (kOf x) = none) (k : K2) : itK (insI bag x) k = if k = kOf x then some x else itK bag k := by
  unfold insI
  rw [itK_none] at h
  rw [itK_mid (fun y hy => h y (List.mem_of_mem_take hy)), List.take_append_drop]
theorem isId_iff {id : Id3} {x : It} : isId id x = true ↔ id.1 = true ∧ kOf x = id.2 := by
  unfold isId kOf
  simp only [Bool.and_eq_true, decide_eq_true_eq]
  constructor
  · rintro ⟨h1, h2, h3⟩
    exact ⟨h1, by rw [h2, h3]⟩
  · rintro ⟨h1, h2⟩
    exact ⟨h1, congrArg Prod.fst h2, congrArg Prod.snd h2⟩
theorem idIx_cases {bag : List It} (h : Dk bag) (id : Id3) (h1 : id.1 = true) : (idIx bag id < 0 ∧ itK bag id.2 = none) ∨ ∃ (j : Nat) (x : It), idIx bag id = (j : Int) ∧ bag[j]? = some x ∧ kOf x = id.2 ∧ itK bag id.2 = some x := by
  unfold idIx
  rcases fidx_sp (isId id) bag 0 with ⟨k1, k2⟩ | ⟨j, x, k1, k2, k3, _⟩
  · refine .inl ⟨by rw [k1]; decide, itK_none.2 fun x hx e => ?_⟩
    have := k2 x hx
    rw [isId_iff.2 ⟨h1, e⟩] at this
    cases this
  · have e := (isId_iff.1 k3).2
    refine .inr ⟨j, x, by rw [k1, Nat.zero_add], k2, e, ?_⟩
    rw [← e]
    exact itK_at h (List.mem_of_getElem? k2)
/-! ### one less, one more -/
theorem itK_less {bag : List It} (h : Dk bag) {id : Id3} (h1 : id.1 = true) {x : It} (hx : itK bag id.2 = some x) (k : K2) :
    itK (lessId bag id) k = if k = id.2 then (if x.2.2.2 - 1 = 0 then none else some (x.1, x.2.1, x.2.2.1, x.2.2.2 - 1)) else itK bag k := by
  unfold lessId
  rw [if_pos h1]
  unfold lessG
  rcases idIx_cases h id h1 with ⟨k1, k2⟩ | ⟨j, y, k1, k2, k3, k4⟩
  · rw [k2] at hx; cases hx
  · rw [k4] at hx
    cases hx
    rw [k1, if_neg (by omega), Int.toNat_natCast]
    unfold lessL
    rw [atI_at k2, ← k3]
    by_cases h0 : x.2.2.2 - 1 = 0
    · rw [if_pos h0, itK_del h k2, if_pos h0]
    · rw [if_neg h0, itK_set h k2, if_neg h0]
theorem less_hole {bag : List It} {id : Id3} (h : id.1 = false) : lessId bag id = bag := by unfold lessId; rw [if_neg (by rw [h]; decide)]
theorem refK_less {bag : List It} (h : bagE bag = 0) {id : Id3} (h1 : id.1 = true) (h2 : 1 ≤ refK bag id.2) (k : K2) : refK (lessId bag id) k = refK bag k - (if k = id.2 then 1 else 0) := by
  cases hx : itK bag id.2 with
  | none => unfold refK at h2; rw [hx] at h2; exact absurd h2 (by decide)
  | some x =>
    unfold refK
    rw [itK_less (dk_of h) h1 hx]
    by_cases hk : k = id.2
    · subst hk
      rw [if_pos rfl, if_pos rfl, hx]
      by_cases h0 : x.2.2.2 - 1 = 0
      · rw [if_pos h0]
        simp only [Option.map_none, Option.getD_none, Option.map_some, Option.getD_some]
        omega
      · rw [if_neg h0]; rfl
    · rw [if_neg hk, if_neg hk, Int.sub_zero]
theorem itK_inc {bag : List It} (h : Dk bag) (id : Id3) (k : K2) : itK (incId bag id) k = if id.1 = true ∧ k = id.2 then (itK bag k).map (fun x => (x.1, x.2.1, x.2.2.1, x.2.2.2 + 1)) else itK bag k := by
  unfold incId
  cases h1 : id.1 with
  | false =>
    have hi : ¬ 0 ≤ idIx bag id := by
      unfold idIx
      rcases fidx_sp (isId id) bag 0 with ⟨k1, _⟩ | ⟨j, x, k1, k2, k3, _⟩
      · rw [k1]; decide
      · have := (isId_iff.1 k3).1; rw [h1] at this; cases this
    rw [if_neg hi, if_neg (fun hh => by cases hh.1)]
  | true =>
    rcases idIx_cases h id h1 with ⟨k1, k2⟩ | ⟨j, y, k1, k2, k3, k4⟩
    · rw [if_neg (by omega)]
      by_cases hk : k = id.2
      · rw [if_pos ⟨rfl, hk⟩, hk, k2]; rfl
      · rw [if_neg (fun hh => hk hh.2)]
    · rw [k1, if_pos (by omega), Int.toNat_natCast, atI_at k2, itK_set h k2, k3]
      by_cases hk : k = id.2
      · rw [if_pos hk, if_pos ⟨rfl, hk⟩, hk, k4]; rfl
      · rw [if_neg hk, if_neg (fun hh => hk hh.2)]
theorem dk_inc {bag : List It} (h : Dk bag) (id : Id3) : Dk (incId bag id) := by
  unfold Dk at *
  have e : ∀ l : List It, l.map kOf = (l.map kyT).map (fun q => (q.1, q.2.1)) := fun l => by rw [List.map_map]; rfl
  rw [e, incId_ky, ← e]
  exact h
theorem refK_inc {bag : List It} (h : Dk bag) (id : Id3) (k : K2) (h2 : id.1 = true → itK bag id.2 ≠ none) : refK (incId bag id) k = refK bag k + (if id = (true, k) then 1 else 0) := by
  unfold refK
  rw [itK_inc h]
  by_cases hk : id.1 = true ∧ k = id.2
  · have e : id = (true, k) := by obtain ⟨a, b⟩ := id; obtain ⟨e1, e2⟩ := hk; simp only at e1 e2; rw [e1, e2]
    rw [if_pos hk, if_pos e]
    cases hx : itK bag k with
    | none => rw [hk.2] at hx; exact absurd hx (h2 hk.1)
    | some x => rfl
  · have e : id ≠ (true, k) := fun e => hk ⟨by rw [e], by rw [e]⟩
    rw [if_neg hk, if_neg e, Int.add_zero]
theorem itK_inc_none {bag : List It} (h : Dk bag) (id : Id3) (k : K2) : itK (incId bag id) k = none ↔ itK bag k = none := by
  rw [itK_inc h]
  split
  · simp
  · rfl
theorem refK_incs : ∀ (ids : List Id3) {bag : List It}, Dk bag → (∀ id ∈ ids, id.1 = true → itK bag id.2 ≠ none) → ∀ k : K2, refK (ids.foldl incId bag) k = refK bag k + ((ids.count (true, k) : Nat) : Int)
  | [], _, _, _, k => by simp
  | id :: r, bag, h, h2, k => by
    rw [List.foldl_cons, refK_incs r (dk_inc h id) (fun i hi hi1 e => h2 i (by simp [hi]) hi1 ((itK_inc_none h id i.2).1 e)) k, refK_inc h id k (h2 id (by simp)), List.count_cons]
    by_cases e : id = (true, k)
    · have e2 : (id == (true, k)) = true := by rw [e]; exact beq_self_eq_true _
      rw [if_pos e, e2, if_pos rfl]
      omega
    · have e2 : (id == (true, k)) = false := beq_eq_false_iff_ne.2 e
      rw [if_neg e, e2, if_neg (by decide)]
      omega
theorem txtIx_cases (bag : List It) (s : List UInt8) : (txtIx bag s < 0 ∧ ∀ x ∈ bag, x.2.2.1 ≠ s) ∨ ∃ (j : Nat) (x : It), txtIx bag s = (j : Int) ∧ bag[j]? = some x ∧ x.2.2.1 = s := by
  unfold txtIx
  rcases fidx_sp (fun x : It => decide (x.2.2.1 = s)) bag 0 with ⟨k1, k2⟩ | ⟨j, x, k1, k2, k3, _⟩
  · exact .inl ⟨by rw [k1]; decide, fun x hx => by simpa using k2 x hx⟩
  · exact .inr ⟨j, x, by rw [k1, Nat.zero_add], k2, by simpa using k3⟩
/-- what Put makes of a right bag -/
structure PutR (bag : List It) (s : List UInt8) (bag' : List It) (id : Id3) : Prop where
  ok : bagE bag' = 0
  is : id.1 = true
  itk : ∀ k, itK bag' k = if k = id.2 then some (k.1, k.2, s, refK bag k + 1) else itK bag k
  txt : ∀ x, itK bag id.2 = some x → x.2.2.1 = s
  old : (∃ x ∈ bag, x.2.2.1 = s) → bag'.length = bag.length
  new : bag'.length ≤ bag.length + 1
  txts : ∀ t, (∃ x ∈ bag', x.2.2.1 = t) ↔ t = s ∨ ∃ x ∈ bag, x.2.2.1 = t
theorem putR {bag : List It} (h : bagE bag = 0) {s : List UInt8} (h0 : (putG bag s).2.2 = 0) : PutR bag s (putG bag s).1 (putG bag s).2.1 := by
  have hd := dk_of h
  obtain ⟨b1, b2, b3⟩ := (bagE_iff bag).1 h
  unfold putG at h0 ⊢
  by_cases hs : 64 < s.length
  · rw [if_pos hs] at h0; exact absurd h0 (by decide)
  rw [if_neg hs] at h0 ⊢
  rcases txtIx_cases bag s with ⟨k1, k2⟩ | ⟨j, x, k1, k2, k3⟩
  · rw [if_neg (by omega)] at h0 ⊢
    by_cases hl : bag.length = 64
    · rw [if_pos hl] at h0; exact absurd h0 (by decide)
    rw [if_neg hl]
    obtain ⟨f1, f2, _⟩ := freeN_sp (l := bag) (by omega) (sumT s)
    have hn : itK bag (sumT s, (freeN bag (sumT s) : Int)) = none := itK_none.2 fun y hy e => by
      have : has bag (sumT s) (freeN bag (sumT s)) = true := (has_iff _ _ _).2 ⟨y, hy, congrArg Prod.fst e, congrArg Prod.snd e⟩
      rw [f2] at this
      cases this
    generalize hx : ((sumT s, (freeN bag (sumT s) : Int), s, 1) : It) = x
    have hk : kOf x = (sumT s, (freeN bag (sumT s) : Int)) := by rw [← hx]; rfl
    have hxt : x.2.2.1 = s := by rw [← hx]
    rw [← hk] at hn
    have hp := insI_perm x bag
    have hone : oneE x = 0 := by
      rw [← hx]
      unfold oneE
      simp only
      rw [if_neg hs, if_neg (fun h => h rfl), if_neg (by omega)]
    have hmem : ∀ y, y ∈ insI bag x ↔ y ∈ bag ∨ y = x := fun y => by rw [hp.mem_iff, List.mem_append, List.mem_singleton]
    have hne : ∀ y ∈ bag, ¬ (y.1 = x.1 ∧ y.2.1 = x.2.1) := fun y hy e => (itK_none.1 hn) y hy (by unfold kOf; rw [e.1, e.2])
    refine ⟨?_, rfl, fun k => ?_, fun y hy => ?_, fun ⟨y, hy, e⟩ => absurd e (k2 y hy), ?_, fun t => ?_⟩
    · rw [bagE_iff]
      refine ⟨by rw [hp.length_eq, List.length_append]; simp only [List.length_singleton]; omega, fun y hy => ?_, ?_⟩
      · rcases (hmem y).1 hy with hy | rfl
        · exact b2 y hy
        · exact hone
      · rw [List.pairwise_map]
        have s1 := insI_srt x bag (bag_srt h) hne
        have s2 : (insI bag x).Pairwise (fun a b => (kyT a).2.2 ≠ (kyT b).2.2) := by
          refine List.Perm.pairwise hp.symm ?_ (fun {a b} h e => h e.symm)
          rw [List.pairwise_append]
          refine ⟨?_, List.pairwise_singleton _ _, fun a ha b hb => ?_⟩
          · rw [List.pairwise_map] at b3
            exact b3.imp fun {a b} h => h.2
          · rw [List.mem_singleton.1 hb]
            show a.2.2.1 ≠ x.2.2.1
            rw [hxt]
            exact k2 a ha
        refine (s1.and s2).imp fun {a b} h => ⟨?_, h.2⟩
        have := cmp_lt.1 h.1
        exact this
    · show itK (insI bag x) k = _
      rw [itK_ins hn, ← hk]
      by_cases hkk : k = kOf x
      · rw [if_pos hkk, if_pos hkk]
        unfold refK
        rw [hkk, hn, ← hx]
        rfl
      · rw [if_neg hkk, if_neg hkk]
    · simp only at hy
      rw [← hk, hn] at hy
      cases hy
    · show (insI bag x).length ≤ _
      rw [hp.length_eq, List.length_append]
      exact Nat.le_refl _
    · show (∃ y ∈ insI bag x, _) ↔ _
      constructor
      · rintro ⟨y, hy, rfl⟩
        rcases (hmem y).1 hy with hy | rfl
        · exact .inr ⟨y, hy, rfl⟩
        · exact .inl hxt
      · rintro (rfl | ⟨y, hy, rfl⟩)
        · exact ⟨x, (hmem x).2 (.inr rfl), hxt⟩
        · exact ⟨y, (hmem y).2 (.inl hy), rfl⟩
  · rw [k1, if_pos (by omega), atI_at k2, Int.toNat_natCast] at h0 ⊢
    by_cases hr : x.2.2.2 = 1000000
    · rw [if_pos hr] at h0; exact absurd h0 (by decide)
    rw [if_neg hr]
    have ho := b2 x (List.mem_of_getElem? k2)
    have hox := oneE_ok ho
    have hit := itK_at hd (List.mem_of_getElem? k2)
    refine ⟨?_, rfl, fun k => ?_, fun y hy => ?_, fun _ => setR_len _ _ _, by rw [setR_len]; omega, fun t => ?_⟩
    · rw [bagE_iff]
      refine ⟨by rw [setR_len]; exact b1, fun y hy => ?_, by rw [setR_ky k2]; exact b3⟩
      rcases setR_mem k2 hy with hy | rfl
      · exact b2 y hy
      · exact oneE_ref ho (by omega) (by omega)
    · show itK (setR bag j (x.2.2.2 + 1)) k = _
      rw [itK_set hd k2]
      change (if k = kOf x then _ else _) = if k = kOf x then _ else _
      by_cases hk : k = kOf x
      · rw [if_pos hk, if_pos hk]
        unfold refK
        rw [hk, hit, k3]
        rfl
      · rw [if_neg hk, if_neg hk]
    · change itK bag (kOf x) = some y at hy
      rw [hit] at hy
      cases hy
      exact k3
    · show (∃ y ∈ setR bag j (x.2.2.2 + 1), _) ↔ _
      constructor
      · rintro ⟨y, hy, rfl⟩
        rcases setR_mem k2 hy with hy | rfl
        · exact .inr ⟨y, hy, rfl⟩
        · exact .inl k3
      · rintro (rfl | ⟨y, hy, rfl⟩)
        · exact ⟨_, List.mem_of_getElem? (setR_at k2 _), k3⟩
        · obtain ⟨i, hi⟩ := List.mem_iff_getElem?.1 hy
          by_cases hij : i = j
          · subst hij
            rw [k2] at hi
            cases hi
            exact ⟨_, List.mem_of_getElem? (setR_at k2 _), rfl⟩
          · refine ⟨y, List.mem_of_getElem? (i := i) ?_, rfl⟩
            unfold setR
            rw [List.getElem?_set_ne (fun e => hij e.symm)]
            exact hi
theorem refK_put {bag : List It} {s : List UInt8} {bag' : List It} {id : Id3} (h : PutR bag s bag' id) (k : K2) : refK bag' k = refK bag k + (if k = id.2 then 1 else 0) := by
  conv => lhs; unfold refK
  rw [h.itk]
  by_cases hk : k = id.2
  · rw [if_pos hk, if_pos hk]; rfl
  · rw [if_neg hk, if_neg hk, Int.add_zero]; rfl
/-! ### right states -/
structure Rt (bag : List It) (l : List Vol) : Prop where
  ok : bagE bag = 0
  len : l.length ≤ 6
  vol : ∀ v ∈ l, v.2.length ≤ 32 ∧ nmB v.1 = true
  srt : l.Pairwise fun a b => Op.bytesLess a.1 b.1 = true
  ids : ∀ id ∈ idsOf l, id.1 = false → id = hole
  cnt : ∀ k : K2, (((idsOf l).count (true, k) : Nat) : Int) = refK bag k
theorem mem_ids {l : List Vol} {id : Id3} : id ∈ idsOf l ↔ ∃ v ∈ l, id ∈ v.2 := by unfold idsOf; rw [List.mem_flatMap]
theorem goI_zero {bag : List It} : ∀ {ids : List Id3}, (∀ id ∈ ids, idE bag id = 0) → goI bag ids = 0
  | [], _ => rfl
  | x :: r, h => by
    rw [goI, if_neg (by rw [h x (by simp)]; exact fun h => h rfl)]
    exact goI_zero fun id hid => h id (by simp [hid])
theorem goV_zero {bag : List It} : ∀ {l : List Vol} {p : Option (List UInt8)}, (∀ v ∈ l, v.2.length ≤ 32 ∧ nmB v.1 = true ∧ goI bag v.2 = 0) → (∀ q, p = some q → ∀ v ∈ l, Op.bytesLess q v.1 = true) → l.Pairwise (fun a b => Op.bytesLess a.1 b.1 = true) → goV bag p l = 0
  | [], _, _, _, _ => rfl
  | x :: r, p, h1, h2, h3 => by
    obtain ⟨a1, a2, a3⟩ := h1 x (by simp)
    obtain ⟨s1, s2⟩ := List.pairwise_cons.1 h3
    have hb : nameBad p x.1 = false := by
      cases p with
      | none => rfl
      | some q => show (!Op.bytesLess q x.1) = false; rw [h2 q rfl x (by simp)]; rfl
    rw [goV, if_neg (by rw [a2, hb]; rintro (h | h) <;> cases h), if_neg (by omega), if_neg (fun h => h a3)]
    exact goV_zero (fun v hv => h1 v (by simp [hv])) (fun q hq v hv => by cases hq; exact s1 v hv) s2
theorem idE_iff {bag : List It} (hd : Dk bag) {id : Id3} : idE bag id = 0 ↔ (id.1 = false → id = hole) ∧ (id.1 = true → itK bag id.2 ≠ none) := by
  unfold idE
  cases h : id.1 with
  | false =>
    by_cases hz : id.2.1 = 0 ∧ id.2.2 = 0
    · rw [if_neg (fun h => h.2 hz), if_neg (fun h => by cases h.1)]
      refine ⟨fun _ => ⟨fun _ => ?_, (fun h => by cases h)⟩, fun _ => rfl⟩
      obtain ⟨a, b, c⟩ := id
      simp only at h hz
      rw [h, hz.1, hz.2]
      rfl
    · rw [if_pos ⟨rfl, hz⟩]
      refine ⟨(fun h => by cases h), fun ⟨h1, _⟩ => absurd ?_ hz⟩
      rw [h1 rfl]
      exact ⟨rfl, rfl⟩
  | true =>
    rw [if_neg (fun h => by cases h.1)]
    rcases idIx_cases hd id h with ⟨k1, k2⟩ | ⟨j, x, k1, _, _, k4⟩
    · unfold idIx at k1
      rw [if_pos ⟨rfl, k1⟩, k2]
      exact ⟨(fun h => by cases h), fun ⟨_, h⟩ => absurd rfl (h rfl)⟩
    · unfold idIx at k1
      rw [if_neg (fun h => by have := h.2; omega), k4]
      exact ⟨fun _ => ⟨(fun h => by cases h), (fun _ h => by cases h)⟩, fun _ => rfl⟩
theorem refK_pos {bag : List It} (h : bagE bag = 0) {k : K2} : (itK bag k ≠ none ↔ 1 ≤ refK bag k) ∧ (itK bag k = none ↔ refK bag k = 0) := by
  unfold refK
  cases hx : itK bag k with
  | none => simp
  | some x =>
    have := (oneE_ok (((bagE_iff bag).1 h).2.1 x (itK_mem hx).1)).2.2
    simp only [Option.map_some, Option.getD_some, ne_eq, reduceCtorEq, not_false_eq_true, true_iff, false_iff]
    omega
theorem rt_of {bag : List It} {l : List Vol} (h : stE bag l = 0) : Rt bag l := by
  obtain ⟨h1, h2, h3⟩ := stE_ok h
  obtain ⟨h4, h5⟩ := volsE_ok h2
  have hd := dk_of h1
  have hid : ∀ id ∈ idsOf l, idE bag id = 0 := fun id hi => by
    obtain ⟨v, hv, hiv⟩ := mem_ids.1 hi
    exact goI_ok (h5 v hv).2.2 id hiv
  refine ⟨h1, h4, fun v hv => ⟨(h5 v hv).1, (h5 v hv).2.1⟩, vols_srt h2, fun id hi => ((idE_iff hd).1 (hid id hi)).1, fun k => ?_⟩
  cases hx : itK bag k with
  | some x =>
    obtain ⟨m1, m2⟩ := itK_mem hx
    unfold cntB at h3
    rw [List.all_eq_true] at h3
    have := of_decide_eq_true (h3 x m1)
    unfold refK
    rw [hx, ← m2]
    exact this
  | none =>
    have : (idsOf l).count (true, k) = 0 := List.count_eq_zero.2 fun hi => ((idE_iff hd).1 (hid _ hi)).2 rfl hx
    unfold refK
    rw [this, hx]
    rfl
theorem of_rt {bag : List It} {l : List Vol} (h : Rt bag l) : stE bag l = 0 := by
  have hd := dk_of h.ok
  have hv : volsE bag l = 0 := by
    unfold volsE
    rw [if_neg (by have := h.len; omega)]
    refine goV_zero (fun v hv => ⟨(h.vol v hv).1, (h.vol v hv).2, goI_zero fun id hid => ?_⟩) (fun q hq => by cases hq) h.srt
    have hm := mem_ids.2 ⟨v, hv, hid⟩
    refine (idE_iff hd).2 ⟨h.ids id hm, fun h1 => ?_⟩
    have e : id = (true, id.2) := by obtain ⟨a, b⟩ := id; simp only at h1; rw [h1]
    rw [e] at hm
    have := List.count_pos_iff.2 hm
    have := h.cnt id.2
    rw [(refK_pos h.ok).1]
    omega
  have hc : cntB bag (idsOf l) = true := by
    unfold cntB
    rw [List.all_eq_true]
    intro x hx
    refine decide_eq_true ?_
    have := h.cnt (kOf x)
    unfold refK at this
    rw [itK_at hd hx] at this
    exact this
  unfold stE
  rw [if_neg (fun hh => hh h.ok), if_neg (fun hh => hh hv), if_neg (by rw [hc]; decide)]
theorem rt_nil : Rt [] [] := ⟨bagE_nil, by decide, (fun v hv => by cases hv), .nil, (fun v hv => by cases hv), fun k => rfl⟩
/-! ### counts -/
theorem ids_app (a b : List Vol) : idsOf (a ++ b) = idsOf a ++ idsOf b := by unfold idsOf; rw [List.flatMap_append]
theorem ids_cons (v : Vol) (b : List Vol) : idsOf (v :: b) = v.2 ++ idsOf b := by unfold idsOf; rw [List.flatMap_cons]
theorem ids_mid (a : List Vol) (x : Vol) (b : List Vol) (q : Id3) : (idsOf (a ++ x :: b)).count q = (idsOf (a ++ b)).count q + x.2.count q := by
  rw [ids_app, ids_app, ids_cons, List.count_append, List.count_append, List.count_append]
  omega
theorem ids_mid_mem {a : List Vol} {x : Vol} {b : List Vol} {q : Id3} : q ∈ idsOf (a ++ x :: b) ↔ q ∈ x.2 ∨ q ∈ idsOf (a ++ b) := by
  rw [ids_app, ids_app, ids_cons, List.mem_append, List.mem_append, List.mem_append]
  constructor
  · rintro (h | h | h)
    · exact .inr (.inl h)
    · exact .inl h
    · exact .inr (.inr h)
  · rintro (h | h | h)
    · exact .inr (.inl h)
    · exact .inl h
    · exact .inr (.inr h)
theorem count_set {l : List Id3} {a : Nat} {y : Id3} (h : l[a]? = some y) (z q : Id3) : (l.set a z).count q + (if y = q then 1 else 0) = l.count q + (if z = q then 1 else 0) := by
  have e := split_at h
  rw [set_split h]
  conv => rhs; rw [e]
  rw [List.count_append, List.count_append, List.count_cons, List.count_cons]
  have b1 : ∀ y : Id3, (if (y == q) = true then 1 else 0) = (if y = q then 1 else 0) := fun y => by
    by_cases hy : y = q
    · rw [if_pos hy, if_pos (by rw [hy]; exact beq_self_eq_true _)]
    · rw [if_neg hy, if_neg (by rw [beq_eq_false_iff_ne.2 hy]; decide)]
  rw [b1, b1]
  omega
/-! ### setV, insV, delV -/
theorem setV_mid {l : List Vol} {i : Nat} {x : Vol} (h : l[i]? = some x) (a : Nat) (id : Id3) : setV l i a id = l.take i ++ (x.1, x.2.set a id) :: l.drop (i + 1) := by
  rw [setV_at h, set_split h]
theorem count_setV {l : List Vol} {i a : Nat} {x : Vol} {y : Id3} (h : l[i]? = some x) (hy : x.2[a]? = some y) (id q : Id3) : (idsOf (setV l i a id)).count q + (if y = q then 1 else 0) = (idsOf l).count q + (if id = q then 1 else 0) := by
  have e : (idsOf l).count q = (idsOf (l.take i ++ l.drop (i + 1))).count q + x.2.count q := by
    conv => lhs; rw [split_at h]
    exact ids_mid _ _ _ _
  rw [setV_mid h, ids_mid, e]
  have := count_set hy id q
  simp only
  omega
theorem mem_setV {l : List Vol} {i a : Nat} {x : Vol} (h : l[i]? = some x) {id q : Id3} (hq : q ∈ idsOf (setV l i a id)) : q = id ∨ q ∈ idsOf l := by
  rw [setV_mid h, ids_mid_mem] at hq
  have e : q ∈ idsOf l ↔ q ∈ x.2 ∨ q ∈ idsOf (l.take i ++ l.drop (i + 1)) := by
    conv => lhs; rw [split_at h]
    exact ids_mid_mem
  rw [e]
  rcases hq with hq | hq
  · rcases List.mem_or_eq_of_mem_set hq with hq | hq
    · exact .inr (.inl hq)
    · exact .inl hq
  · exact .inr (.inr hq)
theorem setV_vol {l : List Vol} {i a : Nat} {x : Vol} (h : l[i]? = some x) {id : Id3} {v : Vol} (hv : v ∈ setV l i a id) : ∃ u ∈ l, v.1 = u.1 ∧ v.2.length = u.2.length := by
  rw [setV_at h] at hv
  rcases List.mem_or_eq_of_mem_set hv with hv | rfl
  · exact ⟨v, hv, rfl, rfl⟩
  · exact ⟨x, List.mem_of_getElem? h, rfl, List.length_set⟩
theorem setV_names {l : List Vol} {i a : Nat} {x : Vol} (h : l[i]? = some x) {id : Id3} : (setV l i a id).map (·.1) = l.map (·.1) := by
  rw [setV_mid h]
  conv => rhs; rw [split_at h]
  rw [List.map_append, List.map_append, List.map_cons, List.map_cons]
theorem srt_names {l l' : List Vol} (h : l'.map (·.1) = l.map (·.1)) (hs : l.Pairwise fun a b => Op.bytesLess a.1 b.1 = true) : l'.Pairwise fun a b => Op.bytesLess a.1 b.1 = true := by
  have e : ∀ l : List Vol, (l.Pairwise fun a b => Op.bytesLess a.1 b.1 = true) ↔ (l.map (·.1)).Pairwise fun a b => Op.bytesLess a b = true := fun l => by rw [List.pairwise_map]
  rw [e, h, ← e]
  exact hs
theorem setV_len {l : List Vol} {i a : Nat} {id : Id3} : (setV l i a id).length = l.length := by unfold setV; rw [List.length_set]
theorem idAt_at {l : List Vol} {i a : Nat} {x : Vol} {y : Id3} (h : l[i]? = some x) (hy : x.2[a]? = some y) : idAt l i a = y := by unfold idAt; rw [volAt_at h, hy]; rfl
theorem mem_at {l : List Vol} {i a : Nat} {x : Vol} {y : Id3} (h : l[i]? = some x) (hy : x.2[a]? = some y) : y ∈ idsOf l := mem_ids.2 ⟨x, List.mem_of_getElem? h, List.mem_of_getElem? hy⟩
theorem Rt.ref {bag : List It} {l : List Vol} (h : Rt bag l) {id : Id3} (hm : id ∈ idsOf l) (h1 : id.1 = true) : 1 ≤ refK bag id.2 := by
  have e : id = (true, id.2) := by obtain ⟨a, b⟩ := id; simp only at h1; rw [h1]
  rw [e] at hm
  have := List.count_pos_iff.2 hm
  have := h.cnt id.2
  omega
theorem Rt.it {bag : List It} {l : List Vol} (h : Rt bag l) {id : Id3} (hm : id ∈ idsOf l) (h1 : id.1 = true) : itK bag id.2 ≠ none := (refK_pos h.ok).1.2 (h.ref hm h1)
theorem rt_trim {bag : List It} {l : List Vol} (h : Rt bag l) {i a : Nat} {x : Vol} {y : Id3} (hx : l[i]? = some x) (hy : x.2[a]? = some y) : Rt (lessId bag y) (setV l i a hole) := by
  have hm := mem_at hx hy
  refine ⟨bagE_lessId h.ok y, by rw [setV_len]; exact h.len, fun v hv => ?_, srt_names (setV_names hx) h.srt, fun id hi h1 => ?_, fun k => ?_⟩
  · obtain ⟨u, hu, e1, e2⟩ := setV_vol hx hv
    rw [e1, e2]; exact h.vol u hu
  · rcases mem_setV hx hi with hi | hi
    · exact hi
    · exact h.ids id hi h1
  · have hc := count_setV hx hy hole (true, k)
    have hh : ¬ hole = (true, k) := fun e => by have := congrArg Prod.fst e; cases this
    rw [if_neg hh] at hc
    have hk := h.cnt k
    cases h1 : y.1 with
    | false =>
      rw [less_hole h1]
      rw [if_neg (fun e => by rw [e] at h1; cases h1)] at hc
      omega
    | true =>
      rw [refK_less h.ok h1 (h.ref hm h1)]
      by_cases hkk : k = y.2
      · rw [if_pos (by obtain ⟨a, b⟩ := y; simp only at h1 hkk; rw [h1, hkk])] at hc
        rw [if_pos hkk]; omega
      · rw [if_neg (fun e => hkk (by rw [e]))] at hc
        rw [if_neg hkk]; omega
theorem rt_put {bag bag' : List It} {l : List Vol} (h : Rt bag l) {i a : Nat} {x : Vol} {s : List UInt8} {id : Id3} (hx : l[i]? = some x) (hy : x.2[a]? = some hole) (hp : PutR bag s bag' id) : Rt bag' (setV l i a id) := by
  refine ⟨hp.ok, by rw [setV_len]; exact h.len, fun v hv => ?_, srt_names (setV_names hx) h.srt, fun q hi h1 => ?_, fun k => ?_⟩
  · obtain ⟨u, hu, e1, e2⟩ := setV_vol hx hv
    rw [e1, e2]; exact h.vol u hu
  · rcases mem_setV hx hi with rfl | hi
    · rw [hp.is] at h1; cases h1
    · exact h.ids q hi h1
  · have hc := count_setV hx hy id (true, k)
    have hh : ¬ hole = (true, k) := fun e => by have := congrArg Prod.fst e; cases this
    rw [if_neg hh] at hc
    have hk := h.cnt k
    rw [refK_put hp]
    by_cases hkk : k = id.2
    · rw [if_pos (by have := hp.is; obtain ⟨a, b⟩ := id; simp only at this hkk; rw [this, hkk])] at hc
      rw [if_pos hkk]; omega
    · rw [if_neg (fun e => hkk (by rw [e]))] at hc
      rw [if_neg hkk]; omega
theorem setV_two {l : List Vol} {i a : Nat} {x : Vol} {y : Id3} (h : l[i]? = some x) (hy : x.2[a]? = some y) (id : Id3) : (setV l i a id)[i]? = some (x.1, x.2.set a id) ∧ (x.2.set a id)[a]? = some id := by
  have hi := (List.getElem?_eq_some_iff.1 h).1
  have ha := (List.getElem?_eq_some_iff.1 hy).1
  exact ⟨by rw [setV_at h, List.getElem?_set_self hi], by rw [List.getElem?_set_self ha]⟩
theorem rt_write {bag : List It} {l : List Vol} (h : Rt bag l) {i a : Nat} {x : Vol} {y : Id3} (hx : l[i]? = some x) (hy : x.2[a]? = some y) {s : List UInt8} (h0 : (putG (lessId bag y) s).2.2 = 0) : Rt (putG (lessId bag y) s).1 (setV l i a (putG (lessId bag y) s).2.1) := by
  have h1 := rt_trim h hx hy
  obtain ⟨g1, g2⟩ := setV_two hx hy hole
  have := rt_put h1 g1 g2 (putR h1.ok h0)
  rwa [setV_setV (List.getElem?_eq_some_iff.1 hx).1] at this
/-! with a volume more, or less -/
theorem insV_mid (l : List Vol) (x : Vol) : ∃ a b, l = a ++ b ∧ insV l x = a ++ x :: b := ⟨_, _, (List.take_append_drop (Sb.bk (fun y => cmpN y.1 x.1) l) l).symm, rfl⟩
theorem insV_mem {l : List Vol} {x y : Vol} : y ∈ insV l x ↔ y ∈ l ∨ y = x := by
  obtain ⟨a, b, e1, e2⟩ := insV_mid l x
  rw [e2, e1, List.mem_append, List.mem_append, List.mem_cons]
  constructor
  · rintro (h | h | h)
    · exact .inl (.inl h)
    · exact .inr h
    · exact .inl (.inr h)
  · rintro ((h | h) | h)
    · exact .inl h
    · exact .inr (.inr h)
    · exact .inr (.inl h)
theorem insV_srt {l : List Vol} {x : Vol} (h : l.Pairwise fun a b => Op.bytesLess a.1 b.1 = true) (hx : ∀ y ∈ l, y.1 ≠ x.1) : (insV l x).Pairwise fun a b => Op.bytesLess a.1 b.1 = true := by
  have e : l = (l.map fun y => ((.bool true, y) : WV)).map (·.2) := by rw [List.map_map]; exact (List.map_id l).symm
  have := insW_srt ((.bool true, x) : WV) (l.map fun y => ((.bool true, y) : WV)) (by rw [List.pairwise_map]; exact h) (fun y hy => by
    obtain ⟨z, hz, rfl⟩ := List.mem_map.1 hy
    exact hx z hz)
  have h2 := insW_map (l.map fun y => ((.bool true, y) : WV)) (.bool true, x)
  rw [← e] at h2
  rw [← h2, List.pairwise_map]
  exact this
theorem freshE_ok {l : List Vol} {n : List UInt8} (h : freshE l n = 0) : nmB n = true ∧ (∀ y ∈ l, y.1 ≠ n) ∧ l.length ≤ 5 := by
  unfold freshE at h
  split at h
  · cases h
  rename_i h1
  split at h
  · cases h
  rename_i h2
  split at h
  · cases h
  rename_i h3
  refine ⟨by simpa using h1, fun y hy e => ?_, by omega⟩
  rcases volIx_sp l n with ⟨_, k2⟩ | ⟨j, x, k1, _⟩
  · exact k2 y hy e
  · rw [k1] at h2; omega
theorem count_hole (k : Nat) (q : K2) : (List.replicate k hole).count (true, q) = 0 := List.count_eq_zero.2 fun h => by
  have := (List.mem_replicate.1 h).2
  have := congrArg Prod.fst this
  cases this
theorem rt_ins {bag bag' : List It} {l : List Vol} (h : Rt bag l) {n : List UInt8} {ids : List Id3} (hf : freshE l n = 0) (hb : bagE bag' = 0) (hl : ids.length ≤ 32) (hh : ∀ id ∈ ids, id.1 = false → id = hole) (hc : ∀ k, refK bag' k = refK bag k + ((ids.count (true, k) : Nat) : Int)) : Rt bag' (insV l (n, ids)) := by
  obtain ⟨f1, f2, f3⟩ := freshE_ok hf
  obtain ⟨a, b, e1, e2⟩ := insV_mid l (n, ids)
  refine ⟨hb, ?_, fun v hv => ?_, insV_srt h.srt f2, fun id hi h1 => ?_, fun k => ?_⟩
  · have := congrArg List.length e1
    rw [e2, List.length_append, List.length_cons]
    rw [List.length_append] at this
    omega
  · rcases insV_mem.1 hv with hv | rfl
    · exact h.vol v hv
    · exact ⟨hl, f1⟩
  · rw [e2, ids_mid_mem, ← e1] at hi
    rcases hi with hi | hi
    · exact hh id hi h1
    · exact h.ids id hi h1
  · rw [e2, ids_mid, ← e1, hc, ← h.cnt k]
    simp only
    omega
theorem rt_make {bag : List It} {l : List Vol} (h : Rt bag l) {n : List UInt8} {k : Nat} (hf : freshE l n = 0) (hk : k ≤ 32) : Rt (makeS bag l n k).1 (makeS bag l n k).2 :=
  rt_ins h hf h.ok (by rw [List.length_replicate]; exact hk) (fun id hi _ => (List.mem_replicate.1 hi).2) (fun q => by rw [count_hole]; show refK bag q = refK bag q + ((0 : Nat) : Int); simp)
theorem rt_clone {bag : List It} {l : List Vol} (h : Rt bag l) {n : List UInt8} {i : Nat} {x : Vol} (hx : l[i]? = some x) (hf : freshE l n = 0) : Rt (cloneS bag l i n).1 (cloneS bag l i n).2 := by
  have hxm := List.mem_of_getElem? hx
  have hi : ∀ id ∈ x.2, id ∈ idsOf l := fun id hi => mem_ids.2 ⟨x, hxm, hi⟩
  have hr := refK_incs x.2 (dk_of h.ok) (fun id hid h1 => h.it (hi id hid) h1)
  have hl192 := idsOf_len h.len (fun v hv => (h.vol v hv).1)
  unfold cloneS
  rw [volAt_at hx]
  refine rt_ins h hf ?_ (h.vol x hxm).1 (fun id hid h1 => h.ids id (hi id hid) h1) hr
  have b0 := (bagE_iff bag).1 h.ok
  have hky : ∀ (ids : List Id3) (bag : List It), (ids.foldl incId bag).map kyT = bag.map kyT := fun ids => by
    induction ids with
    | nil => exact fun _ => rfl
    | cons id r ih => intro bag; rw [List.foldl_cons, ih, incId_ky]
  have hdk : ∀ (ids : List Id3) (bag : List It), Dk bag → Dk (ids.foldl incId bag) := fun ids => by
    induction ids with
    | nil => exact fun _ h => h
    | cons id r ih => intro bag h; exact ih _ (dk_inc h id)
  have hd2 := hdk x.2 bag (dk_of h.ok)
  rw [bagE_iff, incIds_len, hky]
  refine ⟨b0.1, fun y hy => ?_, b0.2.2⟩
  have hkm : kyT y ∈ bag.map kyT := by rw [← hky x.2]; exact List.mem_map_of_mem hy
  obtain ⟨z, hz, ez⟩ := List.mem_map.1 hkm
  have hzo := b0.2.1 z hz
  have e1 : y.1 = z.1 := (congrArg Prod.fst ez).symm
  have e2 : y.2.1 = z.2.1 := (congrArg (fun q => q.2.1) ez).symm
  have e3 : y.2.2.1 = z.2.2.1 := (congrArg (fun q => q.2.2) ez).symm
  have ey : y = (z.1, z.2.1, z.2.2.1, y.2.2.2) := by rw [← e1, ← e2, ← e3]
  have hry := hr (kOf y)
  have hrz := h.cnt (kOf y)
  have hz1 : refK bag (kOf y) = z.2.2.2 := by
    have : kOf y = kOf z := by unfold kOf; rw [e1, e2]
    unfold refK
    rw [this, itK_at (dk_of h.ok) hz]
    rfl
  have hy1 : refK (x.2.foldl incId bag) (kOf y) = y.2.2.2 := by
    unfold refK
    rw [itK_at hd2 hy]
    rfl
  have c1 : (idsOf l).count (true, kOf y) ≤ (idsOf l).length := List.count_le_length
  have c2 : x.2.count (true, kOf y) ≤ x.2.length := List.count_le_length
  have c3 := (h.vol x hxm).1
  have hz2 := (oneE_ok hzo).2.2
  rw [ey]
  exact oneE_ref hzo (by omega) (by omega)
/-! ### answers are right states -/
theorem zSt_right : stE zSt.1 zSt.2 = 0 := of_rt rt_nil
theorem volIx_get {l : List Vol} {n : List UInt8} (h : ¬ volIx l n < 0) : ∃ (j : Nat) (x : Vol), volIx l n = (j : Int) ∧ l[j]? = some x ∧ x.1 = n := by
  rcases volIx_sp l n with ⟨k1, _⟩ | h1
  · exact absurd (by rw [k1]; decide) h
  · exact h1
theorem makeA_right (bag : List It) (l : List Vol) (n : List UInt8) (k : Int) : stE (makeA bag l n k).1.1 (makeA bag l n k).1.2 = 0 := by
  unfold makeA
  by_cases h1 : stE bag l = 0
  rotate_left
  · rw [if_pos h1]; exact zSt_right
  rw [if_neg (fun h => h h1)]
  by_cases h2 : k < 1 ∨ 32 < k
  · rw [if_pos h2]; exact zSt_right
  rw [if_neg h2]
  by_cases h3 : freshE l n = 0
  · rw [if_neg (fun h => h h3)]
    exact of_rt (rt_make (rt_of h1) h3 (by omega))
  · rw [if_pos h3]; exact zSt_right
theorem cloneA_right (bag : List It) (l : List Vol) (n to : List UInt8) : stE (cloneA bag l n to).1.1 (cloneA bag l n to).1.2 = 0 := by
  unfold cloneA
  by_cases h1 : stE bag l = 0
  rotate_left
  · rw [if_pos h1]; exact zSt_right
  rw [if_neg (fun h => h h1)]
  by_cases h2 : volIx l n < 0
  · rw [if_pos h2]; exact zSt_right
  rw [if_neg h2]
  obtain ⟨j, x, e, hx, _⟩ := volIx_get h2
  by_cases h3 : freshE l to = 0
  · rw [if_neg (fun h => h h3), e, Int.toNat_natCast]
    exact of_rt (rt_clone (rt_of h1) hx h3)
  · rw [if_pos h3]; exact zSt_right
theorem pl_get {bag : List It} {l : List Vol} {n : List UInt8} {a : Int} (h : plE bag l n a = 0) : stE bag l = 0 ∧ ∃ (i : Nat) (x : Vol) (m : Nat) (y : Id3), volIx l n = (i : Int) ∧ l[i]? = some x ∧ x.1 = n ∧ a = (m : Int) ∧ x.2[m]? = some y := by
  obtain ⟨h1, h2, h3, h4⟩ := plE_ok h
  obtain ⟨i, x, e, hx, hn⟩ := volIx_get h2
  rw [blks_at e hx] at h4
  refine ⟨h1, i, x, a.toNat, x.2[a.toNat]'(by omega), e, hx, hn, by omega, List.getElem?_eq_getElem _⟩
theorem trimA_right (bag : List It) (l : List Vol) (n : List UInt8) (a : Int) : stE (trimA bag l n a).1.1 (trimA bag l n a).1.2 = 0 := by
  unfold trimA
  by_cases h1 : plE bag l n a = 0
  · rw [if_neg (fun h => h h1)]
    obtain ⟨h2, i, x, m, y, e, hx, _, rfl, hy⟩ := pl_get h1
    rw [e, Int.toNat_natCast, Int.toNat_natCast]
    simp only [trimS, idAt_at hx hy]
    exact of_rt (rt_trim (rt_of h2) hx hy)
  · rw [if_pos h1]; exact zSt_right
theorem writeA_right (bag : List It) (l : List Vol) (n : List UInt8) (a : Int) (s : List UInt8) : stE (writeA bag l n a s).1.1 (writeA bag l n a s).1.2 = 0 := by
  unfold writeA
  by_cases h1 : plE bag l n a = 0
  · rw [if_neg (fun h => h h1)]
    obtain ⟨h2, i, x, m, y, e, hx, _, rfl, hy⟩ := pl_get h1
    rw [e, Int.toNat_natCast, Int.toNat_natCast]
    unfold writeS
    rw [idAt_at hx hy]
    by_cases h3 : (putG (lessId bag y) s).2.2 = 0
    · rw [if_neg (fun h => h h3)]
      exact of_rt (rt_write (rt_of h2) hx hy h3)
    · rw [if_pos h3]; exact zSt_right
  · rw [if_pos h1]; exact zSt_right
end Go.X.Vo

namespace Go.X.Vo
open Go Go.X Go.RowKit Go.X.Bg Go.X.Nm Go.X.Bp Go.X.Sb

abbrev Txt := List UInt8
/-- what stands in a block: nothing, or a text -/
def obs (bag : List It) (id : Id3) : Option Txt := if id.1 = true then some (txtId bag id) else none
/-- the blocks of a volume of a name -/
def lookV (A : St) (n : Txt) : Option (List (Option Txt)) := if volIx A.2 n < 0 then none else some ((blks A.2 n).map (obs A.1))
theorem txt_it {bag : List It} (h : Dk bag) {id : Id3} (h1 : id.1 = true) {x : It} (hx : itK bag id.2 = some x) : txtId bag id = x.2.2.1 := by
  unfold txtId
  rcases idIx_cases h id h1 with ⟨_, k2⟩ | ⟨j, y, k1, k2, _, k4⟩
  · rw [k2] at hx; cases hx
  · rw [k4] at hx
    cases hx
    rw [show fidx (isId id) bag 0 = (j : Int) from k1, Int.toNat_natCast, k2]
    rfl
theorem obs_hole (bag : List It) : obs bag hole = none := rfl
theorem obs_congr {bag bag' : List It} {ids : List Id3} (h : ∀ id ∈ ids, id.1 = true → txtId bag' id = txtId bag id) : ids.map (obs bag') = ids.map (obs bag) :=
  List.map_congr_left fun id hid => by
    unfold obs
    by_cases h1 : id.1 = true
    · rw [if_pos h1, if_pos h1, h id hid h1]
    · rw [if_neg h1, if_neg h1]
theorem txt_less {bag : List It} (h : bagE bag = 0) {y id : Id3} (h1 : id.1 = true) (h2 : itK (lessId bag y) id.2 ≠ none) : txtId (lessId bag y) id = txtId bag id := by
  cases hy1 : y.1 with
  | false => rw [less_hole hy1]
  | true =>
    have hd := dk_of h
    have hd' := dk_of (bagE_lessId h y)
    cases hy : itK bag y.2 with
    | none =>
      have : lessG bag y = ([], 4) := by
        unfold lessG
        rcases idIx_cases hd y hy1 with ⟨k1, _⟩ | ⟨j, x, _, _, _, k4⟩
        · rw [if_pos k1]
        · rw [k4] at hy; cases hy
      have e : lessId bag y = [] := by unfold lessId; rw [if_pos hy1, this]
      rw [e] at h2
      exact absurd rfl h2
    | some z =>
      have hi := itK_less hd hy1 hy id.2
      by_cases hk : id.2 = y.2
      · rw [if_pos hk] at hi
        by_cases h0 : z.2.2.2 - 1 = 0
        · rw [if_pos h0] at hi; exact absurd hi h2
        · rw [if_neg h0] at hi
          rw [txt_it hd' h1 hi, txt_it hd h1 (by rw [hk]; exact hy)]
      · rw [if_neg hk] at hi
        cases hx : itK bag id.2 with
        | none => rw [hi] at h2; exact absurd hx h2
        | some x =>
          rw [hx] at hi
          rw [txt_it hd' h1 hi, txt_it hd h1 hx]
theorem txt_put {bag bag' : List It} {s : Txt} {i id : Id3} (h : bagE bag = 0) (hp : PutR bag s bag' i) (h1 : id.1 = true) (h2 : itK bag id.2 ≠ none) : txtId bag' id = txtId bag id := by
  have hd := dk_of h
  have hd' := dk_of hp.ok
  have hi := hp.itk id.2
  cases hx : itK bag id.2 with
  | none => exact absurd hx h2
  | some x =>
    by_cases hk : id.2 = i.2
    · rw [if_pos hk] at hi
      rw [txt_it hd' h1 hi, txt_it hd h1 hx]
      exact (hp.txt x (by rw [← hk]; exact hx)).symm
    · rw [if_neg hk, hx] at hi
      rw [txt_it hd' h1 hi, txt_it hd h1 hx]
theorem txt_new {bag bag' : List It} {s : Txt} {i : Id3} (hp : PutR bag s bag' i) : txtId bag' i = s := by
  have hi := hp.itk i.2
  rw [if_pos rfl] at hi
  exact txt_it (dk_of hp.ok) hp.is hi
theorem txt_inc {bag : List It} (h : Dk bag) (y id : Id3) (h1 : id.1 = true) : txtId (incId bag y) id = txtId bag id := by
  have hi := itK_inc h y id.2
  rcases idIx_cases h id h1 with ⟨k1, k2⟩ | ⟨j, x, k1, k2, k3, k4⟩
  · have e := idIx_inc bag y id
    unfold txtId
    rw [show fidx (isId id) (incId bag y) 0 = idIx bag id from e, show fidx (isId id) bag 0 = idIx bag id from rfl]
    have hx : idIx bag id = -1 := by
      unfold idIx at k1 ⊢
      rcases fidx_sp (isId id) bag 0 with ⟨q, _⟩ | ⟨j, z, q, _⟩
      · exact q
      · rw [q] at k1; omega
    rw [hx]
    have hl : ∀ b c : List It, b.map kyT = c.map kyT → (b[(-1 : Int).toNat]?).map (·.2.2.1) = (c[(-1 : Int).toNat]?).map (·.2.2.1) := fun b c e => by
      have := congrArg (fun l => (l[(-1 : Int).toNat]?).map (·.2.2)) e
      simp only [List.getElem?_map, Option.map_map] at this
      exact this
    rw [hl _ _ (incId_ky bag y)]
  · rw [k4] at hi
    by_cases hc : y.1 = true ∧ id.2 = y.2
    · rw [if_pos hc] at hi
      rw [txt_it (dk_inc h y) h1 hi, txt_it h h1 k4]
    · rw [if_neg hc] at hi
      rw [txt_it (dk_inc h y) h1 hi, txt_it h h1 k4]
theorem txt_incs : ∀ (ids : List Id3) {bag : List It} (id : Id3), Dk bag → id.1 = true → txtId (ids.foldl incId bag) id = txtId bag id
  | [], _, _, _, _ => rfl
  | y :: r, bag, id, h, h1 => by rw [List.foldl_cons, txt_incs r id (dk_inc h y) h1, txt_inc h y id h1]
/-! ### volumes by names -/
theorem names_ne {l : List Vol} (hs : l.Pairwise fun a b => Op.bytesLess a.1 b.1 = true) {i j : Nat} {x y : Vol} (hi : l[i]? = some x) (hj : l[j]? = some y) (e : x.1 = y.1) : i = j := by
  have hil := (List.getElem?_eq_some_iff.1 hi).1
  have hjl := (List.getElem?_eq_some_iff.1 hj).1
  have ex : l[i] = x := (List.getElem?_eq_some_iff.1 hi).2
  have ey : l[j] = y := (List.getElem?_eq_some_iff.1 hj).2
  rcases Nat.lt_trichotomy i j with hlt | heq | hlt
  · have := List.pairwise_iff_getElem.1 hs i j hil hjl hlt
    rw [ex, ey, e, less_irr] at this
    cases this
  · exact heq
  · have := List.pairwise_iff_getElem.1 hs j i hjl hil hlt
    rw [ex, ey, e, less_irr] at this
    cases this
/-- what is looked up, by membership -/
theorem look_mem {bag : List It} {l : List Vol} (hs : l.Pairwise fun a b => Op.bytesLess a.1 b.1 = true) {x : Vol} (hx : x ∈ l) : lookV (bag, l) x.1 = some (x.2.map (obs bag)) := by
  obtain ⟨j, hj⟩ := List.mem_iff_getElem?.1 hx
  unfold lookV
  rcases volIx_sp l x.1 with ⟨_, k2⟩ | ⟨i, y, k1, k2, k3⟩
  · exact absurd rfl (k2 x hx)
  · rw [if_neg (by rw [k1]; omega), blks_at k1 k2]
    have := names_ne hs k2 hj k3
    subst this
    rw [hj] at k2
    cases k2
    rfl
theorem look_none {bag : List It} {l : List Vol} {n : Txt} (h : ∀ x ∈ l, x.1 ≠ n) : lookV (bag, l) n = none := by
  unfold lookV
  rcases volIx_sp l n with ⟨k1, _⟩ | ⟨i, y, _, k2, k3⟩
  · simp only [k1]
    rfl
  · exact absurd k3 (h y (List.mem_of_getElem? k2))
theorem look_some {A : St} {n : Txt} {X : List (Option Txt)} (h : lookV A n = some X) : ∃ (i : Nat) (x : Vol), volIx A.2 n = (i : Int) ∧ A.2[i]? = some x ∧ x.1 = n ∧ x.2.map (obs A.1) = X := by
  unfold lookV at h
  split at h
  · cases h
  · rename_i h1
    obtain ⟨j, x, e, hx, hn⟩ := volIx_get h1
    rw [blks_at e hx] at h
    exact ⟨j, x, e, hx, hn, Option.some.inj h⟩
theorem look_get {A : St} {n : Txt} {i : Nat} {x : Vol} (e : volIx A.2 n = (i : Int)) (hx : A.2[i]? = some x) : lookV A n = some (x.2.map (obs A.1)) := by
  unfold lookV
  rw [if_neg (by rw [e]; omega), blks_at e hx]
/-- .. of two states with the volumes of names alike -/
theorem look_ext {bag bag' : List It} {l l' : List Vol} (hs : l.Pairwise fun a b => Op.bytesLess a.1 b.1 = true) (hs' : l'.Pairwise fun a b => Op.bytesLess a.1 b.1 = true) {m : Txt}
    (h1 : ∀ x ∈ l, x.1 = m → ∃ y ∈ l', y.1 = m ∧ y.2.map (obs bag') = x.2.map (obs bag)) (h2 : ∀ y ∈ l', y.1 = m → ∃ x ∈ l, x.1 = m) : lookV (bag', l') m = lookV (bag, l) m := by
  by_cases h : ∃ x ∈ l, x.1 = m
  · obtain ⟨x, hx, e⟩ := h
    obtain ⟨y, hy, e2, e3⟩ := h1 x hx e
    subst e
    rw [look_mem hs hx, ← e2, look_mem hs' hy, e3]
  · rw [look_none (fun x hx e => h ⟨x, hx, e⟩), look_none (fun y hy e => h (h2 y hy e))]
theorem look_setV {bag bag' : List It} {l : List Vol} (hs : l.Pairwise fun a b => Op.bytesLess a.1 b.1 = true) {i a : Nat} {x : Vol} (hx : l[i]? = some x) (ha : a < x.2.length) (id : Id3)
    (hc : ∀ v ∈ setV l i a id, ∀ q ∈ v.2, q = id ∨ q.1 = true → q = id ∨ txtId bag' q = txtId bag q) (hid : ∀ v ∈ l, id ∈ v.2 → obs bag' id = obs bag id) (m : Txt) :
    lookV (bag', setV l i a id) m = if m = x.1 then some ((x.2.map (obs bag)).set a (obs bag' id)) else lookV (bag, l) m := by
  have hs' := srt_names (setV_names hx (a := a) (id := id)) hs
  have hil := (List.getElem?_eq_some_iff.1 hx).1
  have hmem : (x.1, x.2.set a id) ∈ setV l i a id := by
    rw [setV_at hx]
    exact List.mem_of_getElem? (List.getElem?_set_self hil)
  have hob : ∀ v ∈ setV l i a id, ∀ q ∈ v.2, q ≠ id → obs bag' q = obs bag q := fun v hv q hq hne => by
    unfold obs
    by_cases h1 : q.1 = true
    · rw [if_pos h1, if_pos h1, (hc v hv q hq (.inr h1)).resolve_left hne]
    · rw [if_neg h1, if_neg h1]
  by_cases hm : m = x.1
  · rw [if_pos hm, hm, show x.1 = ((x.1, x.2.set a id) : Vol).1 from rfl, look_mem hs' hmem]
    congr 1
    apply List.ext_getElem?
    intro j
    rw [List.getElem?_map, List.getElem?_set, List.getElem?_set, List.length_map, List.getElem?_map]
    by_cases hj : a = j
    · subst hj
      rw [if_pos rfl, if_pos rfl, if_pos ha, if_pos ha]
      rfl
    · rw [if_neg hj, if_neg hj]
      cases hy : x.2[j]? with
      | none => rfl
      | some y =>
        simp only [Option.map_some, Option.some.injEq]
        by_cases he : y = id
        · rw [he]
          exact hid x (List.mem_of_getElem? hx) (by rw [← he]; exact List.mem_of_getElem? hy)
        · refine hob _ hmem y ?_ he
          show y ∈ x.2.set a id
          exact List.mem_of_getElem? (by rw [List.getElem?_set_ne hj]; exact hy)
  · rw [if_neg hm]
    refine look_ext hs hs' (fun v hv e => ?_) (fun y hy e => ?_)
    · obtain ⟨j, hj⟩ := List.mem_iff_getElem?.1 hv
      have hji : j ≠ i := fun e2 => by
        subst e2
        rw [hx] at hj
        cases hj
        exact hm e.symm
      have hv' : v ∈ setV l i a id := by
        rw [setV_at hx]
        exact List.mem_of_getElem? (i := j) (by rw [List.getElem?_set_ne (fun e => hji e.symm)]; exact hj)
      refine ⟨v, hv', e, List.map_congr_left fun q hq => ?_⟩
      by_cases he : q = id
      · rw [he]; exact hid v hv (by rw [← he]; exact hq)
      · exact hob v hv' q hq he
    · obtain ⟨u, hu, e1, _⟩ := setV_vol hx hy
      exact ⟨u, hu, by rw [← e1]; exact e⟩
theorem look_trim {bag : List It} {l : List Vol} (h : Rt bag l) {i a : Nat} {x : Vol} {y : Id3} (hx : l[i]? = some x) (hy : x.2[a]? = some y) (m : Txt) :
    lookV (lessId bag y, setV l i a hole) m = if m = x.1 then some ((x.2.map (obs bag)).set a none) else lookV (bag, l) m := by
  have ht := rt_trim h hx hy
  have := look_setV (bag := bag) (bag' := lessId bag y) h.srt hx (List.getElem?_eq_some_iff.1 hy).1 hole (fun v hv q hq hc => ?_) (fun v hv hq => rfl) m
  · rw [obs_hole] at this; exact this
  · rcases hc with hc | hc
    · exact .inl hc
    · exact .inr (txt_less h.ok hc (ht.it (mem_ids.2 ⟨v, hv, hq⟩) hc))
theorem look_put {bag bag' : List It} {l : List Vol} (h : Rt bag l) {i a : Nat} {x : Vol} {s : Txt} {id : Id3} (hx : l[i]? = some x) (hy : x.2[a]? = some hole) (hp : PutR bag s bag' id) (m : Txt) :
    lookV (bag', setV l i a id) m = if m = x.1 then some ((x.2.map (obs bag)).set a (some s)) else lookV (bag, l) m := by
  have := look_setV (bag := bag) (bag' := bag') h.srt hx (List.getElem?_eq_some_iff.1 hy).1 id (fun v hv q hq hc => ?_) (fun v hv hq => ?_) m
  · have e : obs bag' id = some s := by unfold obs; rw [if_pos hp.is, txt_new hp]
    rw [e] at this
    exact this
  · rcases mem_setV hx (mem_ids.2 ⟨v, hv, hq⟩) with he | hm
    · exact .inl he
    · rcases hc with hc | hc
      · exact .inl hc
      · exact .inr (txt_put h.ok hp hc (h.it hm hc))
  · unfold obs
    rw [if_pos hp.is, if_pos hp.is, txt_put h.ok hp hp.is (h.it (mem_ids.2 ⟨v, hv, hq⟩) hp.is)]
theorem look_ins {bag bag' : List It} {l : List Vol} {n : Txt} {ids : List Id3} (hs : l.Pairwise fun a b => Op.bytesLess a.1 b.1 = true) (hn : ∀ y ∈ l, y.1 ≠ n) (hb : ∀ v ∈ l, v.2.map (obs bag') = v.2.map (obs bag)) (m : Txt) :
    lookV (bag', insV l (n, ids)) m = if m = n then some (ids.map (obs bag')) else lookV (bag, l) m := by
  have hs' : (insV l (n, ids)).Pairwise fun a b => Op.bytesLess a.1 b.1 = true := insV_srt hs hn
  by_cases hm : m = n
  · rw [if_pos hm, hm, show n = ((n, ids) : Vol).1 from rfl, look_mem hs' (insV_mem.2 (.inr rfl))]
  · rw [if_neg hm]
    refine look_ext hs hs' (fun v hv e => ⟨v, insV_mem.2 (.inl hv), e, hb v hv⟩) (fun y hy e => ?_)
    rcases insV_mem.1 hy with hy | rfl
    · exact ⟨y, hy, e⟩
    · exact absurd e.symm hm
/-! ### the answers -/
theorem pl_look {bag : List It} {l : List Vol} {n : Txt} {X : List (Option Txt)} {j : Nat} (hs : stE bag l = 0) (h : lookV (bag, l) n = some X) (hj : j < X.length) : plE bag l n (j : Int) = 0 := by
  obtain ⟨i, x, e, hx, _, hX⟩ := look_some h
  have hl : x.2.length = X.length := by rw [← hX, List.length_map]
  unfold plE
  rw [if_neg (fun h => h hs), if_neg (by rw [show volIx l n = (i : Int) from e]; omega), blks_at e hx, if_neg (by omega)]
theorem rd_look {bag : List It} {l : List Vol} {n : Txt} {X : List (Option Txt)} {j : Nat} {o : Option Txt} (hs : stE bag l = 0) (h : lookV (bag, l) n = some X) (hj : X[j]? = some o) : rdS bag l n (j : Int) = o.getD [] := by
  have hp := pl_look hs h (List.getElem?_eq_some_iff.1 hj).1
  obtain ⟨i, x, e, hx, _, hX⟩ := look_some h
  rw [← hX, List.getElem?_map, Option.map_eq_some_iff] at hj
  obtain ⟨y, hy, ho⟩ := hj
  have hr : rdId l n (j : Int) = y := by unfold rdId; rw [blks_at e hx, Int.toNat_natCast, hy]; rfl
  unfold rdS
  rw [if_pos hp, hr, ← ho]
  show _ = (obs bag y).getD []
  unfold obs
  split <;> rfl
theorem look_trimA {bag : List It} {l : List Vol} {n : Txt} {j : Nat} (h : (trimA bag l n (j : Int)).2 = 0) :
    ∃ X, lookV (bag, l) n = some X ∧ j < X.length ∧ ∀ m, lookV (trimA bag l n (j : Int)).1 m = if m = n then some (X.set j none) else lookV (bag, l) m := by
  unfold trimA at h ⊢
  by_cases h1 : plE bag l n (j : Int) = 0
  · rw [if_neg (fun h => h h1)] at h ⊢
    obtain ⟨h2, i, x, m, y, e, hx, hn, ha, hy⟩ := pl_get h1
    obtain rfl : j = m := by omega
    refine ⟨_, look_get (A := (bag, l)) e hx, by rw [List.length_map]; exact (List.getElem?_eq_some_iff.1 hy).1, fun m => ?_⟩
    rw [e, Int.toNat_natCast, Int.toNat_natCast]
    simp only [trimS, idAt_at hx hy]
    rw [look_trim (rt_of h2) hx hy, hn]
  · rw [if_pos h1] at h
    exact absurd h h1
theorem trimA_ok {bag : List It} {l : List Vol} {n : Txt} {X : List (Option Txt)} {j : Nat} (hs : stE bag l = 0) (h : lookV (bag, l) n = some X) (hj : j < X.length) : (trimA bag l n (j : Int)).2 = 0 := by
  unfold trimA
  rw [if_neg (fun h' => h' (pl_look hs h hj))]
theorem look_writeA {bag : List It} {l : List Vol} {n s : Txt} {j : Nat} (h : (writeA bag l n (j : Int) s).2 = 0) :
    ∃ X, lookV (bag, l) n = some X ∧ j < X.length ∧ ∀ m, lookV (writeA bag l n (j : Int) s).1 m = if m = n then some (X.set j (some s)) else lookV (bag, l) m := by
  unfold writeA at h ⊢
  by_cases h1 : plE bag l n (j : Int) = 0
  · rw [if_neg (fun h => h h1)] at h ⊢
    obtain ⟨h2, i, x, m, y, e, hx, hn, ha, hy⟩ := pl_get h1
    obtain rfl : j = m := by omega
    rw [e, Int.toNat_natCast, Int.toNat_natCast] at h ⊢
    unfold writeS at h ⊢
    rw [idAt_at hx hy] at h ⊢
    by_cases h3 : (putG (lessId bag y) s).2.2 = 0
    · rw [if_neg (fun h => h h3)] at h ⊢
      refine ⟨_, look_get (A := (bag, l)) e hx, by rw [List.length_map]; exact (List.getElem?_eq_some_iff.1 hy).1, fun m => ?_⟩
      have ht := rt_trim (rt_of h2) hx hy
      obtain ⟨g1, g2⟩ := setV_two hx hy hole
      have := look_put ht g1 g2 (putR ht.ok h3) m
      rw [setV_setV (List.getElem?_eq_some_iff.1 hx).1] at this
      show lookV ((putG (lessId bag y) s).1, setV l i j (putG (lessId bag y) s).2.1) m = _
      rw [this, look_trim (rt_of h2) hx hy, hn]
      have hc : ((x.1, x.2.set j hole) : Vol).2.map (obs (lessId bag y)) = (x.2.map (obs bag)).set j none := by
        have h5 := look_mem (bag := lessId bag y) ht.srt (List.mem_of_getElem? g1)
        have h6 := look_trim (rt_of h2) hx hy x.1
        rw [if_pos rfl] at h6
        have h7 : lookV (lessId bag y, setV l i j hole) ((x.1, x.2.set j hole) : Vol).1 = some ((x.2.map (obs bag)).set j none) := h6
        rw [h7] at h5
        exact (Option.some.inj h5).symm
      simp only at hc
      simp only [hc, List.set_set, hn]
      split <;> rfl
    · rw [if_pos h3] at h
      exact absurd h h3
  · rw [if_pos h1] at h
    exact absurd h h1
theorem look_makeA {bag : List It} {l : List Vol} {n : Txt} {k : Nat} (h : (makeA bag l n (k : Int)).2 = 0) (m : Txt) :
    lookV (makeA bag l n (k : Int)).1 m = if m = n then some (List.replicate k none) else lookV (bag, l) m := by
  unfold makeA at h ⊢
  by_cases h1 : stE bag l = 0
  rotate_left
  · rw [if_pos h1] at h; exact absurd h h1
  rw [if_neg (fun h => h h1)] at h ⊢
  by_cases h2 : (k : Int) < 1 ∨ 32 < (k : Int)
  · rw [if_pos h2] at h; exact absurd h (by decide)
  rw [if_neg h2] at h ⊢
  by_cases h3 : freshE l n = 0
  rotate_left
  · rw [if_pos h3] at h; exact absurd h h3
  rw [if_neg (fun h => h h3)]
  have hr := rt_of h1
  unfold makeS
  rw [Int.toNat_natCast, look_ins hr.srt (freshE_ok h3).2.1 (fun _ _ => rfl) m, List.map_replicate, obs_hole]
theorem look_cloneA {bag : List It} {l : List Vol} {n to : Txt} (h : (cloneA bag l n to).2 = 0) :
    ∃ X, lookV (bag, l) n = some X ∧ ∀ m, lookV (cloneA bag l n to).1 m = if m = to then some X else lookV (bag, l) m := by
  unfold cloneA at h ⊢
  by_cases h1 : stE bag l = 0
  rotate_left
  · rw [if_pos h1] at h; exact absurd h h1
  rw [if_neg (fun h => h h1)] at h ⊢
  by_cases h2 : volIx l n < 0
  · rw [if_pos h2] at h; exact absurd h (by decide)
  rw [if_neg h2] at h ⊢
  by_cases h3 : freshE l to = 0
  rotate_left
  · rw [if_pos h3] at h; exact absurd h h3
  rw [if_neg (fun h => h h3)]
  obtain ⟨j, x, e, hx, hn⟩ := volIx_get h2
  have hr := rt_of h1
  have hc : ∀ ids : List Id3, ids.map (obs (x.2.foldl incId bag)) = ids.map (obs bag) := fun ids => obs_congr fun id _ h1 => txt_incs x.2 id (dk_of hr.ok) h1
  refine ⟨_, look_get (A := (bag, l)) e hx, fun m => ?_⟩
  rw [e, Int.toNat_natCast]
  unfold cloneS
  rw [volAt_at hx, look_ins hr.srt (freshE_ok h3).2.1 (fun v _ => hc v.2) m, hc]
end Go.X.Vo

