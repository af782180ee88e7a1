/- The logic, sixth part: results of which more is known. Conditions: none. -/
import Derived.Test.YtbnbimncladflaaDoorFwE
set_option linter.unusedSimpArgs false
set_option linter.unusedVariables false
set_option maxHeartbeats 4000000
set_option maxRecDepth 20000
namespace Go.X
open Go Go.RowKit

section
variable {E : Env} {σ : Sig} {H : HS} {M : Mem} {a : Act} {w : World} {ν : Nat → Value} {K : KP}

theorem RowM.one {v : Value} {sz : Nat} {es : List (List Value)} (h : RowM M v sz es) : v.oneCell' = true := by
  have := h.sl
  cases v <;> first | rfl | cases this

/-- a call that hands back what is known -/
theorem CallK.res {f d : Nat} {l : List SV} {R : SV → Mem → Prop} (hl : SV.concs l = true) (hd : decide (d < E.N) = true) (h : Meets E.P f l M (fun r _ M' => R r M')) (hc : ∀ r M', R r M' → r.conc = true)
    (hk : ∀ r M', M.le M' → R r M' → K ((d, true, r) :: σ) H M') : CallK E f l d K σ H M := by
  intro ν a w hs hh
  refine .inl ⟨h.1, ?_⟩
  rw [SV.concs_vals (ν := ν0) (ν' := ν) l hl]
  refine (h.2 w hh.mem).mono ?_
  rintro e w' ⟨s, H', M', ν', rfl, hh', hR⟩
  refine ⟨_, rfl, _, _, _, ⟨ν, hs.put (of_decide_eq_true hd) (by rw [cond_true]; exact SV.conc_val s (hc _ _ hR)), hh.call hh'⟩, hk s M' hh'.le0 hR⟩

/-- what the callee hands back as its own, known from now on -/
theorem Meets.pub {P : Program} {f : FuncId} {args : List SV} {T : SV → SV} {sz : Nat} {Φ : List (List Value) → Mem → Prop} (hT : Ctx T) (hΦ : ∀ es M M', M.le M' → Φ es M → Φ es M')
    (h : Meets P f args M (fun r H M' => ∃ s es, r = T s ∧ IsRow H M' s sz es ∧ Φ es M')) : Meets P f args M (fun r _ M' => ∃ v es, r = T (.v v) ∧ RowM M' v sz es ∧ Φ es M') := by
  refine ⟨h.1, fun w hw => (h.2 w hw).mono ?_⟩
  rintro e w' ⟨s, H', M', ν, rfl, hh, s', es, rfl, hR, hp⟩
  cases s' with
  | v x => exact ⟨_, H', M', ν, rfl, hh, x, es, rfl, hR, hp⟩
  | own k =>
    obtain ⟨M'', h1, h2, h3⟩ := pub_heap hh hR
    refine ⟨T (.v (ν k)), _, M'', ν, ?_, h3, ν k, es, rfl, h2, hΦ _ _ _ h1 hp⟩
    rw [hT (.own k) (.v (ν k)) ν ν rfl]
  | _ => exact hR.elim

/-- the callee's own row, of which more is known -/
theorem CallK.ownP {f d sz : Nat} {l : List SV} {T : SV → SV} {Φ : List (List Value) → Mem → Prop} (hT : Ctx T) (hl : SV.concs l = true) (hd : decide (d < E.N) = true)
    (h : Meets E.P f l M (fun r H M' => ∃ k es, r = T (.own k) ∧ hget H k = some (.row sz es) ∧ Φ es M')) (hn : hNoKey d (hdel d H) = true)
    (hk : ∀ es M', M.le M' → Φ es M' → K ((d, true, T (.own (8 * d))) :: sigDrop d σ) ((8 * d, .row sz es) :: hdel d H) M') : CallK E f l d K σ H M := by
  intro ν a w hs hh
  refine .inl ⟨h.1, ?_⟩
  rw [SV.concs_vals (ν := ν0) (ν' := ν) l hl]
  refine (h.2 w hh.mem).mono ?_
  rintro e w' ⟨s, H', M', ν', rfl, hh', k, es, rfl, hR, hp⟩
  let ν2 : Nat → Value := fun j => if j / 8 = d then ν' k else ν j
  have hν : ∀ j, j / 8 ≠ d → ν2 j = ν j := fun j hj => by simp [ν2, hj]
  have hν8 : ν2 (8 * d) = ν' k := by simp [ν2, show (8 * d) / 8 = d by omega]
  refine ⟨_, rfl, _, _, _, ⟨ν2, (hs.drop hν).put (of_decide_eq_true hd) (by rw [cond_true]; exact hT _ _ _ _ (by simp only [SV.val, hν8])), ?_⟩, hk es M' hh'.le0 hp⟩
  refine ((hh.call hh').sublist (hdel_sub d H)).add hn hν (fun j => ?_) ?_ (fun b hb => ?_)
  · by_cases hj : j / 8 = d
    · simp only [ν2, hj, if_true]; exact hh'.one k
    · simp only [ν2, hj, if_false]; exact hh.one j
  · rw [hν8]
    exact hh'.holds _ (hget_mem hR)
  · rw [hν8] at hb
    have hbm : b ∈ fp ν' H' := List.mem_filterMap.2 ⟨(k, _), hget_mem hR, hb⟩
    obtain ⟨h1, h2⟩ := hh'.apart b hbm
    refine ⟨fun hm => ?_, h1, Nat.le_trans hh.below.size h2⟩
    have := hh.fp_lt (((hdel_sub d H).filterMap _).subset hm)
    simp only at h2
    omega

/-- nil, as a row of the callee's own -/
theorem Meets.nilOwn {P : Program} {f : FuncId} {args : List SV} {sz : Nat} (h : Meets P f args M (fun r _ _ => r = .v (.slice none 0 0))) : Meets P f args M (OwnR (fun s => s) sz []) := by
  refine ⟨h.1, fun w hw => (h.2 w hw).mono ?_⟩
  rintro e w' ⟨s, H', M', ν, rfl, hh, rfl⟩
  refine ⟨.own 0, [(0, .row sz [])], M', fun _ => .slice none 0 0, rfl, ⟨fun p hp => ?_, by simp [fp, blk?], by simp [fp, blk?], hh.mem, hh.below, hh.le0, hh.fresh, fun _ => rfl⟩, 0, rfl, rfl⟩
  simp only [List.mem_singleton] at hp
  subst hp
  exact ⟨fun e he => by simp at he, .inl ⟨rfl, rfl⟩⟩
end
def tk : List Nat → Sch → Sch
  | [], s => s
  | i :: l, s => .take i (tk l s)
def ones' : List Nat → Sch → Sch
  | [], s => s
  | i :: l, s => .one i (ones' l s)
theorem tks : type_of% (And.intro (And.intro @tk.eq_1 @tk.eq_2) (And.intro @ones'.eq_1 @ones'.eq_2)) := And.intro (And.intro @tk.eq_1 @tk.eq_2) (And.intro @ones'.eq_1 @ones'.eq_2)
theorem l_drop_at {α : Type} {l : List α} {i : Nat} (h : i < l.length) : ∃ x, l[i]? = some x ∧ l.drop i = x :: l.drop (i + 1) :=
  ⟨_, List.getElem?_eq_getElem h, List.drop_eq_getElem_cons h⟩
/-- the place of the first that is so, or -1 -/
def fidx {α : Type} (p : α → Bool) : List α → Nat → Int
  | [], _ => -1
  | x :: l, i => if p x = true then (i : Int) else fidx p l (i + 1)
theorem fidx_iff {α : Type} (p : α → Bool) : ∀ (l : List α) (i : Nat), 0 ≤ fidx p l i ↔ l.any p = true
  | [], i => by simp [fidx]
  | x :: l, i => by
    have := fidx_iff p l (i + 1)
    by_cases hp : p x = true
    · simp [fidx, hp]
    · simp [fidx, hp, this]
theorem fidx_any {α : Type} (p : α → Bool) (l : List α) (i : Nat) : decide (0 ≤ fidx p l i) = l.any p := by
  have := fidx_iff p l i
  cases h : l.any p with
  | true => exact decide_eq_true (this.2 h)
  | false => exact decide_eq_false (fun h' => by rw [this.1 h'] at h; cases h)
end Go.X
