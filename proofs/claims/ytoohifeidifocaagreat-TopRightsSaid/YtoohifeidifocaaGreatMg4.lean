/- Contracts of functions and the logic that they are proved in (5 texts in one). Conditions: none. -/
import Derived.Test.YtoohifeidifocaaGreatTy
import Derived.ChangeSlices
import Derived.OpenShut
import Derived.Deep.Slices
import Derived.Lib.SmallJoins
import Derived.WideShapes
import Derived.SizedLaws
import Derived.Test.YtoohifeidifocaaGreatRows
import Derived.WalkKit
import Derived.ProofKit
import Derived.KernelRfl
set_option linter.unusedSimpArgs false
set_option linter.unusedVariables false
set_option maxHeartbeats 4000000
set_option maxRecDepth 20000
namespace Go.X
open Go Go.RowKit

/-- what is known of the elements of a slice value -/
def RowM (M : Mem) (v : Value) (sz : Nat) (es : List (List Value)) : Prop :=
  (isSl v = true ∧ lenV v = es.length ∧ lenV v ≤ capV v ∧ capV v ≤ maxLen) ∧ (es ≠ [] → someV v = true) ∧ ∀ i e, es[i]? = some e → (e.length = sz ∧ ∀ j c, e[j]? = some c → cellE M v (i * sz + j) = some c ∧ c.oneCell' = true)

theorem cellE_le {M M' : Mem} (h : M.le M') {v : Value} {j : Nat} {c : Value} (hc : cellE M v j = some c) : cellE M' v j = some c := by
  cases v with
  | slice ad n k =>
    cases ad with
    | some ad => exact cellM_le h hc
    | none => simp [cellE] at hc
  | _ => simp [cellE] at hc

theorem RowM.le {M M' : Mem} {v : Value} {sz : Nat} {es : List (List Value)} (h : RowM M v sz es) (hle : M.le M') : RowM M' v sz es :=
  ⟨h.1, h.2.1, fun i e he => ⟨(h.2.2 i e he).1, fun j c hc => ⟨cellE_le hle ((h.2.2 i e he).2 j c hc).1, ((h.2.2 i e he).2 j c hc).2⟩⟩⟩

theorem RowM.nil (M : Mem) (sz : Nat) : RowM M (.slice none 0 0) sz [] := ⟨⟨rfl, rfl, Nat.le_refl _, Nat.zero_le _⟩, fun h => (h rfl).elim, fun i e h => by simp at h⟩

section
variable {M : Mem} {v : Value} {sz : Nat} {es : List (List Value)}

theorem RowM.len (h : RowM M v sz es) : lenV v = es.length := h.1.2.1
theorem RowM.len_le (h : RowM M v sz es) : (es.length : Int) ≤ 9223372036854775807 := by
  have h1 := h.1.2.2.1
  have h2 := h.1.2.2.2
  rw [h.len] at h1
  simp only [maxLen] at h2
  omega
theorem RowM.sl (h : RowM M v sz es) : isSl v = true := h.1.1

theorem RowM.cell (h : RowM M v sz es) {i : Nat} {e : List Value} (he : es[i]? = some e) {off : Nat} (ho : off < sz) : elE M v sz i off = e.getD off undef ∧ okE M v sz i off ∧ (elE M v sz i off).oneCell' = true := by
  obtain ⟨h1, h2⟩ := h.2.2 i e he
  have h3 : e[off]? = some (e[off]'(by omega)) := List.getElem?_eq_getElem _
  obtain ⟨h4, h5⟩ := h2 off _ h3
  refine ⟨?_, ?_, ?_⟩
  · simp only [elE, h4, Option.getD_some, List.getD, h3]
  · simp only [okE, h4, Option.isSome_some]
  · simp only [elE, h4, Option.getD_some, h5]

theorem RowM.el1 {α : Type} {enc : α → List Value} {l : List α} {c : Value} {x : α} {i : Nat} (h : RowM M v 1 (l.map enc)) (hx : l[i]? = some x) (hc : enc x = [c]) : elE M v 1 i 0 = c ∧ okE M v 1 i 0 := by
  have := h.cell (i := i) (e := [c]) (by rw [List.getElem?_map, hx, Option.map_some, hc]) (off := 0) (by omega)
  exact ⟨this.1, this.2.1⟩
theorem RowM.ix (h : RowM M v sz es) {i : Int} (h0 : 0 ≤ i) (h1 : i < es.length) : ixOk v i := by
  refine ⟨⟨h0, by rw [h.len]; exact h1⟩, h.2.1 fun e => ?_⟩
  subst e
  simp at h1
  omega

theorem RowM.rows (h : RowM M v sz es) (h0 : 0 < sz) : rowsM M v sz = es ∧ rowsOk M v sz := by
  have h2 : ∀ i, i < lenV v → ∃ e, es[i]? = some e := fun i hi => ⟨_, List.getElem?_eq_getElem (by rw [← h.len]; exact hi)⟩
  refine ⟨?_, ⟨⟨h.sl, h0⟩, fun i hi j hj => ?_⟩⟩
  · apply List.ext_getElem?
    intro i
    simp only [rowsM, List.getElem?_map]
    by_cases hi : i < lenV v
    · obtain ⟨e, he⟩ := h2 i hi
      rw [List.getElem?_range hi, he]
      simp only [Option.map_some, Option.some.injEq]
      apply List.ext_getElem?
      intro j
      simp only [List.getElem?_map]
      have hl := (h.2.2 i e he).1
      by_cases hj : j < sz
      · rw [List.getElem?_range hj]
        simp only [Option.map_some]
        rw [(h.cell he hj).1, List.getElem?_eq_getElem (by omega), List.getD, List.getElem?_eq_getElem (by omega)]
        rfl
      · rw [List.getElem?_eq_none (by simp; omega), List.getElem?_eq_none (by omega)]
        rfl
    · rw [List.getElem?_eq_none (by simp; omega), List.getElem?_eq_none (by rw [← h.len]; omega)]
      rfl
  · obtain ⟨e, he⟩ := h2 i hi
    exact (h.cell he hj).2

theorem RowM.sub (h : RowM M v sz es) {lo hi : Nat} (h1 : lo ≤ hi) (h2 : hi ≤ es.length) : RowM M (subV v sz lo hi) sz ((es.drop lo).take (hi - lo)) := by
  obtain ⟨⟨g1, g2, g3, g3'⟩, g4, g5⟩ := h
  cases v with
  | slice ad n c =>
    simp only [lenV, capV] at g2 g3 g3'
    refine ⟨⟨rfl, ?_, ?_, ?_⟩, fun hne => ?_, fun i e he => ?_⟩
    · simp only [subV, lenV, List.length_take, List.length_drop]; omega
    · simp only [subV, lenV, capV]; omega
    · simp only [subV, capV]; omega
    · have hes : es ≠ [] := by rintro rfl; simp at hne
      have := g4 hes
      cases ad with
      | none => simp [someV] at this
      | some ad =>
        simp only [subV, Option.map_some]
        split <;> rfl
    · have hlt : i < hi - lo := by
        have := (List.getElem?_eq_some_iff.1 he).1
        simp only [List.length_take] at this
        omega
      rw [List.getElem?_take, if_pos hlt, List.getElem?_drop] at he
      obtain ⟨h3, h4⟩ := g5 (lo + i) e he
      refine ⟨h3, fun j x hx => ?_⟩
      obtain ⟨h5, h6⟩ := h4 j x hx
      refine ⟨?_, h6⟩
      cases ad with
      | none => simp [cellE] at h5
      | some ad =>
        have hcl : ¬ c = lo := by omega
        simp only [subV, if_neg hcl, Option.map_some, cellE] at h5 ⊢
        rw [← h5, Addr.add_add]
        congr 2
        rw [Nat.add_mul]
        omega
  | _ => simp [isSl] at g1
end

/-! ### Publishing -/
mutual
def SV.pub (k : Nat) (v : Value) : SV → SV
  | .v x => .v x
  | .own j => if j = k then .v v else .own j
  | .ptr j a b c => .ptr j a b c
  | .ea x a b c => .ea x a b c
  | .agg l => .agg (SV.pubs k v l)
  | .tup l => .tup (SV.pubs k v l)
  | .fn f l => .fn f (SV.pubs k v l)
def SV.pubs (k : Nat) (v : Value) : List SV → List SV
  | [] => []
  | s :: l => SV.pub k v s :: SV.pubs k v l
end
mutual
theorem SV.pub_val {ν : Nat → Value} {k : Nat} : ∀ s : SV, (s.pub k (ν k)).val ν = s.val ν
  | .v _ => rfl
  | .own j => by
    simp only [SV.pub]
    split
    · rename_i e; subst e; rfl
    · rfl
  | .ptr _ _ _ _ => rfl
  | .ea _ _ _ _ => rfl
  | .agg l => by simp only [SV.pub, SV.val, SV.pubs_vals l]
  | .tup l => by simp only [SV.pub, SV.val, SV.pubs_vals l]
  | .fn f l => by simp only [SV.pub, SV.val, SV.pubs_vals l]
theorem SV.pubs_vals {ν : Nat → Value} {k : Nat} : ∀ l : List SV, SV.vals ν (SV.pubs k (ν k) l) = SV.vals ν l
  | [] => rfl
  | s :: l => by simp only [SV.pubs, SV.vals, SV.pub_val s, SV.pubs_vals l]
end
def sigPub (k : Nat) (v : Value) : Sig → Sig
  | [] => []
  | (j, g, s) :: σ => (j, g, s.pub k v) :: sigPub k v σ
def pubss (k : Nat) (v : Value) : List (List SV) → List (List SV)
  | [] => []
  | e :: r => SV.pubs k v e :: pubss k v r
theorem pubss_vals {ν : Nat → Value} {k : Nat} : ∀ es : List (List SV), (pubss k (ν k) es).map (SV.vals ν) = es.map (SV.vals ν)
  | [] => rfl
  | e :: r => by simp only [pubss, List.map_cons, SV.pubs_vals, pubss_vals r]
def poPub (k : Nat) (v : Value) : PO → PO
  | .box cs t => .box (SV.pubs k v cs) t
  | .row sz es => .row sz es
  | .tab sz es => .tab sz (pubss k v es)
  | .mp es => .mp es
def hpub (k : Nat) (v : Value) : HS → HS
  | [] => []
  | (j, p) :: H => if j = k then hpub k v H else (j, poPub k v p) :: hpub k v H

theorem lk_pub {k : Nat} {v : Value} : ∀ {σ : Sig} {j : Nat} {g : Bool} {s : SV}, lk (sigPub k v σ) j = some (g, s) → ∃ s', s = s'.pub k v ∧ lk σ j = some (g, s')
  | [], j, g, s, h => by simp [sigPub, lk] at h
  | (i, g', s') :: σ, j, g, s, h => by
    simp only [sigPub, lk] at h
    simp only [lk]
    split at h
    · rename_i e
      simp only [Option.some.injEq, Prod.mk.injEq] at h
      obtain ⟨rfl, rfl⟩ := h
      exact ⟨s', rfl, by rw [if_pos e]⟩
    · rename_i e
      rw [if_neg e]
      exact lk_pub h

theorem fp_pub (ν : Nat → Value) (k : Nat) (v : Value) : ∀ H : HS, fp ν (hpub k v H) = fp ν (hdelk k H)
  | [] => rfl
  | (j, p) :: H => by
    have ih := fp_pub ν k v H
    simp only [hpub, hdelk]
    split
    · exact ih
    · simp only [fp, List.filterMap_cons] at ih ⊢
      rw [ih]

theorem hpub_mem {k : Nat} {v : Value} : ∀ {H : HS} {q : Nat × PO}, q ∈ hpub k v H → ∃ p, (q.1, p) ∈ H ∧ q.2 = poPub k v p
  | [], q, h => by simp [hpub] at h
  | (j, p) :: H, q, h => by
    simp only [hpub] at h
    split at h
    · obtain ⟨p', h1, h2⟩ := hpub_mem h
      exact ⟨p', List.mem_cons_of_mem _ h1, h2⟩
    · rcases List.mem_cons.1 h with rfl | h
      · exact ⟨p, List.mem_cons_self, rfl⟩
      · obtain ⟨p', h1, h2⟩ := hpub_mem h
        exact ⟨p', List.mem_cons_of_mem _ h1, h2⟩

theorem flatten_get {sz : Nat} {sp : List Value} : ∀ {es : List (List Value)} {i : Nat} {e : List Value} {j : Nat}, (∀ e ∈ es, e.length = sz) → es[i]? = some e → j < sz → (es.flatten ++ sp)[i * sz + j]? = e[j]?
  | [], i, e, j, _, h, _ => by simp at h
  | e' :: es, 0, e, j, hl, h, hj => by
    simp only [List.getElem?_cons_zero, Option.some.injEq] at h
    subst h
    have := hl e' List.mem_cons_self
    simp only [Nat.zero_mul, Nat.zero_add, List.flatten_cons, List.append_assoc]
    rw [List.getElem?_append_left (by omega)]
  | e' :: es, i + 1, e, j, hl, h, hj => by
    have h1 := hl e' List.mem_cons_self
    simp only [List.getElem?_cons_succ] at h
    have ih := flatten_get (sp := sp) (fun e he => hl e (List.mem_cons_of_mem _ he)) h hj
    simp only [List.flatten_cons, List.append_assoc]
    rw [List.getElem?_append_right (by rw [h1, Nat.add_mul]; omega), ← ih]
    congr 1
    rw [h1, Nat.add_mul]
    omega

section
variable {E : Env} {σ : Sig} {H : HS} {M : Mem} {a : Act} {w : World} {ν : Nat → Value} {K : KP} {o : Oper}

theorem pub_heap {k sz : Nat} {es : List (List Value)} (hh : Heap E ν H M w) (hk : hget H k = some (.row sz es)) : ∃ M', M.le M' ∧ RowM M' (ν k) sz es ∧ Heap E ν (hpub k (ν k) H) M' w := by
  obtain ⟨g1, g2⟩ := hh.holds _ (hget_mem hk)
  have hholds : ∀ q ∈ hpub k (ν k) H, q.2.holds ν w (ν q.1) := by
    intro q hq
    obtain ⟨p, h1, h2⟩ := hpub_mem hq
    have := hh.holds _ h1
    rw [h2]
    cases p with
    | box cs t => obtain ⟨⟨b, T, e, h⟩, ht⟩ := this; exact ⟨⟨b, T, e, by rw [SV.pubs_vals]; exact h⟩, ht⟩
    | row sz es => exact this
    | tab sz es =>
      simp only [poPub]
      rw [PO.tab_row] at this ⊢
      rw [pubss_vals]
      exact this
    | mp es => exact this
  have hsub : (fp ν (hpub k (ν k) H)).Sublist (fp ν H) := by rw [fp_pub]; exact (hdelk_sub k H).filterMap _
  rcases g2 with ⟨hν, rfl⟩ | ⟨b, cap, T, sp, hν, g3, g4, g5, hb⟩
  · simp only at hν
    refine ⟨M, Mem.le.refl M, by rw [hν]; exact RowM.nil M sz, hholds, hh.nodup.sublist hsub, fun b hb => hh.apart b (hsub.subset hb), hh.mem, hh.below, hh.le0, hh.fresh, hh.one⟩
  · simp only at hν
    have hkb : blk? (ν k) = some b := by rw [hν]; rfl
    obtain ⟨hMb, hBb⟩ := hh.apart b (List.mem_filterMap.2 ⟨(k, _), hget_mem hk, hkb⟩)
    let M' : Mem := fun c => if c = b then some (.cells (es.flatten ++ sp).toArray T (0, 0)) else M c
    have hM'b : M' b = some (.cells (es.flatten ++ sp).toArray T (0, 0)) := by simp [M']
    have hle : M.le M' := fun c o hc => by
      simp only [M']
      rw [if_neg (fun e => by rw [e, hMb] at hc; cases hc)]
      exact hc
    refine ⟨M', hle, ?_, hholds, hh.nodup.sublist hsub, fun c hc => ?_, fun c o hc => ?_, hh.below, hh.le0.trans hle, fun c hc => ?_, hh.one⟩
    · rw [hν]
      refine ⟨⟨rfl, rfl, g3, g4⟩, fun _ => rfl, fun i e he => ?_⟩
      have hel := g1 e (List.mem_of_getElem? he)
      refine ⟨hel.1, fun j c hc => ?_⟩
      have hj : j < sz := by rw [← hel.1]; exact (List.getElem?_eq_some_iff.1 hc).1
      refine ⟨?_, hel.2 c (List.mem_of_getElem? hc)⟩
      have hadd : (⟨b, 0, none⟩ : Addr).add (i * sz + j) = ⟨b, i * sz + j, none⟩ := by unfold Addr.add; split <;> simp_all
      simp only [cellE, cellM, hadd, hM'b]
      simp only [Option.isSome_none, Bool.false_eq_true, if_false, List.getElem?_toArray]
      rw [flatten_get (fun e he => (g1 e he).1) he hj, hc]
    · have hcb : c ≠ b := by
        rintro rfl
        rw [fp_pub] at hc
        exact fp_hdelk hh hk hkb 0 _ (hdelk_sub k H) (hdelk_ne k H) hc
      simp only [M', if_neg hcb]
      exact hh.apart c (hsub.subset hc)
    · simp only [M'] at hc
      split at hc
      · rename_i e
        simp only [Option.some.injEq] at hc
        subst hc e
        exact hb
      · exact hh.mem c o hc
    · simp only [M'] at hc
      split at hc
      · rename_i e; subst e; exact .inr hBb
      · exact hh.fresh c hc

theorem pub_slots {N : Nat} {k : Nat} (hs : Slots N ν σ a) : Slots N ν (sigPub k (ν k) σ) a :=
  ⟨hs.1, hs.2.1, fun j g s h => by
    obtain ⟨s', rfl, h'⟩ := lk_pub h
    rw [SV.pub_val]
    exact hs.2.2 j g s' h'⟩

theorem CallK.pub {f d k sz : Nat} {l : List SV} {es : List (List Value)} (hk : hget H k = some (.row sz es))
    (h : ∀ v M', M.le M' → RowM M' v sz es → CallK E f (SV.pubs k v l) d K (sigPub k v σ) (hpub k v H) M') : CallK E f l d K σ H M := by
  intro ν a w hs hh
  obtain ⟨M', h1, h2, h3⟩ := pub_heap hh hk
  have := h _ M' h1 h2 ν a w (pub_slots hs) h3
  rw [SV.pubs_vals] at this
  exact this

theorem OpK.pub {k sz : Nat} {es : List (List Value)} (hk : hget H k = some (.row sz es))
    (h : ∀ v M', M.le M' → RowM M' v sz es → OpK E o K (sigPub k v σ) (hpub k v H) M') : OpK E o K σ H M := by
  rintro a w ⟨ν, hs, hh⟩
  obtain ⟨M', h1, h2, h3⟩ := pub_heap hh hk
  exact h _ M' h1 h2 a w ⟨ν, pub_slots hs, h3⟩

theorem LoopK.pub {live : List Nat} {body : Code} {Q : QP} {k sz : Nat} {es : List (List Value)} (hk : hget H k = some (.row sz es))
    (h : ∀ v M', M.le M' → RowM M' v sz es → LoopK E live body Q (sigPub k v σ) (hpub k v H) M') : LoopK E live body Q σ H M := by
  rintro a w ⟨ν, hs, hh⟩
  obtain ⟨M', h1, h2, h3⟩ := pub_heap hh hk
  exact h _ M' h1 h2 a w ⟨ν, pub_slots hs, h3⟩

theorem DrawK.pub {id : Nat} {ops : Array Oper} {k sz : Nat} {es : List (List Value)} (hk : hget H k = some (.row sz es))
    (h : ∀ v M', M.le M' → RowM M' v sz es → DrawK E id ops K (sigPub k v σ) (hpub k v H) M') : DrawK E id ops K σ H M := by
  rintro a w ⟨ν, hs, hh⟩
  obtain ⟨M', h1, h2, h3⟩ := pub_heap hh hk
  exact h _ M' h1 h2 a w ⟨ν, pub_slots hs, h3⟩

/-- an operation that stood still goes on by itself -/
theorem OpK.step (h : stepK E o true K σ H M) : OpK E o K σ H M := by
  rintro a w ⟨ν, hs, hh⟩
  have := stepK_sound (Nx := fun a' w' => ∃ σ' H' M', Rep E σ' H' M' a' w' ∧ K σ' H' M') (Qx := fun _ _ _ => False) (fun σ H M a w hr hk => ⟨σ, H, M, hr, hk⟩) hs hh h
  simpa using this

/-- a call that only reads a row of the call's own, and hands back a known value -/
theorem CallK.lend {f d k sz : Nat} {l : List SV} {s : SV} {es : List (List Value)} (hk : hget H k = some (.row sz es)) (hd : decide (d < E.N) = true) (hs' : s.conc = true)
    (hl : ∀ v, SV.concs (SV.pubs k v l) = true)
    (h : ∀ v M', M.le M' → RowM M' v sz es → Meets E.P f (SV.pubs k v l) M' (fun s' _ _ => s' = s)) (hK : K ((d, true, s) :: σ) H M) : CallK E f l d K σ H M := by
  intro ν a w hs hh
  obtain ⟨M', h1, h2, h3⟩ := pub_heap hh hk
  have hm := h _ M' h1 h2
  refine .inl ⟨hm.1, ?_⟩
  rw [← SV.pubs_vals (k := k), SV.concs_vals (ν := ν0) (ν' := ν) _ (hl _)]
  refine (hm.2 w h3.mem).mono ?_
  rintro e w' ⟨s', H', M'', ν', rfl, hh', rfl⟩
  refine ⟨_, rfl, _, _, _, ⟨ν, ?_, hh.grow hh'.below⟩, hK⟩
  exact hs.put (of_decide_eq_true hd) (by rw [SV.conc_val (ν := ν) (ν' := ν') s' hs']; rfl)

/-- the result is a row: known, or the callee's own -/
def IsRow (H : HS) (M : Mem) (s : SV) (sz : Nat) (es : List (List Value)) : Prop :=
  match s with
  | .v v => RowM M v sz es
  | .own k => hget H k = some (.row sz es)
  | _ => False
def RowR (T : SV → SV) (sz : Nat) (es : List (List Value)) : RP := fun r H M => ∃ s, r = T s ∧ IsRow H M s sz es
def OwnR (T : SV → SV) (sz : Nat) (es : List (List Value)) : RP := fun r H _ => ∃ k, r = T (.own k) ∧ hget H k = some (.row sz es)
def Ctx (T : SV → SV) : Prop := ∀ s s' ν ν', s.val ν = s'.val ν' → (T s).val ν = (T s').val ν'

theorem CallK.row {f d sz : Nat} {l : List SV} {T : SV → SV} {es : List (List Value)} (hT : Ctx T) (hl : SV.concs l = true) (hd : decide (d < E.N) = true) (h : Meets E.P f l M (RowR T sz es))
    (hk : ∀ v M', M.le M' → RowM M' v sz es → K ((d, true, T (.v v)) :: σ) H M') : CallK E f l d K σ H M := by
  intro ν a w hs hh
  refine .inl ⟨h.1, ?_⟩
  rw [SV.concs_vals (ν := ν0) (ν' := ν) l hl]
  refine (h.2 w hh.mem).mono ?_
  rintro e w' ⟨s, H', M', ν', rfl, hh', s', rfl, hR⟩
  cases s' with
  | v x =>
    exact ⟨_, rfl, _, _, _, ⟨ν, hs.put (of_decide_eq_true hd) (by rw [cond_true]; exact hT _ _ _ _ rfl), hh.call hh'⟩, hk x M' hh'.le0 hR⟩
  | own k =>
    obtain ⟨M'', h1, h2, h3⟩ := pub_heap hh' hR
    exact ⟨_, rfl, _, _, _, ⟨ν, hs.put (of_decide_eq_true hd) (by rw [cond_true]; exact hT _ (.v (ν' k)) _ _ rfl), hh.call h3⟩, hk (ν' k) M'' h3.le0 h2⟩
  | _ => exact hR.elim

theorem CallK.own {f d sz : Nat} {l : List SV} {T : SV → SV} {es : List (List Value)} (hT : Ctx T) (hl : SV.concs l = true) (hd : decide (d < E.N) = true) (h : Meets E.P f l M (OwnR T sz es)) (hn : hNoKey d (hdel d H) = true)
    (hk : ∀ M', M.le M' → K ((d, true, T (.own (8 * d))) :: sigDrop d σ) ((8 * d, .row sz es) :: hdel d H) M') : CallK E f l d K σ H M := by
  intro ν a w hs hh
  refine .inl ⟨h.1, ?_⟩
  rw [SV.concs_vals (ν := ν0) (ν' := ν) l hl]
  refine (h.2 w hh.mem).mono ?_
  rintro e w' ⟨s, H', M', ν', rfl, hh', k, rfl, hR⟩
  let ν2 : Nat → Value := fun j => if j / 8 = d then ν' k else ν j
  have hν : ∀ j, j / 8 ≠ d → ν2 j = ν j := fun j hj => by simp [ν2, hj]
  have hν8 : ν2 (8 * d) = ν' k := by simp [ν2, show (8 * d) / 8 = d by omega]
  refine ⟨_, rfl, _, _, _, ⟨ν2, (hs.drop hν).put (of_decide_eq_true hd) (by rw [cond_true]; exact hT _ _ _ _ (by simp only [SV.val, hν8])), ?_⟩, hk M' hh'.le0⟩
  refine ((hh.call hh').sublist (hdel_sub d H)).add hn hν (fun j => ?_) ?_ (fun b hb => ?_)
  · by_cases hj : j / 8 = d
    · simp only [ν2, hj, if_true]; exact hh'.one k
    · simp only [ν2, hj, if_false]; exact hh.one j
  · rw [hν8]
    exact hh'.holds _ (hget_mem hR)
  · rw [hν8] at hb
    have hbm : b ∈ fp ν' H' := List.mem_filterMap.2 ⟨(k, _), hget_mem hR, hb⟩
    obtain ⟨h1, h2⟩ := hh'.apart b hbm
    refine ⟨fun hm => ?_, h1, Nat.le_trans hh.below.size h2⟩
    have := hh.fp_lt (((hdel_sub d H).filterMap _).subset hm)
    simp only at h2
    omega

end

def encS (s : List UInt8) : List Value := [.string ⟨s.toArray⟩]
def encT (b : Bool) : List Value := [.bool b]
theorem Ctx.id : Ctx (fun s => s) := fun _ _ _ _ h => h
theorem Ctx.fst (x : Value) : Ctx (fun s => .tup [s, .v x]) := fun s s' ν ν' h => by simp only [SV.val, SV.vals, h]
theorem sp1 : type_of% (And.intro (And.intro (And.intro @SV.pub.eq_1 @SV.pub.eq_2) (And.intro @SV.pub.eq_3 @SV.pub.eq_4)) (And.intro (And.intro @SV.pub.eq_5 @SV.pub.eq_6) (And.intro @SV.pub.eq_7 @SV.pubs.eq_1))) := And.intro (And.intro (And.intro @SV.pub.eq_1 @SV.pub.eq_2) (And.intro @SV.pub.eq_3 @SV.pub.eq_4)) (And.intro (And.intro @SV.pub.eq_5 @SV.pub.eq_6) (And.intro @SV.pub.eq_7 @SV.pubs.eq_1))
theorem sp2 : type_of% (And.intro (And.intro (And.intro @SV.pubs.eq_2 @sigPub.eq_1) (And.intro @sigPub.eq_2 @poPub.eq_1)) (And.intro (And.intro @poPub.eq_2 @hpub.eq_1) (And.intro @hpub.eq_2 @IsRow.eq_1))) := And.intro (And.intro (And.intro @SV.pubs.eq_2 @sigPub.eq_1) (And.intro @sigPub.eq_2 @poPub.eq_1)) (And.intro (And.intro @poPub.eq_2 @hpub.eq_1) (And.intro @hpub.eq_2 @IsRow.eq_1))
theorem poPub_mp (k : Nat) (v : Value) (es : List (Value × Value)) : poPub k v (.mp es) = .mp es := rfl
theorem poPub_tab (k : Nat) (v : Value) (sz : Nat) (es : List (List SV)) : poPub k v (.tab sz es) = .tab sz (pubss k v es) := rfl
theorem sp3 : type_of% (And.intro @IsRow.eq_2 (And.intro (And.intro (@RowR.eq_1) @OwnR.eq_1) (And.intro @poPub_tab (And.intro @pubss.eq_1 (And.intro @poPub_mp @pubss.eq_2))))) := And.intro @IsRow.eq_2 (And.intro (And.intro (@RowR.eq_1) @OwnR.eq_1) (And.intro @poPub_tab (And.intro @pubss.eq_1 (And.intro @poPub_mp @pubss.eq_2))))
end Go.X

namespace Go.X
open Go Go.RowKit

theorem Meets.law {P : Program} {f : FuncId} {args : List SV} {W : World} {v : Value} (h : Meets P f args (fun b => W.heap[b]?) (fun r _ _ => r = .v v)) :
    Calls P f (SV.vals ν0 args).toArray W fun e w' => e = .returned v ∧ Below W.heap.size W w' := by
  refine (h.2 W fun _ _ e => e).mono fun e w' ⟨s, H', M', ν, he, hh, hR⟩ => ?_
  subst hR
  exact ⟨he, hh.below⟩

theorem wf_i64 {n : Int} (h : (Lit.int .i64 n).wf = true) : inK .i64 n := by
  have := bounds_i64 h
  exact this

theorem cellM_heap (W : World) (a : Addr) : cellM (fun b => W.heap[b]?) a = W.cell? a := by
  unfold cellM World.cell?
  rfl

end Go.X

namespace Go.X
open Go Go.RowKit Go.ChangeShapes Go.WideShapes

theorem list_of {α : Type} {Q : Nat → α → Prop} : ∀ (n : Nat), (∀ i, i < n → ∃ x, Q i x) → ∃ l : List α, l.length = n ∧ ∀ i x, l[i]? = some x → Q i x
  | 0, _ => ⟨[], rfl, fun i x h => by simp at h⟩
  | n + 1, h => by
    obtain ⟨l, h1, h2⟩ := list_of n (fun i hi => h i (by omega))
    obtain ⟨x, hx⟩ := h n (by omega)
    refine ⟨l ++ [x], by simp [h1], fun i y hy => ?_⟩
    rcases Nat.lt_or_ge i l.length with hi | hi
    · rw [List.getElem?_append_left hi] at hy
      exact h2 i y hy
    · rw [List.getElem?_append_right hi] at hy
      have h0 : i - l.length = 0 := by
        rcases Nat.eq_zero_or_pos (i - l.length) with h0 | h0
        · exact h0
        · rw [List.getElem?_eq_none (by simp; omega)] at hy; cases hy
      rw [h0] at hy
      simp only [List.getElem?_cons_zero, Option.some.injEq] at hy
      subst hy
      rwa [show i = n by omega]

def fits {H : Type} (P : Program) (t : TypeId) (d : DataW H) : Prop := ∀ n ∈ d.weights P t, n ≤ reachBytes
theorem weightsAll_mem {H : Type} {P : Program} {e : TypeId} : ∀ {l : List (DataW H)} {d : DataW H}, d ∈ l → ∀ n ∈ d.weights P e, n ∈ DataW.weightsAll P e l
  | d0 :: l, d, h, n, hn => by
    simp only [DataW.weightsAll, List.mem_append]
    rcases List.mem_cons.1 h with rfl | h
    · exact .inl hn
    · exact .inr (weightsAll_mem h n hn)
/-- the cells of type t are read as α -/
structure Rd (P : Program) (W : World) (t : TypeId) (w : Nat) {α : Type} (E : α → List Value) (ok : α → Prop) : Prop where
  size : P.cellsOf t = w
  len : ∀ a, (E a).length = w
  one : ∀ a, ok a → ∀ u ∈ E a, u.oneCell' = true
  rd : ∀ {H : Type} {enc : TypeId × Value → H} {spare : Nat → Bool} {held : Bool} {n : Nat} {cs : List Value} {y : DataW H × List MemPlace}, DataW.trod enc P W 0 spare held n t cs = some y → fits P t y.1 → ∃ a, cs = E a ∧ ok a
structure RdF (P : Program) (W : World) (fs : List Field) (off w : Nat) {α : Type} (E : α → List Value) (ok : α → Prop) : Prop where
  len : ∀ a, (E a).length = w
  one : ∀ a, ok a → ∀ u ∈ E a, u.oneCell' = true
  rd : ∀ {H : Type} {enc : TypeId × Value → H} {spare : Nat → Bool} {held : Bool} {n : Nat} {cs : List Value}, cs.length = off + w → (∀ f ∈ fs, ∃ y, DataW.trod enc P W 0 spare held n f.type ((cs.drop f.offset).take (P.cellsOf f.type)) = some y ∧ fits P f.type y.1) → ∃ a, cs.drop off = E a ∧ ok a

section
variable {P : Program} {W : World} {t e w off w1 w2 : Nat} {α β : Type} {E : α → List Value} {ok : α → Prop} {E2 : β → List Value} {ok2 : β → Prop}

theorem Rd.int (ht : P.underlying t = some (.int .i64)) (hc : P.cellsOf t = 1) : Rd P W t 1 (fun a : Int => [.int .i64 a]) (fun a => inK .i64 a) where
  size := hc
  len := fun _ => rfl
  one := fun a _ u hu => by simp at hu; subst hu; rfl
  rd := fun h hf => by
    obtain ⟨z, hz1, _, hz2⟩ := DataW.trod_int ht h
    exact ⟨z, hz1, wf_i64 hz2⟩
theorem Rd.bool (ht : P.underlying t = some .bool) (hc : P.cellsOf t = 1) : Rd P W t 1 (fun a : Bool => [.bool a]) (fun _ => True) where
  size := hc
  len := fun _ => rfl
  one := fun a _ u hu => by simp at hu; subst hu; rfl
  rd := fun h hf => by
    obtain ⟨b, hb1, _⟩ := DataW.trod_bool ht h
    exact ⟨b, hb1, trivial⟩
theorem Rd.str (ht : P.underlying t = some .string) (hc : P.cellsOf t = 1) : Rd P W t 1 (fun a : List UInt8 => [.string ⟨a.toArray⟩]) (fun a => a.length ≤ reachBytes) where
  size := hc
  len := fun _ => rfl
  one := fun a _ u hu => by simp at hu; subst hu; rfl
  rd := fun h hf => by
    obtain ⟨s, h1, h3, h2⟩ := DataW.trod_string ht h
    exact ⟨bl s, by rw [h1]; exact congrArg (fun x => [Value.string x]) (B_bl s).symm, by
      subst h3
      exact hf (bl s).length (by simp [DataW.weights, bl])⟩

theorem Rd.slice {bt : Nat} (ht : P.underlying t = some (.slice e)) (hc : P.cellsOf t = 1) (hb : P.bytesOf e = bt) (hE : Rd P W e w E ok) :
    Rd P W t 1 (fun a : Value × List α => [a.1]) (fun a => RowM (fun b => W.heap[b]?) a.1 w (a.2.map E) ∧ a.2.length * bt ≤ reachBytes ∧ ∀ x ∈ a.2, ok x) where
  size := hc
  len := fun _ => rfl
  one := fun a h u hu => by
    simp at hu
    subst hu
    have := h.1.sl
    cases hv : a.1 <;> rw [hv] at this <;> first | rfl | cases this
  rd := fun {H enc spare held n cs y} h hfit => by
    rcases Go.Deep.open_slice ht h with ⟨hcs, _⟩ | ⟨a, len, cp, m, n, D, Pl, hcs, _, hl, hm, hmm, hy, hel⟩
    · exact ⟨(.slice none 0 0, []), hcs, RowM.nil _ _, by simp, fun s hs => by simp at hs⟩
    · subst hy
      have hfit' : ((len + (m - len)) * bt ≤ reachBytes) ∧ ∀ i, i < len → fits P e (D i) := by
        unfold fits at hfit
        simp only [DataW.weights, ht, List.length_map, List.length_range, hb] at hfit
        exact ⟨hfit _ List.mem_cons_self, fun i hi n hn => hfit n (List.mem_cons_of_mem _ (List.mem_append_left _ (weightsAll_mem (List.mem_map.2 ⟨i, List.mem_range.2 hi, rfl⟩) n hn)))⟩
      have hlm : len ≤ m := by rw [hmm]; split <;> omega
      obtain ⟨l, h1, h2⟩ := list_of (Q := fun i (s : α) => ((E s).length = w ∧ ∀ j u, (E s)[j]? = some u → W.cell? (a.add (i * w + j)) = some u) ∧ ok s) len (fun i hil => by
        obtain ⟨cs', hc, htr⟩ := hel i (by omega)
        rw [hE.size] at hc
        obtain ⟨_, hlen, hat⟩ := World.cells?_some hc
        obtain ⟨b, rfl, hb⟩ := hE.rd htr (hfit'.2 i hil)
        refine ⟨b, ⟨hlen, fun j u hu => ?_⟩, hb⟩
        have hj := (List.getElem?_eq_some_iff.1 hu).1
        have := hat j (by omega)
        rw [← Go.Deep.add_add, this, hu])
      refine ⟨(.slice (some a) len cp, l), hcs, ⟨⟨rfl, by simp only [lenV, List.length_map]; omega, hl, hm⟩, fun _ => rfl, fun i e' he' => ?_⟩, by simp only; rw [h1]; exact Nat.le_trans (Nat.mul_le_mul_right _ (by omega)) hfit'.1, fun s hs => ?_⟩
      · rw [List.getElem?_map, Option.map_eq_some_iff] at he'
        obtain ⟨s, hs, rfl⟩ := he'
        obtain ⟨⟨g0, g1⟩, gk⟩ := h2 i s hs
        refine ⟨g0, fun j u hu => ?_⟩
        have := g1 j u hu
        exact ⟨by simp only [cellE, cellM_heap]; exact this, hE.one s gk u (List.mem_of_getElem? hu)⟩
      · obtain ⟨i, hi⟩ := List.mem_iff_getElem?.1 hs
        exact (h2 i s hi).2

theorem RdF.last {f : Field} (h : Rd P W f.type w E ok) (ho : f.offset = off) : RdF P W [f] off w E ok where
  len := h.len
  one := h.one
  rd := fun hl hf => by
    obtain ⟨y, hy, hw⟩ := hf f (by simp)
    rw [h.size, ho, List.take_of_length_le (by rw [List.length_drop]; omega)] at hy
    exact h.rd hy hw
theorem RdF.cons {f : Field} {fs : List Field} (h : Rd P W f.type w1 E ok) (ho : f.offset = off) (r : RdF P W fs (off + w1) w2 E2 ok2) :
    RdF P W (f :: fs) off (w1 + w2) (fun a : α × β => E a.1 ++ E2 a.2) (fun a => ok a.1 ∧ ok2 a.2) where
  len := fun a => by rw [List.length_append, h.len, r.len]
  one := fun a ha u hu => by
    rcases List.mem_append.1 hu with hu | hu
    · exact h.one _ ha.1 u hu
    · exact r.one _ ha.2 u hu
  rd := fun {H enc spare held n cs} hl hf => by
    obtain ⟨y, hy, hw⟩ := hf f (by simp)
    rw [h.size, ho] at hy
    obtain ⟨a, ha, oka⟩ := h.rd hy hw
    obtain ⟨b, hb, okb⟩ := r.rd (by omega) (fun g hg => hf g (List.mem_cons_of_mem _ hg))
    refine ⟨(a, b), ?_, oka, okb⟩
    simp only
    rw [← ha, ← hb, ← List.drop_drop, List.take_append_drop]
theorem Rd.struct {fs : Array Field} (ht : P.underlying t = some (.struct fs)) (hc : P.cellsOf t = w) (r : RdF P W fs.toList 0 w E ok) : Rd P W t w E ok where
  size := hc
  len := r.len
  one := r.one
  rd := fun {H enc spare held n cs y} h hfit => by
    obtain ⟨xs, n', _, hy, hl, hlen, hf⟩ := DataW.trod_struct ht h
    subst hy
    obtain ⟨a, ha, hk⟩ := r.rd (H := H) (enc := enc) (spare := spare) (held := held) (n := n') (cs := cs) (by omega) (fun f hm => by
      obtain ⟨i, hi⟩ := List.mem_iff_getElem?.1 hm
      have hi' : fs[i]? = some f := by simpa using hi
      have hx := hf i f hi'
      have hil : i < xs.length := by
        have := (List.getElem?_eq_some_iff.1 hi).1
        simp at this
        omega
      refine ⟨xs[i], by rw [hx, List.getElem?_eq_getElem hil], fun n hn => hfit n ?_⟩
      simp only [DataW.weights, ht]
      exact DataW.weights_mem_each (j := i) (by rw [List.getElem?_map, hi]; rfl) (by rw [List.getElem?_map, List.getElem?_eq_getElem hil]; rfl) n hn)
    exact ⟨a, by simpa using ha, hk⟩

theorem Rd.top_slice {H : Type} {enc : TypeId × Value → H} {spare : Nat → Bool} {held : Bool} {r : Reach} {b0 : Nat} {v : Value} {d : DataW H} {ps : List MemPlace} {ok : Value × List α → Prop} (h : Rd P W t 1 (fun a : Value × List α => [a.1]) ok) (ht : P.underlying t = some (.slice e)) (hv : Value.okWide P W r b0 t v)
    (hd : DataW.Trod enc P W 0 spare held t v d ps) (hw : fits P t d) : ∃ a : Value × List α, v = a.1 ∧ ok a := by
  obtain ⟨a, n, c, rfl⟩ := okWide_slice ht hv
  obtain ⟨fuel, hf⟩ := hd
  obtain ⟨a, ha, hk⟩ := h.rd hf hw
  refine ⟨a, ?_, hk⟩
  simpa [Value.cells] using ha
theorem fits_of {H : Type} {ts : List TypeId} {ds : List (DataW H)} (h : (DataW.weightsEach P ts ds).all (· ≤ reachBytes) = true) (j : Nat) {d : DataW H} (ht : ts[j]? = some t) (hd : ds[j]? = some d) : fits P t d := fun n hn => by
  have := List.all_eq_true.1 h n (DataW.weights_mem_each ht hd n hn)
  simpa using this
end
end Go.X

namespace Go.Proofs.YtoohifeidifocaaGreat.Clo
open Go
theorem laidOut : laidOutB Tryz.prog = true := by kernel_rfl
end Go.Proofs.YtoohifeidifocaaGreat.Clo

namespace Go.X.Pol

def sz (n : Nat) : Nat := if n = 0 then 0 else n.log2 + 1

theorem sz_le {n k : Nat} : sz n ≤ k ↔ n < 2 ^ k := by
  unfold sz
  split
  · rename_i h
    subst h
    exact ⟨fun _ => Nat.two_pow_pos k, fun _ => Nat.zero_le k⟩
  · rename_i h
    rw [Nat.succ_le_iff, Nat.log2_lt h]
theorem lt_sz {n k : Nat} : k < sz n ↔ 2 ^ k ≤ n := by
  have := @sz_le n k
  omega
theorem sz_zero : sz 0 = 0 := rfl
theorem sz_pos {n : Nat} : 0 < sz n ↔ n ≠ 0 := by
  rw [lt_sz]; simp; omega
theorem sz_eq {n k : Nat} (h1 : 2 ^ k ≤ n) (h2 : n < 2 ^ (k + 1)) : sz n = k + 1 := by
  have := lt_sz.2 h1
  have := sz_le.2 h2
  omega
theorem sz_rng {n : Nat} (h : n ≠ 0) : 2 ^ (sz n - 1) ≤ n ∧ n < 2 ^ (sz n) ∧ sz n = (sz n - 1) + 1 := by
  have := sz_pos.2 h
  exact ⟨lt_sz.1 (by omega), sz_le.1 (Nat.le_refl _), by omega⟩
theorem xor_pow (x y k : Nat) : (x ^^^ y) * 2 ^ k = x * 2 ^ k ^^^ y * 2 ^ k := by
  have := Nat.shiftLeft_xor_distrib (a := x) (b := y) (i := k)
  simpa only [Nat.shiftLeft_eq] using this
theorem two_xor (x y : Nat) : 2 * (x ^^^ y) = 2 * x ^^^ 2 * y := by
  have := xor_pow x y 1
  simp only [Nat.pow_one] at this
  rw [Nat.mul_comm 2, this, Nat.mul_comm 2, Nat.mul_comm 2]
theorem xor_top {x y n : Nat} (h1 : 2 ^ n ≤ x) (h2 : x < 2 ^ (n + 1)) (h3 : y < 2 ^ n) : 2 ^ n ≤ x ^^^ y ∧ x ^^^ y < 2 ^ (n + 1) := by
  have hp : 2 ^ (n + 1) = 2 * 2 ^ n := by rw [Nat.pow_succ]; omega
  have hx : x / 2 ^ n = 1 := Nat.div_eq_of_lt_le (by omega) (by omega)
  have hy : y / 2 ^ n = 0 := Nat.div_eq_of_lt h3
  have := Nat.xor_div_two_pow (a := x) (b := y) (n := n)
  rw [hx, hy] at this
  refine ⟨?_, Nat.xor_lt_two_pow h2 (by omega)⟩
  have hq : (x ^^^ y) / 2 ^ n ≠ 0 := by rw [this]; decide
  rcases Nat.lt_or_ge (x ^^^ y) (2 ^ n) with h | h
  · exact (hq (Nat.div_eq_of_lt h)).elim
  · exact h
theorem xor_drop {x y n : Nat} (h1 : 2 ^ n ≤ x) (h2 : x < 2 ^ (n + 1)) (h3 : 2 ^ n ≤ y) (h4 : y < 2 ^ (n + 1)) : x ^^^ y < 2 ^ n := by
  have hp : 2 ^ (n + 1) = 2 * 2 ^ n := by rw [Nat.pow_succ]; omega
  have hx : x / 2 ^ n = 1 := Nat.div_eq_of_lt_le (by omega) (by omega)
  have hy : y / 2 ^ n = 1 := Nat.div_eq_of_lt_le (by omega) (by omega)
  have := Nat.xor_div_two_pow (a := x) (b := y) (n := n)
  rw [hx, hy, Nat.xor_self] at this
  have h0 := Nat.two_pow_pos n
  rcases Nat.lt_or_ge (x ^^^ y) (2 ^ n) with h | h
  · exact h
  · have := Nat.div_pos h h0
    omega
theorem bit_xor {e x : Nat} (he : e < 2) : e ^^^ 2 * x = e + 2 * x := by
  have h1 := Nat.xor_div_two (a := e) (b := 2 * x)
  rw [show e / 2 = 0 by omega, Nat.mul_div_cancel_left x (by omega), Nat.zero_xor] at h1
  have h2 := @Nat.xor_mod_two_eq_one e (2 * x)
  have : (2 * x) % 2 = 0 := by omega
  rw [this] at h2
  have : e = 0 ∨ e = 1 := by omega
  rcases this with rfl | rfl
  · simp
  · have h3 : (1 ^^^ 2 * x) % 2 = 1 := h2.2 (by decide)
    omega
theorem xor_cancel {a b c : Nat} (h : a ^^^ b = c) : a = c ^^^ b := by
  rw [← h, Nat.xor_assoc, Nat.xor_self, Nat.xor_zero]
theorem xor_eq_zero {a b : Nat} (h : a ^^^ b = 0) : a = b := by
  rw [xor_cancel h, Nat.zero_xor]

/-- the product of two polynomials -/
def mulp (a b : Nat) : Nat := if a = 0 then 0 else (if a % 2 = 1 then b else 0) ^^^ 2 * mulp (a / 2) b
termination_by a
decreasing_by omega

theorem mulp_zero (b : Nat) : mulp 0 b = 0 := by rw [mulp]; rfl
theorem mulp_rec (a b : Nat) : mulp a b = (if a % 2 = 1 then b else 0) ^^^ 2 * mulp (a / 2) b := by
  by_cases h : a = 0
  · subst h; simp [mulp_zero]
  · rw [mulp, if_neg h]
theorem halves {P : Nat → Prop} (h0 : P 0) (h : ∀ a, a ≠ 0 → P (a / 2) → P a) : ∀ a, P a := by
  intro a
  induction a using Nat.strongRecOn with
  | _ a ih =>
    by_cases h1 : a = 0
    · subst h1; exact h0
    · exact h a h1 (ih _ (by omega))
theorem mulp_zero_right (a : Nat) : mulp a 0 = 0 := by
  refine halves (P := fun a => mulp a 0 = 0) (mulp_zero 0) (fun a _ ih => ?_) a
  rw [mulp_rec, ih]; simp
theorem mulp_xor_right (a b c : Nat) : mulp a (b ^^^ c) = mulp a b ^^^ mulp a c := by
  refine halves (P := fun a => mulp a (b ^^^ c) = mulp a b ^^^ mulp a c) (by simp [mulp_zero]) (fun a _ ih => ?_) a
  rw [mulp_rec a (b ^^^ c), mulp_rec a b, mulp_rec a c, ih, two_xor]
  split
  · ac_rfl
  · simp only [Nat.zero_xor]
theorem mulp_two_right (a b : Nat) : mulp a (2 * b) = 2 * mulp a b := by
  refine halves (P := fun a => mulp a (2 * b) = 2 * mulp a b) (by simp [mulp_zero]) (fun a _ ih => ?_) a
  rw [mulp_rec a (2 * b), mulp_rec a b, ih, two_xor]
  split
  · rfl
  · simp only [Nat.mul_zero]
theorem mulp_two (a b : Nat) : mulp (2 * a) b = 2 * mulp a b := by
  rw [mulp_rec, if_neg (by omega), Nat.mul_div_cancel_left a (by omega), Nat.zero_xor]
theorem mulp_one (b : Nat) : mulp 1 b = b := by
  rw [mulp_rec]; simp [mulp_zero]
theorem mulp_xor (a c b : Nat) : mulp (a ^^^ c) b = mulp a b ^^^ mulp c b := by
  refine halves (P := fun a => ∀ c, mulp (a ^^^ c) b = mulp a b ^^^ mulp c b) (fun c => by simp [mulp_zero]) (fun a _ ih c => ?_) a c
  rw [mulp_rec (a ^^^ c), mulp_rec a, mulp_rec c, Nat.xor_div_two, ih, two_xor]
  by_cases h1 : a % 2 = 1 <;> by_cases h2 : c % 2 = 1 <;> simp only [Nat.xor_mod_two_eq_one, h1, h2, if_true, if_false, iff_true, iff_false, not_true, not_false_eq_true, Nat.zero_xor]
  · rw [show b ^^^ 2 * mulp (a / 2) b ^^^ (b ^^^ 2 * mulp (c / 2) b) = (b ^^^ b) ^^^ (2 * mulp (a / 2) b ^^^ 2 * mulp (c / 2) b) by ac_rfl, Nat.xor_self, Nat.zero_xor]
  · ac_rfl
  · ac_rfl
theorem mod_xor (a : Nat) : a = a % 2 ^^^ 2 * (a / 2) := by
  rw [bit_xor (by omega)]; omega
theorem mulp_one_right (a : Nat) : mulp a 1 = a := by
  refine halves (P := fun a => mulp a 1 = a) (mulp_zero 1) (fun a _ ih => ?_) a
  rw [mulp_rec, ih]
  conv => rhs; rw [mod_xor a]
  split
  · rename_i h; rw [h]
  · rename_i h; rw [show a % 2 = 0 by omega]
theorem mulp_comm (a b : Nat) : mulp a b = mulp b a := by
  refine halves (P := fun a => mulp a b = mulp b a) (by rw [mulp_zero, mulp_zero_right]) (fun a _ ih => ?_) a
  conv => rhs; rw [mod_xor a, mulp_xor_right, mulp_two_right]
  rw [mulp_rec a b, ih]
  split
  · rename_i h; rw [h, mulp_one_right]
  · rename_i h; rw [show a % 2 = 0 by omega, mulp_zero_right]
theorem mulp_pow (a b k : Nat) : mulp (a * 2 ^ k) b = mulp a b * 2 ^ k := by
  induction k with
  | zero => simp
  | succ k ih => rw [Nat.pow_succ, ← Nat.mul_assoc, Nat.mul_comm _ 2, mulp_two, ih, Nat.mul_left_comm, Nat.mul_comm 2]
theorem mulp_pow1 (b k : Nat) : mulp (2 ^ k) b = b * 2 ^ k := by
  have := mulp_pow 1 b k
  rw [Nat.one_mul, mulp_one] at this
  exact this

theorem mulp_rng : ∀ (k l a b : Nat), 2 ^ k ≤ a → a < 2 ^ (k + 1) → 2 ^ l ≤ b → b < 2 ^ (l + 1) → 2 ^ (k + l) ≤ mulp a b ∧ mulp a b < 2 ^ (k + l + 1)
  | 0, l, a, b, h1, h2, h3, h4 => by
    obtain rfl : a = 1 := by simp at h1 h2; omega
    rw [mulp_one, Nat.zero_add]
    exact ⟨h3, h4⟩
  | k + 1, l, a, b, h1, h2, h3, h4 => by
    have e1 : 2 ^ (k + 1) = 2 * 2 ^ k := by rw [Nat.pow_succ]; omega
    have e2 : 2 ^ (k + 1 + 1) = 2 * 2 ^ (k + 1) := by rw [Nat.pow_succ]; omega
    obtain ⟨g1, g2⟩ := mulp_rng k l (a / 2) b (by omega) (by omega) h3 h4
    have e3 : 2 ^ (k + 1 + l) = 2 * 2 ^ (k + l) := by rw [show k + 1 + l = (k + l) + 1 by omega, Nat.pow_succ]; omega
    have e4 : 2 ^ (k + 1 + l + 1) = 2 * 2 ^ (k + l + 1) := by rw [show k + 1 + l + 1 = (k + l + 1) + 1 by omega, Nat.pow_succ]; omega
    have e5 : 2 ^ (l + 1) ≤ 2 ^ (k + 1 + l) := Nat.pow_le_pow_right (by omega) (by omega)
    rw [mulp_rec, Nat.xor_comm]
    have hy : (if a % 2 = 1 then b else 0) < 2 ^ (k + 1 + l) := by split <;> omega
    exact xor_top (by omega) (by omega) hy
theorem sz_mulp {a b : Nat} (ha : a ≠ 0) (hb : b ≠ 0) : sz (mulp a b) + 1 = sz a + sz b := by
  obtain ⟨h1, h2, h3⟩ := sz_rng ha
  obtain ⟨h4, h5, h6⟩ := sz_rng hb
  rw [h3] at h2
  rw [h6] at h5
  obtain ⟨h7, h8⟩ := mulp_rng _ _ _ _ h1 h2 h4 h5
  rw [sz_eq h7 h8]
  omega
theorem sz_mul_pow {b k : Nat} (hb : b ≠ 0) : sz (b * 2 ^ k) = sz b + k := by
  have h := sz_mulp (a := 2 ^ k) (Nat.ne_of_gt (Nat.two_pow_pos k)) hb
  rw [mulp_pow1, sz_eq (n := 2 ^ k) (k := k) (Nat.le_refl _) (Nat.pow_lt_pow_right (by omega) (by omega))] at h
  omega
theorem sz_xor {a b n : Nat} (h1 : sz a ≤ n) (h2 : sz b ≤ n) : sz (a ^^^ b) ≤ n := by
  rw [sz_le] at *
  exact Nat.xor_lt_two_pow h1 h2
theorem sz_xor_drop {a b : Nat} (h : a ≠ 0) (he : sz a = sz b) : sz (a ^^^ b) < sz a := by
  obtain ⟨h1, h2, h3⟩ := sz_rng h
  have hb : b ≠ 0 := sz_pos.1 (by rw [← he]; exact sz_pos.2 h)
  obtain ⟨h4, h5, h6⟩ := sz_rng hb
  rw [h3] at h2
  rw [← he] at h4 h5
  rw [h3] at h5
  have := sz_le.2 (xor_drop h1 h2 h4 h5)
  omega

theorem uniq {q q' r r' b : Nat} (h : mulp q b ^^^ r = mulp q' b ^^^ r') (h1 : sz r < sz b) (h2 : sz r' < sz b) : q = q' ∧ r = r' := by
  have hb : b ≠ 0 := sz_pos.1 (by omega)
  have h3 : mulp (q ^^^ q') b = r ^^^ r' := by
    rw [mulp_xor]
    have := xor_cancel h
    rw [this, show mulp q' b ^^^ r' ^^^ r ^^^ mulp q' b = (mulp q' b ^^^ mulp q' b) ^^^ (r ^^^ r') by ac_rfl, Nat.xor_self, Nat.zero_xor]
  by_cases hq : q ^^^ q' = 0
  · rw [hq, mulp_zero] at h3
    exact ⟨xor_eq_zero hq, xor_eq_zero h3.symm⟩
  · have h4 := sz_mulp hq hb
    rw [h3] at h4
    have h5 := sz_xor (n := sz b - 1) (a := r) (b := r') (by omega) (by omega)
    have := sz_pos.2 hq
    omega

/-- division -/
def pdm : Nat → Nat → Nat → Nat × Nat
  | 0, a, _ => (0, a)
  | f + 1, a, b => if sz a < sz b then (0, a) else ((pdm f (a ^^^ b * 2 ^ (sz a - sz b)) b).1 ^^^ 2 ^ (sz a - sz b), (pdm f (a ^^^ b * 2 ^ (sz a - sz b)) b).2)
theorem sz_step {a b : Nat} (hb : b ≠ 0) (h : sz b ≤ sz a) : sz (a ^^^ b * 2 ^ (sz a - sz b)) < sz a := by
  have ha : a ≠ 0 := sz_pos.1 (by have := sz_pos.2 hb; omega)
  exact sz_xor_drop ha (by rw [sz_mul_pow hb]; omega)
theorem pdm_spec : ∀ (f a b : Nat), b ≠ 0 → sz a ≤ f → a = mulp (pdm f a b).1 b ^^^ (pdm f a b).2 ∧ sz (pdm f a b).2 < sz b
  | 0, a, b, hb, hf => by
    simp only [pdm, mulp_zero, Nat.zero_xor, true_and]
    have := sz_pos.2 hb
    omega
  | f + 1, a, b, hb, hf => by
    simp only [pdm]
    split
    · rename_i h
      simp only [mulp_zero, Nat.zero_xor, true_and]
      exact h
    · rename_i h
      obtain ⟨h1, h2⟩ := pdm_spec f (a ^^^ b * 2 ^ (sz a - sz b)) b hb (by have := sz_step hb (show sz b ≤ sz a by omega); omega)
      refine ⟨?_, h2⟩
      have h3 := xor_cancel h1
      simp only [mulp_xor, mulp_pow1]
      refine h3.trans ?_
      ac_rfl
def pdiv (a b : Nat) : Nat := (pdm (sz a) a b).1
def pmod (a b : Nat) : Nat := (pdm (sz a) a b).2
theorem divmod {a b : Nat} (hb : b ≠ 0) : a = mulp (pdiv a b) b ^^^ pmod a b ∧ sz (pmod a b) < sz b := pdm_spec _ a b hb (Nat.le_refl _)
theorem divmod_uniq {a b q r : Nat} (h : a = mulp q b ^^^ r) (hr : sz r < sz b) : pdiv a b = q ∧ pmod a b = r := by
  have hb : b ≠ 0 := sz_pos.1 (by omega)
  obtain ⟨h1, h2⟩ := divmod (a := a) hb
  exact uniq (by rw [← h1, ← h]) h2 hr
theorem pmod_small {a m : Nat} (h : sz a < sz m) : pmod a m = a := (divmod_uniq (q := 0) (by rw [mulp_zero, Nat.zero_xor]) h).2
/-! ### Lists of coefficients -/
theorem testBit_flip (x k i : Nat) : (x ^^^ 2 ^ k).testBit i = if i = k then !x.testBit i else x.testBit i := by
  rw [Nat.testBit_xor, Nat.testBit_two_pow]
  by_cases h : k = i
  · subst h; simp
  · rw [if_neg (fun e => h e.symm)]; simp [h]
theorem mod_succ (b i : Nat) : b % 2 ^ (i + 1) = b % 2 ^ i ^^^ (if b.testBit i then 2 ^ i else 0) := by
  apply Nat.eq_of_testBit_eq
  intro j
  rw [Nat.testBit_xor, Nat.testBit_mod_two_pow, Nat.testBit_mod_two_pow]
  have : (if b.testBit i then 2 ^ i else 0).testBit j = (b.testBit i && decide (i = j)) := by
    cases b.testBit i
    · simp
    · simp [Nat.testBit_two_pow]
  rw [this]
  by_cases h1 : j < i
  · simp [show j < i + 1 by omega, h1, show ¬ i = j by omega]
  · by_cases h2 : i = j
    · subst h2; simp
    · simp [show ¬ j < i + 1 by omega, h1, h2]
/-- an addend whose bits are free is an or -/
theorem or_pow {q s : Nat} (h : q.testBit s = false) : q ||| 2 ^ s = q ^^^ 2 ^ s := by
  apply Nat.eq_of_testBit_eq
  intro i
  rw [Nat.testBit_or, Nat.testBit_xor, Nat.testBit_two_pow]
  by_cases hi : s = i
  · subst hi; simp [h]
  · simp [hi]
theorem or_low {p c k : Nat} (h : c < 2 ^ k) : p * 2 ^ k ||| c = p * 2 ^ k + c := by
  have := Nat.shiftLeft_add_eq_or_of_lt h p
  rw [Nat.shiftLeft_eq] at this
  exact this.symm
end Go.X.Pol

