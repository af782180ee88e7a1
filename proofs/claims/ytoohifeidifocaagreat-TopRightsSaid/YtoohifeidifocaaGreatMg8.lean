/- Contracts of functions and the logic that they are proved in (2 texts in one). Conditions: none. -/
import Derived.Laws.Externs
import Derived.Lib.Overlaps
import Derived.Test.YtoohifeidifocaaGreatMg7
import Derived.Test.YtoohifeidifocaaGreatMg6
open Nat renaming reduceAdd → zqa, reduceMul → zqb, reduceDiv → zqc, reduceEqDiff → zqd, reduceLT → zqe, reduceLeDiff → zqf, reduceBEq → zqg
open Int renaming reduceEq → zra, reduceNe → zrb, reduceLT → zrc, reduceLE → zrd, reduceAdd → zre, reduceSub → zrf, reduceMul → zrg, reduceNeg → zrh, reduceToNat → zri, cast_ofNat_Int → zrj, natCast_zero → zrk, natCast_one → zrl, toNat_natCast → zrm
set_option linter.unusedSimpArgs false
set_option linter.unusedVariables false
set_option maxHeartbeats 4000000
set_option maxRecDepth 20000
namespace Go.X
open Go Go.RowKit
section
variable {E : Env} {σ : Sig} {H : HS} {M : Mem} {a : Act} {w : World} {ν : Nat → Value} {K : KP} {o : Oper}

theorem hpub_heap {k sz : Nat} {es : List (List Value)} (hh : Heap E ν H M w) (hk : hget H k = some (.row sz es)) : Heap E ν (hpub k (ν k) H) M w := by
  have hsub : (fp ν (hpub k (ν k) H)).Sublist (fp ν H) := by rw [fp_pub]; exact (hdelk_sub k H).filterMap _
  refine ⟨fun q hq => ?_, hh.nodup.sublist hsub, fun b hb => hh.apart b (hsub.subset hb), hh.mem, hh.below, hh.le0, hh.fresh, hh.one⟩
  obtain ⟨p, h1, h2⟩ := hpub_mem hq
  have := hh.holds _ h1
  rw [h2]
  cases p with
  | box cs t => obtain ⟨⟨b, T, e, h⟩, ht⟩ := this; exact ⟨⟨b, T, e, by rw [SV.pubs_vals]; exact h⟩, ht⟩
  | row sz es => exact this
  | tab sz es =>
    simp only [poPub]
    rw [PO.tab_row] at this ⊢
    rw [pubss_vals]
    exact this
  | mp es => exact this
/-- a row of the call's own is laid open -/
theorem Rep.openRow {k e sz : Nat} {es : List (List Value)} (hk : hget H k = some (.row sz es)) (hn : ∀ v, hNoKey e (hpub k v H) = true) (hr : Rep E σ H M a w) :
    (es = [] ∧ Rep E (sigPub k (.slice none 0 0) σ) (hpub k (.slice none 0 0) H) M a w) ∨
    ∃ b cap sp, (es.length ≤ cap ∧ cap ≤ maxLen ∧ List.length sp = (cap - es.length) * sz) ∧ (∀ e ∈ es, e.length = sz ∧ ∀ c ∈ e, c.oneCell' = true) ∧
      Rep E (sigDrop e (sigPub k (.slice (some ⟨b, 0, none⟩) es.length cap) σ)) ((8 * e, .box (opn (es.flatten ++ sp)) (some (ptrV b))) :: hpub k (.slice (some ⟨b, 0, none⟩) es.length cap) H) M a w := by
  obtain ⟨ν, hs, hh⟩ := hr
  obtain ⟨g1, g2⟩ := hh.holds _ (hget_mem hk)
  simp only at g1 g2
  have hp := hpub_heap hh hk
  have hps := pub_slots (k := k) hs
  rcases g2 with ⟨hν, rfl⟩ | ⟨b, cap, T, sp, hν, g3, g4, g5, hb⟩
  · rw [hν] at hp hps
    exact .inl ⟨rfl, ν, hps, hp⟩
  · rw [hν] at hp hps
    have hkb : blk? (ν k) = some b := by rw [hν]; rfl
    obtain ⟨hMb, hBb⟩ := hh.apart b (List.mem_filterMap.2 ⟨(k, _), hget_mem hk, hkb⟩)
    let ν' : Nat → Value := fun j => if j / 8 = e then ptrV b else ν j
    have hν' : ∀ j, j / 8 ≠ e → ν' j = ν j := fun j hj => by simp [ν', hj]
    have hν8 : ν' (8 * e) = ptrV b := by simp [ν', show (8 * e) / 8 = e by omega]
    refine .inr ⟨b, cap, sp, ⟨g3, g4, g5⟩, g1, ν', hps.drop hν', hp.add (hn _) hν' (fun j => ?_) ?_ (fun c hc => ?_)⟩
    · by_cases hj : j / 8 = e
      · simp [ν', hj, Value.oneCell']
      · simp only [ν', hj, if_false]; exact hh.one j
    · rw [hν8]
      refine ⟨⟨b, T, rfl, by rw [opn_vals]; exact hb⟩, fun v hv => ?_⟩
      cases hv
      rfl
    · rw [hν8] at hc
      simp only [ptrV, blk?, Option.some.injEq] at hc
      subst hc
      refine ⟨?_, hMb, hBb⟩
      rw [fp_pub]
      exact fp_hdelk hh hk hkb 0 _ (hdelk_sub k H) (hdelk_ne k H)
theorem OpK.openRow {k sz : Nat} {es : List (List Value)} (e : Nat) (hk : hget H k = some (.row sz es)) (hn : ∀ v, hNoKey e (hpub k v H) = true)
    (h0 : es = [] → OpK E o K (sigPub k (.slice none 0 0) σ) (hpub k (.slice none 0 0) H) M)
    (h1 : ∀ b cap sp, (es.length ≤ cap ∧ cap ≤ maxLen ∧ List.length sp = (cap - es.length) * sz) → (∀ e ∈ es, e.length = sz ∧ ∀ c ∈ e, c.oneCell' = true) →
      OpK E o K (sigDrop e (sigPub k (.slice (some ⟨b, 0, none⟩) es.length cap) σ)) ((8 * e, .box (opn (es.flatten ++ sp)) (some (ptrV b))) :: hpub k (.slice (some ⟨b, 0, none⟩) es.length cap) H) M) : OpK E o K σ H M := by
  intro a w hr
  rcases Rep.openRow (e := e) hk hn hr with ⟨h, hr'⟩ | ⟨b, cap, sp, h2, h3, hr'⟩
  · exact h0 h a w hr'
  · exact h1 b cap sp h2 h3 a w hr'
theorem CodeK.openRow {c : Code} {Q : QP} {k sz : Nat} {es : List (List Value)} (e : Nat) (hk : hget H k = some (.row sz es)) (hn : ∀ v, hNoKey e (hpub k v H) = true)
    (h0 : es = [] → CodeK E c Q (sigPub k (.slice none 0 0) σ) (hpub k (.slice none 0 0) H) M)
    (h1 : ∀ b cap sp, (es.length ≤ cap ∧ cap ≤ maxLen ∧ List.length sp = (cap - es.length) * sz) → (∀ e ∈ es, e.length = sz ∧ ∀ c ∈ e, c.oneCell' = true) →
      CodeK E c Q (sigDrop e (sigPub k (.slice (some ⟨b, 0, none⟩) es.length cap) σ)) ((8 * e, .box (opn (es.flatten ++ sp)) (some (ptrV b))) :: hpub k (.slice (some ⟨b, 0, none⟩) es.length cap) H) M) : CodeK E c Q σ H M := by
  intro a w hr
  rcases Rep.openRow (e := e) hk hn hr with ⟨h, hr'⟩ | ⟨b, cap, sp, h2, h3, hr'⟩
  · exact h0 h a w hr'
  · exact h1 b cap sp h2 h3 a w hr'
theorem CodeK.ofW {live : List Nat} {c : Code} {Q : QP} (h : wpC E live c Q σ H M) : CodeK E c Q σ H M := fun a w hr => wpC_sound c Q σ H M h a w hr
/-- what lies open, as a row again -/
theorem Rep.reown {j k b cap sz e : Nat} {es : List (List Value)} {sp : List Value} (hj : lk σ j = some (true, .v (.slice (some ⟨b, 0, none⟩) es.length cap))) (hjN : j < E.N) (hk : hget H k = some (.box (opn (es.flatten ++ sp)) (some (ptrV b))))
    (h1 : es.length ≤ cap ∧ cap ≤ maxLen ∧ List.length sp = (cap - es.length) * sz) (hes : ∀ e ∈ es, e.length = sz ∧ ∀ c ∈ e, c.oneCell' = true) (hn : hNoKey e (hdelk k H) = true) (hr : Rep E σ H M a w) :
    Rep E ((j, true, .own (8 * e)) :: sigDrop e σ) ((8 * e, .row sz es) :: hdelk k H) M a w := by
  obtain ⟨ν, hs, hh⟩ := hr
  obtain ⟨⟨b', T, e1, e2⟩, e3⟩ := hh.holds _ (hget_mem hk)
  have e4 := e3 _ rfl
  simp only at e1 e4
  rw [e4] at e1
  cases e1
  rw [opn_vals] at e2
  have hkb : blk? (ν k) = some b := by rw [e4]; rfl
  obtain ⟨hMb, hBb⟩ := hh.apart b (List.mem_filterMap.2 ⟨(k, _), hget_mem hk, hkb⟩)
  let v : Value := .slice (some ⟨b, 0, none⟩) es.length cap
  let ν' : Nat → Value := fun i => if i / 8 = e then v else ν i
  have hν' : ∀ i, i / 8 ≠ e → ν' i = ν i := fun i hi => by simp [ν', hi]
  have hν8 : ν' (8 * e) = v := by simp [ν', show (8 * e) / 8 = e by omega]
  have hsd := hs.drop hν'
  refine ⟨ν', ⟨hsd.1, hsd.2.1, fun i g s hi => ?_⟩, (hh.sublist (hdelk_sub k H)).add hn hν' (fun i => ?_) ?_ (fun c hc => ?_)⟩
  · simp only [lk] at hi
    split at hi
    · rename_i hij
      subst hij
      simp only [Option.some.injEq, Prod.mk.injEq] at hi
      obtain ⟨rfl, rfl⟩ := hi
      have := hs.2.2 _ _ _ hj
      rw [this]
      simp only [cond_true, SV.val, hν8, v]
    · exact hsd.2.2 i g s hi
  · by_cases hi : i / 8 = e
    · simp [ν', hi, v, Value.oneCell']
    · simp only [ν', hi, if_false]; exact hh.one i
  · rw [hν8]
    exact ⟨hes, .inr ⟨b, cap, T, sp, rfl, h1.1, h1.2.1, h1.2.2, e2⟩⟩
  · rw [hν8] at hc
    simp only [v, blk?, Option.some.injEq] at hc
    subst hc
    exact ⟨fp_hdelk hh hk hkb 0 _ (hdelk_sub k H) (hdelk_ne k H), hMb, hBb⟩
theorem OpK.reown (j k e : Nat) {b cap sz : Nat} {es : List (List Value)} {sp : List Value} (hj : lk σ j = some (true, .v (.slice (some ⟨b, 0, none⟩) es.length cap))) (hjN : decide (j < E.N) = true) (hk : hget H k = some (.box (opn (es.flatten ++ sp)) (some (ptrV b))))
    (h1 : es.length ≤ cap ∧ cap ≤ maxLen ∧ List.length sp = (cap - es.length) * sz) (hes : ∀ e ∈ es, e.length = sz ∧ ∀ c ∈ e, c.oneCell' = true) (hn : hNoKey e (hdelk k H) = true)
    (h : OpK E o K ((j, true, .own (8 * e)) :: sigDrop e σ) ((8 * e, .row sz es) :: hdelk k H) M) : OpK E o K σ H M :=
  fun a w hr => h a w (hr.reown hj (of_decide_eq_true hjN) hk h1 hes hn)
/-- a loop, whose round is told by its meaning -/
theorem LoopK.goS {live : List Nat} {body : Code} {Q : QP} {X : Type} (S : X → Sig × HS × Mem) (I : X → Prop) (m : X → Nat) (x0 : X) (h0 : I x0) (hent : Ent E σ H M (S x0))
    (hr : ∀ x, I x → CodeK E body (rndQ E S I m x Q) (S x).1 (S x).2.1 (S x).2.2) : LoopK E live body Q σ H M := by
  intro a w hrep b k cs
  have key : ∀ n x, m x = n → I x → ∀ a w, Rep E (S x).1 (S x).2.1 (S x).2.2 a w →
      ∃ e a' w', Lift E Q e a' w' ∧ Arrives E.P (lone (b.at a (.code body :: .inLoop body :: k)) cs w) b k cs e a' w' := by
    intro n
    induction n using Nat.strongRecOn with
    | _ n ih =>
      intro x hm hI a w hrep
      obtain ⟨e, a₁, w₁, ⟨σ', H', M', hrep', hq⟩, harr⟩ := hr x hI a w hrep b (.inLoop body :: k) cs
      cases e with
      | normal =>
        obtain ⟨x', ⟨hI', hlt⟩, hent'⟩ := hq
        obtain ⟨e₂, a₂, w₂, hq₂, harr₂⟩ := ih (m x') (hm ▸ hlt) x' rfl hI' a₁ w₁ (hent' _ _ hrep')
        exact ⟨e₂, a₂, w₂, hq₂, .of_steps (Steps.trans harr (.one step_inLoop)) harr₂⟩
      | exit id => exact ⟨_, a₁, w₁, ⟨σ', H', M', hrep', hq⟩, .pass (x := .inLoop body) rfl (fun _ _ => .inl (by simp)) harr⟩
      | goto l => exact ⟨_, a₁, w₁, ⟨σ', H', M', hrep', hq⟩, .pass (x := .inLoop body) rfl (fun _ _ => .inl (by simp)) harr⟩
      | ret => exact ⟨_, a₁, w₁, ⟨σ', H', M', hrep', hq⟩, .pass (x := .inLoop body) rfl (fun _ _ => .inl (by simp)) harr⟩
      | panic ch => exact ⟨_, a₁, w₁, ⟨σ', H', M', hrep', hq⟩, .pass (x := .inLoop body) rfl (fun _ _ => .inl (by simp)) harr⟩
      | outgrown => exact ⟨_, a₁, w₁, ⟨σ', H', M', hrep', hq⟩, .pass (x := .inLoop body) rfl (fun _ _ => .inl (by simp)) harr⟩
  obtain ⟨e, a', w', hq, harr⟩ := key _ x0 rfl h0 a w (hent a w hrep)
  exact ⟨e, a', w', hq, .of_steps (.one step_loop) harr⟩

/-- .. two rows are lent, and one comes back -/
theorem CallK.lendR2 {f d sz sz2 sz' : Nat} {l : List SV} {es es2 es' : List (List Value)} {A : SV → SV → List SV} {T : SV → SV} (k k2 : Nat) (hA : ∀ s t s' t' ν ν', s.val ν = s'.val ν' → t.val ν = t'.val ν' → SV.vals ν (A s t) = SV.vals ν' (A s' t')) (hT : Ctx T) (hl : l = A (.own k) (.own k2))
    (hk : hget H k = some (.row sz es)) (hk2 : hget H k2 = some (.row sz2 es2)) (hne : decide (k ≠ k2) = true) (hd : decide (d < E.N) = true)
    (h : ∀ M', M.le M' → MeetsH E.P f (A (.own 8000) (.own 8008)) [(8000, .row sz es), (8008, .row sz2 es2)] M' (OwnR T sz' es')) (hn : hNoKey d (hdelk k2 (hdelk k (hdel d H))) = true)
    (hK : K ((d, true, T (.own (8 * d))) :: sigDrop d σ) ((8 * d, .row sz' es') :: hdelk k2 (hdelk k (hdel d H))) M) : CallK E f l d K σ H M := by
  intro ν a w hs hh
  refine .inl ⟨(h M (Mem.le.refl M)).1, ?_⟩
  have hsub : (hdelk k2 (hdelk k (hdel d H))).Sublist H := (hdelk_sub k2 _).trans ((hdelk_sub k _).trans (hdel_sub d H))
  have hne' := of_decide_eq_true hne
  let rest := hdelk k2 (hdelk k (hdel d H))
  have hrk : ∀ q ∈ rest, q.1 ≠ k := fun q hq => hdelk_ne k _ q ((hdelk_sub k2 _).subset hq)
  have hrk2 : ∀ q ∈ rest, q.1 ≠ k2 := hdelk_ne k2 _
  have hrest : Heap E ν rest M w := hh.sublist hsub
  let M1 : Mem := fun b => if b ∈ fp ν rest then w.heap[b]? else M b
  have hM1 : M.le M1 := fun b o hb => by
    simp only [M1]
    by_cases hf : b ∈ fp ν rest
    · have := (hrest.apart b hf).1; rw [hb] at this; cases this
    · rw [if_neg hf]; exact hb
  have hM1w : M1.on w := fun b o hb => by
    simp only [M1] at hb
    split at hb
    · exact hb
    · exact hh.mem b o hb
  let ν1 : Nat → Value := fun j => if j = 8000 then ν k else if j = 8008 then ν k2 else .bool false
  have e1 : ν1 8000 = ν k := by simp [ν1]
  have e2 : ν1 8008 = ν k2 := by simp [ν1]
  have hfpk : ∀ b, blk? (ν k) = some b → M1 b = none ∧ E.w0.heap.size ≤ b := fun b hb => by
    have h2 := hh.apart b (List.mem_filterMap.2 ⟨_, hget_mem hk, hb⟩)
    refine ⟨?_, h2.2⟩
    simp only [M1]
    rw [if_neg (fp_hdelk hh hk hb d rest hsub hrk)]
    exact h2.1
  have hfpk2 : ∀ b, blk? (ν k2) = some b → M1 b = none ∧ E.w0.heap.size ≤ b := fun b hb => by
    have h2 := hh.apart b (List.mem_filterMap.2 ⟨_, hget_mem hk2, hb⟩)
    refine ⟨?_, h2.2⟩
    simp only [M1]
    rw [if_neg (fp_hdelk hh hk2 hb d rest hsub hrk2)]
    exact h2.1
  have hp1 : Heap ⟨E.P, 0, E.w0, M1⟩ ν1 [(8000, .row sz es), (8008, .row sz2 es2)] M1 w := by
    refine ⟨fun p hp => ?_, ?_, fun b hb => ?_, hM1w, hh.below, Mem.le.refl _, fun b hb => .inl hb, fun j => ?_⟩
    · simp only [List.mem_cons, List.not_mem_nil, or_false] at hp
      rcases hp with rfl | rfl
      · rw [e1]; exact hh.holds _ (hget_mem hk)
      · rw [e2]; exact hh.holds _ (hget_mem hk2)
    · simp only [fp, List.filterMap_cons, List.filterMap_nil, e1, e2]
      cases hb1 : blk? (ν k) with
      | none => simp only []; cases hb2 : blk? (ν k2) <;> simp
      | some b1 =>
        cases hb2 : blk? (ν k2) with
        | none => simp
        | some b2 =>
          simp only [List.nodup_cons, List.mem_cons, List.not_mem_nil, or_false, not_false_eq_true, List.nodup_nil, and_true]
          rintro rfl
          exact blk_ne hh hk hb1 _ (hget_mem hk2) (fun e => hne' e.symm) hb2
    · obtain ⟨q, hq, hqb⟩ := List.mem_filterMap.1 hb
      simp only [List.mem_cons, List.not_mem_nil, or_false] at hq
      rcases hq with rfl | rfl
      · rw [e1] at hqb; exact hfpk b hqb
      · rw [e2] at hqb; exact hfpk2 b hqb
    · simp only [ν1]
      split
      · exact hh.one k
      · split
        · exact hh.one k2
        · rfl
  rw [hl, hA (.own k) (.own k2) (.own 8000) (.own 8008) ν ν1 (by simp only [SV.val, e1]) (by simp only [SV.val, e2])]
  refine ((h M1 hM1).2 E.w0 M1 ν1 w hp1).mono ?_
  rintro e w' ⟨s, H', M', ν', rfl, hh', k', rfl, hk'⟩
  let ν2 : Nat → Value := fun j => if j / 8 = d then ν' k' else ν j
  have hν : ∀ j, j / 8 ≠ d → ν2 j = ν j := fun j hj => by simp [ν2, hj]
  have hν8 : ν2 (8 * d) = ν' k' := by simp [ν2, show (8 * d) / 8 = d by omega]
  have hMw : M.on w' := fun b o hb => hh'.mem b o (hh'.le0 b o (hM1 b o hb))
  have hsome : ∀ b ∈ fp ν rest, ∃ ob, w.heap[b]? = some ob ∧ M' b = some ob := fun b hb => by
    have hlt := hrest.fp_lt hb
    refine ⟨w.heap[b], Array.getElem?_eq_getElem hlt, hh'.le0 b _ ?_⟩
    simp only [M1, if_pos hb]
    exact Array.getElem?_eq_getElem hlt
  have hmv : Heap E ν rest M w' := hrest.moved (fun b hb => by obtain ⟨ob, h1, h2⟩ := hsome b hb; rw [h1]; exact hh'.mem b ob h2) hMw hh'.below
  refine ⟨_, rfl, _, _, _, ⟨ν2, (hs.drop hν).put (of_decide_eq_true hd) ?_, hmv.add hn hν (fun j => ?_) ?_ (fun b hb => ?_)⟩, hK⟩
  · rw [cond_true]
    exact hT _ _ _ _ (by simp only [SV.val, hν8])
  · by_cases hj : j / 8 = d
    · simp only [ν2, hj, if_true]; exact hh'.one _
    · simp only [ν2, hj, if_false]; exact hh.one j
  · rw [hν8]
    exact hh'.holds _ (hget_mem hk')
  · rw [hν8] at hb
    obtain ⟨h1, h2⟩ := hh'.apart b (List.mem_filterMap.2 ⟨_, hget_mem hk', hb⟩)
    refine ⟨fun hm => ?_, ?_, h2⟩
    · obtain ⟨ob, _, h3⟩ := hsome b hm
      rw [h1] at h3
      cases h3
    · cases hM : M b with
      | none => rfl
      | some ob => have := hh'.le0 b _ (hM1 b _ hM); rw [h1] at this; cases this

/-- slices.overlaps, of two blocks -/
theorem CallK.overlaps {f d tS tR e sz : Nat} {k k2 b b2 o1 o2 m n c1 c2 : Nat} {cs cs2 : List Value} (hd : decide (d < E.N) = true) (ht : E.P.underlying tS = some (.slice e)) (hz : ∀ w, (sizeOf e).run E.P w = .ok sz w)
    (hov : ∀ w x y v, (Extern.SlicesOverlaps.overlaps #[tS, tS] #[tR] #[x, y]).run E.P w = .ok v w → (callFunc f #[x, y]).run E.P w = .ok (.value v) w)
    (hk : hget H k = some (.box (opn cs) (some (ptrV b)))) (hk2 : hget H k2 = some (.box (opn cs2) (some (ptrV b2)))) (hne : decide (k ≠ k2) = true) (hc2 : cs2.length ≠ 0)
    (hK : K ((d, true, .v (.bool false)) :: σ) H M) : CallK E f [.v (.slice (some ⟨b, o1, none⟩) m c1), .v (.slice (some ⟨b2, o2, none⟩) n c2)] d K σ H M := by
  intro ν a w hs hh
  obtain ⟨⟨b', T, e1, e2⟩, e3⟩ := hh.holds _ (hget_mem hk)
  have e4 := e3 _ rfl
  simp only at e1 e4
  rw [e4] at e1
  cases e1
  obtain ⟨⟨b2', T2, f1, f2⟩, f3⟩ := hh.holds _ (hget_mem hk2)
  have f4 := f3 _ rfl
  simp only at f1 f4
  rw [f4] at f1
  cases f1
  rw [opn_vals] at e2 f2
  have hbb : b ≠ b2 := by
    rintro rfl
    exact blk_ne hh hk (b := b) (by rw [e4]; rfl) _ (hget_mem hk2) (fun e => (of_decide_eq_true hne) e.symm) (by simp only [f4]; rfl)
  refine .inr ⟨.bool false, w, hov w _ _ _ (Lib.run_overlaps_apart w tS tR e ht sz hz ⟨b, o1, none⟩ ⟨b2, o2, none⟩ m c1 n c2 hbb T T2 cs.length cs2.length (by simp [World.shape?, e2]) (by simp [World.shape?, f2]) hc2 (by simp [World.frozen?, e2]) (by simp [World.frozen?, e2])), _, _, _, ⟨ν, hs.put (of_decide_eq_true hd) rfl, hh⟩, hK⟩
theorem CallK.openRow {f d k sz : Nat} {l : List SV} {es : List (List Value)} (e : Nat) (hk : hget H k = some (.row sz es)) (hn : ∀ v, hNoKey e (hpub k v H) = true) (hne : es ≠ [])
    (h1 : ∀ b cap sp, (es.length ≤ cap ∧ cap ≤ maxLen ∧ List.length sp = (cap - es.length) * sz) → (∀ e ∈ es, e.length = sz ∧ ∀ c ∈ e, c.oneCell' = true) →
      CallK E f (SV.pubs k (.slice (some ⟨b, 0, none⟩) es.length cap) l) d K (sigDrop e (sigPub k (.slice (some ⟨b, 0, none⟩) es.length cap) σ)) ((8 * e, .box (opn (es.flatten ++ sp)) (some (ptrV b))) :: hpub k (.slice (some ⟨b, 0, none⟩) es.length cap) H) M)
    (hno : ∀ v, SV.concs (SV.pubs k v l) = true) : CallK E f l d K σ H M := by
  intro ν a w hs hh
  obtain ⟨g1, g2⟩ := hh.holds _ (hget_mem hk)
  simp only at g1 g2
  rcases g2 with ⟨_, h0⟩ | ⟨b, cap, T, sp, hν, g3, g4, g5, hb⟩
  · exact absurd h0 hne
  have hp := hpub_heap hh hk
  have hps := pub_slots (k := k) hs
  rw [hν] at hp hps
  have hkb : blk? (ν k) = some b := by rw [hν]; rfl
  obtain ⟨hMb, hBb⟩ := hh.apart b (List.mem_filterMap.2 ⟨(k, _), hget_mem hk, hkb⟩)
  let ν' : Nat → Value := fun j => if j / 8 = e then ptrV b else ν j
  have hν' : ∀ j, j / 8 ≠ e → ν' j = ν j := fun j hj => by simp [ν', hj]
  have hν8 : ν' (8 * e) = ptrV b := by simp [ν', show (8 * e) / 8 = e by omega]
  have hh2 : Heap E ν' ((8 * e, .box (opn (es.flatten ++ sp)) (some (ptrV b))) :: hpub k (.slice (some ⟨b, 0, none⟩) es.length cap) H) M w := by
    refine hp.add (hn _) hν' (fun j => ?_) ?_ (fun c hc => ?_)
    · by_cases hj : j / 8 = e
      · simp [ν', hj, Value.oneCell']
      · simp only [ν', hj, if_false]; exact hh.one j
    · rw [hν8]
      refine ⟨⟨b, T, rfl, by rw [opn_vals]; exact hb⟩, fun v hv => ?_⟩
      cases hv
      rfl
    · rw [hν8] at hc
      simp only [ptrV, blk?, Option.some.injEq] at hc
      subst hc
      refine ⟨?_, hMb, hBb⟩
      rw [fp_pub]
      exact fp_hdelk hh hk hkb 0 _ (hdelk_sub k H) (hdelk_ne k H)
  have := h1 b cap sp ⟨g3, g4, g5⟩ g1 ν' a w (hps.drop hν') hh2
  rw [← hν] at this
  have hl : SV.vals ν' (SV.pubs k (ν k) l) = SV.vals ν l := by
    rw [SV.concs_vals (ν := ν) (ν' := ν') _ (hno _), SV.pubs_vals]
  rw [hl] at this
  exact this
theorem MeetsH.of_bodyS {P : Program} {f : FuncId} {fn : Func} {c : Code} {args : List SV} {R : RP} (hf : P.funcs[f]? = some fn) (hb : fn.body = some c) (hn : okFn fn args.length = true)
    (h : ∀ w M0, CodeK ⟨P, fn.ntmps, w, M0⟩ c (RetK P fn.results.toList R) (params fn.ntmps 0 args) H M) : MeetsH P f args H M R := by
  simp only [okFn, Bool.and_eq_true, Bool.not_eq_true', decide_eq_true_eq] at hn
  refine ⟨⟨fn, hf, hn.1.1, hn.1.2⟩, fun w0 M0 ν w hh => ?_⟩
  refine calls_of_wp hf hb ?_
  have hlen : (SV.vals ν args).length = args.length := by rw [SV.vals_map]; simp
  have hheap : Heap ⟨P, fn.ntmps, w0, M0⟩ ν H M w := ⟨hh.holds, hh.nodup, hh.apart, hh.mem, hh.below, hh.le0, hh.fresh, hh.one⟩
  refine Code.wp_mono ?_ (h w0 M0 _ w ⟨ν, ⟨?_, rfl, ?_⟩, hheap⟩)
  · rintro e a w' ⟨σ, H, M', ⟨ν, hs, hh⟩, hq⟩
    have key : (match rsvs P σ H M' fn.results.toList with | some (ss, C) => C ∧ R (one? ss) H M' | none => False) → a.defers = [] ∧ ∃ v, (results fn a.tmps).run P w' = .ok v w' ∧ ∃ s H' M' ν, Ending.returned v = .returned (s.val ν) ∧ Heap ⟨P, 0, w0, M0⟩ ν H' M' w' ∧ R s H' M' := by
      intro hq
      split at hq
      · rename_i ss C hr
        exact ⟨hs.2.1, _, results_sound hs hh hr hq.1, _, _, _, ν, rfl, ⟨hh.holds, hh.nodup, hh.apart, hh.mem, hh.below, hh.le0, hh.fresh, hh.one⟩, hq.2⟩
      · exact hq.elim
    cases e with
    | normal => exact key hq
    | ret => exact key hq
    | _ => exact hq.elim
  · simp only [Array.size_append, List.size_toArray, Array.size_replicate, hlen]; omega
  · intro k g s hk
    obtain ⟨i, rfl, hg, hi⟩ := lk_params hk
    simp only at hg hi
    subst hg
    have hlt : i < args.length := (List.getElem?_eq_some_iff.1 hi).1
    rw [Array.getElem?_append_left (by simp only [List.size_toArray, hlen]; omega), List.getElem?_toArray, SV.vals_map, List.getElem?_map, Nat.zero_add, hi]
    rfl
theorem putV_shift (cs D x : List Value) (o : Nat) (h : o + x.length ≤ cs.length) : putV (putV cs (o + x.length) D) o x = cs.take o ++ x ++ (D ++ cs.drop (o + x.length + D.length)) := by
  unfold putV
  have h1 : (cs.take (o + x.length)).length = o + x.length := by rw [List.length_take]; omega
  rw [List.append_assoc, List.append_assoc, List.append_assoc]
  congr 1
  · rw [List.take_append_of_le_length (by omega), List.take_take, Nat.min_eq_left (by omega)]
  · congr 1
    have h2 := List.drop_left (l₁ := cs.take (o + x.length)) (l₂ := D ++ cs.drop (o + x.length + D.length))
    rwa [h1] at h2
theorem get_of_take {l news sp : List Value} {o : Nat} (h : news = l.take o) {j : Nat} {u : Value} (hj : news[j]? = some u) : (l ++ sp)[0 + j]? = some u := by
  subst h
  rw [List.getElem?_take] at hj
  split at hj
  · rw [Nat.zero_add, List.getElem?_append_left (List.getElem?_eq_some_iff.1 hj).1]
    exact hj
  · cases hj
theorem opn_noKeys (d : Nat) (l : List Value) : SV.noKeys d (opn l) = true := noKeys_v d l
theorem opn_pubs (k : Nat) (v : Value) (l : List Value) : SV.pubs k v (opn l) = opn l := pubs_v k v l
theorem so0 : type_of% (And.intro @opn_noKeys @opn_pubs) := And.intro @opn_noKeys @opn_pubs
theorem CodeK.weak {c : Code} {Q : QP} {σ' : Sig} (h : CodeK E c Q σ' H M) (he : subS σ σ' ∧ subH H H) : CodeK E c Q σ H M := fun a w hr => h a w (Ent.of (S := (σ', H, M)) ⟨he, rfl⟩ a w hr)
end
end Go.X

namespace Go.X.Bg
open Go Go.X

abbrev It := Int × Int × List UInt8 × Int
def encT (x : It) : List Value := [.int .i64 x.1, .int .i64 x.2.1, .string ⟨x.2.2.1.toArray⟩, .int .i64 x.2.2.2]
def itV (x : It) : SV := .agg [.v (.int .i64 x.1), .v (.int .i64 x.2.1), .v (.string ⟨x.2.2.1.toArray⟩), .v (.int .i64 x.2.2.2)]
def sumT (s : List UInt8) : Int := ((Pt.prf 65581 s 1 : Nat) : Int)
theorem prf_le (m : Nat) (h0 : m ≠ 0) (hm : m ≤ 2147483647) : ∀ (s : List UInt8) (p : Nat), p ≤ 2147483647 → Pt.prf m s p ≤ 2147483647
  | [], p, h => h
  | c :: s, p, _ => by
    exact prf_le m h0 hm s _ (Nat.le_trans (Mv.red_le (x := p * 2 ^ 8 + c.toNat) h0 hm) (by decide))
theorem sumT_rng (s : List UInt8) : 0 ≤ sumT s ∧ sumT s ≤ 2147483647 := by
  have := prf_le 65581 (by decide) (by decide) s 1 (by decide)
  unfold sumT
  omega
def oneE (x : It) : Int := if 64 < x.2.2.1.length then 2 else if x.1 ≠ sumT x.2.2.1 then 6 else if (x.2.1 < 0 ∨ 64 ≤ x.2.1) ∨ (x.2.2.2 < 1 ∨ 1000000 < x.2.2.2) then 1 else 0
theorem oneE_ok {x : It} (h : oneE x = 0) : (x.2.2.1.length ≤ 64 ∧ x.1 = sumT x.2.2.1) ∧ (0 ≤ x.2.1 ∧ x.2.1 < 64) ∧ 1 ≤ x.2.2.2 ∧ x.2.2.2 ≤ 1000000 := by
  unfold oneE at h
  split at h
  · cases h
  · split at h
    · cases h
    · rename_i h2
      split at h
      · cases h
      · exact ⟨⟨by omega, Classical.not_not.1 h2⟩, by omega, by omega⟩
theorem plainS (s : List UInt8) (M : Mem) (hs : s.length ≤ maxLen) : Meets Proofs.Tryz.prog 66 [.v (.int .i64 65581), .v (.string ⟨s.toArray⟩)] M fun r _ _ => r = .v (.int .i64 (sumT s)) := Pt.plain 65581 s M (by decide) (by decide) hs
theorem one (x : It) (M : Mem) : Meets Proofs.Tryz.prog 91 [itV x] M fun r _ _ => r = .v (.int .i64 (oneE x)) := by
  refine Meets.of_body [0,1,2,3,8,15] Proofs.Tryz.func91 rfl (by kernel_rfl) rfl fun w => ?_
  generalize hc : oneE x = c
  unfold oneE at hc
  by_cases h1 : 64 < x.2.2.1.length
  · rw [if_pos h1] at hc
    subst hc
    have c1 : (64 < (x.2.2.1.length : Int)) = True := eq_true (by omega)
    simp only [Proofs.Tryz.f91, itV, shs, zts, sos, sls, zss, eqs, sx, sb1, sb2, sb3, sb4, sb5, sb6, sb7, ↓reduceIte, zqa, zqb, zqc, zqd, zqe, zqf, reduceCtorEq, zra, zrb, zrc, zrd, zre, zrf, zrg, zrh, zri, zrj, zrk, zrl, zrm, zqg, nzs, c1]
  rw [if_neg h1] at hc
  have c1 : (64 < (x.2.2.1.length : Int)) = False := eq_false (by omega)
  simp only [Proofs.Tryz.f91, itV, shs, zts, sos, sls, zss, eqs, sx, sb1, sb2, sb3, sb4, sb5, sb6, sb7, ↓reduceIte, zqa, zqb, zqc, zqd, zqe, zqf, reduceCtorEq, zra, zrb, zrc, zrd, zre, zrf, zrg, zrh, zri, zrj, zrk, zrl, zrm, zqg, nzs, c1]
  refine DrawK.quiet (by kernel_rfl) (by kernel_rfl) ?_
  simp only [shs, zts, sos, sls, zss, eqs, sx, sb1, sb2, sb3, sb4, sb5, sb6, sb7, ↓reduceIte, zqa, zqb, zqc, zqd, zqe, zqf, reduceCtorEq, zra, zrb, zrc, zrd, zre, zrf, zrg, zrh, zri, zrj, zrk, zrl, zrm, zqg, nzs]
  refine ⟨_, ⟨⟨rfl, rfl⟩, plainS x.2.2.1 M (by simp only [maxLen]; omega)⟩, ?_⟩
  by_cases h2 : x.1 = sumT x.2.2.1
  rotate_left
  · rw [if_pos h2] at hc
    subst hc
    have c2 : (x.1 = sumT x.2.2.1) = False := eq_false h2
    simp only [shs, zts, sos, sls, zss, eqs, sx, sb1, sb2, sb3, sb4, sb5, sb6, sb7, ↓reduceIte, zqa, zqb, zqc, zqd, zqe, zqf, reduceCtorEq, zra, zrb, zrc, zrd, zre, zrf, zrg, zrh, zri, zrj, zrk, zrl, zrm, zqg, nzs, c2]
  rw [if_neg (fun e => e h2)] at hc
  have c2 : (x.1 = sumT x.2.2.1) = True := eq_true h2
  simp only [shs, zts, sos, sls, zss, eqs, sx, sb1, sb2, sb3, sb4, sb5, sb6, sb7, ↓reduceIte, zqa, zqb, zqc, zqd, zqe, zqf, reduceCtorEq, zra, zrb, zrc, zrd, zre, zrf, zrg, zrh, zri, zrj, zrk, zrl, zrm, zqg, nzs, c2]
  by_cases k1 : x.2.1 < 0
  · rw [if_pos (.inl (.inl k1))] at hc
    subst hc
    have d1 : (x.2.1 < 0) = True := eq_true k1
    simp only [shs, zts, sos, sls, zss, eqs, sx, sb1, sb2, sb3, sb4, sb5, sb6, sb7, ↓reduceIte, zqa, zqb, zqc, zqd, zqe, zqf, reduceCtorEq, zra, zrb, zrc, zrd, zre, zrf, zrg, zrh, zri, zrj, zrk, zrl, zrm, zqg, nzs, d1]
    exact fun h => by omega
  have d1 : (x.2.1 < 0) = False := eq_false k1
  by_cases k2 : 64 ≤ x.2.1
  · rw [if_pos (.inl (.inr k2))] at hc
    subst hc
    have d2 : (64 ≤ x.2.1) = True := eq_true k2
    simp only [shs, zts, sos, sls, zss, eqs, sx, sb1, sb2, sb3, sb4, sb5, sb6, sb7, ↓reduceIte, zqa, zqb, zqc, zqd, zqe, zqf, reduceCtorEq, zra, zrb, zrc, zrd, zre, zrf, zrg, zrh, zri, zrj, zrk, zrl, zrm, zqg, nzs, d1, d2]
    exact fun h => by omega
  have d2 : (64 ≤ x.2.1) = False := eq_false k2
  by_cases k3 : x.2.2.2 < 1
  · rw [if_pos (.inr (.inl k3))] at hc
    subst hc
    have d3 : (x.2.2.2 < 1) = True := eq_true k3
    simp only [shs, zts, sos, sls, zss, eqs, sx, sb1, sb2, sb3, sb4, sb5, sb6, sb7, ↓reduceIte, zqa, zqb, zqc, zqd, zqe, zqf, reduceCtorEq, zra, zrb, zrc, zrd, zre, zrf, zrg, zrh, zri, zrj, zrk, zrl, zrm, zqg, nzs, d1, d2, d3]
    exact fun h => by omega
  have d3 : (x.2.2.2 < 1) = False := eq_false k3
  by_cases k4 : 1000000 < x.2.2.2
  · rw [if_pos (.inr (.inr k4))] at hc
    subst hc
    have d4 : (1000000 < x.2.2.2) = True := eq_true k4
    simp only [shs, zts, sos, sls, zss, eqs, sx, sb1, sb2, sb3, sb4, sb5, sb6, sb7, ↓reduceIte, zqa, zqb, zqc, zqd, zqe, zqf, reduceCtorEq, zra, zrb, zrc, zrd, zre, zrf, zrg, zrh, zri, zrj, zrk, zrl, zrm, zqg, nzs, d1, d2, d3, d4]
    exact fun h => by omega
  have d4 : (1000000 < x.2.2.2) = False := eq_false k4
  rw [if_neg (by omega)] at hc
  subst hc
  simp only [shs, zts, sos, sls, zss, eqs, sx, sb1, sb2, sb3, sb4, sb5, sb6, sb7, ↓reduceIte, zqa, zqb, zqc, zqd, zqe, zqf, reduceCtorEq, zra, zrb, zrc, zrd, zre, zrf, zrg, zrh, zri, zrj, zrk, zrl, zrm, zqg, nzs, d1, d2, d3, d4]

def cmpT (a b : It) : Int := if a.1 = b.1 then a.2.1 - b.2.1 else a.1 - b.1
theorem cmp (a b : It) (M : Mem) (h : (0 ≤ a.1 ∧ a.1 ≤ 2147483647) ∧ (0 ≤ b.1 ∧ b.1 ≤ 2147483647) ∧ (0 ≤ a.2.1 ∧ a.2.1 < 64) ∧ (0 ≤ b.2.1 ∧ b.2.1 < 64)) :
    Meets Proofs.Tryz.prog 85 [itV a, itV b] M fun r _ _ => r = .v (.int .i64 (cmpT a b)) := by
  refine Meets.of_body [0,1,2,3,4,9] Proofs.Tryz.func85 rfl (by kernel_rfl) rfl fun w => ?_
  unfold cmpT
  by_cases h1 : a.1 = b.1
  · have c1 : (a.1 = b.1) = True := eq_true h1
    simp only [Proofs.Tryz.f85, itV, shs, zts, sos, sls, zss, eqs, sx, sb1, sb2, sb3, sb4, sb5, sb6, sb7, ↓reduceIte, zqa, zqb, zqc, zqd, zqe, zqf, reduceCtorEq, zra, zrb, zrc, zrd, zre, zrf, zrg, zrh, zri, zrj, zrk, zrl, zrm, zqg, nzs, c1, inK, lo, hi]
    omega
  · have c1 : (a.1 = b.1) = False := eq_false h1
    simp only [Proofs.Tryz.f85, itV, shs, zts, sos, sls, zss, eqs, sx, sb1, sb2, sb3, sb4, sb5, sb6, sb7, ↓reduceIte, zqa, zqb, zqc, zqd, zqe, zqf, reduceCtorEq, zra, zrb, zrc, zrd, zre, zrf, zrg, zrh, zri, zrj, zrk, zrl, zrm, zqg, nzs, c1, inK, lo, hi]
    exact ⟨by omega, by omega⟩

theorem idxB {α : Type} (q0 q1 q2 q3 : α → Value) (p : α → Bool) (f : Nat) (caps : List SV) (hcaps : SV.concs caps = true) (y : Value) (l : List α) (M : Mem) (hy : RowM M y 4 (l.map (fun x => [q0 x, q1 x, q2 x, q3 x])))
    (hf : ∀ x ∈ l, Meets Proofs.Tryz.prog f (.agg [.v (q0 x), .v (q1 x), .v (q2 x), .v (q3 x)] :: caps) M fun r _ _ => r = .v (.bool (p x))) :
    Meets Proofs.Tryz.prog 82 [.v y, .fn f caps] M fun r _ _ => r = .v (.int .i64 (fidx p l 0)) := by
  refine Meets.of_body [0,1,4,5,7,8,9,16] Proofs.Tryz.func82 rfl (by kernel_rfl) (by simp only [SV.concs, SV.conc, hcaps, Bool.and_self]) fun w => ?_
  generalize hc : fidx p l 0 = c
  have hyl := hy.len_le
  rw [List.length_map] at hyl
  simp only [Proofs.Tryz.f82, shs, zts, sos, sls, zss, eqs, sx, sb1, sb2, sb3, sb4, sb5, sb6, sb7, ↓reduceIte, zqa, zqb, zqc, zqd, zqe, zqf, reduceCtorEq, zra, zrb, zrc, zrd, zre, zrf, zrg, zrh, zri, zrj, zrk, zrl, zrm, zqg, hy.len, hy.sl, List.length_map]
  refine LoopK.go (X := Nat × Nat) (fun x => ([(0, true, .v y), (1, true, .fn f caps), (7, true, .v (.int .i64 l.length)), (8, true, .v (.int .i64 x.2))], [], M))
    (fun x => x.1 + x.2 = l.length ∧ fidx p (l.drop x.2) x.2 = c) (fun x => x.1) (l.length, 0) ⟨rfl, hc⟩ (Ent.of ?_) ?_
  · simp only [sx, sb1, sb2, sb3, sb4, sb5, sb6, sb7, ↓reduceIte, zqa, zqb, zqc, zqd, zqe, zqf, reduceCtorEq, zra, zrb, zrc, zrd, zre, zrf, zrg, zrh, zri, zrj, zrk, zrl, zrm, zqg]
  rintro ⟨fu, i⟩ ⟨h1, h2⟩
  simp only at h1 h2
  by_cases hil : i < l.length
  · have c1 : ((i : Int) < (l.length : Int)) = True := eq_true (by omega)
    obtain ⟨a, hx, hd⟩ := l_drop_at (l := l) (i := i) hil
    rw [hd] at h2
    simp only [fidx] at h2
    have g0 := hy.cell (i := i) (e := [q0 a, q1 a, q2 a, q3 a]) (by rw [List.getElem?_map, hx]; rfl) (off := 0) (by omega)
    have g1 := hy.cell (i := i) (e := [q0 a, q1 a, q2 a, q3 a]) (by rw [List.getElem?_map, hx]; rfl) (off := 1) (by omega)
    have g2 := hy.cell (i := i) (e := [q0 a, q1 a, q2 a, q3 a]) (by rw [List.getElem?_map, hx]; rfl) (off := 2) (by omega)
    have g3 := hy.cell (i := i) (e := [q0 a, q1 a, q2 a, q3 a]) (by rw [List.getElem?_map, hx]; rfl) (off := 3) (by omega)
    have i0 := hy.ix (i := (i : Int)) (by omega) (by rw [List.length_map]; omega)
    simp only [List.getD_cons_zero, List.getD_cons_succ] at g0 g1 g2 g3
    simp only [shs, zts, sos, sls, zss, eqs, sx, sb1, sb2, sb3, sb4, sb5, sb6, sb7, ↓reduceIte, zqa, zqb, zqc, zqd, zqe, zqf, reduceCtorEq, zra, zrb, zrc, zrd, zre, zrf, zrg, zrh, zri, zrj, zrk, zrl, zrm, zqg, nzs, c1, hy.len, hy.sl, List.length_map, i0, i0.2, g0.1, g0.2.1, g1.1, g1.2.1, g2.1, g2.2.1, g3.1, g3.2.1]
    refine CallK.pure ⟨by simp only [SV.concs, SV.conc, hcaps, Bool.and_self], rfl⟩ rfl (hf a (List.mem_of_getElem? hx)) ?_
    cases hp : p a with
    | true =>
      rw [hp, if_pos rfl] at h2
      subst h2
      simp only [shs, zts, sos, sls, zss, eqs, sx, sb1, sb2, sb3, sb4, sb5, sb6, sb7, ↓reduceIte, zqa, zqb, zqc, zqd, zqe, zqf, reduceCtorEq, zra, zrb, zrc, zrd, zre, zrf, zrg, zrh, zri, zrj, zrk, zrl, zrm, zqg, nzs]
    | false =>
      rw [hp, if_neg (by simp)] at h2
      simp only [shs, zts, sos, sls, zss, eqs, sx, sb1, sb2, sb3, sb4, sb5, sb6, sb7, ↓reduceIte, zqa, zqb, zqc, zqd, zqe, zqf, reduceCtorEq, zra, zrb, zrc, zrd, zre, zrf, zrg, zrh, zri, zrj, zrk, zrl, zrm, zqg, nzs, inK, lo, hi]
      refine ⟨by omega, (fu - 1, i + 1), ⟨⟨by simp only; omega, h2⟩, by simp only; omega⟩, Ent.of ?_⟩
      simp only [sx, sb1, sb2, sb3, sb4, sb5, sb6, sb7, ↓reduceIte, zqa, zqb, zqc, zqd, zqe, zqf, reduceCtorEq, zra, zrb, zrc, zrd, zre, zrf, zrg, zrh, zri, zrj, zrk, zrl, zrm, zqg, Int.natCast_add]
  · have c1 : ((i : Int) < (l.length : Int)) = False := eq_false (by omega)
    have hd : l.drop i = [] := List.drop_eq_nil_of_le (by omega)
    rw [hd] at h2
    simp only [fidx] at h2
    subst h2
    simp only [shs, zts, sos, sls, zss, eqs, sx, sb1, sb2, sb3, sb4, sb5, sb6, sb7, ↓reduceIte, zqa, zqb, zqc, zqd, zqe, zqf, reduceCtorEq, zra, zrb, zrc, zrd, zre, zrf, zrg, zrh, zri, zrj, zrk, zrl, zrm, zqg, c1]

theorem ctsB {α : Type} (q0 q1 q2 q3 : α → Value) (p : α → Bool) (f : Nat) (caps : List SV) (hcaps : SV.concs caps = true) (y : Value) (l : List α) (M : Mem) (hy : RowM M y 4 (l.map (fun x => [q0 x, q1 x, q2 x, q3 x])))
    (hf : ∀ x ∈ l, Meets Proofs.Tryz.prog f (.agg [.v (q0 x), .v (q1 x), .v (q2 x), .v (q3 x)] :: caps) M fun r _ _ => r = .v (.bool (p x))) :
    Meets Proofs.Tryz.prog 92 [.v y, .fn f caps] M fun r _ _ => r = .v (.bool (l.any p)) := by
  refine Meets.of_body [0,1,4] Proofs.Tryz.func92 rfl (by kernel_rfl) (by simp only [SV.concs, SV.conc, hcaps, Bool.and_self]) fun w => ?_
  simp only [Proofs.Tryz.f92, shs, zts, sos, sls, zss, eqs, sx, sb1, sb2, sb3, sb4, sb5, sb6, sb7, ↓reduceIte, zqa, zqb, zqc, zqd, zqe, zqf, reduceCtorEq, zra, zrb, zrc, zrd, zre, zrf, zrg, zrh, zri, zrj, zrk, zrl, zrm, zqg]
  refine CallK.pure ⟨by simp only [SV.concs, SV.conc, hcaps, Bool.and_self], rfl⟩ rfl (idxB q0 q1 q2 q3 p f caps hcaps y l M hy hf) ?_
  rw [← fidx_any p l 0]
  simp only [shs, zts, sos, sls, zss, eqs, sx, sb1, sb2, sb3, sb4, sb5, sb6, sb7, ↓reduceIte, zqa, zqb, zqc, zqd, zqe, zqf, reduceCtorEq, zra, zrb, zrc, zrd, zre, zrf, zrg, zrh, zri, zrj, zrk, zrl, zrm, zqg]


theorem checkC (b : Nat) (t x : It) (M : Mem) (hb : BoxM M b (encT t)) : Meets Proofs.Tryz.prog 93 [itV x, .v (ptrV b)] M fun r _ _ => r = .v (.bool (decide (x.2.2.1 = t.2.2.1))) := by
  refine Meets.of_body [0,1,2,3] Proofs.Tryz.func93 rfl (by kernel_rfl) rfl fun w => ?_
  have g2 := hb.at' (j := 2) rfl
  simp only [Proofs.Tryz.f93, itV, shs, zts, sos, sls, zss, eqs, sx, sb1, sb2, sb3, sb4, sb5, sb6, sb7, ↓reduceIte, zqa, zqb, zqc, zqd, zqe, zqf, reduceCtorEq, zra, zrb, zrc, zrd, zre, zrf, zrg, zrh, zri, zrj, zrk, zrl, zrm, zqg, nzs, g2.1, g2.2, List.toArray_eq_iff]

def bad : Option It → It → Bool
  | none, _ => false
  | some p, x => decide (0 ≤ cmpT p x)
def goB : List It → List It → Int
  | _, [] => 0
  | pre, x :: r => if oneE x ≠ 0 then oneE x else if bad pre.getLast? x = true then 3 else if (pre.any fun y => decide (y.2.2.1 = x.2.2.1)) = true then 5 else goB (pre ++ [x]) r
def bagE (l : List It) : Int := if 64 < l.length then 2 else goB [] l
/-- the four cells of an item that lies in a known row -/
theorem it_at {M : Mem} {v : Value} {l : List It} {i : Nat} {r : It} (h : RowM M v 4 (l.map encT)) (hx : l[i]? = some r) :
    ((elE M v 4 i 0 = .int .i64 r.1 ∧ okE M v 4 i 0) ∧ (elE M v 4 i 1 = .int .i64 r.2.1 ∧ okE M v 4 i 1)) ∧ ((elE M v 4 i 2 = .string ⟨r.2.2.1.toArray⟩ ∧ okE M v 4 i 2) ∧ (elE M v 4 i 3 = .int .i64 r.2.2.2 ∧ okE M v 4 i 3)) ∧ ixOk v (i : Int) := by
  have he : (l.map encT)[i]? = some (encT r) := by rw [List.getElem?_map, hx]; rfl
  have g0 := h.cell he (off := 0) (by omega)
  have g1 := h.cell he (off := 1) (by omega)
  have g2 := h.cell he (off := 2) (by omega)
  have g3 := h.cell he (off := 3) (by omega)
  refine ⟨⟨⟨g0.1, g0.2.1⟩, ⟨g1.1, g1.2.1⟩⟩, ⟨⟨g2.1, g2.2.1⟩, ⟨g3.1, g3.2.1⟩⟩, ?_⟩
  have hi := (List.getElem?_eq_some_iff.1 hx).1
  exact h.ix (i := (i : Int)) (by omega) (by rw [List.length_map]; omega)

theorem check (y : Value) (l : List It) (M : Mem) (hy : RowM M y 4 (l.map encT)) :
    Meets Proofs.Tryz.prog 72 [.v y] M fun r _ _ => r = .v (.int .i64 (bagE l)) := by
  refine Meets.of_body [0,2,3,4,5,8,9,10,11,12,19,32,37] Proofs.Tryz.func72 rfl (by kernel_rfl) rfl fun w => ?_
  generalize hc : bagE l = c
  have hyl := hy.len_le
  rw [List.length_map] at hyl
  by_cases hg : 64 < l.length
  · rw [bagE, if_pos hg] at hc
    subst hc
    have c1 : (64 < (l.length : Int)) = True := eq_true (by omega)
    simp only [Proofs.Tryz.f72, shs, zts, sos, sls, zss, eqs, sx, sb1, sb2, sb3, sb4, sb5, sb6, sb7, ↓reduceIte, zqa, zqb, zqc, zqd, zqe, zqf, reduceCtorEq, zra, zrb, zrc, zrd, zre, zrf, zrg, zrh, zri, zrj, zrk, zrl, zrm, zqg, nzs, hy.len, hy.sl, List.length_map, c1]
  rw [bagE, if_neg hg] at hc
  have c1 : (64 < (l.length : Int)) = False := eq_false (by omega)
  simp only [Proofs.Tryz.f72, shs, zts, sos, sls, zss, eqs, sx, sb1, sb2, sb3, sb4, sb5, sb6, sb7, ↓reduceIte, zqa, zqb, zqc, zqd, zqe, zqf, reduceCtorEq, zra, zrb, zrc, zrd, zre, zrf, zrg, zrh, zri, zrj, zrk, zrl, zrm, zqg, nzs, hy.len, hy.sl, List.length_map, c1]
  refine LoopK.go (X := Nat × Nat × Mem) (fun x => ([(0, true, .v y), (9, true, .v y), (10, true, .v (.int .i64 l.length)), (11, true, .v (.int .i64 x.2.1))], [], x.2.2))
    (fun x => ((x.1 + x.2.1 = l.length ∧ M.le x.2.2) ∧ ∀ z ∈ l.take x.2.1, oneE z = 0) ∧ goB (l.take x.2.1) (l.drop x.2.1) = c) (fun x => x.1) (l.length, 0, M) ⟨⟨⟨rfl, Mem.le.refl M⟩, by simp⟩, hc⟩ (Ent.of ?_) ?_
  · simp only [sx, sb1, sb2, sb3, sb4, sb5, sb6, sb7, ↓reduceIte, zqa, zqb, zqc, zqd, zqe, zqf, reduceCtorEq, zra, zrb, zrc, zrd, zre, zrf, zrg, zrh, zri, zrj, zrk, zrl, zrm, zqg]
  rintro ⟨f, i, M1⟩ ⟨⟨⟨h1, hM⟩, hpre⟩, h2⟩
  simp only at h1 h2 hM hpre
  have hy1 := hy.le hM
  by_cases hil : i < l.length
  rotate_left
  · have d1 : ((i : Int) < (l.length : Int)) = False := eq_false (by omega)
    rw [List.drop_eq_nil_of_le (by omega)] at h2
    simp only [goB] at h2
    subst h2
    simp only [shs, zts, sos, sls, zss, eqs, sx, sb1, sb2, sb3, sb4, sb5, sb6, sb7, ↓reduceIte, zqa, zqb, zqc, zqd, zqe, zqf, reduceCtorEq, zra, zrb, zrc, zrd, zre, zrf, zrg, zrh, zri, zrj, zrk, zrl, zrm, zqg, nzs, d1]
  have d1 : ((i : Int) < (l.length : Int)) = True := eq_true (by omega)
  obtain ⟨x, hx, hd⟩ := l_drop_at (l := l) (i := i) hil
  rw [hd] at h2
  simp only [goB] at h2
  obtain ⟨⟨g0, g1⟩, ⟨g2, g3⟩, i0⟩ := it_at hy1 hx
  simp only [shs, zts, sos, sls, zss, eqs, sx, sb1, sb2, sb3, sb4, sb5, sb6, sb7, ↓reduceIte, zqa, zqb, zqc, zqd, zqe, zqf, reduceCtorEq, zra, zrb, zrc, zrd, zre, zrf, zrg, zrh, zri, zrj, zrk, zrl, zrm, zqg, nzs, d1, hy.len, hy.sl, List.length_map, i0, i0.2, g0.1, g0.2, g1.1, g1.2, g2.1, g2.2, g3.1, g3.2]
  refine CallK.pure ⟨rfl, rfl⟩ rfl (one x M1) ?_
  by_cases he : oneE x = 0
  rotate_left
  · have c2 : (oneE x = 0) = False := eq_false he
    rw [if_pos he] at h2
    subst h2
    simp only [shs, zts, sos, sls, zss, eqs, sx, sb1, sb2, sb3, sb4, sb5, sb6, sb7, ↓reduceIte, zqa, zqb, zqc, zqd, zqe, zqf, reduceCtorEq, zra, zrb, zrc, zrd, zre, zrf, zrg, zrh, zri, zrj, zrk, zrl, zrm, zqg, nzs, c2]
  rw [if_neg (fun e => e he)] at h2
  simp only [shs, zts, sos, sls, zss, eqs, sx, sb1, sb2, sb3, sb4, sb5, sb6, sb7, ↓reduceIte, zqa, zqb, zqc, zqd, zqe, zqf, reduceCtorEq, zra, zrb, zrc, zrd, zre, zrf, zrg, zrh, zri, zrj, zrk, zrl, zrm, zqg, nzs, he]
  have hox := oneE_ok he
  have hsx := sumT_rng x.2.2.1
  have hs := hy1.sub (lo := 0) (hi := i) (by omega) (by rw [List.length_map]; omega)
  rw [List.drop_zero, Nat.sub_zero, ← List.map_take] at hs
  have hcap := hy1.1.2.2.1
  rw [hy1.len, List.length_map] at hcap
  refine DrawK.ent (X := Unit) (fun _ => True) (fun _ => ([(0, true, .v y), (3, true, .v (.int .i64 i)), (4, true, .ptr 32 0 0 0), (9, true, .v y), (10, true, .v (.int .i64 l.length)), (11, true, .v (.int .i64 i)), (32, true, .v (.bool (bad (l.take i).getLast? x)))], [(32, .box [.v (.int .i64 x.1), .v (.int .i64 x.2.1), .v (.string ⟨x.2.2.1.toArray⟩), .v (.int .i64 x.2.2.2)] none)], M1)) ?_ fun _ _ => ?_
  · by_cases hi0 : i = 0
    · subst hi0
      refine DrawK.quiet (by kernel_rfl) (by kernel_rfl) ?_
      simp only [shs, zts, sos, sls, zss, eqs, sx, sb1, sb2, sb3, sb4, sb5, sb6, sb7, ↓reduceIte, zqa, zqb, zqc, zqd, zqe, zqf, reduceCtorEq, zra, zrb, zrc, zrd, zre, zrf, zrg, zrh, zri, zrj, zrk, zrl, zrm, zqg, nzs, zrk, Int.lt_irrefl]
      refine ⟨.v (.int .i64 0), ?_⟩
      simp only [shs, zts, sos, sls, zss, eqs, sx, sb1, sb2, sb3, sb4, sb5, sb6, sb7, ↓reduceIte, zqa, zqb, zqc, zqd, zqe, zqf, reduceCtorEq, zra, zrb, zrc, zrd, zre, zrf, zrg, zrh, zri, zrj, zrk, zrl, zrm, zqg, nzs]
      refine ⟨(), Ent.of ?_⟩
      simp only [sx, sb1, sb2, sb3, sb4, sb5, sb6, sb7, ↓reduceIte, zqa, zqb, zqc, zqd, zqe, zqf, reduceCtorEq, zra, zrb, zrc, zrd, zre, zrf, zrg, zrh, zri, zrj, zrk, zrl, zrm, zqg, List.take_zero, List.getLast?_nil, bad]
    · refine DrawK.quiet (by kernel_rfl) (by kernel_rfl) ?_
      have e1 : (0 < (i : Int)) = True := eq_true (by omega)
      have e2 : (i : Int) - 1 = ((i - 1 : Nat) : Int) := by omega
      have hgl : (l.take i).getLast? = l[i-1]? := by
        rw [List.getLast?_eq_getElem?, List.length_take, List.getElem?_take, if_pos (by omega)]
        congr 1
        omega
      obtain ⟨p, hp⟩ : ∃ p, l[i-1]? = some p := ⟨_, List.getElem?_eq_getElem (by omega)⟩
      obtain ⟨⟨k0, k1⟩, ⟨k2, k3⟩, j0⟩ := it_at hy1 hp
      have hop := oneE_ok (hpre p (by
        rw [List.mem_iff_getElem?]
        exact ⟨i - 1, by rw [List.getElem?_take, if_pos (by omega), hp]⟩))
      have hsp := sumT_rng p.2.2.1
      rw [hgl, hp]
      simp only [shs, zts, sos, sls, zss, eqs, sx, sb1, sb2, sb3, sb4, sb5, sb6, sb7, ↓reduceIte, zqa, zqb, zqc, zqd, zqe, zqf, reduceCtorEq, zra, zrb, zrc, zrd, zre, zrf, zrg, zrh, zri, zrj, zrk, zrl, zrm, zqg, nzs, e1, e2, j0, j0.2, k0.1, k0.2, k1.1, k1.2, k2.1, k2.2, k3.1, k3.2, inK, lo, hi]
      refine ⟨by omega, _, ⟨⟨rfl, rfl⟩, cmp p x M1 ⟨by omega, by omega, by omega, by omega⟩⟩, ?_⟩
      simp only [shs, zts, sos, sls, zss, eqs, sx, sb1, sb2, sb3, sb4, sb5, sb6, sb7, ↓reduceIte, zqa, zqb, zqc, zqd, zqe, zqf, reduceCtorEq, zra, zrb, zrc, zrd, zre, zrf, zrg, zrh, zri, zrj, zrk, zrl, zrm, zqg, nzs]
      refine ⟨(), Ent.of ?_⟩
      simp only [sx, sb1, sb2, sb3, sb4, sb5, sb6, sb7, ↓reduceIte, zqa, zqb, zqc, zqd, zqe, zqf, reduceCtorEq, zra, zrb, zrc, zrd, zre, zrf, zrg, zrh, zri, zrj, zrk, zrl, zrm, zqg, bad]
  cases hb : bad (l.take i).getLast? x with
  | true =>
    rw [if_pos hb] at h2
    subst h2
    simp only [shs, zts, sos, sls, zss, eqs, sx, sb1, sb2, sb3, sb4, sb5, sb6, sb7, ↓reduceIte, zqa, zqb, zqc, zqd, zqe, zqf, reduceCtorEq, zra, zrb, zrc, zrd, zre, zrf, zrg, zrh, zri, zrj, zrk, zrl, zrm, zqg, nzs]
  | false =>
  rw [if_neg (by simp only [hb]; decide)] at h2
  simp only [shs, zts, sos, sls, zss, eqs, sx, sb1, sb2, sb3, sb4, sb5, sb6, sb7, ↓reduceIte, zqa, zqb, zqc, zqd, zqe, zqf, reduceCtorEq, zra, zrb, zrc, zrd, zre, zrf, zrg, zrh, zri, zrj, zrk, zrl, zrm, zqg, nzs, hy.len, hy.sl]
  refine ⟨by omega, ?_⟩
  refine stepK.mkFn rfl rfl ?_
  simp only [shs, zts, sos, sls, zss, eqs, sx, sb1, sb2, sb3, sb4, sb5, sb6, sb7, ↓reduceIte, zqa, zqb, zqc, zqd, zqe, zqf, reduceCtorEq, zra, zrb, zrc, zrd, zre, zrf, zrg, zrh, zri, zrj, zrk, zrl, zrm, zqg, nzs]
  refine CallK.pubB (k := 32) rfl rfl fun bb M2 hM2 hb2 => ?_
  have hs2 := hs.le hM2
  simp only [shA1, shA2, shs, zts, sos, sls, zss, eqs, sx, sb1, sb2, sb3, sb4, sb5, sb6, sb7, ↓reduceIte, zqa, zqb, zqc, zqd, zqe, zqf, reduceCtorEq, zra, zrb, zrc, zrd, zre, zrf, zrg, zrh, zri, zrj, zrk, zrl, zrm, zqg]
  refine CallK.pure ⟨rfl, rfl⟩ rfl (ctsB (α := It) (fun x => .int .i64 x.1) (fun x => .int .i64 x.2.1) (fun x => .string ⟨x.2.2.1.toArray⟩) (fun x => .int .i64 x.2.2.2) (fun u => decide (u.2.2.1 = x.2.2.1)) _ _ rfl _ (l.take i) M2 hs2 (fun z _ => checkC bb x z M2 hb2)) ?_
  cases ha : (l.take i).any fun u => decide (u.2.2.1 = x.2.2.1) with
  | true =>
    rw [if_pos ha] at h2
    subst h2
    simp only [shs, zts, sos, sls, zss, eqs, sx, sb1, sb2, sb3, sb4, sb5, sb6, sb7, ↓reduceIte, zqa, zqb, zqc, zqd, zqe, zqf, reduceCtorEq, zra, zrb, zrc, zrd, zre, zrf, zrg, zrh, zri, zrj, zrk, zrl, zrm, zqg, nzs]
  | false =>
    rw [if_neg (by simp only [ha]; decide)] at h2
    simp only [shs, zts, sos, sls, zss, eqs, sx, sb1, sb2, sb3, sb4, sb5, sb6, sb7, ↓reduceIte, zqa, zqb, zqc, zqd, zqe, zqf, reduceCtorEq, zra, zrb, zrc, zrd, zre, zrf, zrg, zrh, zri, zrj, zrk, zrl, zrm, zqg, nzs, inK, lo, hi]
    refine ⟨by omega, (f - 1, i + 1, M2), ⟨⟨⟨⟨by simp only; omega, hM.trans hM2⟩, ?_⟩, ?_⟩, by simp only; omega⟩, Ent.of ?_⟩
    · simp only
      intro z hz
      rw [List.take_add_one, hx] at hz
      rcases List.mem_append.1 hz with hz | hz
      · exact hpre z hz
      · simp only [Option.toList_some, List.mem_singleton] at hz
        subst hz
        exact he
    · simp only
      rw [List.take_add_one, hx]
      exact h2
    · simp only [sx, sb1, sb2, sb3, sb4, sb5, sb6, sb7, ↓reduceIte, zqa, zqb, zqc, zqd, zqe, zqf, reduceCtorEq, zra, zrb, zrc, zrd, zre, zrf, zrg, zrh, zri, zrj, zrk, zrl, zrm, zqg, Int.natCast_add]

/-- the item of an id -/
def isId (id : Bool × Int × Int) (x : It) : Bool := id.1 && (decide (x.1 = id.2.1) && decide (x.2.1 = id.2.2))
def idV (id : Bool × Int × Int) : SV := .agg [.v (.bool id.1), .v (.int .i64 id.2.1), .v (.int .i64 id.2.2)]
theorem findC (b : Nat) (id : Bool × Int × Int) (x : It) (M : Mem) (hb : BoxM M b [.bool id.1, .int .i64 id.2.1, .int .i64 id.2.2]) : Meets Proofs.Tryz.prog 87 [itV x, .v (ptrV b)] M fun r _ _ => r = .v (.bool (isId id x)) := by
  refine Meets.of_body [0,1,2,3] Proofs.Tryz.func87 rfl (by kernel_rfl) rfl fun w => ?_
  have g0 := hb.at' (j := 0) rfl
  have g1 := hb.at' (j := 1) rfl
  have g2 := hb.at' (j := 2) rfl
  unfold isId
  simp only [Proofs.Tryz.f87, itV, shs, zts, sos, sls, zss, eqs, sx, sb1, sb2, sb3, sb4, sb5, sb6, sb7, ↓reduceIte, zqa, zqb, zqc, zqd, zqe, zqf, reduceCtorEq, zra, zrb, zrc, zrd, zre, zrf, zrg, zrh, zri, zrj, zrk, zrl, zrm, zqg, nzs, g0.1, g0.2, g1.1, g1.2, g2.1, g2.2]
  cases h1 : id.1 with
  | false => simp only [shs, zts, sos, sls, zss, eqs, sx, sb1, sb2, sb3, sb4, sb5, sb6, sb7, ↓reduceIte, zqa, zqb, zqc, zqd, zqe, zqf, reduceCtorEq, zra, zrb, zrc, zrd, zre, zrf, zrg, zrh, zri, zrj, zrk, zrl, zrm, zqg, nzs, Bool.false_and]
  | true =>
    by_cases h2 : x.1 = id.2.1
    · by_cases h3 : x.2.1 = id.2.2 <;> simp [h2, h3]
    · simp [h2]
theorem find (y : Value) (l : List It) (id : Bool × Int × Int) (M : Mem) (hy : RowM M y 4 (l.map encT)) :
    Meets Proofs.Tryz.prog 64 [.v y, idV id] M fun r _ _ => r = .v (.int .i64 (fidx (isId id) l 0)) := by
  refine Meets.of_body [0,1,3,4] Proofs.Tryz.func64 rfl (by kernel_rfl) rfl fun w => ?_
  simp only [Proofs.Tryz.f64, idV, shs, zts, sos, sls, zss, eqs, sx, sb1, sb2, sb3, sb4, sb5, sb6, sb7, ↓reduceIte, zqa, zqb, zqc, zqd, zqe, zqf, reduceCtorEq, zra, zrb, zrc, zrd, zre, zrf, zrg, zrh, zri, zrj, zrk, zrl, zrm, zqg, nzs]
  refine stepK.mkFn rfl rfl ?_
  simp only [shs, zts, sos, sls, zss, eqs, sx, sb1, sb2, sb3, sb4, sb5, sb6, sb7, ↓reduceIte, zqa, zqb, zqc, zqd, zqe, zqf, reduceCtorEq, zra, zrb, zrc, zrd, zre, zrf, zrg, zrh, zri, zrj, zrk, zrl, zrm, zqg, nzs]
  refine CallK.pubB (k := 24) rfl rfl fun bb M2 hM2 hb2 => ?_
  simp only [shA1, shA2, shs, zts, sos, sls, zss, eqs, sx, sb1, sb2, sb3, sb4, sb5, sb6, sb7, ↓reduceIte, zqa, zqb, zqc, zqd, zqe, zqf, reduceCtorEq, zra, zrb, zrc, zrd, zre, zrf, zrg, zrh, zri, zrj, zrk, zrl, zrm, zqg]
  refine CallK.pure ⟨rfl, rfl⟩ rfl (idxB (α := It) (fun x => .int .i64 x.1) (fun x => .int .i64 x.2.1) (fun x => .string ⟨x.2.2.1.toArray⟩) (fun x => .int .i64 x.2.2.2) (isId id) _ _ rfl _ l M2 (hy.le hM2) (fun z _ => findC bb id z M2 hb2)) ?_
  simp only [shs, zts, sos, sls, zss, eqs, sx, sb1, sb2, sb3, sb4, sb5, sb6, sb7, ↓reduceIte, zqa, zqb, zqc, zqd, zqe, zqf, reduceCtorEq, zra, zrb, zrc, zrd, zre, zrf, zrg, zrh, zri, zrj, zrk, zrl, zrm, zqg, nzs]
end Go.X.Bg

