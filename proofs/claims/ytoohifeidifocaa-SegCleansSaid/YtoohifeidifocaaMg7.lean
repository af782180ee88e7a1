/- Contracts of functions and the logic that they are proved in (3 texts in one). Conditions: none. -/
import Derived.Test.YtoohifeidifocaaFwG
import Derived.Test.YtoohifeidifocaaSeg
set_option linter.unusedSimpArgs false
set_option linter.unusedVariables false
set_option maxHeartbeats 4000000
set_option maxRecDepth 20000
namespace Go.X
open Go Go.RowKit

def enumK : Nat → List PO → HS
  | _, [] => []
  | k, p :: r => (k, p) :: enumK (k + 1) r
def heldL (H : HS) : List Nat → List PO → Prop
  | [], [] => True
  | k :: ks, p :: ps => hget H k = some p ∧ heldL H ks ps
  | _, _ => False
def ksv (ks : List Nat) : Nat → SV := fun i => .own (ks.getD i 0)
def kd (d : Nat) : Nat → SV := fun i => .own (d + i)
/-- the same entries, the rows under other names -/
def alike (ν ν' : Nat → Value) : List PO → List PO → Prop
  | [], [] => True
  | p :: ps, q :: qs => (∀ w x, p.holds ν w x → q.holds ν' w x) ∧ alike ν ν' ps qs
  | _, _ => False
def same8 (f f' : Nat → SV) (ν ν' : Nat → Value) : Prop := ∀ i, i < 8 → (f i).val ν = (f' i).val ν'
def NatP {α : Type} (P : α → (Nat → SV) → List PO) : Prop := ∀ x f f' ν ν', same8 f f' ν ν' → alike ν ν' (P x f) (P x f')
def NatT {α : Type} (T : α → (Nat → SV) → SV) : Prop := ∀ x f f' ν ν', same8 f f' ν ν' → (T x f).val ν = (T x f').val ν'
def OwnN {α : Type} (T : α → (Nat → SV) → SV) (P : α → (Nat → SV) → List PO) (Φ : α → Mem → Prop) : RP := fun r H M => ∃ x ks, r = T x (ksv ks) ∧ (ks.Nodup ∧ ks.length ≤ 8) ∧ heldL H ks (P x (ksv ks)) ∧ Φ x M

def sigConcA : List Nat → Sig → Sig
  | _, [] => []
  | D, (j, g, s) :: σ => bif memN j D then sigConcA D σ else bif s.conc then (j, g, s) :: sigConcA D σ else sigConcA (j :: D) σ
def sigConc (σ : Sig) : Sig := sigConcA [] σ

section
variable {E : Env} {σ : Sig} {H : HS} {M : Mem} {a : Act} {w : World} {ν : Nat → Value} {K : KP} {o : Oper}

theorem sigConcA_lk : ∀ {σ : Sig} {D : List Nat} {k : Nat} {p : Bool × SV}, lk (sigConcA D σ) k = some p → memN k D = false ∧ lk σ k = some p ∧ p.2.conc = true
  | [], D, k, p, h => by simp [sigConcA, lk] at h
  | (j, g, s) :: σ, D, k, p, h => by
    simp only [sigConcA] at h
    cases hm : memN j D with
    | true =>
      rw [hm, cond_true] at h
      obtain ⟨h1, h2, h3⟩ := sigConcA_lk h
      refine ⟨h1, ?_, h3⟩
      simp only [lk]
      rw [if_neg (fun e => by rw [e, hm] at h1; cases h1)]
      exact h2
    | false =>
      rw [hm, cond_false] at h
      cases hc : s.conc with
      | true =>
        rw [hc, cond_true] at h
        simp only [lk] at h
        split at h
        · rename_i e
          subst e
          simp only [Option.some.injEq] at h
          subst h
          exact ⟨hm, by simp [lk], hc⟩
        · rename_i e
          obtain ⟨h1, h2, h3⟩ := sigConcA_lk h
          exact ⟨h1, by simp only [lk]; rw [if_neg e]; exact h2, h3⟩
      | false =>
        rw [hc, cond_false] at h
        obtain ⟨h1, h2, h3⟩ := sigConcA_lk h
        simp only [memN] at h1
        split at h1
        · cases h1
        · rename_i e
          exact ⟨h1, by simp only [lk]; rw [if_neg e]; exact h2, h3⟩
theorem Slots.concs {N : Nat} {ν' : Nat → Value} (hs : Slots N ν σ a) : Slots N ν' (sigConc σ) a :=
  ⟨hs.1, hs.2.1, fun k g s hk => by
    obtain ⟨_, h2, h3⟩ := sigConcA_lk hk
    rw [hs.2.2 k g s h2, SV.conc_val s h3]⟩

theorem heldL_mem : ∀ {ks : List Nat} {ps : List PO} {k : Nat}, heldL H ks ps → k ∈ ks → ∃ p, hget H k = some p
  | [], [], k, _, hk => by cases hk
  | j :: ks, p :: ps, k, h, hk => by
    rcases List.mem_cons.1 hk with rfl | hk
    · exact ⟨p, h.1⟩
    · exact heldL_mem h.2 hk
theorem heldL_len : ∀ {ks : List Nat} {ps : List PO}, heldL H ks ps → ks.length = ps.length
  | [], [], _ => rfl
  | j :: ks, p :: ps, h => by simp only [List.length_cons, heldL_len h.2]
theorem alike_len {ν ν' : Nat → Value} : ∀ {ps qs : List PO}, alike ν ν' ps qs → ps.length = qs.length
  | [], [], _ => rfl
  | p :: ps, q :: qs, h => by simp only [List.length_cons, alike_len h.2]
theorem blks_nodup (hh : Heap E ν H M w) : ∀ {ks : List Nat} {ps : List PO}, heldL H ks ps → ks.Nodup → (ks.filterMap fun k => blk? (ν k)).Nodup
  | [], _, _, _ => by simp
  | k :: ks, p :: ps, h, hn => by
    obtain ⟨hn1, hn2⟩ := List.nodup_cons.1 hn
    have ih := blks_nodup hh h.2 hn2
    rw [List.filterMap_cons]
    split
    · exact ih
    · rename_i b hb
      refine List.nodup_cons.2 ⟨fun hm => ?_, ih⟩
      obtain ⟨k', hk', hb'⟩ := List.mem_filterMap.1 hm
      obtain ⟨p', hp'⟩ := heldL_mem h.2 hk'
      exact blk_ne hh h.1 hb _ (hget_mem hp') (fun e => hn1 (e ▸ hk')) hb'
theorem enumK_fp {ν ν2 : Nat → Value} : ∀ {ks : List Nat} {qs : List PO} {base : Nat}, ks.length = qs.length → (∀ i, i < ks.length → ν2 (base + i) = ν (ks.getD i 0)) → fp ν2 (enumK base qs) = ks.filterMap fun k => blk? (ν k)
  | [], [], _, _, _ => rfl
  | k :: ks, q :: qs, base, hl, h => by
    have h0 := h 0 (by simp)
    simp only [Nat.add_zero, List.getD_cons_zero] at h0
    have ih := enumK_fp (ν := ν) (ν2 := ν2) (ks := ks) (qs := qs) (base := base + 1) (by simpa using hl) (fun i hi => by
      have := h (i + 1) (by simp; omega)
      rw [List.getD_cons_succ] at this
      rw [← this]
      congr 1
      omega)
    simp only [enumK, fp, List.filterMap_cons, h0] at ih ⊢
    rw [ih]
theorem enumK_mem : ∀ {qs : List PO} {base : Nat} {r : Nat × PO}, r ∈ enumK base qs → ∃ i, qs[i]? = some r.2 ∧ r.1 = base + i
  | q :: qs, base, r, h => by
    simp only [enumK] at h
    rcases List.mem_cons.1 h with rfl | h
    · exact ⟨0, rfl, rfl⟩
    · obtain ⟨i, h1, h2⟩ := enumK_mem h
      exact ⟨i + 1, by simpa using h1, by omega⟩
theorem alike_at {ν ν' : Nat → Value} : ∀ {ps qs : List PO} {i : Nat} {q : PO}, alike ν ν' ps qs → qs[i]? = some q → ∃ p, ps[i]? = some p ∧ ∀ w x, p.holds ν w x → q.holds ν' w x
  | p :: ps, q0 :: qs, 0, q, h, hi => by
    simp only [List.getElem?_cons_zero, Option.some.injEq] at hi
    subst hi
    exact ⟨p, rfl, h.1⟩
  | p :: ps, q0 :: qs, i + 1, q, h, hi => by
    simp only [List.getElem?_cons_succ] at hi
    obtain ⟨p', h1, h2⟩ := alike_at h.2 hi
    exact ⟨p', by simpa using h1, h2⟩
  | [], [], i, q, _, hi => by simp at hi
theorem heldL_at : ∀ {ks : List Nat} {ps : List PO} {i : Nat} {p : PO}, heldL H ks ps → ps[i]? = some p → hget H (ks.getD i 0) = some p
  | k :: ks, p0 :: ps, 0, p, h, hi => by
    simp only [List.getElem?_cons_zero, Option.some.injEq] at hi
    subst hi
    exact h.1
  | k :: ks, p0 :: ps, i + 1, p, h, hi => by
    simp only [List.getElem?_cons_succ] at hi
    rw [List.getD_cons_succ]
    exact heldL_at h.2 hi
  | [], [], i, p, _, hi => by simp at hi

/-- some of the entries, under other keys -/
theorem Heap.pick {N : Nat} (hh : Heap E ν H M w) {ks : List Nat} {ps qs : List PO} (hn : ks.Nodup) (hl : heldL H ks ps) {ν2 : Nat → Value} (ha : alike ν ν2 ps qs) {base : Nat} (hν : ∀ i, i < ks.length → ν2 (base + i) = ν (ks.getD i 0)) (h1 : ∀ k, (ν2 k).oneCell' = true) :
    Heap ⟨E.P, N, E.w0, E.M0⟩ ν2 (enumK base qs) M w := by
  have hlen : ks.length = qs.length := (heldL_len hl).trans (alike_len ha)
  have hf := enumK_fp (ν := ν) (ν2 := ν2) (base := base) hlen hν
  refine ⟨fun r hr => ?_, by rw [hf]; exact blks_nodup hh hl hn, fun b hb => ?_, hh.mem, hh.below, hh.le0, hh.fresh, h1⟩
  · obtain ⟨i, hi, he⟩ := enumK_mem hr
    obtain ⟨p, hp, hpq⟩ := alike_at ha hi
    have hil : i < ks.length := by rw [hlen]; exact (List.getElem?_eq_some_iff.1 hi).1
    have := hh.holds _ (hget_mem (heldL_at hl hp))
    rw [he, hν i hil]
    exact hpq _ _ this
  · rw [hf] at hb
    obtain ⟨k, hk, hkb⟩ := List.mem_filterMap.1 hb
    obtain ⟨p, hp⟩ := heldL_mem hl hk
    exact hh.apart b (List.mem_filterMap.2 ⟨_, hget_mem hp, hkb⟩)

/-- a call that hands back several rows of its own -/
theorem CallK.ownN {f d : Nat} {l : List SV} {α : Type} {T : α → (Nat → SV) → SV} {P : α → (Nat → SV) → List PO} {Φ : α → Mem → Prop} (hT : NatT T) (hP : NatP P) (hl : SV.concs l = true) (hd : decide (d < E.N) = true)
    (h : Meets E.P f l M (OwnN T P Φ)) (hn : hNoKey d (hdel d H) = true)
    (hk : ∀ x M', M.le M' → Φ x M' → K ((d, true, T x (kd (8 * d))) :: sigDrop d σ) (enumK (8 * d) (P x (kd (8 * d))) ++ hdel d H) M') : CallK E f l d K σ H M := by
  intro ν a w hs hh
  refine .inl ⟨h.1, ?_⟩
  rw [SV.concs_vals (ν := ν0) (ν' := ν) l hl]
  refine (h.2 w hh.mem).mono ?_
  rintro e w' ⟨s, H', M', ν', rfl, hh', x, ks, rfl, ⟨hnd, hkl⟩, hheld, hp⟩
  let ν2 : Nat → Value := fun j => if j / 8 = d then ν' (ks.getD (j % 8) 0) else ν j
  have hν : ∀ j, j / 8 ≠ d → ν2 j = ν j := fun j hj => by simp [ν2, hj]
  have hν8 : ∀ i, i < 8 → ν2 (8 * d + i) = ν' (ks.getD i 0) := fun i hi => by
    have e1 : (8 * d + i) / 8 = d := by omega
    have e2 : (8 * d + i) % 8 = i := by omega
    simp only [ν2, e1, if_true, e2]
  have hsame : same8 (ksv ks) (kd (8 * d)) ν' ν2 := fun i hi => by simp only [ksv, kd, SV.val, hν8 i hi]
  have hone : ∀ k, (ν2 k).oneCell' = true := fun j => by
    by_cases hj : j / 8 = d
    · simp only [ν2, hj, if_true]; exact hh'.one _
    · simp only [ν2, hj, if_false]; exact hh.one j
  have hal := hP x _ _ _ _ hsame
  have hpick := hh'.pick (N := 0) hnd hheld hal (base := 8 * d) (fun i hi => hν8 i (by omega)) hone
  have hcall := (hh.call hh').sublist (hdel_sub d H)
  have hlen : ks.length = (P x (kd (8 * d))).length := (heldL_len hheld).trans (alike_len hal)
  have hf := enumK_fp (ν := ν') (ν2 := ν2) (base := 8 * d) hlen (fun i hi => hν8 i (by omega))
  have hfp : fp ν2 (hdel d H) = fp ν (hdel d H) := noKey_fp hν hn
  have happ : fp ν2 (enumK (8 * d) (P x (kd (8 * d))) ++ hdel d H) = fp ν2 (enumK (8 * d) (P x (kd (8 * d)))) ++ fp ν2 (hdel d H) := by simp only [fp, List.filterMap_append]
  have hbig : ∀ b ∈ fp ν2 (enumK (8 * d) (P x (kd (8 * d)))), M' b = none ∧ w.heap.size ≤ b := fun b hb => hpick.apart b hb
  refine ⟨_, rfl, _, _, _, ⟨ν2, (hs.drop hν).put (of_decide_eq_true hd) (by rw [cond_true]; exact hT x _ _ _ _ hsame), ?_⟩, hk x M' hh'.le0 hp⟩
  refine ⟨fun q hq => ?_, ?_, fun b hb => ?_, hcall.mem, hcall.below, hcall.le0, hcall.fresh, hone⟩
  · rcases List.mem_append.1 hq with hq | hq
    · exact hpick.holds q hq
    · obtain ⟨h2, h3⟩ := hNoKey_mem hn q hq
      rw [hν q.1 h2]
      exact PO.holds_congr hν h3 (hcall.holds q hq)
  · rw [happ]
    refine List.nodup_append.2 ⟨hpick.nodup, by rw [hfp]; exact hcall.nodup, fun b hb c hc e => ?_⟩
    subst e
    rw [hfp] at hc
    have h1 := (hbig b hb).2
    have h2 := (hh.sublist (hdel_sub d H)).fp_lt hc
    omega
  · rw [happ] at hb
    rcases List.mem_append.1 hb with hb | hb
    · exact ⟨(hbig b hb).1, Nat.le_trans hh.below.size (hbig b hb).2⟩
    · rw [hfp] at hb
      exact hcall.apart b hb

/-- THE CONTRACT of a function that is lent rows. -/
def MeetsH (P : Program) (f : FuncId) (args : List SV) (H : HS) (M : Mem) (R : RP) : Prop :=
  callable P f ∧ ∀ (w0 : World) (M0 : Mem) (ν : Nat → Value) (w : World), Heap ⟨P, 0, w0, M0⟩ ν H M w → Calls P f (SV.vals ν args).toArray w fun e w' => ∃ s H' M' ν', e = .returned (s.val ν') ∧ Heap ⟨P, 0, w0, M0⟩ ν' H' M' w' ∧ R s H' M'
theorem MeetsH.mono {P : Program} {f : FuncId} {args : List SV} {R R' : RP} (h : MeetsH P f args H M R) (hr : ∀ s H' M', R s H' M' → R' s H' M') : MeetsH P f args H M R' :=
  ⟨h.1, fun w0 M0 ν w hh => (h.2 w0 M0 ν w hh).mono fun _ _ ⟨s, H', M', ν', h1, h2, h3⟩ => ⟨s, H', M', ν', h1, h2, hr _ _ _ h3⟩⟩
theorem MeetsH.of_body {P : Program} {f : FuncId} {fn : Func} {c : Code} {args : List SV} {R : RP} (live : List Nat) (hf : P.funcs[f]? = some fn) (hb : fn.body = some c) (hn : okFn fn args.length = true)
    (h : ∀ w M0, wpC ⟨P, fn.ntmps, w, M0⟩ live c (RetK P fn.results.toList R) (params fn.ntmps 0 args) H M) : MeetsH P f args H M R := by
  simp only [okFn, Bool.and_eq_true, Bool.not_eq_true', decide_eq_true_eq] at hn
  refine ⟨⟨fn, hf, hn.1.1, hn.1.2⟩, fun w0 M0 ν w hh => ?_⟩
  refine calls_of_wp hf hb ?_
  have hlen : (SV.vals ν args).length = args.length := by rw [SV.vals_map]; simp
  have hheap : Heap ⟨P, fn.ntmps, w0, M0⟩ ν H M w := ⟨hh.holds, hh.nodup, hh.apart, hh.mem, hh.below, hh.le0, hh.fresh, hh.one⟩
  refine Code.wp_mono ?_ (wpC_sound c _ _ _ _ (h w0 M0) _ w ⟨ν, ⟨?_, rfl, ?_⟩, hheap⟩)
  · rintro e a w' ⟨σ, H, M', ⟨ν, hs, hh⟩, hq⟩
    have key : (match rsvs P σ H M' fn.results.toList with | some (ss, C) => C ∧ R (one? ss) H M' | none => False) → a.defers = [] ∧ ∃ v, (results fn a.tmps).run P w' = .ok v w' ∧ ∃ s H' M' ν, Ending.returned v = .returned (s.val ν) ∧ Heap ⟨P, 0, w0, M0⟩ ν H' M' w' ∧ R s H' M' := by
      intro hq
      split at hq
      · rename_i ss C hr
        exact ⟨hs.2.1, _, results_sound hs hh hr hq.1, _, _, _, ν, rfl, ⟨hh.holds, hh.nodup, hh.apart, hh.mem, hh.below, hh.le0, hh.fresh, hh.one⟩, hq.2⟩
      · exact hq.elim
    cases e with
    | normal => exact key hq
    | ret => exact key hq
    | _ => exact hq.elim
  · simp only [Array.size_append, List.size_toArray, Array.size_replicate, hlen]; omega
  · intro k g s hk
    obtain ⟨i, rfl, hg, hi⟩ := lk_params hk
    simp only at hg hi
    subst hg
    have hlt : i < args.length := (List.getElem?_eq_some_iff.1 hi).1
    rw [Array.getElem?_append_left (by simp only [List.size_toArray, hlen]; omega), List.getElem?_toArray, SV.vals_map, List.getElem?_map, Nat.zero_add, hi]
    rfl

/-- a call that is lent rows of the call's own (all that it has), and hands back several -/
theorem CallK.lendN {f d : Nat} {l : List SV} {α : Type} {A : (Nat → SV) → List SV} {Pin : (Nat → SV) → List PO} {T : α → (Nat → SV) → SV} {P : α → (Nat → SV) → List PO} {Φ : α → Mem → Prop} (kin : List Nat)
    (hA : ∀ f f' ν ν', same8 f f' ν ν' → SV.vals ν (A f) = SV.vals ν' (A f')) (hPin : NatP (fun (_ : Unit) => Pin)) (hT : NatT T) (hP : NatP P) (hl : l = A (ksv kin)) (hkin : (decide kin.Nodup && decide (kin.length ≤ 8)) = true) (hheld : heldL H kin (Pin (ksv kin))) (hd : decide (d < E.N) = true)
    (h : MeetsH E.P f (A (kd 8000)) (enumK 8000 (Pin (kd 8000))) M (OwnN T P Φ))
    (hk : ∀ x M', M.le M' → Φ x M' → K ((d, true, T x (kd (8 * d))) :: sigConc σ) (enumK (8 * d) (P x (kd (8 * d)))) M') : CallK E f l d K σ H M := by
  simp only [Bool.and_eq_true, decide_eq_true_eq] at hkin
  intro ν a w hs hh
  refine .inl ⟨h.1, ?_⟩
  let ν1 : Nat → Value := fun j => if j / 8 = 1000 then ν (kin.getD (j % 8) 0) else .bool false
  have hν1 : ∀ i, i < 8 → ν1 (8000 + i) = ν (kin.getD i 0) := fun i hi => by
    have e1 : (8000 + i) / 8 = 1000 := by omega
    have e2 : (8000 + i) % 8 = i := by omega
    simp only [ν1, e1, if_true, e2]
  have hone1 : ∀ k, (ν1 k).oneCell' = true := fun j => by
    by_cases hj : j / 8 = 1000
    · simp only [ν1, hj, if_true]; exact hh.one _
    · simp only [ν1, hj, if_false]; rfl
  have hs1 : same8 (ksv kin) (kd 8000) ν ν1 := fun i hi => by simp only [ksv, kd, SV.val, hν1 i hi]
  have hp1 := hh.pick (N := 0) hkin.1 hheld (hPin () _ _ _ _ hs1) (base := 8000) (fun i hi => hν1 i (by omega)) hone1
  have hp2 : Heap ⟨E.P, 0, E.w0, M⟩ ν1 (enumK 8000 (Pin (kd 8000))) M w := ⟨hp1.holds, hp1.nodup, hp1.apart, hp1.mem, hp1.below, Mem.le.refl M, fun b hb => .inl hb, hp1.one⟩
  rw [hl, hA _ _ _ _ hs1]
  refine (h.2 E.w0 M ν1 w hp2).mono ?_
  rintro e w' ⟨s, H', M', ν', rfl, hh', x, ks, rfl, ⟨hnd, hkl⟩, hheld', hp⟩
  let ν2 : Nat → Value := fun j => if j / 8 = d then ν' (ks.getD (j % 8) 0) else .bool false
  have hν8 : ∀ i, i < 8 → ν2 (8 * d + i) = ν' (ks.getD i 0) := fun i hi => by
    have e1 : (8 * d + i) / 8 = d := by omega
    have e2 : (8 * d + i) % 8 = i := by omega
    simp only [ν2, e1, if_true, e2]
  have hsame : same8 (ksv ks) (kd (8 * d)) ν' ν2 := fun i hi => by simp only [ksv, kd, SV.val, hν8 i hi]
  have hone : ∀ k, (ν2 k).oneCell' = true := fun j => by
    by_cases hj : j / 8 = d
    · simp only [ν2, hj, if_true]; exact hh'.one _
    · simp only [ν2, hj, if_false]; rfl
  have hpick := hh'.pick (N := E.N) hnd hheld' (hP x _ _ _ _ hsame) (base := 8 * d) (fun i hi => hν8 i (by omega)) hone
  refine ⟨_, rfl, _, _, _, ⟨ν2, hs.concs.put (of_decide_eq_true hd) (by rw [cond_true]; exact hT x _ _ _ _ hsame), ?_⟩, hk x M' hh'.le0 hp⟩
  refine ⟨hpick.holds, hpick.nodup, hpick.apart, hpick.mem, hpick.below, hh.le0.trans hpick.le0, fun b hb => ?_, hpick.one⟩
  rcases hpick.fresh b hb with h1 | h1
  · exact hh.fresh b h1
  · exact .inr h1

theorem HEnt.untie {k : Nat} {cs : List SV} {t : Option Value} (hk : hget H k = some (.box cs t)) : HEnt E H M (hset k (.box cs none) H) :=
  HEnt.set hk fun ν w h => ⟨h.1, fun v hv => by cases hv⟩
/-- a region's ways, led to one end -/
theorem DrawK.ent {id : Nat} {ops : Array Oper} {X : Type} (I : X → Prop) (S : X → Sig × HS × Mem) (h : DrawK E id ops (fun σ H M => ∃ x, I x ∧ Ent E σ H M (S x)) σ H M) (hk : ∀ x, I x → K (S x).1 (S x).2.1 (S x).2.2) : DrawK E id ops K σ H M := by
  intro a w hr
  refine Code.wp_mono ?_ (h a w hr)
  rintro e a' w' ⟨rfl, σ', H', M', hr', x, hx, he⟩
  exact ⟨rfl, _, _, _, he a' w' hr', hk x hx⟩

/-! ### publishing a box -/
def BoxM (M : Mem) (b : Nat) (cs : List Value) : Prop := ∀ j c, cs[j]? = some c → cellM M ⟨b, j, none⟩ = some c
theorem BoxM.le {M M' : Mem} {b : Nat} {cs : List Value} (h : BoxM M b cs) (hle : M.le M') : BoxM M' b cs := fun j c hc => cellM_le hle (h j c hc)
theorem BoxM.at {M : Mem} {b : Nat} {cs : List Value} (h : BoxM M b cs) {j : Nat} {c : Value} (hc : cs[j]? = some c) : elP M ⟨b, 0, none⟩ j = c ∧ okP M ⟨b, 0, none⟩ j := by
  have e : (⟨b, 0, none⟩ : Addr).add j = ⟨b, j, none⟩ := by unfold Addr.add; split <;> simp_all
  have := h j c hc
  unfold elP okP
  rw [e, this]
  exact ⟨rfl, rfl⟩
mutual
def SV.pubP (k b : Nat) : SV → SV
  | .v x => .v x
  | .own j => if j = k then .v (.pointer (some ⟨b, 0, none⟩)) else .own j
  | .ptr j sz i off => if j = k then .v (.pointer (some ⟨b, i * sz + off, none⟩)) else .ptr j sz i off
  | .ea x a b c => .ea x a b c
  | .agg l => .agg (SV.pubPs k b l)
  | .tup l => .tup (SV.pubPs k b l)
  | .fn f l => .fn f (SV.pubPs k b l)
def SV.pubPs (k b : Nat) : List SV → List SV
  | [] => []
  | s :: l => SV.pubP k b s :: SV.pubPs k b l
end
mutual
theorem SV.pubP_val {ν : Nat → Value} {k b : Nat} (h : ν k = .pointer (some ⟨b, 0, none⟩)) : ∀ s : SV, (s.pubP k b).val ν = s.val ν
  | .v _ => rfl
  | .own j => by
    simp only [SV.pubP]
    split
    · rename_i e; subst e; simp only [SV.val, h]
    · rfl
  | .ptr j _ _ _ => by
    simp only [SV.pubP]
    split
    · rename_i e; subst e; simp only [SV.val, h, bOf]
    · rfl
  | .ea _ _ _ _ => rfl
  | .agg l => by simp only [SV.pubP, SV.val, SV.pubPs_vals h l]
  | .tup l => by simp only [SV.pubP, SV.val, SV.pubPs_vals h l]
  | .fn _ l => by simp only [SV.pubP, SV.val, SV.pubPs_vals h l]
theorem SV.pubPs_vals {ν : Nat → Value} {k b : Nat} (h : ν k = .pointer (some ⟨b, 0, none⟩)) : ∀ l : List SV, SV.vals ν (SV.pubPs k b l) = SV.vals ν l
  | [] => rfl
  | s :: l => by simp only [SV.pubPs, SV.vals, SV.pubP_val h s, SV.pubPs_vals h l]
end
def sigPubP (k b : Nat) : Sig → Sig
  | [] => []
  | (j, g, s) :: σ => (j, g, s.pubP k b) :: sigPubP k b σ
theorem lk_pubP {k b : Nat} : ∀ {σ : Sig} {j : Nat} {g : Bool} {s : SV}, lk (sigPubP k b σ) j = some (g, s) → ∃ s', s = s'.pubP k b ∧ lk σ j = some (g, s')
  | [], j, g, s, h => by simp [sigPubP, lk] at h
  | (j0, g0, s0) :: σ, j, g, s, h => by
    simp only [sigPubP, lk] at h
    simp only [lk]
    split at h
    · rename_i e
      rw [if_pos e]
      simp only [Option.some.injEq, Prod.mk.injEq] at h
      obtain ⟨rfl, rfl⟩ := h
      exact ⟨s0, rfl, rfl⟩
    · rename_i e
      rw [if_neg e]
      exact lk_pubP h
theorem pubP_slots {N k b : Nat} (h : ν k = .pointer (some ⟨b, 0, none⟩)) (hs : Slots N ν σ a) : Slots N ν (sigPubP k b σ) a :=
  ⟨hs.1, hs.2.1, fun j g s hj => by
    obtain ⟨s', rfl, h'⟩ := lk_pubP hj
    rw [hs.2.2 j g s' h', SV.pubP_val h]⟩
theorem pubP_heap {k : Nat} {cs : List SV} {t : Option Value} (hh : Heap E ν H M w) (hk : hget H k = some (.box cs t)) (hc : SV.concs cs = true) :
    ∃ b M', ν k = .pointer (some ⟨b, 0, none⟩) ∧ M.le M' ∧ BoxM M' b (SV.vals ν0 cs) ∧ Heap E ν (hdelk k H) M' w := by
  obtain ⟨⟨b, T, hν, hb⟩, _⟩ := hh.holds _ (hget_mem hk)
  simp only at hν
  have hkb : blk? (ν k) = some b := by rw [hν]; rfl
  obtain ⟨hMb, hBb⟩ := hh.apart b (List.mem_filterMap.2 ⟨(k, _), hget_mem hk, hkb⟩)
  let M' : Mem := fun c => if c = b then some (.cells (SV.vals ν cs).toArray T (0, 0)) else M c
  have hM'b : M' b = some (.cells (SV.vals ν cs).toArray T (0, 0)) := by simp [M']
  have hle : M.le M' := fun c o hc => by
    simp only [M']
    rw [if_neg (fun e => by rw [e, hMb] at hc; cases hc)]
    exact hc
  have h1 := hh.sublist (hdelk_sub k H)
  refine ⟨b, M', hν, hle, fun j c hj => ?_, h1.holds, h1.nodup, fun c hc => ?_, fun c o hc => ?_, hh.below, hh.le0.trans hle, fun c hc => ?_, hh.one⟩
  · simp only [cellM, hM'b]
    simp only [Option.isSome_none, Bool.false_eq_true, if_false, List.getElem?_toArray]
    rw [SV.concs_vals (ν := ν0) (ν' := ν) cs hc]
    exact hj
  · have hcb : c ≠ b := by
      rintro rfl
      exact fp_hdelk hh hk hkb 0 _ (hdelk_sub k H) (hdelk_ne k H) hc
    simp only [M', if_neg hcb]
    exact h1.apart c hc
  · simp only [M'] at hc
    split at hc
    · rename_i e
      subst e
      simp only [Option.some.injEq] at hc
      subst hc
      exact hb
    · exact hh.mem c o hc
  · simp only [M'] at hc
    split at hc
    · rename_i e
      subst e
      exact .inr hBb
    · exact hh.fresh c hc
theorem CallK.pubB {f d k : Nat} {l : List SV} {cs : List SV} {t : Option Value} (hk : hget H k = some (.box cs t)) (hc : SV.concs cs = true)
    (h : ∀ b M', M.le M' → BoxM M' b (SV.vals ν0 cs) → CallK E f (SV.pubPs k b l) d K (sigPubP k b σ) (hdelk k H) M') : CallK E f l d K σ H M := by
  intro ν a w hs hh
  obtain ⟨b, M', hν, h1, h2, h3⟩ := pubP_heap hh hk hc
  have := h b M' h1 h2 ν a w (pubP_slots hν hs) h3
  rw [SV.pubPs_vals hν] at this
  exact this
theorem OpK.pubB {k : Nat} {cs : List SV} {t : Option Value} (hk : hget H k = some (.box cs t)) (hc : SV.concs cs = true)
    (h : ∀ b M', M.le M' → BoxM M' b (SV.vals ν0 cs) → OpK E o K (sigPubP k b σ) (hdelk k H) M') : OpK E o K σ H M := by
  rintro a w ⟨ν, hs, hh⟩
  obtain ⟨b, M', hν, h1, h2, h3⟩ := pubP_heap hh hk hc
  exact h b M' h1 h2 a w ⟨ν, pubP_slots hν hs, h3⟩
theorem LoopK.pubB {live : List Nat} {body : Code} {Q : QP} {k : Nat} {cs : List SV} {t : Option Value} (hk : hget H k = some (.box cs t)) (hc : SV.concs cs = true)
    (h : ∀ b M', M.le M' → BoxM M' b (SV.vals ν0 cs) → LoopK E live body Q (sigPubP k b σ) (hdelk k H) M') : LoopK E live body Q σ H M := by
  rintro a w ⟨ν, hs, hh⟩
  obtain ⟨b, M', hν, h1, h2, h3⟩ := pubP_heap hh hk hc
  exact h b M' h1 h2 a w ⟨ν, pubP_slots hν hs, h3⟩
theorem DrawK.pubB {id : Nat} {ops : Array Oper} {k : Nat} {cs : List SV} {t : Option Value} (hk : hget H k = some (.box cs t)) (hc : SV.concs cs = true)
    (h : ∀ b M', M.le M' → BoxM M' b (SV.vals ν0 cs) → DrawK E id ops K (sigPubP k b σ) (hdelk k H) M') : DrawK E id ops K σ H M := by
  rintro a w ⟨ν, hs, hh⟩
  obtain ⟨b, M', hν, h1, h2, h3⟩ := pubP_heap hh hk hc
  exact h b M' h1 h2 a w ⟨ν, pubP_slots hν hs, h3⟩
end
theorem shA1 : type_of% (And.intro (And.intro (And.intro @enumK.eq_1 @enumK.eq_2) (And.intro @kd.eq_1 @ksv.eq_1)) (And.intro (And.intro (And.intro @sigConcA.eq_1 @sigConcA.eq_2) (And.intro @sigConc.eq_1 @heldL.eq_1)) (And.intro @heldL.eq_2 @sigPubP.eq_1))) := And.intro (And.intro (And.intro @enumK.eq_1 @enumK.eq_2) (And.intro @kd.eq_1 @ksv.eq_1)) (And.intro (And.intro (And.intro @sigConcA.eq_1 @sigConcA.eq_2) (And.intro @sigConc.eq_1 @heldL.eq_1)) (And.intro @heldL.eq_2 @sigPubP.eq_1))
theorem shA2 : type_of% (And.intro (And.intro (And.intro @sigPubP.eq_2 @SV.pubP.eq_1) (And.intro @SV.pubP.eq_2 @SV.pubP.eq_3)) (And.intro (And.intro (And.intro @SV.pubP.eq_4 @SV.pubP.eq_5) (And.intro @SV.pubP.eq_6 @SV.pubP.eq_7)) (And.intro @SV.pubPs.eq_1 @SV.pubPs.eq_2))) := And.intro (And.intro (And.intro @sigPubP.eq_2 @SV.pubP.eq_1) (And.intro @SV.pubP.eq_2 @SV.pubP.eq_3)) (And.intro (And.intro (And.intro @SV.pubP.eq_4 @SV.pubP.eq_5) (And.intro @SV.pubP.eq_6 @SV.pubP.eq_7)) (And.intro @SV.pubPs.eq_1 @SV.pubPs.eq_2))
end Go.X

namespace Go.X.Sg
open Go Go.X

theorem cloneR (u : Value) (l : List (Rc)) (M : Mem) (hu : RowM M u 4 (l.map encR)) (hb : l.length ≤ 1000000) :
    Meets Proofs.Try.prog 29 [.v u] M (OwnR (fun s => s) 4 (l.map encR)) := by
  obtain ⟨r1, r2⟩ := hu.rows (by omega)
  cases hs : someV u with
  | true =>
    refine Meets.of_body [0,2,4] Proofs.Try.func29 rfl (by kernel_rfl) rfl fun w => ?_
    simp only [Proofs.Try.f29, shs, zts, sos, sls, zss, eqs, sx, sb1, sb2, sb3, sb4, sb5, sb6, sb7, ↓reduceIte, Nat.reduceAdd, Nat.reduceMul, Nat.reduceDiv, Nat.reduceEqDiff, Nat.reduceLT, Nat.reduceLeDiff, reduceCtorEq, Int.reduceEq, Int.reduceNe, Int.reduceLT, Int.reduceLE, Int.reduceAdd, Int.reduceSub, Int.reduceMul, Int.reduceNeg, Int.reduceToNat, Int.cast_ofNat_Int, Int.natCast_zero, Int.natCast_one, Int.toNat_natCast, Nat.reduceBEq, hu.sl, hs, r1, List.length_map]
    exact ⟨⟨by omega, r2⟩, 56, rfl, rfl⟩
  | false =>
    have hn : l = [] := by
      cases l with
      | nil => rfl
      | cons a r => have := hu.2.1 (by simp); rw [hs] at this; cases this
    subst hn
    refine Meets.nilOwn ?_
    refine Meets.of_body [0,2,4] Proofs.Try.func29 rfl (by kernel_rfl) rfl fun w => ?_
    simp only [Proofs.Try.f29, shs, zts, sos, sls, zss, eqs, sx, sb1, sb2, sb3, sb4, sb5, sb6, sb7, ↓reduceIte, Nat.reduceAdd, Nat.reduceMul, Nat.reduceDiv, Nat.reduceEqDiff, Nat.reduceLT, Nat.reduceLeDiff, reduceCtorEq, Int.reduceEq, Int.reduceNe, Int.reduceLT, Int.reduceLE, Int.reduceAdd, Int.reduceSub, Int.reduceMul, Int.reduceNeg, Int.reduceToNat, Int.cast_ofNat_Int, Int.natCast_zero, Int.natCast_one, Int.toNat_natCast, Nat.reduceBEq, hu.sl, hs]

theorem eqR (x y : Value) (l m : List (Rc)) (M : Mem) (hx : RowM M x 4 (l.map encR)) (hy : RowM M y 4 (m.map encR)) :
    Meets Proofs.Try.prog 27 [.v x, .v y] M fun r _ _ => r = .v (.bool (decide (l = m))) := by
  refine Meets.of_body [0,1,4,5,10,12,13,14,24] Proofs.Try.func27 rfl (by kernel_rfl) rfl fun w => ?_
  simp only [Proofs.Try.f27, shs, zts, sos, sls, zss, eqs, sx, sb1, sb2, sb3, sb4, sb5, sb6, sb7, ↓reduceIte, Nat.reduceAdd, Nat.reduceMul, Nat.reduceDiv, Nat.reduceEqDiff, Nat.reduceLT, Nat.reduceLeDiff, reduceCtorEq, Int.reduceEq, Int.reduceNe, Int.reduceLT, Int.reduceLE, Int.reduceAdd, Int.reduceSub, Int.reduceMul, Int.reduceNeg, Int.reduceToNat, Int.cast_ofNat_Int, Int.natCast_zero, Int.natCast_one, Int.toNat_natCast, Nat.reduceBEq, hx.len, hy.len, hx.sl, hy.sl, List.length_map]
  refine ⟨fun h => ?_, fun h => ?_⟩
  · rw [decide_eq_false (fun e => h (by rw [e]))]
  have hlen : l.length = m.length := by omega
  have hle := hx.len_le
  rw [List.length_map] at hle
  refine LoopK.go (X := Nat × Nat) (fun p => ([(0, true, .v x), (1, true, .v y), (4, true, .v (.bool false)), (12, true, .v (.int .i64 l.length)), (13, true, .v (.int .i64 p.2))], [], M))
    (fun p => p.1 + p.2 = l.length ∧ (l = m ↔ l.drop p.2 = m.drop p.2)) (fun p => p.1) (l.length, 0) ⟨rfl, Iff.rfl⟩ (Ent.of ?_) ?_
  · simp only [sx, sb1, sb2, sb3, sb4, sb5, sb6, sb7, ↓reduceIte, Nat.reduceAdd, Nat.reduceMul, Nat.reduceDiv, Nat.reduceEqDiff, Nat.reduceLT, Nat.reduceLeDiff, reduceCtorEq, Int.reduceEq, Int.reduceNe, Int.reduceLT, Int.reduceLE, Int.reduceAdd, Int.reduceSub, Int.reduceMul, Int.reduceNeg, Int.reduceToNat, Int.cast_ofNat_Int, Int.natCast_zero, Int.natCast_one, Int.toNat_natCast, Nat.reduceBEq]
  rintro ⟨f, i⟩ ⟨h1, h2⟩
  simp only at h1 h2
  simp only [shs, zts, sos, sls, zss, eqs, sx, sb1, sb2, sb3, sb4, sb5, sb6, sb7, ↓reduceIte, Nat.reduceAdd, Nat.reduceMul, Nat.reduceDiv, Nat.reduceEqDiff, Nat.reduceLT, Nat.reduceLeDiff, reduceCtorEq, Int.reduceEq, Int.reduceNe, Int.reduceLT, Int.reduceLE, Int.reduceAdd, Int.reduceSub, Int.reduceMul, Int.reduceNeg, Int.reduceToNat, Int.cast_ofNat_Int, Int.natCast_zero, Int.natCast_one, Int.toNat_natCast, Nat.reduceBEq]
  refine ⟨fun h3 => ?_, fun h3 => ?_⟩
  · obtain ⟨⟨⟨a0, a1, a2⟩, a3⟩, hl, hd⟩ := l_drop_at (l := l) (i := i) (by omega)
    obtain ⟨⟨⟨b0, b1, b2⟩, b3⟩, hm, hd2⟩ := l_drop_at (l := m) (i := i) (by omega)
    have g0 := hx.cell (i := i) (e := [.bool a0, .int .i64 a1, .int .i64 a2, .string ⟨a3.toArray⟩]) (by rw [List.getElem?_map, hl]; rfl) (off := 0) (by omega)
    have k0 := hy.cell (i := i) (e := [.bool b0, .int .i64 b1, .int .i64 b2, .string ⟨b3.toArray⟩]) (by rw [List.getElem?_map, hm]; rfl) (off := 0) (by omega)
    have g1 := hx.cell (i := i) (e := [.bool a0, .int .i64 a1, .int .i64 a2, .string ⟨a3.toArray⟩]) (by rw [List.getElem?_map, hl]; rfl) (off := 1) (by omega)
    have k1 := hy.cell (i := i) (e := [.bool b0, .int .i64 b1, .int .i64 b2, .string ⟨b3.toArray⟩]) (by rw [List.getElem?_map, hm]; rfl) (off := 1) (by omega)
    have g2 := hx.cell (i := i) (e := [.bool a0, .int .i64 a1, .int .i64 a2, .string ⟨a3.toArray⟩]) (by rw [List.getElem?_map, hl]; rfl) (off := 2) (by omega)
    have k2 := hy.cell (i := i) (e := [.bool b0, .int .i64 b1, .int .i64 b2, .string ⟨b3.toArray⟩]) (by rw [List.getElem?_map, hm]; rfl) (off := 2) (by omega)
    have g3 := hx.cell (i := i) (e := [.bool a0, .int .i64 a1, .int .i64 a2, .string ⟨a3.toArray⟩]) (by rw [List.getElem?_map, hl]; rfl) (off := 3) (by omega)
    have k3 := hy.cell (i := i) (e := [.bool b0, .int .i64 b1, .int .i64 b2, .string ⟨b3.toArray⟩]) (by rw [List.getElem?_map, hm]; rfl) (off := 3) (by omega)
    have i1 := hx.ix (i := (i : Int)) (by omega) (by rw [List.length_map]; omega)
    have i2 := hy.ix (i := (i : Int)) (by omega) (by rw [List.length_map]; omega)
    simp only [List.getD_cons_zero, List.getD_cons_succ] at g0 k0 g1 k1 g2 k2 g3 k3
    refine DrawK.quiet (by kernel_rfl) (by kernel_rfl) ?_
    simp only [shs, zts, sos, sls, zss, eqs, sx, sb1, sb2, sb3, sb4, sb5, sb6, sb7, ↓reduceIte, Nat.reduceAdd, Nat.reduceMul, Nat.reduceDiv, Nat.reduceEqDiff, Nat.reduceLT, Nat.reduceLeDiff, reduceCtorEq, Int.reduceEq, Int.reduceNe, Int.reduceLT, Int.reduceLE, Int.reduceAdd, Int.reduceSub, Int.reduceMul, Int.reduceNeg, Int.reduceToNat, Int.cast_ofNat_Int, Int.natCast_zero, Int.natCast_one, Int.toNat_natCast, Nat.reduceBEq, nzs, g0.1, g0.2.1, k0.1, k0.2.1, g1.1, g1.2.1, k1.1, k1.2.1, g2.1, g2.2.1, k2.1, k2.2.1, g3.1, g3.2.1, k3.1, k3.2.1, i1, i2, i1.2, i2.2, hx.len, hy.len, hx.sl, hy.sl, inK, lo, hi, List.toArray_eq_iff]
    refine ⟨fun hne => ?_, fun he => ⟨by omega, (f - 1, i + 1), ⟨⟨by simp only; omega, ?_⟩, by simp only; omega⟩, Ent.of ?_⟩⟩
    · rw [decide_eq_false (fun e => ?_)]
      have := h2.1 e
      rw [hd, hd2] at this
      have := (List.cons.inj this).1
      simp_all
    · have e12 : ((a0, a1, a2), a3) = ((b0, b1, b2), b3) := by simp_all
      simp only
      rw [h2, hd, hd2, e12]
      exact ⟨fun e => (List.cons.inj e).2, fun e => by rw [e]⟩
    · simp only [sx, sb1, sb2, sb3, sb4, sb5, sb6, sb7, ↓reduceIte, Nat.reduceAdd, Nat.reduceMul, Nat.reduceDiv, Nat.reduceEqDiff, Nat.reduceLT, Nat.reduceLeDiff, reduceCtorEq, Int.reduceEq, Int.reduceNe, Int.reduceLT, Int.reduceLE, Int.reduceAdd, Int.reduceSub, Int.reduceMul, Int.reduceNeg, Int.reduceToNat, Int.cast_ofNat_Int, Int.natCast_zero, Int.natCast_one, Int.toNat_natCast, Nat.reduceBEq, Int.natCast_add]
  · have : i = l.length := by omega
    rw [decide_eq_true (h2.2 (by rw [List.drop_eq_nil_of_le (by omega), List.drop_eq_nil_of_le (by omega)]))]


def copT (_ : List (Value × List Rc)) (f : Nat → SV) : SV := f 0
def copP (s : List Rc) (x : List (Value × List Rc)) (f : Nat → SV) : List PO := [.tab 1 (vv (x.map encV) ++ [[f 1]]), .row 4 (s.map encR)]
theorem natT : NatT copT := fun x f f' ν ν' h => h 0 (by omega)
theorem natP (s : List Rc) : NatP (copP s) := fun x f f' ν ν' h => by
  refine ⟨fun w y hy => ?_, fun w y hy => hy, trivial⟩
  rw [PO.tab_row] at hy ⊢
  have : (vv (x.map encV) ++ [[f 1]]).map (SV.vals ν) = (vv (x.map encV) ++ [[f' 1]]).map (SV.vals ν') := by
    rw [List.map_append, List.map_append, vv_vals, vv_vals]
    simp only [List.map_cons, List.map_nil, SV.vals, h 1 (by omega)]
  rw [← this]
  exact hy
theorem copied (y : Value) (ps : List (Value × List Rc)) (v : Value) (s : List Rc) (M : Mem) (hy : RowM M y 1 ((ps ++ [(v, s)]).map encV)) (hM : SegM M (ps ++ [(v, s)])) (h16 : (ps ++ [(v, s)]).length ≤ 16) (hk : ∀ p ∈ ps ++ [(v, s)], p.2.length ≤ 1000) :
    Meets Proofs.Try.prog 19 [.v y] M (OwnN copT (copP s) (fun x M' => SegM M' x ∧ x.map (·.2) = ps.map (·.2))) := by
  refine Meets.of_body [0,2,3,5,6,7,8,9] Proofs.Try.func19 rfl (by kernel_rfl) rfl fun w => ?_
  have hlen : (ps ++ [(v, s)]).length = ps.length + 1 := by simp
  simp only [Proofs.Try.f19, shs, zts, sos, sls, zss, eqs, sx, sb1, sb2, sb3, sb4, sb5, sb6, sb7, ↓reduceIte, Nat.reduceAdd, Nat.reduceMul, Nat.reduceDiv, Nat.reduceEqDiff, Nat.reduceLT, Nat.reduceLeDiff, reduceCtorEq, Int.reduceEq, Int.reduceNe, Int.reduceLT, Int.reduceLE, Int.reduceAdd, Int.reduceSub, Int.reduceMul, Int.reduceNeg, Int.reduceToNat, Int.cast_ofNat_Int, Int.natCast_zero, Int.natCast_one, Int.toNat_natCast, Nat.reduceBEq, nzs, hy.len, hy.sl, List.length_map, hlen]
  refine LoopK.nilRow 3 16 1 rfl rfl rfl ?_
  simp only [sx, sb1, sb2, sb3, sb4, sb5, sb6, sb7, ↓reduceIte, Nat.reduceAdd, Nat.reduceMul, Nat.reduceDiv, Nat.reduceEqDiff, Nat.reduceLT, Nat.reduceLeDiff, reduceCtorEq, Int.reduceEq, Int.reduceNe, Int.reduceLT, Int.reduceLE, Int.reduceAdd, Int.reduceSub, Int.reduceMul, Int.reduceNeg, Int.reduceToNat, Int.cast_ofNat_Int, Int.natCast_zero, Int.natCast_one, Int.toNat_natCast, Nat.reduceBEq]
  refine LoopK.go (X := (Nat × Nat × List (Value × List Rc) × Mem) ⊕ (List (Value × List Rc) × Mem)) (fun x => match x with
      | .inl x => ([(3, true, .own 128), (6, true, .v y), (7, true, .v (.int .i64 ((ps.length + 1 : Nat) : Int))), (8, true, .v (.int .i64 x.2.1))], [(128, .row 1 (x.2.2.1.map encV))], x.2.2.2)
      | .inr x => ([(3, true, .own 128), (6, true, .v y), (7, true, .v (.int .i64 ((ps.length + 1 : Nat) : Int))), (8, true, .v (.int .i64 ((ps.length + 1 : Nat) : Int)))], [(128, .tab 1 (vv (x.1.map encV) ++ [[.own 112]])), (112, .row 4 (s.map encR))], x.2))
    (fun x => match x with
      | .inl x => ((x.1 + x.2.1 = ps.length + 1 ∧ x.2.1 ≤ ps.length) ∧ x.2.2.1.length = x.2.1) ∧ M.le x.2.2.2 ∧ SegM x.2.2.2 x.2.2.1 ∧ x.2.2.1.map (·.2) = (ps.map (·.2)).take x.2.1
      | .inr x => SegM x.2 x.1 ∧ x.1.map (·.2) = ps.map (·.2))
    (fun x => match x with | .inl x => x.1 | .inr _ => 0) (.inl (ps.length + 1, 0, [], M)) ⟨⟨⟨rfl, by simp⟩, rfl⟩, Mem.le.refl M, fun p hp => by simp at hp, rfl⟩ (Ent.of ?_) ?_
  · simp only [sx, sb1, sb2, sb3, sb4, sb5, sb6, sb7, ↓reduceIte, Nat.reduceAdd, Nat.reduceMul, Nat.reduceDiv, Nat.reduceEqDiff, Nat.reduceLT, Nat.reduceLeDiff, reduceCtorEq, Int.reduceEq, Int.reduceNe, Int.reduceLT, Int.reduceLE, Int.reduceAdd, Int.reduceSub, Int.reduceMul, Int.reduceNeg, Int.reduceToNat, Int.cast_ofNat_Int, Int.natCast_zero, Int.natCast_one, Int.toNat_natCast, Nat.reduceBEq, List.map_nil]
  rintro (⟨f, i, out, M1⟩ | ⟨out, M1⟩) hI
  · obtain ⟨⟨⟨h1, h2⟩, h3⟩, h4, h5, h6⟩ := hI
    simp only at h1 h2 h3 h4 h5 h6
    have c1 : ((i : Int) < ((ps.length + 1 : Nat) : Int)) = True := eq_true (by omega)
    obtain ⟨p, hx, _⟩ := l_drop_at (l := ps ++ [(v, s)]) (i := i) (by omega)
    have hp := hM p (List.mem_of_getElem? hx)
    have hpl := hk p (List.mem_of_getElem? hx)
    have g := (hy.le h4).el1 hx rfl
    have ix := (hy.le h4).ix (i := (i : Int)) (by omega) (by rw [List.length_map]; omega)
    have i2 : inK .i64 ((i : Int) + 1) := i64I (by omega)
    simp only [shs, zts, sos, sls, zss, eqs, sx, sb1, sb2, sb3, sb4, sb5, sb6, sb7, ↓reduceIte, Nat.reduceAdd, Nat.reduceMul, Nat.reduceDiv, Nat.reduceEqDiff, Nat.reduceLT, Nat.reduceLeDiff, reduceCtorEq, Int.reduceEq, Int.reduceNe, Int.reduceLT, Int.reduceLE, Int.reduceAdd, Int.reduceSub, Int.reduceMul, Int.reduceNeg, Int.reduceToNat, Int.cast_ofNat_Int, Int.natCast_zero, Int.natCast_one, Int.toNat_natCast, Nat.reduceBEq, nzs, c1, g.1, g.2, ix, ix.2, hp.one]
    by_cases hi : i = ps.length
    · subst hi
      have hps : p = (v, s) := by
        rw [List.getElem?_append_right (Nat.le_refl _)] at hx
        simpa using hx.symm
      subst hps
      refine CallK.own Ctx.id rfl rfl (cloneR _ _ M1 (hp.le h4) (by simp only at hpl ⊢; omega)) rfl fun M2 hM2 => ?_
      simp only [shs, zts, sos, sls, zss, eqs, sx, sb1, sb2, sb3, sb4, sb5, sb6, sb7, ↓reduceIte, Nat.reduceAdd, Nat.reduceMul, Nat.reduceDiv, Nat.reduceEqDiff, Nat.reduceLT, Nat.reduceLeDiff, reduceCtorEq, Int.reduceEq, Int.reduceNe, Int.reduceLT, Int.reduceLE, Int.reduceAdd, Int.reduceSub, Int.reduceMul, Int.reduceNeg, Int.reduceToNat, Int.cast_ofNat_Int, Int.natCast_zero, Int.natCast_one, Int.toNat_natCast, Nat.reduceBEq, nzs]
      refine OpK.bsTab rfl rfl sl22 rfl rfl ⟨⟨⟨rfl, rfl⟩, rfl, rfl⟩, trivial⟩ rfl ?_
      simp only [shs, zts, sos, sls, zss, eqs, sx, sb1, sb2, sb3, sb4, sb5, sb6, sb7, ↓reduceIte, Nat.reduceAdd, Nat.reduceMul, Nat.reduceDiv, Nat.reduceEqDiff, Nat.reduceLT, Nat.reduceLeDiff, reduceCtorEq, Int.reduceEq, Int.reduceNe, Int.reduceLT, Int.reduceLE, Int.reduceAdd, Int.reduceSub, Int.reduceMul, Int.reduceNeg, Int.reduceToNat, Int.cast_ofNat_Int, Int.natCast_zero, Int.natCast_one, Int.toNat_natCast, Nat.reduceBEq, nzs, st1]
      refine OpK.appTab (es := vv (out.map encV)) (es' := [[.own 112]]) rfl rfl sl22 sh22 rfl rfl rfl rfl rfl (by simp only [vv_len, List.length_map, List.length_singleton]; omega) (by simp only [vv_len, List.length_map, List.length_singleton]; omega) (by simp only [shs, zts, sos, sls, zss, eqs, sx, sb1, sb2, sb3, sb4, sb5, sb6, sb7, ↓reduceIte, Nat.reduceAdd, Nat.reduceMul, Nat.reduceDiv, Nat.reduceEqDiff, Nat.reduceLT, Nat.reduceLeDiff, reduceCtorEq, Int.reduceEq, Int.reduceNe, Int.reduceLT, Int.reduceLE, Int.reduceAdd, Int.reduceSub, Int.reduceMul, Int.reduceNeg, Int.reduceToNat, Int.cast_ofNat_Int, Int.natCast_zero, Int.natCast_one, Int.toNat_natCast, Nat.reduceBEq, nzs, st1]) ?_
      simp only [shs, zts, sos, sls, zss, eqs, sx, sb1, sb2, sb3, sb4, sb5, sb6, sb7, ↓reduceIte, Nat.reduceAdd, Nat.reduceMul, Nat.reduceDiv, Nat.reduceEqDiff, Nat.reduceLT, Nat.reduceLeDiff, reduceCtorEq, Int.reduceEq, Int.reduceNe, Int.reduceLT, Int.reduceLE, Int.reduceAdd, Int.reduceSub, Int.reduceMul, Int.reduceNeg, Int.reduceToNat, Int.cast_ofNat_Int, Int.natCast_zero, Int.natCast_one, Int.toNat_natCast, Nat.reduceBEq, nzs, st1, i2]
      refine ⟨.inr (out, M2), ⟨⟨fun p hp => (h5 p hp).le hM2, ?_⟩, by simp only; omega⟩, Ent.of ?_⟩
      · simp only
        rw [h6, List.take_of_length_le (by simp)]
      · simp only [sx, sb1, sb2, sb3, sb4, sb5, sb6, sb7, ↓reduceIte, Nat.reduceAdd, Nat.reduceMul, Nat.reduceDiv, Nat.reduceEqDiff, Nat.reduceLT, Nat.reduceLeDiff, reduceCtorEq, Int.reduceEq, Int.reduceNe, Int.reduceLT, Int.reduceLE, Int.reduceAdd, Int.reduceSub, Int.reduceMul, Int.reduceNeg, Int.reduceToNat, Int.cast_ofNat_Int, Int.natCast_zero, Int.natCast_one, Int.toNat_natCast, Nat.reduceBEq, Int.natCast_add]
    · refine CallK.row Ctx.id rfl rfl ((cloneR _ _ M1 (hp.le h4) (by omega)).mono fun s H M' _ ⟨k, e, hk⟩ => ⟨.own k, e, hk⟩) fun v2 M2 hM2 hv2 => ?_
      simp only [shs, zts, sos, sls, zss, eqs, sx, sb1, sb2, sb3, sb4, sb5, sb6, sb7, ↓reduceIte, Nat.reduceAdd, Nat.reduceMul, Nat.reduceDiv, Nat.reduceEqDiff, Nat.reduceLT, Nat.reduceLeDiff, reduceCtorEq, Int.reduceEq, Int.reduceNe, Int.reduceLT, Int.reduceLE, Int.reduceAdd, Int.reduceSub, Int.reduceMul, Int.reduceNeg, Int.reduceToNat, Int.cast_ofNat_Int, Int.natCast_zero, Int.natCast_one, Int.toNat_natCast, Nat.reduceBEq, nzs, hv2.one, i2, List.length_map]
      refine ⟨⟨by omega, by omega⟩, .inl (f - 1, i + 1, out ++ [(v2, p.2)], M2), ⟨⟨⟨⟨by simp only; omega, by simp only; omega⟩, by simp only [List.length_append, List.length_singleton]; omega⟩, h4.trans hM2, ?_, ?_⟩, by simp only; omega⟩, Ent.of ?_⟩
      · intro q hq
        simp only at hq ⊢
        rcases List.mem_append.1 hq with hq | hq
        · exact (h5 q hq).le hM2
        · simp at hq; subst hq; exact hv2
      · simp only
        rw [List.map_append, h6]
        have : (ps.map (·.2))[i]? = some p.2 := by
          rw [List.getElem?_append_left (by omega)] at hx
          rw [List.getElem?_map, hx]
          rfl
        rw [List.take_add_one, this]
        rfl
      · simp only [sx, sb1, sb2, sb3, sb4, sb5, sb6, sb7, ↓reduceIte, Nat.reduceAdd, Nat.reduceMul, Nat.reduceDiv, Nat.reduceEqDiff, Nat.reduceLT, Nat.reduceLeDiff, reduceCtorEq, Int.reduceEq, Int.reduceNe, Int.reduceLT, Int.reduceLE, Int.reduceAdd, Int.reduceSub, Int.reduceMul, Int.reduceNeg, Int.reduceToNat, Int.cast_ofNat_Int, Int.natCast_zero, Int.natCast_one, Int.toNat_natCast, Nat.reduceBEq, Int.natCast_add, List.map_append, encV]
  · obtain ⟨h1, h2⟩ := hI
    simp only at h1 h2
    have c1 : (((ps.length + 1 : Nat) : Int) < ((ps.length + 1 : Nat) : Int)) = False := eq_false (by omega)
    simp only [shs, zts, sos, sls, zss, eqs, sx, sb1, sb2, sb3, sb4, sb5, sb6, sb7, ↓reduceIte, Nat.reduceAdd, Nat.reduceMul, Nat.reduceDiv, Nat.reduceEqDiff, Nat.reduceLT, Nat.reduceLeDiff, reduceCtorEq, Int.reduceEq, Int.reduceNe, Int.reduceLT, Int.reduceLE, Int.reduceAdd, Int.reduceSub, Int.reduceMul, Int.reduceNeg, Int.reduceToNat, Int.cast_ofNat_Int, Int.natCast_zero, Int.natCast_one, Int.toNat_natCast, Nat.reduceBEq, nzs, c1]
    exact ⟨out, [128, 112], rfl, ⟨by decide, by decide⟩, ⟨rfl, rfl, trivial⟩, h1, h2⟩

/-! ### put -/
abbrev PutA := List (Value × List Rc) × List Rc
def putT (_ : PutA) (f : Nat → SV) : SV := .tup [f 0, .v (.bool true)]
def putP (x : PutA) (f : Nat → SV) : List PO := copP x.2 x.1 f
theorem natPT : NatT putT := fun x f f' ν ν' h => by
  simp only [putT, SV.val, SV.vals, h 0 (by omega)]
theorem natPP : NatP putP := fun x => natP x.2 x.1
def standR (l : List (List Rc)) (s : List Rc) (r : Rc) : List (List Rc) := if fullR s + sizeR r ≤ 200 then l ++ [s ++ [r]] else l ++ [s] ++ [[r]]
theorem put_ok (x : List (Value × List Rc)) (s : List Rc) (r : Rc) (M : Mem) (hx : SegM M x) (hxl : x.length ≤ 15) (hs : s.length ≤ 100) (h64 : ∀ q ∈ s, q.2.length ≤ 64) (hr : r.2.length ≤ 64) (hroom : fullR s + sizeR r ≤ 200 ∨ x.length + 1 ≠ 16) :
    MeetsH Proofs.Try.prog 20 [.own 8000, recV r] (enumK 8000 (copP s x (kd 8000))) M (OwnN putT putP (fun y M' => SegM M' y.1 ∧ y.1.map (·.2) ++ [y.2] = standR (x.map (·.2)) s r)) := by
  refine MeetsH.of_body [0,1,3,4,5,6,22,38] Proofs.Try.func20 rfl (by kernel_rfl) fun w M0 => ?_
  have hfl := full_le h64
  have hsz : sizeR r ≤ 72 := by unfold sizeR; omega
  have c0 : (0 < ((x.length + 1 : Nat) : Int)) = True := eq_true (by omega)
  have e1 : ((x.length + 1 : Nat) : Int) - 1 = (x.length : Int) := by omega
  have i1 : inK .i64 ((x.length : Nat) : Int) := i64I (by omega)
  have i2 : inK .i64 ((fullR s : Int) + (sizeR r : Int)) := i64I (by omega)
  have hg : (vv (x.map encV) ++ [[SV.own 8001]]).getD x.length [] = [.own 8001] := by
    rw [List.getD_eq_getElem?_getD, List.getElem?_append_right (by simp [vv_len])]
    simp [vv_len]
  simp only [Proofs.Try.f20, copP, recV, shA1, shs, zts, sos, sls, zss, eqs, sx, sb1, sb2, sb3, sb4, sb5, sb6, sb7, ↓reduceIte, Nat.reduceAdd, Nat.reduceMul, Nat.reduceDiv, Nat.reduceEqDiff, Nat.reduceLT, Nat.reduceLeDiff, reduceCtorEq, Int.reduceEq, Int.reduceNe, Int.reduceLT, Int.reduceLE, Int.reduceAdd, Int.reduceSub, Int.reduceMul, Int.reduceNeg, Int.reduceToNat, Int.cast_ofNat_Int, Int.natCast_zero, Int.natCast_one, Int.toNat_natCast, Nat.reduceBEq, nzs, st1, List.length_append, List.length_map, List.length_singleton]
  refine DrawK.held [24] (tk [0, 1, 2, 3, 4, 5, 9] (ones' [6, 7, 8, 10] (tk [11, 12, 13] .done))) (by kernel_rfl) (by kernel_rfl) fun xs => ?_
  simp only [shs, zts, sos, sls, zss, eqs, sx, sb1, sb2, sb3, sb4, sb5, sb6, sb7, ↓reduceIte, Nat.reduceAdd, Nat.reduceMul, Nat.reduceDiv, Nat.reduceEqDiff, Nat.reduceLT, Nat.reduceLeDiff, reduceCtorEq, Int.reduceEq, Int.reduceNe, Int.reduceLT, Int.reduceLE, Int.reduceAdd, Int.reduceSub, Int.reduceMul, Int.reduceNeg, Int.reduceToNat, Int.cast_ofNat_Int, Int.natCast_zero, Int.natCast_one, Int.toNat_natCast, Nat.reduceBEq, nzs, se1, se2, tks, st1, List.length_append, List.length_map, List.length_singleton, c0, e1, i1, hg, getSV, List.getD_cons_zero]
  refine ⟨by omega, by omega, CallK.lend (k := 8001) rfl rfl rfl (fun _ => rfl) (fun v2 M2 _ hv2 => full v2 s M2 hv2 (by omega) h64) ?_⟩
  simp only [shs, zts, sos, sls, zss, eqs, sx, sb1, sb2, sb3, sb4, sb5, sb6, sb7, ↓reduceIte, Nat.reduceAdd, Nat.reduceMul, Nat.reduceDiv, Nat.reduceEqDiff, Nat.reduceLT, Nat.reduceLeDiff, reduceCtorEq, Int.reduceEq, Int.reduceNe, Int.reduceLT, Int.reduceLE, Int.reduceAdd, Int.reduceSub, Int.reduceMul, Int.reduceNeg, Int.reduceToNat, Int.cast_ofNat_Int, Int.natCast_zero, Int.natCast_one, Int.toNat_natCast, Nat.reduceBEq, nzs, se1, se2, tks, st1]
  refine CallK.pure ⟨rfl, rfl⟩ rfl (size r M (by omega)) ?_
  by_cases hF : fullR s + sizeR r ≤ 200
  · have c3 : ((fullR s : Int) + (sizeR r : Int) ≤ 200) = True := eq_true (by omega)
    have hst : standR (x.map (·.2)) s r = x.map (·.2) ++ [s ++ [r]] := if_pos hF
    rw [hst]
    simp only [shs, zts, sos, sls, zss, eqs, sx, sb1, sb2, sb3, sb4, sb5, sb6, sb7, ↓reduceIte, Nat.reduceAdd, Nat.reduceMul, Nat.reduceDiv, Nat.reduceEqDiff, Nat.reduceLT, Nat.reduceLeDiff, reduceCtorEq, Int.reduceEq, Int.reduceNe, Int.reduceLT, Int.reduceLE, Int.reduceAdd, Int.reduceSub, Int.reduceMul, Int.reduceNeg, Int.reduceToNat, Int.cast_ofNat_Int, Int.natCast_zero, Int.natCast_one, Int.toNat_natCast, Nat.reduceBEq, nzs, se1, se2, tks, st1, i2, c3]
    refine DrawK.held [24] (tk [0, 1, 2, 3, 4, 5, 8] (.two 6 (.two 7 (.one 9 (ones' [10, 11, 12] .done)) 9 (.one 7 (ones' [10, 11, 12] .done))) 9 (.one 6 (.one 7 (ones' [10, 11, 12] .done))))) (by kernel_rfl) (by kernel_rfl) fun xs => ?_
    simp only [shs, zts, sos, sls, zss, eqs, sx, sb1, sb2, sb3, sb4, sb5, sb6, sb7, ↓reduceIte, Nat.reduceAdd, Nat.reduceMul, Nat.reduceDiv, Nat.reduceEqDiff, Nat.reduceLT, Nat.reduceLeDiff, reduceCtorEq, Int.reduceEq, Int.reduceNe, Int.reduceLT, Int.reduceLE, Int.reduceAdd, Int.reduceSub, Int.reduceMul, Int.reduceNeg, Int.reduceToNat, Int.cast_ofNat_Int, Int.natCast_zero, Int.natCast_one, Int.toNat_natCast, Nat.reduceBEq, nzs, se1, se2, tks, st1, List.length_append, List.length_map, List.length_singleton, e1, i1, hg, getSV, List.getD_cons_zero]
    have hset : (vv (x.map encV) ++ [[SV.own 8001]]).set x.length [.own 264] = vv (x.map encV) ++ [[.own 264]] := by
      rw [List.set_append_right _ _ (by simp [vv_len])]
      simp [vv_len]
    and_intros
    all_goals first
      | omega
      | (refine OpK.stTab rfl rfl (of_eq_true so33) rfl rfl rfl rfl (by rw [sh33]; rfl) (by simp [vv_len]) (by decide) ?_
         simp only [shs, zts, sos, sls, zss, eqs, sx, sb1, sb2, sb3, sb4, sb5, sb6, sb7, ↓reduceIte, Nat.reduceAdd, Nat.reduceMul, Nat.reduceDiv, Nat.reduceEqDiff, Nat.reduceLT, Nat.reduceLeDiff, reduceCtorEq, Int.reduceEq, Int.reduceNe, Int.reduceLT, Int.reduceLE, Int.reduceAdd, Int.reduceSub, Int.reduceMul, Int.reduceNeg, Int.reduceToNat, Int.cast_ofNat_Int, Int.natCast_zero, Int.natCast_one, Int.toNat_natCast, Nat.reduceBEq, nzs, se1, se2, tks, st1, hg, hset]
         exact ⟨(x, s ++ [r]), [8000, 264], rfl, ⟨by decide, by decide⟩, ⟨rfl, by simp only [sx, sb1, sb2, sb3, sb4, sb5, sb6, sb7, ↓reduceIte, Nat.reduceAdd, Nat.reduceMul, Nat.reduceDiv, Nat.reduceEqDiff, Nat.reduceLT, Nat.reduceLeDiff, reduceCtorEq, Int.reduceEq, Int.reduceNe, Int.reduceLT, Int.reduceLE, Int.reduceAdd, Int.reduceSub, Int.reduceMul, Int.reduceNeg, Int.reduceToNat, Int.cast_ofNat_Int, Int.natCast_zero, Int.natCast_one, Int.toNat_natCast, Nat.reduceBEq, List.map_append]; rfl, trivial⟩, hx, rfl⟩)
  · have c3 : ((fullR s : Int) + (sizeR r : Int) ≤ 200) = False := eq_false (by omega)
    have hst : standR (x.map (·.2)) s r = x.map (·.2) ++ [s] ++ [[r]] := if_neg hF
    have c4 : (((x.length + 1 : Nat) : Int) = 16) = False := eq_false (by omega)
    rw [hst]
    simp only [shs, zts, sos, sls, zss, eqs, sx, sb1, sb2, sb3, sb4, sb5, sb6, sb7, ↓reduceIte, Nat.reduceAdd, Nat.reduceMul, Nat.reduceDiv, Nat.reduceEqDiff, Nat.reduceLT, Nat.reduceLeDiff, reduceCtorEq, Int.reduceEq, Int.reduceNe, Int.reduceLT, Int.reduceLE, Int.reduceAdd, Int.reduceSub, Int.reduceMul, Int.reduceNeg, Int.reduceToNat, Int.cast_ofNat_Int, Int.natCast_zero, Int.natCast_one, Int.toNat_natCast, Nat.reduceBEq, nzs, se1, se2, tks, st1, i2, c3, c4, List.length_append, List.length_map, List.length_singleton]
    refine OpK.pub (k := 8001) rfl fun v2 M2 hM2 hv2 => ?_
    simp only [sp1, sp2, sp3, shs, zts, sos, sls, zss, eqs, sx, sb1, sb2, sb3, sb4, sb5, sb6, sb7, ↓reduceIte, Nat.reduceAdd, Nat.reduceMul, Nat.reduceDiv, Nat.reduceEqDiff, Nat.reduceLT, Nat.reduceLeDiff, reduceCtorEq, Int.reduceEq, Int.reduceNe, Int.reduceLT, Int.reduceLE, Int.reduceAdd, Int.reduceSub, Int.reduceMul, Int.reduceNeg, Int.reduceToNat, Int.cast_ofNat_Int, Int.natCast_zero, Int.natCast_one, Int.toNat_natCast, Nat.reduceBEq, nzs, st1]
    refine OpK.bsTab rfl rfl sl22 rfl rfl ⟨⟨⟨rfl, rfl⟩, rfl, rfl⟩, trivial⟩ (by simp only [shs, zts, sos, sls, zss, eqs, sx, sb1, sb2, sb3, sb4, sb5, sb6, sb7, ↓reduceIte, Nat.reduceAdd, Nat.reduceMul, Nat.reduceDiv, Nat.reduceEqDiff, Nat.reduceLT, Nat.reduceLeDiff, reduceCtorEq, Int.reduceEq, Int.reduceNe, Int.reduceLT, Int.reduceLE, Int.reduceAdd, Int.reduceSub, Int.reduceMul, Int.reduceNeg, Int.reduceToNat, Int.cast_ofNat_Int, Int.natCast_zero, Int.natCast_one, Int.toNat_natCast, Nat.reduceBEq, nzs, st1]) ?_
    simp only [shs, zts, sos, sls, zss, eqs, sx, sb1, sb2, sb3, sb4, sb5, sb6, sb7, ↓reduceIte, Nat.reduceAdd, Nat.reduceMul, Nat.reduceDiv, Nat.reduceEqDiff, Nat.reduceLT, Nat.reduceLeDiff, reduceCtorEq, Int.reduceEq, Int.reduceNe, Int.reduceLT, Int.reduceLE, Int.reduceAdd, Int.reduceSub, Int.reduceMul, Int.reduceNeg, Int.reduceToNat, Int.cast_ofNat_Int, Int.natCast_zero, Int.natCast_one, Int.toNat_natCast, Nat.reduceBEq, nzs, st1]
    refine OpK.appTab (es := vv (x.map encV) ++ [[.v v2]]) (es' := [[.own 328]]) rfl rfl sl22 sh22 rfl rfl rfl rfl rfl (by simp only [vv_len, List.length_map, List.length_append, List.length_singleton]; omega) (by simp only [vv_len, List.length_map, List.length_append, List.length_singleton]; omega) (by simp only [shs, zts, sos, sls, zss, eqs, sx, sb1, sb2, sb3, sb4, sb5, sb6, sb7, ↓reduceIte, Nat.reduceAdd, Nat.reduceMul, Nat.reduceDiv, Nat.reduceEqDiff, Nat.reduceLT, Nat.reduceLeDiff, reduceCtorEq, Int.reduceEq, Int.reduceNe, Int.reduceLT, Int.reduceLE, Int.reduceAdd, Int.reduceSub, Int.reduceMul, Int.reduceNeg, Int.reduceToNat, Int.cast_ofNat_Int, Int.natCast_zero, Int.natCast_one, Int.toNat_natCast, Nat.reduceBEq, nzs, st1]) ?_
    simp only [shs, zts, sos, sls, zss, eqs, sx, sb1, sb2, sb3, sb4, sb5, sb6, sb7, ↓reduceIte, Nat.reduceAdd, Nat.reduceMul, Nat.reduceDiv, Nat.reduceEqDiff, Nat.reduceLT, Nat.reduceLeDiff, reduceCtorEq, Int.reduceEq, Int.reduceNe, Int.reduceLT, Int.reduceLE, Int.reduceAdd, Int.reduceSub, Int.reduceMul, Int.reduceNeg, Int.reduceToNat, Int.cast_ofNat_Int, Int.natCast_zero, Int.natCast_one, Int.toNat_natCast, Nat.reduceBEq, nzs, st1]
    refine ⟨(x ++ [(v2, s)], [r]), [344, 328], rfl, ⟨by decide, by decide⟩, ⟨?_, rfl, trivial⟩, fun p hp => ?_, by simp⟩
    · show some _ = some _
      rw [List.map_append, vv_app]
      rfl
    · rcases List.mem_append.1 hp with hp | hp
      · exact (hx p hp).le hM2
      · simp at hp; subst hp; exact hv2
/-! ### Put -/
def standL (l : List (List Rc)) (r : Rc) : List (List Rc) := match l.getLast? with
  | none => [[r]]
  | some s => standR l.dropLast s r
theorem standL_nil (r : Rc) : standL [] r = [[r]] := rfl
theorem standL_app (l : List (List Rc)) (s : List Rc) (r : Rc) : standL (l ++ [s]) r = standR l s r := by
  unfold standL
  simp
/-- what Check lets by -/
theorem segE_ok {l : List (List Rc)} (h : segE l = 0) : l.length ≤ 16 ∧ ∀ s ∈ l, (s.length ≠ 0 ∧ s.length ≤ 25) ∧ (∀ r ∈ s, r.1.1 = true ∧ r.2.length ≤ 64) ∧ fullR s ≤ 200 := by
  unfold segE at h
  split at h
  · cases h
  · rename_i h16
    refine ⟨by omega, ?_⟩
    have key : ∀ l : List (List Rc), goE l = 0 → ∀ s ∈ l, (s.length ≠ 0 ∧ s.length ≤ 25) ∧ (∀ r ∈ s, r.1.1 = true ∧ r.2.length ≤ 64) ∧ fullR s ≤ 200 := by
      intro l
      induction l with
      | nil => intro _ s hs; simp at hs
      | cons a l ih =>
        intro h s hs
        simp only [goE] at h
        split at h
        · cases h
        · rename_i h0
          split at h
          · rename_i h1; exact (h1 h).elim
          · rename_i h1
            split at h
            · cases h
            · rename_i h2
              rcases List.mem_cons.1 hs with rfl | hs
              · have h3 := takes_sum s
                exact ⟨⟨h0, by omega⟩, recE_le (by omega), by omega⟩
              · exact ih h s hs
    exact key l h
end Go.X.Sg

namespace Go.X.Sg
open Go Go.X

/-- segments, as they lie -/
def Segs (v : Value) (ls : List (List Rc)) (M : Mem) : Prop := ∃ ps : List (Value × List Rc), RowM M v 1 (ps.map encV) ∧ SegM M ps ∧ ps.map (·.2) = ls
theorem Segs.nil (M : Mem) : Segs (.slice none 0 0) [] M := ⟨[], RowM.nil _ _, fun p hp => by simp at hp, rfl⟩
theorem Segs.le {v : Value} {ls : List (List Rc)} {M M' : Mem} (h : Segs v ls M) (hle : M.le M') : Segs v ls M' := by
  obtain ⟨ps, h1, h2, h3⟩ := h
  exact ⟨ps, h1.le hle, h2.le hle, h3⟩
theorem copied_nil (y : Value) (M : Mem) (hy : RowM M y 1 []) : Meets Proofs.Try.prog 19 [.v y] M (fun r _ _ => r = .v (.slice none 0 0)) := by
  refine Meets.of_body [0,2,3,5,6,7,8,9] Proofs.Try.func19 rfl (by kernel_rfl) rfl fun w => ?_
  have hl := hy.len
  rw [List.length_nil] at hl
  simp only [Proofs.Try.f19, shs, zts, sos, sls, zss, eqs, sx, sb1, sb2, sb3, sb4, sb5, sb6, sb7, ↓reduceIte, Nat.reduceAdd, Nat.reduceMul, Nat.reduceDiv, Nat.reduceEqDiff, Nat.reduceLT, Nat.reduceLeDiff, reduceCtorEq, Int.reduceEq, Int.reduceNe, Int.reduceLT, Int.reduceLE, Int.reduceAdd, Int.reduceSub, Int.reduceMul, Int.reduceNeg, Int.reduceToNat, Int.cast_ofNat_Int, Int.natCast_zero, Int.natCast_one, Int.toNat_natCast, Nat.reduceBEq, nzs, hl, hy.sl]
  refine LoopK.go (X := Unit) (fun x => ([(3, true, .v (.slice none 0 0)), (6, true, .v y), (7, true, .v (.int .i64 ((0 : Nat) : Int))), (8, true, .v (.int .i64 0))], [], M)) (fun _ => True) (fun _ => 0) () trivial (Ent.of ?_) ?_
  · simp only [sx, sb1, sb2, sb3, sb4, sb5, sb6, sb7, ↓reduceIte, Nat.reduceAdd, Nat.reduceMul, Nat.reduceDiv, Nat.reduceEqDiff, Nat.reduceLT, Nat.reduceLeDiff, reduceCtorEq, Int.reduceEq, Int.reduceNe, Int.reduceLT, Int.reduceLE, Int.reduceAdd, Int.reduceSub, Int.reduceMul, Int.reduceNeg, Int.reduceToNat, Int.cast_ofNat_Int, Int.natCast_zero, Int.natCast_one, Int.toNat_natCast, Nat.reduceBEq]
  rintro _ _
  simp only [shs, zts, sos, sls, zss, eqs, sx, sb1, sb2, sb3, sb4, sb5, sb6, sb7, ↓reduceIte, Nat.reduceAdd, Nat.reduceMul, Nat.reduceDiv, Nat.reduceEqDiff, Nat.reduceLT, Nat.reduceLeDiff, reduceCtorEq, Int.reduceEq, Int.reduceNe, Int.reduceLT, Int.reduceLE, Int.reduceAdd, Int.reduceSub, Int.reduceMul, Int.reduceNeg, Int.reduceToNat, Int.cast_ofNat_Int, Int.natCast_zero, Int.natCast_one, Int.toNat_natCast, Nat.reduceBEq, nzs]
end Go.X.Sg

