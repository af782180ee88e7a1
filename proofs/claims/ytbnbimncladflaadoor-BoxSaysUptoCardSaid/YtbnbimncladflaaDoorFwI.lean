/- The logic, ninth part: boxes that are handed on to callees at one and the same pointer. Conditions: none. -/
import Derived.Test.YtbnbimncladflaaDoorFwH
set_option linter.unusedSimpArgs false
set_option linter.unusedVariables false
set_option maxHeartbeats 4000000
set_option maxRecDepth 20000
namespace Go.X
open Go Go.RowKit

section
variable {E : Env} {σ : Sig} {H : HS} {M : Mem} {a : Act} {w : World} {ν : Nat → Value} {K : KP} {o : Oper}

theorem Heap.setPO {k : Nat} {p q : PO} (hh : Heap E ν H M w) (hk : hget H k = some p) (h : p.holds ν w (ν k) → q.holds ν w (ν k)) : Heap E ν (hset k q H) M w := by
  refine ⟨fun r hr => ?_, by rw [hset_fp]; exact hh.nodup, fun b hb => hh.apart b (by rw [hset_fp] at hb; exact hb), hh.mem, hh.below, hh.le0, hh.fresh, hh.one⟩
  rcases hset_mem hr with rfl | hr
  · exact h (hh.holds _ (hget_mem hk))
  · exact hh.holds _ hr
theorem i64J {x : Int} (h : -9223372036854775808 ≤ x ∧ x ≤ 9223372036854775807) : inK .i64 x := h
abbrev ptrV (b : Nat) : Value := .pointer (some ⟨b, 0, none⟩)
/-- the pointer to a box gets a name -/
theorem CallK.tie {f d : Nat} {l : List SV} (k : Nat) {cs : List SV} {t : Option Value} (hk : hget H k = some (.box cs t)) (h : ∀ b, CallK E f l d K σ (hset k (.box cs (some (ptrV b))) H) M) : CallK E f l d K σ H M := by
  intro ν a w hs hh
  obtain ⟨⟨b, T, hν, hb⟩, ht⟩ := hh.holds _ (hget_mem hk)
  simp only at hν
  exact h b ν a w hs (hh.setPO hk fun hx => ⟨hx.1, fun v hv => by cases hv; exact hν⟩)
/-- .. and stands for the pointer from now on -/
theorem CallK.fixP {f d : Nat} {l : List SV} (k : Nat) {b : Nat} {cs : List SV} (hk : hget H k = some (.box cs (some (ptrV b)))) (h : CallK E f (SV.pubPs k b l) d K (sigPubP k b σ) H M) : CallK E f l d K σ H M := by
  intro ν a w hs hh
  have hν : ν k = ptrV b := (hh.holds _ (hget_mem hk)).2 _ rfl
  have := h ν a w (pubP_slots hν hs) hh
  rw [SV.pubPs_vals hν] at this
  exact this
theorem DrawK.unfix {id : Nat} {ops : Array Oper} (j k : Nat) {b : Nat} {cs : List SV} (hk : hget H k = some (.box cs (some (ptrV b)))) (hj : lk σ j = some (true, .v (ptrV b))) (h : DrawK E id ops K ((j, true, .ptr k 0 0 0) :: σ) H M) : DrawK E id ops K σ H M := by
  rintro a w ⟨ν, hs, hh⟩
  have hν : ν k = ptrV b := (hh.holds _ (hget_mem hk)).2 _ rfl
  refine h a w ⟨ν, ⟨hs.1, hs.2.1, fun i g s hi => ?_⟩, hh⟩
  simp only [lk] at hi
  split at hi
  · rename_i e
    subst e
    simp only [Option.some.injEq, Prod.mk.injEq] at hi
    obtain ⟨rfl, rfl⟩ := hi
    rw [hs.2.2 i true _ hj]
    simp only [cond_true, SV.val, hν, bOf, Nat.mul_zero, Nat.add_zero]
  · exact hs.2.2 i g s hi
theorem MeetsH.fix {P : Program} {f : FuncId} {l : List SV} {R : RP} (k : Nat) {b : Nat} {cs : List SV} (hk : hget H k = some (.box cs (some (ptrV b)))) (h : MeetsH P f (.ptr k 0 0 0 :: l) H M R) : MeetsH P f (.v (ptrV b) :: l) H M R := by
  refine ⟨h.1, fun w0 M0 ν w hh => ?_⟩
  have hν : ν k = ptrV b := (hh.holds _ (hget_mem hk)).2 _ rfl
  have := h.2 w0 M0 ν w hh
  simp only [SV.vals, SV.val, hν, bOf, Nat.mul_zero, Nat.add_zero] at this ⊢
  exact this

/-- a nil slice in a box, as a row of the call's own -/
theorem CallK.nilBox {f d : Nat} {l : List SV} (k j e sz : Nat) {cs : List SV} {t : Option Value} (hk : hget H k = some (.box cs t)) (hj : cs[j]? = some (.v (.slice none 0 0))) (hke : (k / 8 == e) = false) (hl : SV.noKeys e l = true) (hn : hNoKey e H = true) (hs' : sigNoKey e σ = true)
    (h : CallK E f l d K σ ((8 * e, .row sz []) :: hset k (.box (cs.set j (.own (8 * e))) t) H) M) : CallK E f l d K σ H M := by
  intro ν a w hs hh
  let ν2 : Nat → Value := fun i => if i / 8 = e then .slice none 0 0 else ν i
  have hν : ∀ i, i / 8 ≠ e → ν2 i = ν i := fun i hi => by simp [ν2, hi]
  have hν8 : ν2 (8 * e) = .slice none 0 0 := by simp [ν2, show (8 * e) / 8 = e by omega]
  have hke' : k / 8 ≠ e := by simpa using hke
  have h1 : Heap E ν2 ((8 * e, .row sz []) :: H) M w := by
    refine hh.add hn hν (fun i => ?_) ?_ (fun b hb => by rw [hν8] at hb; simp [blk?] at hb)
    · by_cases hi : i / 8 = e
      · simp [ν2, hi, Value.oneCell']
      · simp only [ν2, hi, if_false]; exact hh.one i
    · rw [hν8]
      exact ⟨fun e he => by simp at he, .inl ⟨rfl, rfl⟩⟩
  have hne : ¬ 8 * e = k := fun he => hke' (by omega)
  have h2 : Heap E ν2 ((8 * e, .row sz []) :: hset k (.box (cs.set j (.own (8 * e))) t) H) M w := by
    have h3 := h1.setPO (k := k) (p := .box cs t) (q := .box (cs.set j (.own (8 * e))) t) (by simp only [hget]; rw [if_neg (fun e' => hne e'.symm)]; exact hk) (fun hx => by
      obtain ⟨⟨b, T, e1, e2⟩, e3⟩ := hx
      refine ⟨⟨b, T, e1, ?_⟩, e3⟩
      rw [e2]
      congr 3
      rw [SV.vals_map, SV.vals_map, List.map_set]
      apply List.ext_getElem?
      intro i
      rw [List.getElem?_set]
      split
      · rename_i ei
        subst ei
        have hjl : j < cs.length := (List.getElem?_eq_some_iff.1 hj).1
        rw [List.length_map, if_pos hjl, List.getElem?_map, hj]
        simp only [Option.map_some, SV.val, hν8]
      · rfl)
    simp only [hset, if_neg hne] at h3
    exact h3
  have := h ν2 a w ⟨hs.1, hs.2.1, fun i g s hi => by rw [hs.2.2 i g s hi, SV.val_congr hν s (sigNoKey_lk hs' hi)]⟩ h2
  rw [SV.vals_congr hν l hl] at this
  exact this
end
theorem BoxM.at' {M : Mem} {b : Nat} {cs : List Value} (h : BoxM M b cs) {j : Nat} {c : Value} (hc : cs[j]? = some c) : elP M ((⟨b, 0, none⟩ : Addr).add j) 0 = c ∧ okP M ((⟨b, 0, none⟩ : Addr).add j) 0 := by
  have := h.at hc
  unfold elP okP at this ⊢
  rw [Addr.add_add, Nat.add_zero]
  exact this
/-- simp takes one branch only of this form -/
theorem sigConcA_if (D : List Nat) (j : Nat) (g : Bool) (s : SV) (σ : Sig) : sigConcA D ((j, g, s) :: σ) = if memN j D = true then sigConcA D σ else if s.conc = true then (j, g, s) :: sigConcA D σ else sigConcA (j :: D) σ := by
  simp only [sigConcA]
  cases memN j D <;> cases s.conc <;> rfl
theorem shB : type_of% (And.intro (And.intro @sigConc.eq_1 (And.intro @sigConcA.eq_1 @sigConcA_if)) (And.intro (And.intro @enumK.eq_1 @enumK.eq_2) (And.intro @kd.eq_1 @ksv.eq_1))) := And.intro (And.intro @sigConc.eq_1 (And.intro @sigConcA.eq_1 @sigConcA_if)) (And.intro (And.intro @enumK.eq_1 @enumK.eq_2) (And.intro @kd.eq_1 @ksv.eq_1))
end Go.X
