/- The logic, fifth part: regions that draw their order and hold operations with effects anywhere. Conditions: none. -/
import Derived.Test.YtbnbimncladflaaDoorFwD
import Derived.OrdersHeld
set_option linter.unusedSimpArgs false
set_option linter.unusedVariables false
set_option maxHeartbeats 4000000
set_option maxRecDepth 20000
namespace Go.X
open Go Go.RowKit

/-- the order in which a drawn region is walked: 'take' a quiet operation first; fork over all that may come up -/
inductive Sch where
  | done
  | take (i : Nat) (n : Sch)
  | one (i : Nat) (n : Sch)
  | two (i : Nat) (n : Sch) (j : Nat) (m : Sch)

def schB (md : Region.Mode) (ops : Array Oper) : Sch → Nat → Array Bool → Bool
  | .done, _, listed => (Region.ready md ops listed).isEmpty
  | .take i n, f + 1, listed => (Region.free md ops listed i && (Region.ready md ops listed).contains i) && schB md ops n f (listed.setIfInBounds i true)
  | .one i n, f + 1, listed => Region.ready md ops listed == [i] && schB md ops n f (listed.setIfInBounds i true)
  | .two i n j m, f + 1, listed => Region.ready md ops listed == [i, j] && (schB md ops n f (listed.setIfInBounds i true) && schB md ops m f (listed.setIfInBounds j true))
  | _, 0, _ => false

def pickH (sel : List Nat) : HS → HS
  | [] => []
  | (k, .box cs t) :: H => bif memN k sel && (SV.concs cs && t.isSome) then (k, .box cs t) :: pickH sel H else pickH sel H
  | (_, .row _ _) :: H => pickH sel H
  | (_, .tab _ _) :: H => pickH sel H
  | (_, .mp _) :: H => pickH sel H

def stayH : HS → HS → Prop
  | [], _ => True
  | (k, p) :: r, H => hget H k = some p ∧ stayH r H

/-- a quiet operation, at what of memory stays -/
def qtK (E : Env) (o : Oper) (Hs : HS) (Ms : Mem) (K : KP) (σ : Sig) (H : HS) (M : Mem) : Option Bool → Option Nat → Prop
  | some g, some d => (d < E.N ∧ (g = true → (pev E.P Hs Ms σ o.op).1 = true ∧ (pev E.P Hs Ms σ o.op).2.2)) ∧ K ((d, g, (pev E.P Hs Ms σ o.op).2.1) :: σ) H M
  | _, _ => False
def efC (Hs : HS) (Ms : Mem) (K : KP) (σ' : Sig) (H' : HS) (M' : Mem) : Prop := (stayH Hs H' ∧ Ms.le M') ∧ K σ' H' M'
@[congr] theorem efC_congr {Hs Hs' : HS} {Ms : Mem} {K : KP} {σ σ' : Sig} {H H' : HS} {M : Mem} (h0 : Hs = Hs') (h : σ = σ') (h' : H = H') : efC Hs Ms K σ H M = efC Hs' Ms K σ' H' M := by rw [h0, h, h']
def efK (E : Env) (o : Oper) (Hs : HS) (Ms : Mem) (K : KP) (σ : Sig) (H : HS) (M : Mem) : Option Bool → Prop
  | some g => stepK E o g (efC Hs Ms K) σ H M
  | none => False
def opt1 (f : Oper → Prop) : Option Oper → Prop
  | some o => f o
  | none => False

def wpH (E : Env) (ops : List Oper) (Hs : HS) (Ms : Mem) (K : KP) : Sch → Sig → HS → Mem → Prop
  | .done, σ, H, M => K σ H M
  | .take i n, σ, H, M => opt1 (fun o => qtK E o Hs Ms (wpH E ops Hs Ms K n) σ H M (gdOf ops σ o.guard) o.dst) ops[i]?
  | .one i n, σ, H, M => opt1 (fun o => efK E o Hs Ms (wpH E ops Hs Ms K n) σ H M (gdOf ops σ o.guard)) ops[i]?
  | .two i n j m, σ, H, M => opt1 (fun o => efK E o Hs Ms (wpH E ops Hs Ms K n) σ H M (gdOf ops σ o.guard)) ops[i]? ∧ opt1 (fun o => efK E o Hs Ms (wpH E ops Hs Ms K m) σ H M (gdOf ops σ o.guard)) ops[j]?

@[congr] theorem qtK_congr {E : Env} {o : Oper} {Hs Hs' : HS} {Ms : Mem} {K : KP} {σ σ' : Sig} {H H' : HS} {M : Mem} {g g' : Option Bool} {d d' : Option Nat} (h0 : Hs = Hs') (h : σ = σ') (h' : H = H') (hg : g = g') (hd : d = d') : qtK E o Hs Ms K σ H M g d = qtK E o Hs' Ms K σ' H' M g' d' := by rw [h0, h, h', hg, hd]
@[congr] theorem efK_congr {E : Env} {o : Oper} {Hs Hs' : HS} {Ms : Mem} {K : KP} {σ σ' : Sig} {H H' : HS} {M : Mem} {g g' : Option Bool} (h0 : Hs = Hs') (h : σ = σ') (h' : H = H') (hg : g = g') : efK E o Hs Ms K σ H M g = efK E o Hs' Ms K σ' H' M g' := by rw [h0, h, h', hg]
@[congr] theorem opt1_congr {f : Oper → Prop} {x y : Option Oper} (h : x = y) : opt1 f x = opt1 f y := by rw [h]
@[congr] theorem wpH_congr {E : Env} {ops : List Oper} {Hs Hs' : HS} {Ms : Mem} {K : KP} {s : Sch} {σ σ' : Sig} {H H' : HS} {M : Mem} (h0 : Hs = Hs') (h : σ = σ') (h' : H = H') : wpH E ops Hs Ms K s σ H M = wpH E ops Hs' Ms K s σ' H' M := by rw [h0, h, h']

section
variable {E : Env} {σ : Sig} {H Hs : HS} {M Ms : Mem} {ν ν' : Nat → Value} {a : Act} {w : World}

def tieds (ν : Nat → Value) : HS → Prop
  | [] => True
  | (k, .box cs t) :: H => (SV.concs cs = true ∧ t = some (ν k)) ∧ tieds ν H
  | (_, .row _ _) :: _ => False
  | (_, .tab _ _) :: _ => False
  | (_, .mp _) :: _ => False
theorem tieds_mem : ∀ {Hs : HS} {q : Nat × PO}, tieds ν Hs → q ∈ Hs → ∃ cs, q.2 = .box cs (some (ν q.1)) ∧ SV.concs cs = true
  | (k, .box cs t) :: H, q, h, hq => by
    obtain ⟨⟨h1, rfl⟩, h2⟩ := h
    rcases List.mem_cons.1 hq with rfl | hq
    · exact ⟨cs, rfl, h1⟩
    · exact tieds_mem h2 hq
  | (k, .row _ _) :: H, q, h, _ => h.elim
  | (k, .tab _ _) :: H, q, h, _ => h.elim
  | (k, .mp _) :: H, q, h, _ => h.elim
  | [], q, _, hq => by cases hq
theorem stayH_mem : ∀ {Hs : HS} {q : Nat × PO}, stayH Hs H → q ∈ Hs → q ∈ H
  | (k, p) :: r, q, h, hq => by
    rcases List.mem_cons.1 hq with rfl | hq
    · exact hget_mem h.1
    · exact stayH_mem h.2 hq
  | [], q, _, hq => by cases hq
theorem fp_eq : ∀ {Hs : HS}, (∀ q ∈ Hs, ν' q.1 = ν q.1) → fp ν' Hs = fp ν Hs
  | [], _ => rfl
  | q :: H, h => by
    have := fp_eq (Hs := H) fun q hq => h q (List.mem_cons_of_mem _ hq)
    have h0 := h q List.mem_cons_self
    simp only [fp, List.filterMap_cons] at this ⊢
    rw [h0, this]

/-- what stays of memory, at the values of the region's beginning -/
theorem Heap.stay {w0 : World} (h0 : Heap E ν Hs Ms w0) (ht : tieds ν Hs) (hh : Heap E ν' H M w) (hs : stayH Hs H) (hle : Ms.le M) : Heap E ν Hs Ms w ∧ ∀ q ∈ Hs, ν' q.1 = ν q.1 := by
  have e : ∀ q ∈ Hs, ν' q.1 = ν q.1 := fun q hq => by
    obtain ⟨cs, h1, _⟩ := tieds_mem ht hq
    have := hh.holds q (stayH_mem hs hq)
    rw [h1] at this
    exact this.2 _ rfl
  refine ⟨⟨fun q hq => ?_, h0.nodup, h0.apart, fun b o hb => hh.mem b o (hle b o hb), hh.below, h0.le0, h0.fresh, h0.one⟩, e⟩
  obtain ⟨cs, h1, h2⟩ := tieds_mem ht hq
  have := hh.holds q (stayH_mem hs hq)
  rw [h1, e q hq] at this
  rw [h1]
  obtain ⟨⟨b, T, e1, e2⟩, e3⟩ := this
  exact ⟨⟨b, T, e1, by rw [SV.concs_vals (ν := ν') (ν' := ν) cs h2]; exact e2⟩, e3⟩

theorem Heap.again (h0 : Heap E ν Hs Ms w) (ht : tieds ν Hs) (e : ∀ q ∈ Hs, ν' q.1 = ν q.1) (h1 : ∀ k, (ν' k).oneCell' = true) : Heap E ν' Hs Ms w := by
  have hf := fp_eq (ν := ν) (ν' := ν') e
  refine ⟨fun q hq => ?_, by rw [hf]; exact h0.nodup, by rw [hf]; exact h0.apart, h0.mem, h0.below, h0.le0, h0.fresh, h1⟩
  obtain ⟨cs, h1, h2⟩ := tieds_mem ht hq
  have := h0.holds q hq
  rw [h1] at this
  rw [h1, e q hq]
  obtain ⟨⟨b, T, e1, e2⟩, e3⟩ := this
  exact ⟨⟨b, T, e1, by rw [SV.concs_vals (ν := ν) (ν' := ν') cs h2]; exact e2⟩, e3⟩

theorem wpH_sound {ops : Array Oper} {K : KP} {w0 : World} (hsel : Region.noSelect ops = true) (h0 : Heap E ν Hs Ms w0) (ht : tieds ν Hs) :
    ∀ (sch : Sch) (f : Nat) (listed : Array Bool) (σ : Sig) (H : HS) (M : Mem) (a : Act) (w : World), schB .any ops sch f listed = true → Rep E σ H M a w → (stayH Hs H ∧ Ms.le M) → wpH E ops.toList Hs Ms K sch σ H M →
      wpAnyH E.P .any ops (fun e a w => e = Exit.normal ∧ ∃ σ H M, Rep E σ H M a w ∧ K σ H M) (fun w => Heap E ν Hs Ms w) f listed a w
  | .done, f, listed, σ, H, M, a, w, hB, hr, _, h => by
    exact wpAnyH_done (by simpa [schB] using hB) ⟨rfl, σ, H, M, hr, h⟩ f
  | .take i n, f + 1, listed, σ, H, M, a, w, hB, ⟨ν', hs, hh⟩, ⟨hsub, hle⟩, h => by
    simp only [schB, Bool.and_eq_true] at hB
    obtain ⟨⟨hf, hrd⟩, hB⟩ := hB
    simp only [wpH] at h
    cases ho : ops[i]? with
    | none => rw [show ops.toList[i]? = none by rw [Array.getElem?_toList]; exact ho] at h; exact h.elim
    | some o =>
      rw [show ops.toList[i]? = some o by rw [Array.getElem?_toList]; exact ho] at h
      simp only [opt1] at h
      cases hg : gdOf ops.toList σ o.guard with
      | none => rw [hg] at h; exact h.elim
      | some g =>
        cases hd : o.dst with
        | none => rw [hg, hd] at h; exact h.elim
        | some d =>
          rw [hg, hd] at h
          obtain ⟨⟨hN, h1⟩, hK⟩ := h
          have hgd := gd_spec hs hg o rfl
          obtain ⟨hS, hke⟩ := Heap.stay h0 ht hh hsub hle
          refine wpAnyH_take (v := bif g then (pev E.P Hs Ms σ o.op).2.1.val ν' else undef) ho hsel hf hrd (fun c a w h => by obtain ⟨h, _⟩ := h; cases h) ?_ hS ?_
          · cases g with
            | true =>
              obtain ⟨hg1, hc⟩ := h1 rfl
              refine .inl ⟨by simpa using hgd, fun w1 hw1 => ?_⟩
              exact pev_sound hs (Heap.again hw1 ht hke hh.one) o hg1 hc
            | false => exact .inr ⟨by simpa using hgd, rfl⟩
          · refine wpH_sound hsel h0 ht n f _ _ H M _ w hB ⟨ν', ?_, hh⟩ ⟨hsub, hle⟩ hK
            rw [hd]
            exact hs.put hN rfl
  | .one i n, f + 1, listed, σ, H, M, a, w, hB, hr, hsm, h => by
    simp only [schB, Bool.and_eq_true, beq_iff_eq] at hB
    refine wpAnyH_all hB.1 (by simp) fun j hj => ?_
    obtain rfl : j = i := by simpa using hj
    exact wpH_op hsel h0 ht n f listed σ H M a w hB.2 hr hsm h
  | .two i n i' m, f + 1, listed, σ, H, M, a, w, hB, hr, hsm, h => by
    simp only [schB, Bool.and_eq_true, beq_iff_eq] at hB
    refine wpAnyH_all hB.1 (by simp) fun j hj => ?_
    rcases (by simpa using hj : j = i ∨ j = i') with rfl | rfl
    · exact wpH_op hsel h0 ht n f listed σ H M a w hB.2.1 hr hsm h.1
    · exact wpH_op hsel h0 ht m f listed σ H M a w hB.2.2 hr hsm h.2
  | .take _ _, 0, _, _, _, _, _, _, hB, _, _, _ => by simp [schB] at hB
  | .one _ _, 0, _, _, _, _, _, _, hB, _, _, _ => by simp [schB] at hB
  | .two _ _ _ _, 0, _, _, _, _, _, _, hB, _, _, _ => by simp [schB] at hB
where
  wpH_op {ops : Array Oper} {K : KP} {w0 : World} (hsel : Region.noSelect ops = true) (h0 : Heap E ν Hs Ms w0) (ht : tieds ν Hs) {i : Nat} (n : Sch) (f : Nat) (listed : Array Bool) (σ : Sig) (H : HS) (M : Mem) (a : Act) (w : World)
      (hB : schB .any ops n f (listed.setIfInBounds i true) = true) (hr : Rep E σ H M a w) (_ : stayH Hs H ∧ Ms.le M)
      (h : opt1 (fun o => efK E o Hs Ms (wpH E ops.toList Hs Ms K n) σ H M (gdOf ops.toList σ o.guard)) ops.toList[i]?) :
      wpOp E.P ops (fun e a w => e = Exit.normal ∧ ∃ σ H M, Rep E σ H M a w ∧ K σ H M) i (fun a' w' => Heap E ν Hs Ms w' ∧ wpAnyH E.P .any ops (fun e a w => e = Exit.normal ∧ ∃ σ H M, Rep E σ H M a w ∧ K σ H M) (fun w => Heap E ν Hs Ms w) f (listed.setIfInBounds i true) a' w') a w := by
    cases ho : ops[i]? with
    | none => rw [show ops.toList[i]? = none by rw [Array.getElem?_toList]; exact ho] at h; exact h.elim
    | some o =>
      rw [show ops.toList[i]? = some o by rw [Array.getElem?_toList]; exact ho] at h
      simp only [opt1] at h
      obtain ⟨ν', hs, hh⟩ := hr
      cases hg : gdOf ops.toList σ o.guard with
      | none => rw [hg] at h; exact h.elim
      | some g =>
        rw [hg] at h
        simp only [efK] at h
        have hgd := gd_spec hs hg o rfl
        have key := stepK_sound (Nx := fun a' w' => Heap E ν Hs Ms w' ∧ wpAnyH E.P .any ops (fun e a w => e = Exit.normal ∧ ∃ σ H M, Rep E σ H M a w ∧ K σ H M) (fun w => Heap E ν Hs Ms w) f (listed.setIfInBounds i true) a' w')
          (Qx := fun e a w => e = Exit.normal ∧ ∃ σ H M, Rep E σ H M a w ∧ K σ H M)
          (fun σ1 H1 M1 a1 w1 hr1 hk1 => by
            obtain ⟨ν1, hs1, hh1⟩ := hr1
            exact ⟨(Heap.stay h0 ht hh1 hk1.1.1 hk1.1.2).1, wpH_sound hsel h0 ht n f _ σ1 H1 M1 a1 w1 hB ⟨ν1, hs1, hh1⟩ hk1.1 hk1.2⟩) hs hh h
        unfold wpOp
        simp only [ho]
        have hgd' : Region.wanted o (yielded ops a.tmps) = g := by simpa using hgd
        rw [hgd']
        cases g with
        | true => simp only [if_true] at key ⊢; exact .inl key
        | false => simp only [Bool.false_eq_true, if_false] at key ⊢; exact key

theorem tieH_heap (hh : Heap E ν H M w) : Heap E ν (tieH ν H) M w := by
  refine ⟨fun q hq => ?_, by rw [tieH_fp]; exact hh.nodup, by rw [tieH_fp]; exact hh.apart, hh.mem, hh.below, hh.le0, hh.fresh, hh.one⟩
  have : ∀ {H : HS} {q : Nat × PO}, q ∈ tieH ν H → ((∃ cs t, (q.1, PO.box cs t) ∈ H ∧ q.2 = .box cs (some (ν q.1))) ∨ q ∈ H) := by
    intro H
    induction H with
    | nil => intro q h; simp [tieH] at h
    | cons p H ih =>
      intro q h
      obtain ⟨k, p⟩ := p
      cases p with
      | box cs t =>
        simp only [tieH] at h
        rcases List.mem_cons.1 h with rfl | h
        · exact .inl ⟨cs, t, List.mem_cons_self, rfl⟩
        · rcases ih h with ⟨cs', t', h1, h2⟩ | h1
          · exact .inl ⟨cs', t', List.mem_cons_of_mem _ h1, h2⟩
          · exact .inr (List.mem_cons_of_mem _ h1)
      | row sz es =>
        simp only [tieH] at h
        rcases List.mem_cons.1 h with rfl | h
        · exact .inr List.mem_cons_self
        · rcases ih h with ⟨cs', t', h1, h2⟩ | h1
          · exact .inl ⟨cs', t', List.mem_cons_of_mem _ h1, h2⟩
          · exact .inr (List.mem_cons_of_mem _ h1)
      | tab sz es =>
        simp only [tieH] at h
        rcases List.mem_cons.1 h with rfl | h
        · exact .inr List.mem_cons_self
        · rcases ih h with ⟨cs', t', h1, h2⟩ | h1
          · exact .inl ⟨cs', t', List.mem_cons_of_mem _ h1, h2⟩
          · exact .inr (List.mem_cons_of_mem _ h1)
      | mp es =>
        simp only [tieH] at h
        rcases List.mem_cons.1 h with rfl | h
        · exact .inr List.mem_cons_self
        · rcases ih h with ⟨cs', t', h1, h2⟩ | h1
          · exact .inl ⟨cs', t', List.mem_cons_of_mem _ h1, h2⟩
          · exact .inr (List.mem_cons_of_mem _ h1)
  rcases this hq with ⟨cs, t, h1, h2⟩ | h1
  · have := hh.holds _ h1
    rw [h2]
    exact ⟨this.1, fun v hv => by cases hv; rfl⟩
  · exact hh.holds _ h1

theorem pickH_sub (sel : List Nat) : ∀ H : HS, (pickH sel H).Sublist H
  | [] => List.Sublist.slnil
  | (k, .box cs t) :: H => by
    simp only [pickH]
    cases (memN k sel && (SV.concs cs && t.isSome))
    · exact (pickH_sub sel H).cons _
    · exact (pickH_sub sel H).cons_cons _
  | (k, .row _ _) :: H => (pickH_sub sel H).cons _
  | (k, .tab _ _) :: H => (pickH_sub sel H).cons _
  | (k, .mp _) :: H => (pickH_sub sel H).cons _
theorem pickH_tieds (sel : List Nat) : ∀ H : HS, tieds ν (pickH sel (tieH ν H))
  | [] => trivial
  | (k, .box cs t) :: H => by
    simp only [pickH, tieH]
    cases hb : (memN k sel && (SV.concs cs && (some (ν k)).isSome))
    · exact pickH_tieds sel H
    · simp only [Bool.and_eq_true] at hb
      exact ⟨⟨hb.2.1, rfl⟩, pickH_tieds sel H⟩
  | (k, .row _ _) :: H => pickH_tieds sel H
  | (k, .tab _ _) :: H => pickH_tieds sel H
  | (k, .mp _) :: H => pickH_tieds sel H

/-- a region that draws its order, walked after a plan: quiet operations taken first, at what of memory stays (the boxes 'sel', tied; all that is known) -/
theorem DrawK.held {id : Nat} {ops : Array Oper} {K : KP} (sel : List Nat) (sch : Sch) (hm : E.P.follows .mixedOrders = true) (hB : (Region.noSelect ops && schB .any ops sch ops.size (Array.replicate ops.size false)) = true)
    (h : ∀ xs : Nat → Value, stayH (pickH sel (tieH xs H)) (tieH xs H) ∧ wpH E ops.toList (pickH sel (tieH xs H)) M K sch σ (tieH xs H) M) : DrawK E id ops K σ H M := by
  rintro a w ⟨ν, hs, hh⟩
  simp only [Bool.and_eq_true] at hB
  have h1 := tieH_heap (hh.grow ((Below.refl _ _).drew) : Heap E ν H M { w with drawn := w.drawn + 1 })
  exact wp_region_held hm (wpH_sound hB.1 (h1.sublist (pickH_sub sel _)) (pickH_tieds sel H) sch _ _ σ _ M a _ hB.2 ⟨ν, hs, h1⟩ ⟨(h ν).1, Mem.le.refl M⟩ (h ν).2)
/-- .. no box is looked at -/
theorem DrawK.plan {id : Nat} {ops : Array Oper} {K : KP} (sch : Sch) (hm : E.P.follows .mixedOrders = true) (hB : (Region.noSelect ops && schB .any ops sch ops.size (Array.replicate ops.size false)) = true)
    (h : wpH E ops.toList [] M K sch σ H M) : DrawK E id ops K σ H M := by
  rintro a w ⟨ν, hs, hh⟩
  simp only [Bool.and_eq_true] at hB
  have h1 := (hh.grow ((Below.refl _ _).drew) : Heap E ν H M { w with drawn := w.drawn + 1 })
  exact wp_region_held hm (wpH_sound hB.1 (h1.sublist (List.nil_sublist H)) trivial sch _ _ σ _ M a _ hB.2 ⟨ν, hs, h1⟩ ⟨trivial, Mem.le.refl M⟩ h)
end
theorem nzs : (((1 : Nat) ≠ 0) = True) ∧ (((2 : Nat) ≠ 0) = True) ∧ (((3 : Nat) ≠ 0) = True) ∧ (((4 : Nat) ≠ 0) = True) ∧ (∀ k, (Shp.int k ≠ Shp.bad) = True) ∧ ((Shp.str ≠ Shp.bad) = True) ∧ ((Shp.bool ≠ Shp.bad) = True) ∧ ((∀ _ : Nat, True) = True) := by simp
theorem Mem.le_self (M : Mem) : Mem.le M M = True := eq_true (Mem.le.refl M)
theorem se1 : type_of% (And.intro (And.intro (And.intro @wpH.eq_1 @wpH.eq_2) (And.intro @wpH.eq_3 @wpH.eq_4)) (And.intro (And.intro (And.intro @opt1.eq_1 @efC.eq_1) @efK.eq_1) (And.intro @qtK.eq_1 @Mem.le_self))) := And.intro (And.intro (And.intro @wpH.eq_1 @wpH.eq_2) (And.intro @wpH.eq_3 @wpH.eq_4)) (And.intro (And.intro (And.intro @opt1.eq_1 @efC.eq_1) @efK.eq_1) (And.intro @qtK.eq_1 @Mem.le_self))
theorem isS {α : Type} (x : α) : (some x).isSome = true := rfl
theorem se2 : type_of% (And.intro (And.intro (And.intro @stayH.eq_1 @stayH.eq_2) (And.intro @pickH.eq_1 @pickH.eq_2)) (And.intro (And.intro @pickH.eq_3 @tieH.eq_1) (And.intro @tieH.eq_2 (And.intro @tieH.eq_3 @isS)))) := And.intro (And.intro (And.intro @stayH.eq_1 @stayH.eq_2) (And.intro @pickH.eq_1 @pickH.eq_2)) (And.intro (And.intro @pickH.eq_3 @tieH.eq_1) (And.intro @tieH.eq_2 (And.intro @tieH.eq_3 @isS)))
end Go.X
