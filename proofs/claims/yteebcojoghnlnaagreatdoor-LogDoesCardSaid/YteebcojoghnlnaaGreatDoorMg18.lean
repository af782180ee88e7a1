/- Contracts of functions and the logic that they are proved in (4 texts in one). Conditions: none. -/
import Derived.Test.YteebcojoghnlnaaGreatDoorMg6
import Derived.Shelf.Small.Strs
import Derived.Test.YteebcojoghnlnaaGreatDoorMg16
import Derived.Test.YteebcojoghnlnaaGreatDoorVpG
import Derived.Test.YteebcojoghnlnaaGreatDoorMg10
import Derived.Shelf.SlSortFuncK.WholeK
import Derived.Shelf.GgSortFunc.Tiny
import Derived.Deep.QuietTactic
import Derived.Test.YteebcojoghnlnaaGreatDoorBag
namespace Go.X.Bg
end Go.X.Bg
namespace Go.X.Nm
end Go.X.Nm
namespace Go.X.Bp
end Go.X.Bp
namespace Go.X.Sb
end Go.X.Sb
set_option linter.unusedSimpArgs false
set_option linter.unusedVariables false
set_option maxHeartbeats 4000000
set_option maxRecDepth 20000
namespace Go.X
open Go Go.RowKit
section
variable {P : Program} {ops : Array Oper} {Q : Exit → Act → World → Prop} {md : Region.Mode} {S : World → Prop}
/-- S is asked behind the first n alone -/
def wpAnyT (P : Program) (md : Region.Mode) (ops : Array Oper) (Q : Exit → Act → World → Prop) (S : World → Prop) (n : Nat) : Nat → Array Bool → Act → World → Prop
  | 0, listed, a, w => Region.ready md ops listed = [] ∧ Q .normal a w
  | f + 1, listed, a, w =>
    (Region.ready md ops listed = [] → Q .normal a w) ∧
    ∀ i ∈ Region.ready md ops listed, wpOp P ops Q i (fun a' w' => (i < n → S w') ∧ wpAnyT P md ops Q S n f (listed.setIfInBounds i true) a' w') a w
theorem wpAny_of_T {n : Nat} : ∀ (f : Nat) (listed : Array Bool) (a : Act) (w : World), wpAnyT P md ops Q S n f listed a w → wpAny P md ops Q f listed a w
  | 0, _, _, _, h => h
  | f + 1, _, _, _, h => ⟨h.1, fun i hi => wpOp_mono (fun a' w' h' => wpAny_of_T f _ a' w' h'.2) (h.2 i hi)⟩
theorem wpAnyT_first {n i : Nat} {oi : Oper} {v : Value} (hs : Region.sinkB md ops n = true) (hc : Region.chainB md ops n = true) (hn : n < ops.size) (hin : i < n) (hi : ops[i]? = some oi) (hsel : ∀ (j : Nat) (o : Oper) cs b, ops[j]? = some o → o.op ≠ .select cs b)
    (hQ : ∀ c a w, Q (.panic c) (a.put oi.dst v) w → Q (.panic c) a w) :
    ∀ (f : Nat) (listed : Array Bool) (a : Act) (w : World), HeadInv md ops n listed →
      (∀ j oj, ops[j]? = some oj → j ≠ i → listed.getD j true = false → (∀ e ∈ oj.after, Region.binds md e = true → e.on ≠ i) → oi.apart ops oj = true) →
      i ∈ Region.ready md ops listed → YieldsIf P ops S oi v a → S w →
      wpAnyT P md ops Q S n f (listed.setIfInBounds i true) (a.put oi.dst v) w → wpAnyT P md ops Q S n (f + 1) listed a w := by
  intro f
  induction f with
  | zero =>
    intro listed a w inv _ hr hy hS H
    refine ⟨fun h => (by rw [h] at hr; cases hr), fun j hj => ?_⟩
    by_cases hji : j = i
    · subst hji; exact hy.wpOp hi hS ⟨fun _ => hS, H⟩
    · have := ready_mono hj hji
      rw [H.1] at this
      cases this
  | succ f ih =>
    intro listed a w inv hfree hr hy hS H
    have hun0 := (mem_ready.1 hr).1
    refine ⟨fun h => (by rw [h] at hr; cases hr), fun j hj => ?_⟩
    have hjn : j < n := by
      rcases Nat.lt_or_ge j n with h | h
      · exact h
      · exact absurd hj (tail_waits hs hc hn inv _ i rfl hin hun0 j h)
    by_cases hji : j = i
    · subst hji; exact hy.wpOp hi hS ⟨fun _ => hS, H⟩
    · have h1 := H.2 j (ready_mono hj hji)
      obtain ⟨hjun, oj, hoj, hall⟩ := mem_ready.1 hj
      have hnot : ∀ e ∈ oj.after, Region.binds md e = true → e.on ≠ i := fun e he hb heq => by
        have h1 := hall e he hb
        rw [heq, getD_both hun0] at h1
        cases h1
      have h2 := wpOp_putIf hoj (hfree j oj hoj hji hjun hnot) (fun cs b => hsel i oi cs b hi) (fun cs b => hsel j oj cs b hoj) hQ hy h1
      have hfree' : ∀ k ok, ops[k]? = some ok → k ≠ i → (listed.setIfInBounds j true).getD k true = false →
          (∀ e ∈ ok.after, Region.binds md e = true → e.on ≠ i) → oi.apart ops ok = true := fun k ok hk hki hun hno => by
        refine hfree k ok hk hki ?_ hno
        by_cases hjk : j = k
        · subst hjk; exact hjun
        · rw [getD_set_ne true hjk] at hun; exact hun
      refine wpOp_mono (fun a' w' h3 => ⟨h3.2.1, ih (listed.setIfInBounds j true) a' w' (inv.set hj hjn) hfree' (ready_mono hr (Ne.symm hji)) h3.1 (h3.2.1 hjn) ?_⟩) h2
      rw [Array.setIfInBounds_comm _ _ hji]
      exact h3.2.2
theorem wpAnyT_take {n i : Nat} {oi : Oper} {v : Value} {f : Nat} {listed : Array Bool} {a : Act} {w : World} (hsk : Region.sinkB md ops n = true) (hch : Region.chainB md ops n = true) (hn : n < ops.size) (hin : i < n) (inv : HeadInv md ops n listed) (hi : ops[i]? = some oi)
    (hs : Region.noSelect ops = true) (hf : Region.free md ops listed i = true) (hr : (Region.ready md ops listed).contains i = true)
    (hQ : ∀ c a w, Q (.panic c) (a.put oi.dst v) w → Q (.panic c) a w) (hy : YieldsIf P ops S oi v a) (hS : S w)
    (h : wpAnyT P md ops Q S n f (listed.setIfInBounds i true) (a.put oi.dst v) w) : wpAnyT P md ops Q S n (f + 1) listed a w :=
  wpAnyT_first hsk hch hn hin hi (Region.noSelect_spec hs) hQ f listed a w inv (Region.free_spec hi hf) (by simpa using hr) hy hS h
theorem wpAnyT_all {n : Nat} {rs : List Nat} {f : Nat} {listed : Array Bool} {a : Act} {w : World} (hr : Region.ready md ops listed = rs) (hne : rs ≠ [])
    (h : ∀ i ∈ rs, wpOp P ops Q i (fun a' w' => (i < n → S w') ∧ wpAnyT P md ops Q S n f (listed.setIfInBounds i true) a' w') a w) : wpAnyT P md ops Q S n (f + 1) listed a w :=
  ⟨fun h0 => absurd (hr ▸ h0) hne, hr ▸ h⟩
theorem wpAnyT_of_seq {n : Nat} {Q' : Exit → Act → World → Prop} : ∀ (l : List Oper) (k : Nat) (listed : Array Bool) (a : Act) (w : World), (∀ j, l[j]? = ops[k + j]?) →
    Region.seqB md ops l.length k listed = true → n ≤ k → wpList P ops Q' l a w → wpAnyT P md ops Q' S n l.length listed a w
  | [], _, _, _, _, _, hB, _, h => ⟨by simpa [Region.seqB] using hB, h⟩
  | o :: l, k, listed, a, w, hl, hB, hnk, h => by
    have h0 : ops[k]? = some o := by simpa using (hl 0).symm
    simp only [List.length_cons, Region.seqB, Bool.and_eq_true, decide_eq_true_eq] at hB
    refine ⟨fun h1 => (by rw [hB.1] at h1; cases h1), fun i hi => ?_⟩
    rw [hB.1] at hi
    have hik : i = k := by simpa using hi
    subst hik
    have hw : wpOp P ops Q' i (wpList P ops Q' l) a w := by unfold wpOp; simp only [h0]; exact h
    exact wpOp_mono (fun a' w' h' => ⟨fun hlt => absurd hlt (by omega), wpAnyT_of_seq l (i + 1) _ a' w' (fun j => by have := hl (j + 1); simpa [Nat.add_assoc, Nat.add_comm 1 j] using this) hB.2 (by omega) h'⟩) hw
end
def schTB (md : Region.Mode) (ops : Array Oper) (n : Nat) : Sch → Nat → Array Bool → Bool
  | .done, f, listed => decide (f = ops.size - n) && Region.seqB md ops (ops.size - n) n listed
  | .take i s, f + 1, listed => decide (i < n) && ((Region.free md ops listed i && (Region.ready md ops listed).contains i) && schTB md ops n s f (listed.setIfInBounds i true))
  | .one i s, f + 1, listed => decide (i < n) && (Region.ready md ops listed == [i] && schTB md ops n s f (listed.setIfInBounds i true))
  | .two i s j m, f + 1, listed => (decide (i < n) && decide (j < n)) && (Region.ready md ops listed == [i, j] && (schTB md ops n s f (listed.setIfInBounds i true) && schTB md ops n m f (listed.setIfInBounds j true)))
  | _, 0, _ => false
section
variable {E : Env} {σ : Sig} {H Hs : HS} {M Ms : Mem} {ν ν' : Nat → Value} {a : Act} {w : World}
theorem wpHT_sound {ops : Array Oper} {K : KP} {w0 : World} {n : Nat} (hsel : Region.noSelect ops = true) (hsk : Region.sinkB .any ops n = true) (hch : Region.chainB .any ops n = true) (hn : n < ops.size) (h0 : Heap E ν Hs Ms w0) (ht : tieds ν Hs) :
    ∀ (sch : Sch) (f : Nat) (listed : Array Bool) (σ : Sig) (H : HS) (M : Mem) (a : Act) (w : World), schTB .any ops n sch f listed = true → HeadInv .any ops n listed → Rep E σ H M a w → (stayH Hs H ∧ Ms.le M) → wpH E ops.toList Hs Ms (wpR E ops.toList K (ops.toList.drop n)) sch σ H M →
      wpAnyT E.P .any ops (fun e a w => e = Exit.normal ∧ ∃ σ H M, Rep E σ H M a w ∧ K σ H M) (fun w => Heap E ν Hs Ms w) n f listed a w
  | .done, f, listed, σ, H, M, a, w, hB, inv, hr, _, h => by
    simp only [schTB, Bool.and_eq_true, decide_eq_true_eq] at hB
    simp only [wpH] at h
    have h2 := wpR_sound (E := E) (ops := ops.toList) (K := K) (Q := fun e a w => e = Exit.normal ∧ ∃ σ H M, Rep E σ H M a w ∧ K σ H M) (fun σ H M a w hr hk => ⟨rfl, σ, H, M, hr, hk⟩) (ops.toList.drop n) σ H M a w hr h
    have h3 : (ops.toList.drop n).length = ops.size - n := by simp
    have := wpAnyT_of_seq (P := E.P) (md := .any) (ops := ops) (S := fun w => Heap E ν Hs Ms w) (n := n) (Q' := fun e a w => e = Exit.normal ∧ ∃ σ H M, Rep E σ H M a w ∧ K σ H M) (ops.toList.drop n) n listed a w (fun j => by rw [List.getElem?_drop, Array.getElem?_toList]) (by rw [h3]; exact hB.2) (Nat.le_refl _) (by simpa using h2)
    rw [h3] at this
    rw [hB.1]
    exact this
  | .take i m, f + 1, listed, σ, H, M, a, w, hB, inv, ⟨ν', hs, hh⟩, ⟨hsub, hle⟩, h => by
    simp only [schTB, Bool.and_eq_true, decide_eq_true_eq] at hB
    obtain ⟨hin, ⟨hf, hrd⟩, hB⟩ := hB
    simp only [wpH] at h
    cases ho : ops[i]? with
    | none => rw [show ops.toList[i]? = none by rw [Array.getElem?_toList]; exact ho] at h; exact h.elim
    | some o =>
      rw [show ops.toList[i]? = some o by rw [Array.getElem?_toList]; exact ho] at h
      simp only [opt1] at h
      cases hg : gdOf ops.toList σ o.guard with
      | none => rw [hg] at h; exact h.elim
      | some g =>
        cases hd : o.dst with
        | none => rw [hg, hd] at h; exact h.elim
        | some d =>
          rw [hg, hd] at h
          obtain ⟨⟨hN, h1⟩, hK⟩ := h
          have hgd := gd_spec hs hg o rfl
          obtain ⟨hS, hke⟩ := Heap.stay h0 ht hh hsub hle
          refine wpAnyT_take hsk hch hn hin inv (v := bif g then (pev E.P Hs Ms σ o.op).2.1.val ν' else undef) ho hsel hf hrd (fun c a w h => by obtain ⟨h, _⟩ := h; cases h) ?_ hS ?_
          · cases g with
            | true =>
              obtain ⟨hg1, hc⟩ := h1 rfl
              refine .inl ⟨by simpa using hgd, fun w1 hw1 => ?_⟩
              exact pev_sound hs (Heap.again hw1 ht hke hh.one) o hg1 hc
            | false => exact .inr ⟨by simpa using hgd, rfl⟩
          · refine wpHT_sound hsel hsk hch hn h0 ht m f _ _ H M _ w hB (inv.set (by simpa using hrd) hin) ⟨ν', ?_, hh⟩ ⟨hsub, hle⟩ hK
            rw [hd]
            exact hs.put hN rfl
  | .one i m, f + 1, listed, σ, H, M, a, w, hB, inv, hr, hsm, h => by
    simp only [schTB, Bool.and_eq_true, decide_eq_true_eq, beq_iff_eq] at hB
    refine wpAnyT_all hB.2.1 (by simp) fun j hj => ?_
    obtain rfl : j = i := by simpa using hj
    exact wpHT_op hsel hsk hch hn h0 ht m f listed σ H M a w hB.2.2 (inv.set (by rw [hB.2.1]; simp) hB.1) hr hsm h
  | .two i m i' m2, f + 1, listed, σ, H, M, a, w, hB, inv, hr, hsm, h => by
    simp only [schTB, Bool.and_eq_true, decide_eq_true_eq, beq_iff_eq] at hB
    refine wpAnyT_all hB.2.1 (by simp) fun j hj => ?_
    rcases (by simpa using hj : j = i ∨ j = i') with rfl | rfl
    · exact wpHT_op hsel hsk hch hn h0 ht m f listed σ H M a w hB.2.2.1 (inv.set (by rw [hB.2.1]; simp) hB.1.1) hr hsm h.1
    · exact wpHT_op hsel hsk hch hn h0 ht m2 f listed σ H M a w hB.2.2.2 (inv.set (by rw [hB.2.1]; simp) hB.1.2) hr hsm h.2
  | .take _ _, 0, _, _, _, _, _, _, hB, _, _, _, _ => by simp [schTB] at hB
  | .one _ _, 0, _, _, _, _, _, _, hB, _, _, _, _ => by simp [schTB] at hB
  | .two _ _ _ _, 0, _, _, _, _, _, _, hB, _, _, _, _ => by simp [schTB] at hB
where
  wpHT_op {ops : Array Oper} {K : KP} {w0 : World} {n : Nat} (hsel : Region.noSelect ops = true) (hsk : Region.sinkB .any ops n = true) (hch : Region.chainB .any ops n = true) (hn : n < ops.size) (h0 : Heap E ν Hs Ms w0) (ht : tieds ν Hs) {i : Nat} (m : Sch) (f : Nat) (listed : Array Bool) (σ : Sig) (H : HS) (M : Mem) (a : Act) (w : World)
      (hB : schTB .any ops n m f (listed.setIfInBounds i true) = true) (inv : HeadInv .any ops n (listed.setIfInBounds i true)) (hr : Rep E σ H M a w) (_ : stayH Hs H ∧ Ms.le M)
      (h : opt1 (fun o => efK E o Hs Ms (wpH E ops.toList Hs Ms (wpR E ops.toList K (ops.toList.drop n)) m) σ H M (gdOf ops.toList σ o.guard)) ops.toList[i]?) :
      wpOp E.P ops (fun e a w => e = Exit.normal ∧ ∃ σ H M, Rep E σ H M a w ∧ K σ H M) i (fun a' w' => (i < n → Heap E ν Hs Ms w') ∧ wpAnyT E.P .any ops (fun e a w => e = Exit.normal ∧ ∃ σ H M, Rep E σ H M a w ∧ K σ H M) (fun w => Heap E ν Hs Ms w) n f (listed.setIfInBounds i true) a' w') a w := by
    cases ho : ops[i]? with
    | none => rw [show ops.toList[i]? = none by rw [Array.getElem?_toList]; exact ho] at h; exact h.elim
    | some o =>
      rw [show ops.toList[i]? = some o by rw [Array.getElem?_toList]; exact ho] at h
      simp only [opt1] at h
      obtain ⟨ν', hs, hh⟩ := hr
      cases hg : gdOf ops.toList σ o.guard with
      | none => rw [hg] at h; exact h.elim
      | some g =>
        rw [hg] at h
        simp only [efK] at h
        have hgd := gd_spec hs hg o rfl
        have key := stepK_sound (Nx := fun a' w' => (i < n → Heap E ν Hs Ms w') ∧ wpAnyT E.P .any ops (fun e a w => e = Exit.normal ∧ ∃ σ H M, Rep E σ H M a w ∧ K σ H M) (fun w => Heap E ν Hs Ms w) n f (listed.setIfInBounds i true) a' w')
          (Qx := fun e a w => e = Exit.normal ∧ ∃ σ H M, Rep E σ H M a w ∧ K σ H M)
          (fun σ1 H1 M1 a1 w1 hr1 hk1 => by
            obtain ⟨ν1, hs1, hh1⟩ := hr1
            exact ⟨fun _ => (Heap.stay h0 ht hh1 hk1.1.1 hk1.1.2).1, wpHT_sound hsel hsk hch hn h0 ht m f _ σ1 H1 M1 a1 w1 hB inv ⟨ν1, hs1, hh1⟩ hk1.1 hk1.2⟩) hs hh h
        unfold wpOp
        simp only [ho]
        have hgd' : Region.wanted o (yielded ops a.tmps) = g := by simpa using hgd
        rw [hgd']
        cases g with
        | true => simp only [if_true] at key ⊢; exact .inl key
        | false => simp only [Bool.false_eq_true, if_false] at key ⊢; exact key


/-- a region that draws its order: the first n after a plan (quiet ones taken first, at what of memory stays), the others in their order -/
theorem DrawK.heldT {id : Nat} {ops : Array Oper} {K : KP} (n : Nat) (sel : List Nat) (sch : Sch) (hm : E.P.follows .mixedOrders = true)
    (hB : (Region.noSelect ops && (decide (n < ops.size) && (Region.sinkB .any ops n && (Region.chainB .any ops n && schTB .any ops n sch ops.size (Array.replicate ops.size false))))) = true)
    (h : ∀ xs : Nat → Value, stayH (pickH sel (tieH xs H)) (tieH xs H) ∧ wpH E ops.toList (pickH sel (tieH xs H)) M (wpR E ops.toList K (ops.toList.drop n)) sch σ (tieH xs H) M) : DrawK E id ops K σ H M := by
  rintro a w ⟨ν, hs, hh⟩
  simp only [Bool.and_eq_true, decide_eq_true_eq] at hB
  obtain ⟨hsel, hn, hsk, hch, hsc⟩ := hB
  have h1 := tieH_heap (hh.grow ((Below.refl _ _).drew) : Heap E ν H M { w with drawn := w.drawn + 1 })
  have inv0 : HeadInv .any ops n (Array.replicate ops.size false) :=
    ⟨by simp, fun j oj _ hl => (by rw [getD_replicate_false] at hl; cases hl), fun t _ ht => getD_in (by simpa using ht) (getD_replicate_false _ _)⟩
  exact wp_region_any hm (wpAny_of_T _ _ _ _ (wpHT_sound hsel hsk hch hn (h1.sublist (pickH_sub sel _)) (pickH_tieds sel H) sch _ _ σ _ M a _ hsc inv0 ⟨ν, hs, h1⟩ ⟨(h ν).1, Mem.le.refl M⟩ (h ν).2))
end
end Go.X

namespace Go.Proofs
open Go.Shelf Go.RowKit Go.Lib
def Tryz.lays106_ren : Go.Shelf.Ren := ⟨fun | 106 => 119 | 213 => 164 | 265 => 203 | n => n, fun | 9 => 9 | 3 => 3 | n => n, fun | n => n⟩
theorem Tryz.lays106 : Go.Proofs.Lays.n106 Tryz.prog Tryz.lays106_ren := {
  mixed := by kernel_rfl,
  f106 := Tryz.func119.trans (congrArg some (by kernel_rfl)),
  f213 := Tryz.func164.trans (congrArg some (by kernel_rfl)),
  f265 := Tryz.func203.trans (congrArg some (by kernel_rfl)),
  t3 := Tryz.underlying3,
  a3 := Tryz.isAgg3,
  z3 := Tryz.sizeOf3,
  v3 := Tryz.zeroValue3,
  t9 := Tryz.underlying9,
  a9 := Tryz.isAgg9,
  z9 := Tryz.sizeOf9,
  v9 := Tryz.zeroValue9 }

end Go.Proofs
namespace Go.X.Vo
open Go Go.X Go.RowKit Go.X.Bg Go.X.Nm Go.X.Bp Go.X.Sb

theorem scompare (a b : List UInt8) (M : Mem) : Meets Proofs.Tryz.prog 119 [.v (.string ⟨a.toArray⟩), .v (.string ⟨b.toArray⟩)] M fun r _ _ => r = .v (.int .i64 (cmpN a b)) := by
  refine St.Meets.ofCalls ⟨_, Proofs.Tryz.func119, by kernel_rfl, by kernel_rfl⟩ fun w => ?_
  refine (Proofs.Any.strings_Compare Proofs.Tryz.lays106 ⟨a.toArray⟩ ⟨b.toArray⟩ w).mono ?_
  rintro e w' ⟨rfl, rfl⟩
  exact ⟨rfl, Below.refl _ _⟩
def wvV (w : WV) : SV := .agg [.v (.string ⟨w.2.1.toArray⟩), .v w.1]
theorem addC (x y : WV) (M : Mem) : Meets Proofs.Tryz.prog 118 [wvV x, wvV y] M fun r _ _ => r = .v (.int .i64 (cmpN x.2.1 y.2.1)) := by
  refine Meets.of_body [0,1,2,3,4] Proofs.Tryz.func118 rfl (by kernel_rfl) rfl fun w => ?_
  simp only [Proofs.Tryz.f118, wvV, shs, zts, sos, sls, zss, eqs, sx, sb1, sb2, sb3, sb4, sb5, sb6, sb7, ↓reduceIte, Nat.reduceAdd, Nat.reduceMul, Nat.reduceDiv, Nat.reduceEqDiff, Nat.reduceLT, Nat.reduceLeDiff, reduceCtorEq, Int.reduceEq, Int.reduceNe, Int.reduceLT, Int.reduceLE, Int.reduceAdd, Int.reduceSub, Int.reduceMul, Int.reduceNeg, Int.reduceToNat, Int.cast_ofNat_Int, Int.natCast_zero, Int.natCast_one, Int.toNat_natCast, Nat.reduceBEq, nzs]
  refine CallK.pure ⟨rfl, rfl⟩ rfl (scompare x.2.1 y.2.1 M) ?_
  simp only [shs, zts, sos, sls, zss, eqs, sx, sb1, sb2, sb3, sb4, sb5, sb6, sb7, ↓reduceIte, Nat.reduceAdd, Nat.reduceMul, Nat.reduceDiv, Nat.reduceEqDiff, Nat.reduceLT, Nat.reduceLeDiff, reduceCtorEq, Int.reduceEq, Int.reduceNe, Int.reduceLT, Int.reduceLE, Int.reduceAdd, Int.reduceSub, Int.reduceMul, Int.reduceNeg, Int.reduceToNat, Int.cast_ofNat_Int, Int.natCast_zero, Int.natCast_one, Int.toNat_natCast, Nat.reduceBEq, nzs]
theorem encV_one {w : WV} (h : w.1.oneCell' = true) : ∀ c ∈ encV w, c.oneCell' = true := fun c hc => by
  simp only [encV, List.mem_cons, List.not_mem_nil, or_false] at hc
  rcases hc with rfl | rfl
  · rfl
  · exact h
theorem vols_mono {ws : List WV} (h : (ws.map (·.2)).Pairwise (fun a b => Op.bytesLess a.1 b.1 = true)) (x : WV) (i j : Nat) (a b : WV) (hij : i ≤ j) (ha : ws[i]? = some a) (hb : ws[j]? = some b) (hc : cmpN b.2.1 x.2.1 < 0) : cmpN a.2.1 x.2.1 < 0 := by
  rw [cmpN_lt] at hc ⊢
  rcases Nat.lt_or_ge i j with hlt | hge
  · have hil := (List.getElem?_eq_some_iff.1 ha).1
    have hjl := (List.getElem?_eq_some_iff.1 hb).1
    have := List.pairwise_iff_getElem.1 h i j (by rw [List.length_map]; omega) (by rw [List.length_map]; omega) hlt
    rw [List.getElem_map, List.getElem_map, (List.getElem?_eq_some_iff.1 ha).2, (List.getElem?_eq_some_iff.1 hb).2] at this
    exact less_trans this hc
  · have : i = j := by omega
    subst this
    rw [ha] at hb
    cases hb
    exact hc
/-- vol.add is lent the row of volumes -/
theorem add (b : Value) (ws : List WV) (x : WV) (M : Mem) (hbo : b.oneCell' = true) (h1 : ∀ w ∈ ws, w.1.oneCell' = true) (hx : x.1.oneCell' = true) (hs : (ws.map (·.2)).Pairwise (fun a b => Op.bytesLess a.1 b.1 = true)) (hl : ws.length ≤ 1000) :
    MeetsH Proofs.Tryz.prog 63 [.agg [.v b, .own 8000], wvV x] [(8000, .row 2 (ws.map encV))] M (OwnR (fun s => .agg [.v b, s]) 2 ((insW ws x).map encV)) := by
  refine MeetsH.of_body [0,1,2,3,4,5] Proofs.Tryz.func63 rfl (by kernel_rfl) fun w M0 => ?_
  simp only [Proofs.Tryz.f63, wvV, shs, zts, sos, sls, zss, eqs, sx, sb1, sb2, sb3, sb4, sb5, sb6, sb7, ↓reduceIte, Nat.reduceAdd, Nat.reduceMul, Nat.reduceDiv, Nat.reduceEqDiff, Nat.reduceLT, Nat.reduceLeDiff, reduceCtorEq, Int.reduceEq, Int.reduceNe, Int.reduceLT, Int.reduceLE, Int.reduceAdd, Int.reduceSub, Int.reduceMul, Int.reduceNeg, Int.reduceToNat, Int.cast_ofNat_Int, Int.natCast_zero, Int.natCast_one, Int.toNat_natCast, Nat.reduceBEq, nzs]
  refine CallK.lend (k := 8000) rfl rfl rfl (fun _ => rfl) (fun v M3 hM3 hv => bsV (α := WV) (fun x => .string ⟨x.2.1.toArray⟩) (fun x => x.1) (fun y => cmpN y.2.1 x.2.1) 118 _ _ v ws M3 hv (by omega) ⟨rfl, hx⟩ (fun z hz => addC z x M3) (fun i j a b hij ha hb hc => vols_mono hs x i j a b hij ha hb hc)) ?_
  have hbl := bk_le (fun y : WV => cmpN y.2.1 x.2.1) ws
  have hii : insW ws x = ws.take (bk (fun y : WV => cmpN y.2.1 x.2.1) ws) ++ x :: ws.drop (bk (fun y : WV => cmpN y.2.1 x.2.1) ws) := rfl
  rw [hii]
  generalize bk (fun y : WV => cmpN y.2.1 x.2.1) ws = bi at *
  generalize bf (fun y : WV => cmpN y.2.1 x.2.1) ws = bF
  simp only [shs, zts, sos, sls, zss, eqs, sx, sb1, sb2, sb3, sb4, sb5, sb6, sb7, ↓reduceIte, Nat.reduceAdd, Nat.reduceMul, Nat.reduceDiv, Nat.reduceEqDiff, Nat.reduceLT, Nat.reduceLeDiff, reduceCtorEq, Int.reduceEq, Int.reduceNe, Int.reduceLT, Int.reduceLE, Int.reduceAdd, Int.reduceSub, Int.reduceMul, Int.reduceNeg, Int.reduceToNat, Int.cast_ofNat_Int, Int.natCast_zero, Int.natCast_one, Int.toNat_natCast, Nat.reduceBEq, nzs, hx]
  refine CallK.lendR2 (A := fun s t => [s, .v (.int .i64 bi), t]) 8000 144 (fun s t s' t' ν ν' e1 e2 => by simp only [SV.vals, SV.val, e1, e2]) Ctx.id rfl rfl rfl rfl rfl (fun M6 h6 => insertV (ws.map encV) (encV x) bi M6 (by rw [List.length_map]; exact hbl) (by rw [List.length_map]; omega) (fun e he => by
    obtain ⟨y, hy, rfl⟩ := List.mem_map.1 he
    exact ⟨rfl, encV_one (h1 y hy)⟩) ⟨rfl, encV_one hx⟩) rfl ?_
  simp only [shs, zts, sos, sls, zss, eqs, sx, sb1, sb2, sb3, sb4, sb5, sb6, sb7, ↓reduceIte, Nat.reduceAdd, Nat.reduceMul, Nat.reduceDiv, Nat.reduceEqDiff, Nat.reduceLT, Nat.reduceLeDiff, reduceCtorEq, Int.reduceEq, Int.reduceNe, Int.reduceLT, Int.reduceLE, Int.reduceAdd, Int.reduceSub, Int.reduceMul, Int.reduceNeg, Int.reduceToNat, Int.cast_ofNat_Int, Int.natCast_zero, Int.natCast_one, Int.toNat_natCast, Nat.reduceBEq, nzs]
  refine ⟨hbo, 152, rfl, ?_⟩
  simp [hget, List.map_take, List.map_drop, encV]
theorem vfresh (b v : Value) (ws : List WV) (n : List UInt8) (M : Mem) (hv : VolsM M v ws) (hl : ws.length ≤ 6) :
    Meets Proofs.Tryz.prog 62 [stV b v, .v (.string ⟨n.toArray⟩)] M fun r _ _ => r = .v (.int .i64 (freshE (ws.map (·.2)) n)) := by
  refine Meets.of_body [0,1,2,4,5,9,14] Proofs.Tryz.func62 rfl (by kernel_rfl) rfl fun w => ?_
  generalize hc : freshE (ws.map (·.2)) n = c
  unfold freshE at hc
  rw [List.length_map] at hc
  have hF := find b v ws n M hv
  simp only [stV] at hF
  simp only [Proofs.Tryz.f62, stV, shs, zts, sos, sls, zss, eqs, sx, sb1, sb2, sb3, sb4, sb5, sb6, sb7, ↓reduceIte, Nat.reduceAdd, Nat.reduceMul, Nat.reduceDiv, Nat.reduceEqDiff, Nat.reduceLT, Nat.reduceLeDiff, reduceCtorEq, Int.reduceEq, Int.reduceNe, Int.reduceLT, Int.reduceLE, Int.reduceAdd, Int.reduceSub, Int.reduceMul, Int.reduceNeg, Int.reduceToNat, Int.cast_ofNat_Int, Int.natCast_zero, Int.natCast_one, Int.toNat_natCast, Nat.reduceBEq, nzs]
  refine CallK.pure ⟨rfl, rfl⟩ rfl (nameW n M) ?_
  cases hN : nmB n with
  | false =>
    rw [if_pos hN] at hc
    subst hc
    simp only [shs, zts, sos, sls, zss, eqs, sx, sb1, sb2, sb3, sb4, sb5, sb6, sb7, ↓reduceIte, Nat.reduceAdd, Nat.reduceMul, Nat.reduceDiv, Nat.reduceEqDiff, Nat.reduceLT, Nat.reduceLeDiff, reduceCtorEq, Int.reduceEq, Int.reduceNe, Int.reduceLT, Int.reduceLE, Int.reduceAdd, Int.reduceSub, Int.reduceMul, Int.reduceNeg, Int.reduceToNat, Int.cast_ofNat_Int, Int.natCast_zero, Int.natCast_one, Int.toNat_natCast, Nat.reduceBEq, nzs]
  | true =>
  rw [if_neg (by rw [hN]; decide)] at hc
  simp only [shs, zts, sos, sls, zss, eqs, sx, sb1, sb2, sb3, sb4, sb5, sb6, sb7, ↓reduceIte, Nat.reduceAdd, Nat.reduceMul, Nat.reduceDiv, Nat.reduceEqDiff, Nat.reduceLT, Nat.reduceLeDiff, reduceCtorEq, Int.reduceEq, Int.reduceNe, Int.reduceLT, Int.reduceLE, Int.reduceAdd, Int.reduceSub, Int.reduceMul, Int.reduceNeg, Int.reduceToNat, Int.cast_ofNat_Int, Int.natCast_zero, Int.natCast_one, Int.toNat_natCast, Nat.reduceBEq, nzs]
  refine CallK.pure ⟨rfl, rfl⟩ rfl hF ?_
  by_cases h2 : 0 ≤ volIx (ws.map (·.2)) n
  · have c2 := eq_true h2
    rw [if_pos h2] at hc
    subst hc
    simp only [shs, zts, sos, sls, zss, eqs, sx, sb1, sb2, sb3, sb4, sb5, sb6, sb7, ↓reduceIte, Nat.reduceAdd, Nat.reduceMul, Nat.reduceDiv, Nat.reduceEqDiff, Nat.reduceLT, Nat.reduceLeDiff, reduceCtorEq, Int.reduceEq, Int.reduceNe, Int.reduceLT, Int.reduceLE, Int.reduceAdd, Int.reduceSub, Int.reduceMul, Int.reduceNeg, Int.reduceToNat, Int.cast_ofNat_Int, Int.natCast_zero, Int.natCast_one, Int.toNat_natCast, Nat.reduceBEq, nzs, c2]
  have c2 := eq_false h2
  rw [if_neg h2] at hc
  by_cases h3 : ws.length = 6
  · have c3 : ((ws.length : Int) = 6) = True := eq_true (by omega)
    rw [if_pos (by omega)] at hc
    subst hc
    simp only [shs, zts, sos, sls, zss, eqs, sx, sb1, sb2, sb3, sb4, sb5, sb6, sb7, ↓reduceIte, Nat.reduceAdd, Nat.reduceMul, Nat.reduceDiv, Nat.reduceEqDiff, Nat.reduceLT, Nat.reduceLeDiff, reduceCtorEq, Int.reduceEq, Int.reduceNe, Int.reduceLT, Int.reduceLE, Int.reduceAdd, Int.reduceSub, Int.reduceMul, Int.reduceNeg, Int.reduceToNat, Int.cast_ofNat_Int, Int.natCast_zero, Int.natCast_one, Int.toNat_natCast, Nat.reduceBEq, nzs, c2, hv.row.len, hv.row.sl, List.length_map, c3]
  · have c3 : ((ws.length : Int) = 6) = False := eq_false (by omega)
    rw [if_neg (by omega)] at hc
    subst hc
    simp only [shs, zts, sos, sls, zss, eqs, sx, sb1, sb2, sb3, sb4, sb5, sb6, sb7, ↓reduceIte, Nat.reduceAdd, Nat.reduceMul, Nat.reduceDiv, Nat.reduceEqDiff, Nat.reduceLT, Nat.reduceLeDiff, reduceCtorEq, Int.reduceEq, Int.reduceNe, Int.reduceLT, Int.reduceLE, Int.reduceAdd, Int.reduceSub, Int.reduceMul, Int.reduceNeg, Int.reduceToNat, Int.cast_ofNat_Int, Int.natCast_zero, Int.natCast_one, Int.toNat_natCast, Nat.reduceBEq, nzs, c2, hv.row.len, hv.row.sl, List.length_map, c3]
theorem rfresh (b v : Value) (ws : List WV) (n : List UInt8) (M : Mem) (hv : VolsM M v ws) :
    Meets Proofs.Tryz.prog 53 [stV b v, .v (.string ⟨n.toArray⟩)] M fun r _ _ => r = .v (.int .i64 (freshE (ws.map (·.2)) n)) := by
  refine Meets.of_body [0,1,2,4,7,11,15] Proofs.Tryz.func53 rfl (by kernel_rfl) rfl fun w => ?_
  generalize hc : freshE (ws.map (·.2)) n = c
  unfold freshE at hc
  rw [List.length_map] at hc
  have hF := rvol b v ws n M hv
  simp only [stV] at hF
  simp only [Proofs.Tryz.f53, stV, shs, zts, sos, sls, zss, eqs, sx, sb1, sb2, sb3, sb4, sb5, sb6, sb7, ↓reduceIte, Nat.reduceAdd, Nat.reduceMul, Nat.reduceDiv, Nat.reduceEqDiff, Nat.reduceLT, Nat.reduceLeDiff, reduceCtorEq, Int.reduceEq, Int.reduceNe, Int.reduceLT, Int.reduceLE, Int.reduceAdd, Int.reduceSub, Int.reduceMul, Int.reduceNeg, Int.reduceToNat, Int.cast_ofNat_Int, Int.natCast_zero, Int.natCast_one, Int.toNat_natCast, Nat.reduceBEq, nzs]
  refine CallK.pure ⟨rfl, rfl⟩ rfl (rnameW n M) ?_
  cases hN : nmB n with
  | false =>
    rw [if_pos hN] at hc
    subst hc
    simp only [shs, zts, sos, sls, zss, eqs, sx, sb1, sb2, sb3, sb4, sb5, sb6, sb7, ↓reduceIte, Nat.reduceAdd, Nat.reduceMul, Nat.reduceDiv, Nat.reduceEqDiff, Nat.reduceLT, Nat.reduceLeDiff, reduceCtorEq, Int.reduceEq, Int.reduceNe, Int.reduceLT, Int.reduceLE, Int.reduceAdd, Int.reduceSub, Int.reduceMul, Int.reduceNeg, Int.reduceToNat, Int.cast_ofNat_Int, Int.natCast_zero, Int.natCast_one, Int.toNat_natCast, Nat.reduceBEq, nzs]
  | true =>
  rw [if_neg (by rw [hN]; decide)] at hc
  simp only [shs, zts, sos, sls, zss, eqs, sx, sb1, sb2, sb3, sb4, sb5, sb6, sb7, ↓reduceIte, Nat.reduceAdd, Nat.reduceMul, Nat.reduceDiv, Nat.reduceEqDiff, Nat.reduceLT, Nat.reduceLeDiff, reduceCtorEq, Int.reduceEq, Int.reduceNe, Int.reduceLT, Int.reduceLE, Int.reduceAdd, Int.reduceSub, Int.reduceMul, Int.reduceNeg, Int.reduceToNat, Int.cast_ofNat_Int, Int.natCast_zero, Int.natCast_one, Int.toNat_natCast, Nat.reduceBEq, nzs]
  refine CallK.pure ⟨rfl, rfl⟩ rfl hF ?_
  by_cases h2 : 0 ≤ volIx (ws.map (·.2)) n
  · have c2 := eq_true h2
    rw [if_pos h2] at hc
    subst hc
    simp only [shs, zts, sos, sls, zss, eqs, sx, sb1, sb2, sb3, sb4, sb5, sb6, sb7, ↓reduceIte, Nat.reduceAdd, Nat.reduceMul, Nat.reduceDiv, Nat.reduceEqDiff, Nat.reduceLT, Nat.reduceLeDiff, reduceCtorEq, Int.reduceEq, Int.reduceNe, Int.reduceLT, Int.reduceLE, Int.reduceAdd, Int.reduceSub, Int.reduceMul, Int.reduceNeg, Int.reduceToNat, Int.cast_ofNat_Int, Int.natCast_zero, Int.natCast_one, Int.toNat_natCast, Nat.reduceBEq, nzs, c2]
  have c2 := eq_false h2
  rw [if_neg h2] at hc
  by_cases h3 : 5 < ws.length
  · have c3 : ((5 : Int) < (ws.length : Int)) = True := eq_true (by omega)
    rw [if_pos h3] at hc
    subst hc
    simp only [shs, zts, sos, sls, zss, eqs, sx, sb1, sb2, sb3, sb4, sb5, sb6, sb7, ↓reduceIte, Nat.reduceAdd, Nat.reduceMul, Nat.reduceDiv, Nat.reduceEqDiff, Nat.reduceLT, Nat.reduceLeDiff, reduceCtorEq, Int.reduceEq, Int.reduceNe, Int.reduceLT, Int.reduceLE, Int.reduceAdd, Int.reduceSub, Int.reduceMul, Int.reduceNeg, Int.reduceToNat, Int.cast_ofNat_Int, Int.natCast_zero, Int.natCast_one, Int.toNat_natCast, Nat.reduceBEq, nzs, c2, hv.row.len, hv.row.sl, List.length_map, c3]
  · have c3 : ((5 : Int) < (ws.length : Int)) = False := eq_false (by omega)
    rw [if_neg h3] at hc
    subst hc
    simp only [shs, zts, sos, sls, zss, eqs, sx, sb1, sb2, sb3, sb4, sb5, sb6, sb7, ↓reduceIte, Nat.reduceAdd, Nat.reduceMul, Nat.reduceDiv, Nat.reduceEqDiff, Nat.reduceLT, Nat.reduceLeDiff, reduceCtorEq, Int.reduceEq, Int.reduceNe, Int.reduceLT, Int.reduceLE, Int.reduceAdd, Int.reduceSub, Int.reduceMul, Int.reduceNeg, Int.reduceToNat, Int.cast_ofNat_Int, Int.natCast_zero, Int.natCast_one, Int.toNat_natCast, Nat.reduceBEq, nzs, c2, hv.row.len, hv.row.sl, List.length_map, c3]
/-- vol.Copied: nothing is shared -/
theorem copied (b v : Value) (bag : List It) (ws : List WV) (M : Mem) (hb : RowM M b 4 (bag.map Bg.encT)) (hv : VolsM M v ws) (hlb : bag.length ≤ 1000) (hlv : ws.length ≤ 1000) (hli : ∀ w ∈ ws, w.2.2.length ≤ 1000) :
    Meets Proofs.Tryz.prog 49 [stV b v] M (StK M (fun s => s) (bag, ws.map (·.2))) := by
  refine Meets.settleF Ctx.id ?_
  refine Meets.of_body [0,1,2,3,5,11,12,13,14] Proofs.Tryz.func49 rfl (by kernel_rfl) rfl fun w => ?_
  simp only [Proofs.Tryz.f49, stV, shs, zts, sos, sls, zss, eqs, sx, sb1, sb2, sb3, sb4, sb5, sb6, sb7, ↓reduceIte, Nat.reduceAdd, Nat.reduceMul, Nat.reduceDiv, Nat.reduceEqDiff, Nat.reduceLT, Nat.reduceLeDiff, reduceCtorEq, Int.reduceEq, Int.reduceNe, Int.reduceLT, Int.reduceLE, Int.reduceAdd, Int.reduceSub, Int.reduceMul, Int.reduceNeg, Int.reduceToNat, Int.cast_ofNat_Int, Int.natCast_zero, Int.natCast_one, Int.toNat_natCast, Nat.reduceBEq, nzs]
  refine CallK.rowF Ctx.id rfl rfl (cloneB b bag M hb (by omega)) fun b2 M1 hM1 hb2 hbf => ?_
  have hv1 := hv.le hM1
  simp only [shs, zts, sos, sls, zss, eqs, sx, sb1, sb2, sb3, sb4, sb5, sb6, sb7, ↓reduceIte, Nat.reduceAdd, Nat.reduceMul, Nat.reduceDiv, Nat.reduceEqDiff, Nat.reduceLT, Nat.reduceLeDiff, reduceCtorEq, Int.reduceEq, Int.reduceNe, Int.reduceLT, Int.reduceLE, Int.reduceAdd, Int.reduceSub, Int.reduceMul, Int.reduceNeg, Int.reduceToNat, Int.cast_ofNat_Int, Int.natCast_zero, Int.natCast_one, Int.toNat_natCast, Nat.reduceBEq, nzs, hdel, sigDrop, sigDropA, oneVs hb2.row.sl, hb2.row.one, hv.row.len, hv.row.sl, List.length_map]
  refine LoopK.nilBox 24 1 100 2 rfl rfl rfl rfl rfl ?_
  refine LoopK.go (X := Nat × List WV × Mem) (fun x => ([(1, true, .ptr 8 0 0 0), (2, true, .ptr 16 0 0 0), (3, true, .ptr 24 0 0 0), (11, true, .v v), (12, true, .v (.int .i64 ws.length)), (13, true, .v (.int .i64 x.1))],
      [(800, .row 2 (x.2.1.map encV)), (24, .box [.v b2, .own 800] none), (16, .box [.v (.slice none 0 0), .v (.slice none 0 0)] none), (8, .box [.v b, .v v] none)], x.2.2))
    (fun x => (x.1 ≤ ws.length ∧ M1.le x.2.2) ∧ x.2.1.map (·.2) = (ws.take x.1).map (·.2) ∧ (∀ w ∈ x.2.1, RowF x.2.2 w.1 3 (w.2.2.map encI3) ∧ freshB M1 w.1) ∧ (x.2.1.map (·.1)).Pairwise apartB) (fun x => ws.length - x.1) (0, [], M1) ⟨⟨Nat.zero_le _, Mem.le.refl M1⟩, by simp, fun w hw => by (cases hw), .nil⟩ (Ent.of ?_) ?_
  · simp only [sx, sb1, sb2, sb3, sb4, sb5, sb6, sb7, ↓reduceIte, Nat.reduceAdd, Nat.reduceMul, Nat.reduceDiv, Nat.reduceEqDiff, Nat.reduceLT, Nat.reduceLeDiff, reduceCtorEq, Int.reduceEq, Int.reduceNe, Int.reduceLT, Int.reduceLE, Int.reduceAdd, Int.reduceSub, Int.reduceMul, Int.reduceNeg, Int.reduceToNat, Int.cast_ofNat_Int, Int.natCast_zero, Int.natCast_one, Int.toNat_natCast, Nat.reduceBEq, List.map_nil, Int.natCast_zero]
  rintro ⟨i, us, N⟩ ⟨⟨n1, nM⟩, n2, n3, n4⟩
  simp only at n1 nM n2 n3 n4
  have hul : us.length = i := by
    have := congrArg List.length n2
    rw [List.length_map, List.length_map, List.length_take] at this
    omega
  by_cases hil : i < ws.length
  rotate_left
  · have d1 : ((i : Int) < (ws.length : Int)) = False := eq_false (by omega)
    rw [List.take_of_length_le (by omega)] at n2
    simp only [shs, zts, sos, sls, zss, eqs, sx, sb1, sb2, sb3, sb4, sb5, sb6, sb7, ↓reduceIte, Nat.reduceAdd, Nat.reduceMul, Nat.reduceDiv, Nat.reduceEqDiff, Nat.reduceLT, Nat.reduceLeDiff, reduceCtorEq, Int.reduceEq, Int.reduceNe, Int.reduceLT, Int.reduceLE, Int.reduceAdd, Int.reduceSub, Int.reduceMul, Int.reduceNeg, Int.reduceToNat, Int.cast_ofNat_Int, Int.natCast_zero, Int.natCast_one, Int.toNat_natCast, Nat.reduceBEq, nzs, d1]
    refine ⟨hb2.row.one, .v b2, .own 800, us, rfl, n2, (fun k hk => by cases hk), ⟨⟨hb2.le nM, hbf⟩, rfl⟩, fun w hw => ⟨(n3 w hw).1, (n3 w hw).2.of_le hM1⟩, ?_⟩
    refine List.pairwise_cons.2 ⟨fun y hy => ?_, n4⟩
    simp only [known, List.nil_append] at hy
    obtain ⟨w, hw, rfl⟩ := List.mem_map.1 hy
    exact (RowF.apart hb2 (n3 w hw).2).symm
  have d1 : ((i : Int) < (ws.length : Int)) = True := eq_true (by omega)
  obtain ⟨x, hx, _⟩ := l_drop_at (l := ws) (i := i) hil
  have hvN := hv1.le nM
  obtain ⟨g0, g1, i0⟩ := vol_at hvN hx
  have hxm := List.mem_of_getElem? hx
  have hblk := hvN.blk x hxm
  simp only [shs, zts, sos, sls, zss, eqs, sx, sb1, sb2, sb3, sb4, sb5, sb6, sb7, ↓reduceIte, Nat.reduceAdd, Nat.reduceMul, Nat.reduceDiv, Nat.reduceEqDiff, Nat.reduceLT, Nat.reduceLeDiff, reduceCtorEq, Int.reduceEq, Int.reduceNe, Int.reduceLT, Int.reduceLE, Int.reduceAdd, Int.reduceSub, Int.reduceMul, Int.reduceNeg, Int.reduceToNat, Int.cast_ofNat_Int, Int.natCast_zero, Int.natCast_one, Int.toNat_natCast, Nat.reduceBEq, nzs, d1, i0, i0.2, g0.1, g0.2, g1.1, g1.2, hblk.one]
  refine DrawK.pubF (k := 800) rfl fun v' N' hN' hv' hvf' => ?_
  have hblk' := hblk.le hN'
  have hnext : ∀ (u : Value) (N2 N3 : Mem), N'.le N2 → RowF N2 u 3 (x.2.2.map encI3) → freshB N' u → butB N2 N3 v' → (M1.le N3 ∧ (us ++ [(u, x.2)]).map (·.2) = (ws.take (i + 1)).map (·.2)) ∧ (∀ w ∈ us ++ [(u, x.2)], RowF N3 w.1 3 (w.2.2.map encI3) ∧ freshB M1 w.1) ∧ ((us ++ [(u, x.2)]).map (·.1)).Pairwise apartB := fun u N2 N3 hN2 hu huf hb3 => by
    refine ⟨⟨?_, ?_⟩, fun w hw => ?_, ?_⟩
    · exact le_but (nM.trans (hN'.trans hN2)) (hvf'.of_le nM) hb3
    · rw [List.take_add_one, hx, List.map_append, List.map_append, n2]
      rfl
    · rcases List.mem_append.1 hw with hw | hw
      · exact ⟨RowF.but (((n3 w hw).1.le hN').le hN2) hb3 (RowF.apart (n3 w hw).1 hvf'), (n3 w hw).2⟩
      · rw [List.mem_singleton.1 hw]
        exact ⟨RowF.but hu hb3 (RowF.apart hv' huf).symm, huf.of_le (nM.trans hN')⟩
    · rw [List.map_append, List.pairwise_append]
      refine ⟨n4, List.pairwise_singleton _ _, fun y hy z hz => ?_⟩
      obtain ⟨w, hw, rfl⟩ := List.mem_map.1 hy
      simp only [List.map_cons, List.map_nil, List.mem_singleton] at hz
      subst hz
      exact (RowF.apart ((n3 w hw).1.le hN') huf).symm
  have hrow : ∀ u : Value, us.map encV ++ [[.string ⟨x.2.1.toArray⟩, u]] = (us ++ [(u, x.2)]).map encV := fun u => by
    rw [List.map_append]; rfl
  rcases RowF.nil_or hv' with ⟨e, hnil⟩ | ⟨bb, cap, e⟩
  · have hus : us = [] := by simpa using hnil
    subst e
    refine DrawK.heldT 9 [8, 24, 40] (tk [0, 2, 4, 1, 3, 5] (.one 6 (tk [7] (.one 8 .done)))) (by kernel_rfl) (by kernel_rfl) fun xs => ?_
    simp only [shs, zts, sos, sls, zss, eqs, sx, sb1, sb2, sb3, sb4, sb5, sb6, sb7, ↓reduceIte, Nat.reduceAdd, Nat.reduceMul, Nat.reduceDiv, Nat.reduceEqDiff, Nat.reduceLT, Nat.reduceLeDiff, reduceCtorEq, Int.reduceEq, Int.reduceNe, Int.reduceLT, Int.reduceLE, Int.reduceAdd, Int.reduceSub, Int.reduceMul, Int.reduceNeg, Int.reduceToNat, Int.cast_ofNat_Int, Int.natCast_zero, Int.natCast_one, Int.toNat_natCast, Nat.reduceBEq, sp1, sp2, sp3, nzs, se1, se2, tks]
    refine CallK.rowF Ctx.id rfl rfl (cloneI x.1 x.2.2 N' hblk' (Nat.le_trans (hli x hxm) (by omega))) fun u N2 hN2 hu huf => ?_
    simp only [shs, zts, sos, sls, zss, eqs, sx, sb1, sb2, sb3, sb4, sb5, sb6, sb7, ↓reduceIte, Nat.reduceAdd, Nat.reduceMul, Nat.reduceDiv, Nat.reduceEqDiff, Nat.reduceLT, Nat.reduceLeDiff, reduceCtorEq, Int.reduceEq, Int.reduceNe, Int.reduceLT, Int.reduceLE, Int.reduceAdd, Int.reduceSub, Int.reduceMul, Int.reduceNeg, Int.reduceToNat, Int.cast_ofNat_Int, Int.natCast_zero, Int.natCast_one, Int.toNat_natCast, Nat.reduceBEq, nzs, se1, se2, tks, oneVs hu.row.sl, hu.row.one, inK, lo, hi]
    obtain ⟨⟨q1, q2⟩, q3, q4⟩ := hnext u N2 N2 hN2 hu huf (fun _ _ => rfl)
    have hr := hrow u
    subst hus
    simp only [List.map_nil, List.nil_append] at hr q2 q3 q4
    refine ⟨hN2, hN2, by omega, (i + 1, [(u, x.2)], N2), ⟨⟨⟨by simp only; omega, q1⟩, q2, q3, q4⟩, by simp only; omega⟩, Ent.heap (HEnt.untie (k := 8) rfl) (Ent.heap (HEnt.untie (k := 16) rfl) (Ent.heap (HEnt.untie (k := 24) rfl) (Ent.rekeyB 24 1 208 100 2 _ rfl rfl rfl rfl rfl (Ent.of ?_))))⟩
    simp only [sx, sb1, sb2, sb3, sb4, sb5, sb6, sb7, ↓reduceIte, Nat.reduceAdd, Nat.reduceMul, Nat.reduceDiv, Nat.reduceEqDiff, Nat.reduceLT, Nat.reduceLeDiff, reduceCtorEq, Int.reduceEq, Int.reduceNe, Int.reduceLT, Int.reduceLE, Int.reduceAdd, Int.reduceSub, Int.reduceMul, Int.reduceNeg, Int.reduceToNat, Int.cast_ofNat_Int, Int.natCast_zero, Int.natCast_one, Int.toNat_natCast, Nat.reduceBEq, Int.natCast_add, hr, hset]
  · subst e
    refine DrawK.heldT 9 [8, 24, 40] (tk [0, 2, 4, 1, 3, 5] (.one 6 (tk [7] (.one 8 .done)))) (by kernel_rfl) (by kernel_rfl) fun xs => ?_
    simp only [shs, zts, sos, sls, zss, eqs, sx, sb1, sb2, sb3, sb4, sb5, sb6, sb7, ↓reduceIte, Nat.reduceAdd, Nat.reduceMul, Nat.reduceDiv, Nat.reduceEqDiff, Nat.reduceLT, Nat.reduceLeDiff, reduceCtorEq, Int.reduceEq, Int.reduceNe, Int.reduceLT, Int.reduceLE, Int.reduceAdd, Int.reduceSub, Int.reduceMul, Int.reduceNeg, Int.reduceToNat, Int.cast_ofNat_Int, Int.natCast_zero, Int.natCast_one, Int.toNat_natCast, Nat.reduceBEq, sp1, sp2, sp3, nzs, se1, se2, tks]
    refine CallK.rowF Ctx.id rfl rfl (cloneI x.1 x.2.2 N' hblk' (Nat.le_trans (hli x hxm) (by omega))) fun u N2 hN2 hu huf => ?_
    simp only [shs, zts, sos, sls, zss, eqs, sx, sb1, sb2, sb3, sb4, sb5, sb6, sb7, ↓reduceIte, Nat.reduceAdd, Nat.reduceMul, Nat.reduceDiv, Nat.reduceEqDiff, Nat.reduceLT, Nat.reduceLeDiff, reduceCtorEq, Int.reduceEq, Int.reduceNe, Int.reduceLT, Int.reduceLE, Int.reduceAdd, Int.reduceSub, Int.reduceMul, Int.reduceNeg, Int.reduceToNat, Int.cast_ofNat_Int, Int.natCast_zero, Int.natCast_one, Int.toNat_natCast, Nat.reduceBEq, nzs, se1, se2, tks, oneVs hu.row.sl, hu.row.one, rowOf_some]
    refine ⟨hN2, hN2, OpK.claim 18 100 rfl rfl (hv'.le hN2) (hvf'.of_le (hM1.trans nM)) rfl rfl fun N3 hb3 => OpK.step ?_⟩
    simp only [shs, zts, sos, sls, zss, eqs, sx, sb1, sb2, sb3, sb4, sb5, sb6, sb7, ↓reduceIte, Nat.reduceAdd, Nat.reduceMul, Nat.reduceDiv, Nat.reduceEqDiff, Nat.reduceLT, Nat.reduceLeDiff, reduceCtorEq, Int.reduceEq, Int.reduceNe, Int.reduceLT, Int.reduceLE, Int.reduceAdd, Int.reduceSub, Int.reduceMul, Int.reduceNeg, Int.reduceToNat, Int.cast_ofNat_Int, Int.natCast_zero, Int.natCast_one, Int.toNat_natCast, Nat.reduceBEq, nzs, inK, lo, hi, List.length_map, hul, hrow]
    obtain ⟨⟨q1, q2⟩, q3, q4⟩ := hnext u N2 N3 hN2 hu huf hb3
    refine ⟨⟨by omega, by omega⟩, by omega, (i + 1, us ++ [(u, x.2)], N3), ⟨⟨⟨by simp only; omega, q1⟩, q2, q3, q4⟩, by simp only; omega⟩, Ent.heap (HEnt.untie (k := 8) rfl) (Ent.heap (HEnt.untie (k := 16) rfl) (Ent.heap (HEnt.untie (k := 24) rfl) (Ent.rekeyB 24 1 208 100 2 _ rfl rfl rfl rfl rfl (Ent.of ?_))))⟩
    simp only [sx, sb1, sb2, sb3, sb4, sb5, sb6, sb7, ↓reduceIte, Nat.reduceAdd, Nat.reduceMul, Nat.reduceDiv, Nat.reduceEqDiff, Nat.reduceLT, Nat.reduceLeDiff, reduceCtorEq, Int.reduceEq, Int.reduceNe, Int.reduceLT, Int.reduceLE, Int.reduceAdd, Int.reduceSub, Int.reduceMul, Int.reduceNeg, Int.reduceToNat, Int.cast_ofNat_Int, Int.natCast_zero, Int.natCast_one, Int.toNat_natCast, Nat.reduceBEq, Int.natCast_add, hset]
end Go.X.Vo

namespace Go.X
open Go Go.RowKit
section
variable {E : Env} {σ : Sig} {H : HS} {M : Mem} {a : Act} {w : World} {ν : Nat → Value} {K : KP} {o : Oper}
/-- what a comparison does in every world where it finds the row, and the box with the slice at its place -/
def LessCJ {α : Type} [Inhabited α] (P : Program) (g : Nat) (enc : α → List Value) (k : Nat) (lt : α → α → Bool) (size jb : Nat) : Prop :=
  ∀ (W : World) (Bs blk c : Nat) (dk : Array α), dk.size = size → W.cell? ⟨Bs, jb, none⟩ = some (.slice (some ⟨blk, 0, none⟩) size c) → (∀ t u, t < size → u < k → W.cell? ⟨blk, 0 + t * k + u, none⟩ = some ((enc dk[t]!)[u]!)) →
    ∀ i j : Nat, i < size → j < size → Calls P g #[.int .i64 i, .int .i64 j, .pointer (some ⟨Bs, 0, none⟩)] W fun e w' => e = .returned (.bool (lt dk[i]! dk[j]!)) ∧ ∃ q, w' = W.drewN q
theorem CallK.sortRowJ {α : Type} [Inhabited α] {f d g t : Nat} (kr kb jb : Nat) (enc : α → List Value) (k : Nat) (lt : α → α → Bool) (l : List α) {b cap : Nat} {sp : List Value} {cs : List SV} {tb : Option Value}
    (hk : hget H kr = some (.box (opn ((l.map enc).flatten ++ sp)) (some (ptrV b)))) (hkb : hget H kb = some (.box cs tb)) (hcj : cs[jb]? = some (.v (.slice (some ⟨b, 0, none⟩) l.length cap))) (hne : decide (kb ≠ kr) = true)
    (henc : ∀ x, (enc x).length = k) (hd : decide (d < E.N) = true) (hsz : l.length < 4611686018427387904) (hcl : ∃ fn, E.P.funcs[f]? = some fn ∧ (fn.name == "runtime.NumGoroutine") = false ∧ fn.body.isNone = false)
    (hS : SortC E.P f g t enc k lt) (hL : LessCJ E.P g enc k lt l.length jb)
    (hK : ∀ l' : List α, l'.Perm l → l'.Pairwise (fun x y => lt y x = false) → K ((d, true, .v (.tuple #[])) :: σ) (hset kr (.box (opn ((l'.map enc).flatten ++ sp)) (some (ptrV b))) H) M) :
    CallK E f [.v (.iface t (.slice (some ⟨b, 0, none⟩) l.length cap)), .fn g [.ptr kb 0 0 0]] d K σ H M := by
  intro ν a w hs hh
  refine .inl ⟨hcl, ?_⟩
  obtain ⟨⟨b', T, e1, e2⟩, e3⟩ := hh.holds _ (hget_mem hk)
  have e4 := e3 _ rfl
  simp only at e1 e4
  rw [e4] at e1
  cases e1
  rw [opn_vals] at e2
  obtain ⟨⟨bb, T', f1, f2⟩, _⟩ := hh.holds _ (hget_mem hkb)
  simp only at f1 f2
  have fj : (SV.vals ν cs).toArray[jb]? = some (.slice (some ⟨b, 0, none⟩) l.length cap) := by
    rw [List.getElem?_toArray, SV.vals_map, List.getElem?_map, hcj]
    rfl
  have hbb : bb ≠ b := by
    rintro rfl
    exact blk_ne hh hk (b := bb) (by rw [e4]; rfl) _ (hget_mem hkb) (of_decide_eq_true hne) (by simp only [f1]; rfl)
  have hlt : b < w.heap.size := (Array.getElem?_eq_some_iff.1 e2).1
  have hltb : bb < w.heap.size := (Array.getElem?_eq_some_iff.1 f2).1
  have hv : (SV.vals ν [.v (.iface t (.slice (some ⟨b, 0, none⟩) l.length cap)), .fn g [.ptr kb 0 0 0]]).toArray = #[.iface t (.slice (some ⟨b, 0, none⟩) l.length cap), .func (.func g) #[] #[.pointer (some ⟨bb, 0, none⟩)]] := by
    simp [SV.vals, SV.val, f1, bOf]
  rw [hv]
  have hfin : ∀ l' : List α, l'.Perm l → l'.Pairwise (fun x y => lt y x = false) → ∀ w', Heap E ν (hset kr (.box (opn ((l'.map enc).flatten ++ sp)) (some (ptrV b))) H) M w' →
      ∃ σ' H' M', Rep E σ' H' M' (a.put (some d) (.tuple #[])) w' ∧ K σ' H' M' := fun l' h1 h2 w' h3 => ⟨_, _, _, ⟨ν, hs.put (of_decide_eq_true hd) rfl, h3⟩, hK l' h1 h2⟩
  rcases Nat.lt_or_ge 1 l.length with h2 | h1
  rotate_left
  · refine (hS.1 (some ⟨b, 0, none⟩) l.length cap h1 #[.pointer (some ⟨bb, 0, none⟩)] w).mono ?_
    rintro e w' ⟨rfl, os, rfl⟩
    refine ⟨_, rfl, hfin l (List.Perm.refl l) ?_ _ ?_⟩
    · match l, h1 with
      | [], _ => exact .nil
      | [x], _ => exact List.pairwise_singleton _ _
    · have := hh.grow (below_grow w os 0)
      have hs2 : hset kr (.box (opn ((l.map enc).flatten ++ sp)) (some (ptrV b))) H = H := hset_self hk
      rw [hs2]
      exact this
  · have hH : Sort.HoldsK enc k w b 0 l.toArray := fun j hj => by
      have hf := flatK_flat henc l.toArray
      have hj2 : j < (Sort.flatK enc k l.toArray).toList.length := by simpa using hj
      have hx : ((l.map enc).flatten ++ sp)[j]? = some ((Sort.flatK enc k l.toArray)[j]!) := by
        rw [show (l.map enc).flatten = (Sort.flatK enc k l.toArray).toList from hf.symm, List.getElem?_append_left hj2, Array.getElem?_toList, getElem!_pos _ j (by simpa using hj)]
        exact Array.getElem?_eq_getElem _
      refine ⟨?_, ?_⟩
      · rw [cell_of_heap e2, Nat.zero_add]
        exact hx
      · simp [World.frozen?, e2]
    have hless : Proofs.LessReadsK E.P g #[.pointer (some ⟨bb, 0, none⟩)] enc k lt b 0 l.toArray.size w := by
      intro m os dk hs i j hi hj
      have e : Proofs.sortWorldK enc k w b 0 m dk os = Sort.putRowK enc k (Sort.grow (Sort.ahead w m) os) b 0 dk := by
        unfold Proofs.sortWorldK; rw [Sort.putRowK_grow _ _ (Sort.ahead w m) _ b 0 _ hlt]
      have hHg : Sort.HoldsK enc k (Sort.grow (Sort.ahead w m) os) b 0 l.toArray := Sort.holdsK_grow _ _ _ _ b 0 _ hlt (Sort.holdsK_ahead _ _ _ _ _ _ _ hH)
      refine hL _ bb b cap dk (by simpa using hs) ?_ (fun t u ht hu => ?_) i j (by simpa using hi) (by simpa using hj)
      · rw [e, Sort.cell?_putRowK_other _ _ _ b 0 dk _ (by exact hbb), Sort.cell?_grow _ _ _ (by exact hltb)]
        show w.cell? ⟨bb, jb, none⟩ = _
        rw [cell_of_heap f2, ← List.getElem?_toArray]
        exact fj
      · rw [e]
        exact ((Sort.holdsK_putRowK _ _ _ b 0 l.toArray dk hHg hs).cell (i := t) (c := u) (by rw [hs]; simpa using ht) hu).1
    refine (hS.2 b cap l.toArray (by simp only [List.size_toArray]; omega) (by simpa using hsz) #[.pointer (some ⟨bb, 0, none⟩)] w hless hH hlt).mono ?_
    rintro e w' ⟨rfl, d', n, os, hp, hso, rfl⟩
    have hsd : d'.size = l.length := by simpa using hp.1
    refine ⟨_, rfl, hfin d'.toList ?_ ?_ _ ?_⟩
    · have := hp.2.2
      rw [Array.extract_eq_self_of_le (by rw [hsd]; simp), Array.extract_eq_self_of_le (by simp)] at this
      exact this
    · rw [List.pairwise_iff_getElem]
      intro i j hi hj hij
      have := hso i j (Nat.zero_le _) hij (by simpa [hsd] using hj)
      rw [getElem!_pos _ i (by simpa using hi), getElem!_pos _ j (by simpa using hj)] at this
      simpa using this
    · have hF : (Sort.flatK enc k d').size = ((l.map enc).flatten).length := by rw [flat_len henc, Sort.size_flatK, hsd]
      have hpw : Heap E ν (hset kr (.box (opn ((d'.toList.map enc).flatten ++ sp)) (some (ptrV b))) H) M (Sort.putRowK enc k w b 0 d') := by
        refine hh.upd hk (b := b) (by rw [e4]; rfl) (fun j hj => ?_) ?_ ⟨rfl, rfl, rfl⟩ ⟨⟨b, T, e4, ?_⟩, fun v hv => ?_⟩
        · simp only [Sort.putRowK, Sort.putRow, Sort.mapBlock, Array.getElem?_modify]
          rw [if_neg (fun h => hj h.symm)]
        · simp [Sort.putRowK, Sort.putRow, Sort.mapBlock]
        · rw [opn_vals]
          simp only [Sort.putRowK, Sort.putRow, Sort.mapBlock, Array.getElem?_modify, e2, if_true, Option.map_some, Sort.onCells]
          rw [putCells_flat hF, flatK_flat henc]
        · cases hv
          exact e4
      exact hpw.grow (w' := Sort.grow (Sort.putRowK enc k (Sort.ahead w n) b 0 d') os) (below_grow (Sort.putRowK enc k w b 0 d') os n)
end
end Go.X

namespace Go.Proofs
open Go.Shelf Go.RowKit Go.Lib Go.Sort
def Tryz.sl6_ren : Go.Shelf.Ren := ⟨fun | 6 => 109 | 10 => 156 | 11 => 157 | 12 => 158 | 13 => 159 | 14 => 160 | 24 => 193 | 25 => 194 | 26 => 195 | 27 => 196 | 28 => 197 | 29 => 198 | 30 => 199 | 31 => 200 | 32 => 201 | 33 => 202 | 34 => 212 | 35 => 213 | 36 => 214 | 37 => 215 | 38 => 216 | 39 => 222 | n => n, fun | 20 => 20 | 26 => 154 | 35 => 197 | 0 => 0 | 37 => 199 | 3 => 3 | 41 => 170 | 44 => 205 | 49 => 226 | 51 => 189 | 4 => 4 | 54 => 229 | 53 => 228 | 58 => 148 | 5 => 5 | 9 => 9 | 60 => 240 | 64 => 244 | 66 => 249 | 67 => 250 | 17 => 17 | 32 => 194 | 33 => 195 | 82 => 269 | 12 => 12 | 75 => 262 | 76 => 263 | 77 => 264 | 78 => 265 | 79 => 266 | 80 => 267 | n => n, fun | n => n⟩
theorem Tryz.sl6 : Go.Proofs.LaysGg.n6 Tryz.prog Tryz.sl6_ren := {
  mixed := by kernel_rfl,
  f6 := Tryz.func109.trans (congrArg some (by kernel_rfl)),
  f10 := Tryz.func156.trans (congrArg some (by kernel_rfl)),
  f11 := Tryz.func157.trans (congrArg some (by kernel_rfl)),
  f12 := Tryz.func158.trans (congrArg some (by kernel_rfl)),
  f13 := Tryz.func159.trans (congrArg some (by kernel_rfl)),
  f14 := Tryz.func160.trans (congrArg some (by kernel_rfl)),
  f24 := Tryz.func193.trans (congrArg some (by kernel_rfl)),
  f25 := Tryz.func194.trans (congrArg some (by kernel_rfl)),
  f26 := Tryz.func195.trans (congrArg some (by kernel_rfl)),
  f27 := Tryz.func196.trans (congrArg some (by kernel_rfl)),
  f28 := Tryz.func197.trans (congrArg some (by kernel_rfl)),
  f29 := Tryz.func198.trans (congrArg some (by kernel_rfl)),
  f30 := Tryz.func199.trans (congrArg some (by kernel_rfl)),
  f31 := Tryz.func200.trans (congrArg some (by kernel_rfl)),
  f32 := Tryz.func201.trans (congrArg some (by kernel_rfl)),
  f33 := Tryz.func202.trans (congrArg some (by kernel_rfl)),
  f34 := Tryz.func212.trans (congrArg some (by kernel_rfl)),
  f35 := Tryz.func213.trans (congrArg some (by kernel_rfl)),
  f36 := Tryz.func214.trans (congrArg some (by kernel_rfl)),
  f37 := Tryz.func215.trans (congrArg some (by kernel_rfl)),
  f38 := Tryz.func216.trans (congrArg some (by kernel_rfl)),
  f39 := Tryz.func222.trans (congrArg some (by kernel_rfl)),
  t0 := Tryz.underlying0,
  a0 := Tryz.isAgg0,
  z0 := Tryz.sizeOf0,
  v0 := Tryz.zeroValue0,
  i0 := by kernel_rfl,
  t3 := Tryz.underlying3,
  a3 := Tryz.isAgg3,
  z3 := Tryz.sizeOf3,
  v3 := Tryz.zeroValue3,
  i3 := by kernel_rfl,
  t4 := Tryz.underlying4,
  a4 := Tryz.isAgg4,
  z4 := Tryz.sizeOf4,
  v4 := Tryz.zeroValue4,
  i4 := by kernel_rfl,
  t5 := Tryz.underlying5,
  a5 := Tryz.isAgg5,
  z5 := Tryz.sizeOf5,
  v5 := Tryz.zeroValue5,
  i5 := by kernel_rfl,
  t9 := Tryz.underlying9,
  a9 := Tryz.isAgg9,
  z9 := Tryz.sizeOf9,
  v9 := Tryz.zeroValue9,
  i9 := by kernel_rfl,
  t12 := Tryz.underlying12,
  a12 := Tryz.isAgg12,
  z12 := Tryz.sizeOf12,
  v12 := Tryz.zeroValue12,
  i12 := by kernel_rfl,
  t17 := Tryz.underlying17,
  a17 := Tryz.isAgg17,
  z17 := Tryz.sizeOf17,
  v17 := Tryz.zeroValue17,
  i17 := by kernel_rfl,
  t20 := Tryz.underlying20,
  a20 := Tryz.isAgg20,
  z20 := Tryz.sizeOf20,
  v20 := Tryz.zeroValue20,
  i20 := by kernel_rfl,
  t26 := Tryz.underlying154,
  a26 := Tryz.isAgg154,
  z26 := Tryz.sizeOf154,
  v26 := Tryz.zeroValue154,
  i26 := by kernel_rfl,
  t32 := Tryz.underlying194,
  a32 := Tryz.isAgg194,
  z32 := Tryz.sizeOf194,
  v32 := Tryz.zeroValue194,
  i32 := by kernel_rfl,
  t33 := Tryz.underlying195,
  a33 := Tryz.isAgg195,
  z33 := Tryz.sizeOf195,
  v33 := Tryz.zeroValue195,
  i33 := by kernel_rfl,
  t35 := Tryz.underlying197,
  a35 := Tryz.isAgg197,
  z35 := Tryz.sizeOf197,
  v35 := Tryz.zeroValue197,
  i35 := by kernel_rfl,
  t37 := Tryz.underlying199,
  a37 := Tryz.isAgg199,
  z37 := Tryz.sizeOf199,
  v37 := Tryz.zeroValue199,
  i37 := by kernel_rfl,
  t41 := Tryz.underlying170,
  a41 := Tryz.isAgg170,
  z41 := Tryz.sizeOf170,
  v41 := Tryz.zeroValue170,
  i41 := by kernel_rfl,
  t44 := Tryz.underlying205,
  a44 := Tryz.isAgg205,
  z44 := Tryz.sizeOf205,
  v44 := Tryz.zeroValue205,
  i44 := by kernel_rfl,
  t49 := Tryz.underlying226,
  a49 := Tryz.isAgg226,
  z49 := Tryz.sizeOf226,
  v49 := Tryz.zeroValue226,
  i49 := by kernel_rfl,
  t51 := Tryz.underlying189,
  a51 := Tryz.isAgg189,
  z51 := Tryz.sizeOf189,
  v51 := Tryz.zeroValue189,
  i51 := by kernel_rfl,
  t53 := Tryz.underlying228,
  a53 := Tryz.isAgg228,
  z53 := Tryz.sizeOf228,
  v53 := Tryz.zeroValue228,
  i53 := by kernel_rfl,
  t54 := Tryz.underlying229,
  a54 := Tryz.isAgg229,
  z54 := Tryz.sizeOf229,
  v54 := Tryz.zeroValue229,
  i54 := by kernel_rfl,
  t58 := Tryz.underlying148,
  a58 := Tryz.isAgg148,
  z58 := Tryz.sizeOf148,
  v58 := Tryz.zeroValue148,
  i58 := by kernel_rfl,
  t60 := Tryz.underlying240,
  a60 := Tryz.isAgg240,
  z60 := Tryz.sizeOf240,
  v60 := Tryz.zeroValue240,
  i60 := by kernel_rfl,
  t64 := Tryz.underlying244,
  a64 := Tryz.isAgg244,
  z64 := Tryz.sizeOf244,
  v64 := Tryz.zeroValue244,
  i64 := by kernel_rfl,
  t66 := Tryz.underlying249,
  a66 := Tryz.isAgg249,
  z66 := Tryz.sizeOf249,
  v66 := Tryz.zeroValue249,
  i66 := by kernel_rfl,
  t67 := Tryz.underlying250,
  a67 := Tryz.isAgg250,
  z67 := Tryz.sizeOf250,
  v67 := Tryz.zeroValue250,
  i67 := by kernel_rfl,
  t75 := Tryz.underlying262,
  a75 := Tryz.isAgg262,
  z75 := Tryz.sizeOf262,
  v75 := Tryz.zeroValue262,
  i75 := by kernel_rfl,
  t76 := Tryz.underlying263,
  a76 := Tryz.isAgg263,
  z76 := Tryz.sizeOf263,
  v76 := Tryz.zeroValue263,
  i76 := by kernel_rfl,
  t77 := Tryz.underlying264,
  a77 := Tryz.isAgg264,
  z77 := Tryz.sizeOf264,
  v77 := Tryz.zeroValue264,
  i77 := by kernel_rfl,
  t78 := Tryz.underlying265,
  a78 := Tryz.isAgg265,
  z78 := Tryz.sizeOf265,
  v78 := Tryz.zeroValue265,
  i78 := by kernel_rfl,
  t79 := Tryz.underlying266,
  a79 := Tryz.isAgg266,
  z79 := Tryz.sizeOf266,
  v79 := Tryz.zeroValue266,
  i79 := by kernel_rfl,
  t80 := Tryz.underlying267,
  a80 := Tryz.isAgg267,
  z80 := Tryz.sizeOf267,
  v80 := Tryz.zeroValue267,
  i80 := by kernel_rfl,
  t82 := Tryz.underlying269,
  a82 := Tryz.isAgg269,
  z82 := Tryz.sizeOf269,
  v82 := Tryz.zeroValue269,
  i82 := by kernel_rfl }

set_option maxHeartbeats 2000000 in
/-- the closure of woolref.Put -/
theorem Tryz.putLess (blk off c Bs size : Nat) (W : World) (G1 G2 : Nat → Int) (hs : W.cell? ⟨Bs, 0, none⟩ = some (.slice (some ⟨blk, off, none⟩) size c))
    (hc : ∀ t, t < size → W.cell? ⟨blk, off + t * 4, none⟩ = some (.int .i64 (G1 t)) ∧ W.cell? ⟨blk, off + t * 4 + 1, none⟩ = some (.int .i64 (G2 t))) (i j : Nat) (hi : i < size) (hj : j < size) (_hsz : size < 4611686018427387904) :
    Calls Tryz.prog 163 #[.int .i64 i, .int .i64 j, .pointer (some ⟨Bs, 0, none⟩)] W fun e w' => e = .returned (.bool (decide (G1 i < G1 j ∨ (G1 i = G1 j ∧ G2 i < G2 j)))) ∧ ∃ q, w' = W.drewN q := by
  have ci := (hc i hi).1
  have cj := (hc j hj).1
  have ci2 := (hc i hi).2
  have cj2 := (hc j hj).2
  go_enter Tryz.func163, Tryz.ntmps163
  go_wp2
  rcases Int.lt_trichotomy (G1 i) (G1 j) with h | h | h
  · go_quiet (fail)
    go_wp2
    go_ret
    exact ⟨by simp [h], nq, rfl⟩
  · go_quiet (fail)
    go_wp2
    go_ret
    exact ⟨by simp [h], nq, rfl⟩
  · have h1 : ¬ G1 i < G1 j := Int.lt_asymm h
    have h2 : ¬ G1 i = G1 j := Int.ne_of_gt h
    go_quiet (fail)
    go_wp2
    go_ret
    exact ⟨by simp [h1, h2], nq, rfl⟩
end Go.Proofs

