/- Contracts of functions and the logic that they are proved in (3 texts in one). Conditions: none. -/
import Derived.Test.YtoohifeidifocaaGreatMg6
import Derived.Shelf.Small.Strs
import Derived.Test.YtoohifeidifocaaGreatMg14
import Derived.Test.YtoohifeidifocaaGreatMg9
open Nat renaming reduceAdd → zqa, reduceMul → zqb, reduceDiv → zqc, reduceEqDiff → zqd, reduceLT → zqe, reduceLeDiff → zqf, reduceBEq → zqg
open Int renaming reduceEq → zra, reduceNe → zrb, reduceLT → zrc, reduceLE → zrd, reduceAdd → zre, reduceSub → zrf, reduceMul → zrg, reduceNeg → zrh, reduceToNat → zri, cast_ofNat_Int → zrj, natCast_zero → zrk, natCast_one → zrl, toNat_natCast → zrm
namespace Go.X.Bg
end Go.X.Bg
namespace Go.X.Nm
end Go.X.Nm
namespace Go.X.Bp
end Go.X.Bp
namespace Go.X.Sb
end Go.X.Sb
set_option linter.unusedSimpArgs false
set_option linter.unusedVariables false
set_option maxHeartbeats 4000000
set_option maxRecDepth 20000
namespace Go.X
open Go Go.RowKit
section
variable {P : Program} {ops : Array Oper} {Q : Exit → Act → World → Prop} {md : Region.Mode} {S : World → Prop}
/-- S is asked behind the first n alone -/
def wpAnyT (P : Program) (md : Region.Mode) (ops : Array Oper) (Q : Exit → Act → World → Prop) (S : World → Prop) (n : Nat) : Nat → Array Bool → Act → World → Prop
  | 0, listed, a, w => Region.ready md ops listed = [] ∧ Q .normal a w
  | f + 1, listed, a, w =>
    (Region.ready md ops listed = [] → Q .normal a w) ∧
    ∀ i ∈ Region.ready md ops listed, wpOp P ops Q i (fun a' w' => (i < n → S w') ∧ wpAnyT P md ops Q S n f (listed.setIfInBounds i true) a' w') a w
theorem wpAny_of_T {n : Nat} : ∀ (f : Nat) (listed : Array Bool) (a : Act) (w : World), wpAnyT P md ops Q S n f listed a w → wpAny P md ops Q f listed a w
  | 0, _, _, _, h => h
  | f + 1, _, _, _, h => ⟨h.1, fun i hi => wpOp_mono (fun a' w' h' => wpAny_of_T f _ a' w' h'.2) (h.2 i hi)⟩
theorem wpAnyT_first {n i : Nat} {oi : Oper} {v : Value} (hs : Region.sinkB md ops n = true) (hc : Region.chainB md ops n = true) (hn : n < ops.size) (hin : i < n) (hi : ops[i]? = some oi) (hsel : ∀ (j : Nat) (o : Oper) cs b, ops[j]? = some o → o.op ≠ .select cs b)
    (hQ : ∀ c a w, Q (.panic c) (a.put oi.dst v) w → Q (.panic c) a w) :
    ∀ (f : Nat) (listed : Array Bool) (a : Act) (w : World), HeadInv md ops n listed →
      (∀ j oj, ops[j]? = some oj → j ≠ i → listed.getD j true = false → (∀ e ∈ oj.after, Region.binds md e = true → e.on ≠ i) → oi.apart ops oj = true) →
      i ∈ Region.ready md ops listed → YieldsIf P ops S oi v a → S w →
      wpAnyT P md ops Q S n f (listed.setIfInBounds i true) (a.put oi.dst v) w → wpAnyT P md ops Q S n (f + 1) listed a w := by
  intro f
  induction f with
  | zero =>
    intro listed a w inv _ hr hy hS H
    refine ⟨fun h => (by rw [h] at hr; cases hr), fun j hj => ?_⟩
    by_cases hji : j = i
    · subst hji; exact hy.wpOp hi hS ⟨fun _ => hS, H⟩
    · have := ready_mono hj hji
      rw [H.1] at this
      cases this
  | succ f ih =>
    intro listed a w inv hfree hr hy hS H
    have hun0 := (mem_ready.1 hr).1
    refine ⟨fun h => (by rw [h] at hr; cases hr), fun j hj => ?_⟩
    have hjn : j < n := by
      rcases Nat.lt_or_ge j n with h | h
      · exact h
      · exact absurd hj (tail_waits hs hc hn inv _ i rfl hin hun0 j h)
    by_cases hji : j = i
    · subst hji; exact hy.wpOp hi hS ⟨fun _ => hS, H⟩
    · have h1 := H.2 j (ready_mono hj hji)
      obtain ⟨hjun, oj, hoj, hall⟩ := mem_ready.1 hj
      have hnot : ∀ e ∈ oj.after, Region.binds md e = true → e.on ≠ i := fun e he hb heq => by
        have h1 := hall e he hb
        rw [heq, getD_both hun0] at h1
        cases h1
      have h2 := wpOp_putIf hoj (hfree j oj hoj hji hjun hnot) (fun cs b => hsel i oi cs b hi) (fun cs b => hsel j oj cs b hoj) hQ hy h1
      have hfree' : ∀ k ok, ops[k]? = some ok → k ≠ i → (listed.setIfInBounds j true).getD k true = false →
          (∀ e ∈ ok.after, Region.binds md e = true → e.on ≠ i) → oi.apart ops ok = true := fun k ok hk hki hun hno => by
        refine hfree k ok hk hki ?_ hno
        by_cases hjk : j = k
        · subst hjk; exact hjun
        · rw [getD_set_ne true hjk] at hun; exact hun
      refine wpOp_mono (fun a' w' h3 => ⟨h3.2.1, ih (listed.setIfInBounds j true) a' w' (inv.set hj hjn) hfree' (ready_mono hr (Ne.symm hji)) h3.1 (h3.2.1 hjn) ?_⟩) h2
      rw [Array.setIfInBounds_comm _ _ hji]
      exact h3.2.2
theorem wpAnyT_take {n i : Nat} {oi : Oper} {v : Value} {f : Nat} {listed : Array Bool} {a : Act} {w : World} (hsk : Region.sinkB md ops n = true) (hch : Region.chainB md ops n = true) (hn : n < ops.size) (hin : i < n) (inv : HeadInv md ops n listed) (hi : ops[i]? = some oi)
    (hs : Region.noSelect ops = true) (hf : Region.free md ops listed i = true) (hr : (Region.ready md ops listed).contains i = true)
    (hQ : ∀ c a w, Q (.panic c) (a.put oi.dst v) w → Q (.panic c) a w) (hy : YieldsIf P ops S oi v a) (hS : S w)
    (h : wpAnyT P md ops Q S n f (listed.setIfInBounds i true) (a.put oi.dst v) w) : wpAnyT P md ops Q S n (f + 1) listed a w :=
  wpAnyT_first hsk hch hn hin hi (Region.noSelect_spec hs) hQ f listed a w inv (Region.free_spec hi hf) (by simpa using hr) hy hS h
theorem wpAnyT_all {n : Nat} {rs : List Nat} {f : Nat} {listed : Array Bool} {a : Act} {w : World} (hr : Region.ready md ops listed = rs) (hne : rs ≠ [])
    (h : ∀ i ∈ rs, wpOp P ops Q i (fun a' w' => (i < n → S w') ∧ wpAnyT P md ops Q S n f (listed.setIfInBounds i true) a' w') a w) : wpAnyT P md ops Q S n (f + 1) listed a w :=
  ⟨fun h0 => absurd (hr ▸ h0) hne, hr ▸ h⟩
theorem wpAnyT_of_seq {n : Nat} {Q' : Exit → Act → World → Prop} : ∀ (l : List Oper) (k : Nat) (listed : Array Bool) (a : Act) (w : World), (∀ j, l[j]? = ops[k + j]?) →
    Region.seqB md ops l.length k listed = true → n ≤ k → wpList P ops Q' l a w → wpAnyT P md ops Q' S n l.length listed a w
  | [], _, _, _, _, _, hB, _, h => ⟨by simpa [Region.seqB] using hB, h⟩
  | o :: l, k, listed, a, w, hl, hB, hnk, h => by
    have h0 : ops[k]? = some o := by simpa using (hl 0).symm
    simp only [List.length_cons, Region.seqB, Bool.and_eq_true, decide_eq_true_eq] at hB
    refine ⟨fun h1 => (by rw [hB.1] at h1; cases h1), fun i hi => ?_⟩
    rw [hB.1] at hi
    have hik : i = k := by simpa using hi
    subst hik
    have hw : wpOp P ops Q' i (wpList P ops Q' l) a w := by unfold wpOp; simp only [h0]; exact h
    exact wpOp_mono (fun a' w' h' => ⟨fun hlt => absurd hlt (by omega), wpAnyT_of_seq l (i + 1) _ a' w' (fun j => by have := hl (j + 1); simpa [Nat.add_assoc, Nat.add_comm 1 j] using this) hB.2 (by omega) h'⟩) hw
end
def schTB (md : Region.Mode) (ops : Array Oper) (n : Nat) : Sch → Nat → Array Bool → Bool
  | .done, f, listed => decide (f = ops.size - n) && Region.seqB md ops (ops.size - n) n listed
  | .take i s, f + 1, listed => decide (i < n) && ((Region.free md ops listed i && (Region.ready md ops listed).contains i) && schTB md ops n s f (listed.setIfInBounds i true))
  | .one i s, f + 1, listed => decide (i < n) && (Region.ready md ops listed == [i] && schTB md ops n s f (listed.setIfInBounds i true))
  | .two i s j m, f + 1, listed => (decide (i < n) && decide (j < n)) && (Region.ready md ops listed == [i, j] && (schTB md ops n s f (listed.setIfInBounds i true) && schTB md ops n m f (listed.setIfInBounds j true)))
  | _, 0, _ => false
section
variable {E : Env} {σ : Sig} {H Hs : HS} {M Ms : Mem} {ν ν' : Nat → Value} {a : Act} {w : World}
theorem wpHT_sound {ops : Array Oper} {K : KP} {w0 : World} {n : Nat} (hsel : Region.noSelect ops = true) (hsk : Region.sinkB .any ops n = true) (hch : Region.chainB .any ops n = true) (hn : n < ops.size) (h0 : Heap E ν Hs Ms w0) (ht : tieds ν Hs) :
    ∀ (sch : Sch) (f : Nat) (listed : Array Bool) (σ : Sig) (H : HS) (M : Mem) (a : Act) (w : World), schTB .any ops n sch f listed = true → HeadInv .any ops n listed → Rep E σ H M a w → (stayH Hs H ∧ Ms.le M) → wpH E ops.toList Hs Ms (wpR E ops.toList K (ops.toList.drop n)) sch σ H M →
      wpAnyT E.P .any ops (fun e a w => e = Exit.normal ∧ ∃ σ H M, Rep E σ H M a w ∧ K σ H M) (fun w => Heap E ν Hs Ms w) n f listed a w
  | .done, f, listed, σ, H, M, a, w, hB, inv, hr, _, h => by
    simp only [schTB, Bool.and_eq_true, decide_eq_true_eq] at hB
    simp only [wpH] at h
    have h2 := wpR_sound (E := E) (ops := ops.toList) (K := K) (Q := fun e a w => e = Exit.normal ∧ ∃ σ H M, Rep E σ H M a w ∧ K σ H M) (fun σ H M a w hr hk => ⟨rfl, σ, H, M, hr, hk⟩) (ops.toList.drop n) σ H M a w hr h
    have h3 : (ops.toList.drop n).length = ops.size - n := by simp
    have := wpAnyT_of_seq (P := E.P) (md := .any) (ops := ops) (S := fun w => Heap E ν Hs Ms w) (n := n) (Q' := fun e a w => e = Exit.normal ∧ ∃ σ H M, Rep E σ H M a w ∧ K σ H M) (ops.toList.drop n) n listed a w (fun j => by rw [List.getElem?_drop, Array.getElem?_toList]) (by rw [h3]; exact hB.2) (Nat.le_refl _) (by simpa using h2)
    rw [h3] at this
    rw [hB.1]
    exact this
  | .take i m, f + 1, listed, σ, H, M, a, w, hB, inv, ⟨ν', hs, hh⟩, ⟨hsub, hle⟩, h => by
    simp only [schTB, Bool.and_eq_true, decide_eq_true_eq] at hB
    obtain ⟨hin, ⟨hf, hrd⟩, hB⟩ := hB
    simp only [wpH] at h
    cases ho : ops[i]? with
    | none => rw [show ops.toList[i]? = none by rw [Array.getElem?_toList]; exact ho] at h; exact h.elim
    | some o =>
      rw [show ops.toList[i]? = some o by rw [Array.getElem?_toList]; exact ho] at h
      simp only [opt1] at h
      cases hg : gdOf ops.toList σ o.guard with
      | none => rw [hg] at h; exact h.elim
      | some g =>
        cases hd : o.dst with
        | none => rw [hg, hd] at h; exact h.elim
        | some d =>
          rw [hg, hd] at h
          obtain ⟨⟨hN, h1⟩, hK⟩ := h
          have hgd := gd_spec hs hg o rfl
          obtain ⟨hS, hke⟩ := Heap.stay h0 ht hh hsub hle
          refine wpAnyT_take hsk hch hn hin inv (v := bif g then (pev E.P Hs Ms σ o.op).2.1.val ν' else undef) ho hsel hf hrd (fun c a w h => by obtain ⟨h, _⟩ := h; cases h) ?_ hS ?_
          · cases g with
            | true =>
              obtain ⟨hg1, hc⟩ := h1 rfl
              refine .inl ⟨by simpa using hgd, fun w1 hw1 => ?_⟩
              exact pev_sound hs (Heap.again hw1 ht hke hh.one) o hg1 hc
            | false => exact .inr ⟨by simpa using hgd, rfl⟩
          · refine wpHT_sound hsel hsk hch hn h0 ht m f _ _ H M _ w hB (inv.set (by simpa using hrd) hin) ⟨ν', ?_, hh⟩ ⟨hsub, hle⟩ hK
            rw [hd]
            exact hs.put hN rfl
  | .one i m, f + 1, listed, σ, H, M, a, w, hB, inv, hr, hsm, h => by
    simp only [schTB, Bool.and_eq_true, decide_eq_true_eq, beq_iff_eq] at hB
    refine wpAnyT_all hB.2.1 (by simp) fun j hj => ?_
    obtain rfl : j = i := by simpa using hj
    exact wpHT_op hsel hsk hch hn h0 ht m f listed σ H M a w hB.2.2 (inv.set (by rw [hB.2.1]; simp) hB.1) hr hsm h
  | .two i m i' m2, f + 1, listed, σ, H, M, a, w, hB, inv, hr, hsm, h => by
    simp only [schTB, Bool.and_eq_true, decide_eq_true_eq, beq_iff_eq] at hB
    refine wpAnyT_all hB.2.1 (by simp) fun j hj => ?_
    rcases (by simpa using hj : j = i ∨ j = i') with rfl | rfl
    · exact wpHT_op hsel hsk hch hn h0 ht m f listed σ H M a w hB.2.2.1 (inv.set (by rw [hB.2.1]; simp) hB.1.1) hr hsm h.1
    · exact wpHT_op hsel hsk hch hn h0 ht m2 f listed σ H M a w hB.2.2.2 (inv.set (by rw [hB.2.1]; simp) hB.1.2) hr hsm h.2
  | .take _ _, 0, _, _, _, _, _, _, hB, _, _, _, _ => by simp [schTB] at hB
  | .one _ _, 0, _, _, _, _, _, _, hB, _, _, _, _ => by simp [schTB] at hB
  | .two _ _ _ _, 0, _, _, _, _, _, _, hB, _, _, _, _ => by simp [schTB] at hB
where
  wpHT_op {ops : Array Oper} {K : KP} {w0 : World} {n : Nat} (hsel : Region.noSelect ops = true) (hsk : Region.sinkB .any ops n = true) (hch : Region.chainB .any ops n = true) (hn : n < ops.size) (h0 : Heap E ν Hs Ms w0) (ht : tieds ν Hs) {i : Nat} (m : Sch) (f : Nat) (listed : Array Bool) (σ : Sig) (H : HS) (M : Mem) (a : Act) (w : World)
      (hB : schTB .any ops n m f (listed.setIfInBounds i true) = true) (inv : HeadInv .any ops n (listed.setIfInBounds i true)) (hr : Rep E σ H M a w) (_ : stayH Hs H ∧ Ms.le M)
      (h : opt1 (fun o => efK E o Hs Ms (wpH E ops.toList Hs Ms (wpR E ops.toList K (ops.toList.drop n)) m) σ H M (gdOf ops.toList σ o.guard)) ops.toList[i]?) :
      wpOp E.P ops (fun e a w => e = Exit.normal ∧ ∃ σ H M, Rep E σ H M a w ∧ K σ H M) i (fun a' w' => (i < n → Heap E ν Hs Ms w') ∧ wpAnyT E.P .any ops (fun e a w => e = Exit.normal ∧ ∃ σ H M, Rep E σ H M a w ∧ K σ H M) (fun w => Heap E ν Hs Ms w) n f (listed.setIfInBounds i true) a' w') a w := by
    cases ho : ops[i]? with
    | none => rw [show ops.toList[i]? = none by rw [Array.getElem?_toList]; exact ho] at h; exact h.elim
    | some o =>
      rw [show ops.toList[i]? = some o by rw [Array.getElem?_toList]; exact ho] at h
      simp only [opt1] at h
      obtain ⟨ν', hs, hh⟩ := hr
      cases hg : gdOf ops.toList σ o.guard with
      | none => rw [hg] at h; exact h.elim
      | some g =>
        rw [hg] at h
        simp only [efK] at h
        have hgd := gd_spec hs hg o rfl
        have key := stepK_sound (Nx := fun a' w' => (i < n → Heap E ν Hs Ms w') ∧ wpAnyT E.P .any ops (fun e a w => e = Exit.normal ∧ ∃ σ H M, Rep E σ H M a w ∧ K σ H M) (fun w => Heap E ν Hs Ms w) n f (listed.setIfInBounds i true) a' w')
          (Qx := fun e a w => e = Exit.normal ∧ ∃ σ H M, Rep E σ H M a w ∧ K σ H M)
          (fun σ1 H1 M1 a1 w1 hr1 hk1 => by
            obtain ⟨ν1, hs1, hh1⟩ := hr1
            exact ⟨fun _ => (Heap.stay h0 ht hh1 hk1.1.1 hk1.1.2).1, wpHT_sound hsel hsk hch hn h0 ht m f _ σ1 H1 M1 a1 w1 hB inv ⟨ν1, hs1, hh1⟩ hk1.1 hk1.2⟩) hs hh h
        unfold wpOp
        simp only [ho]
        have hgd' : Region.wanted o (yielded ops a.tmps) = g := by simpa using hgd
        rw [hgd']
        cases g with
        | true => simp only [if_true] at key ⊢; exact .inl key
        | false => simp only [Bool.false_eq_true, if_false] at key ⊢; exact key


/-- a region that draws its order: the first n after a plan (quiet ones taken first, at what of memory stays), the others in their order -/
theorem DrawK.heldT {id : Nat} {ops : Array Oper} {K : KP} (n : Nat) (sel : List Nat) (sch : Sch) (hm : E.P.follows .mixedOrders = true)
    (hB : (Region.noSelect ops && (decide (n < ops.size) && (Region.sinkB .any ops n && (Region.chainB .any ops n && schTB .any ops n sch ops.size (Array.replicate ops.size false))))) = true)
    (h : ∀ xs : Nat → Value, stayH (pickH sel (tieH xs H)) (tieH xs H) ∧ wpH E ops.toList (pickH sel (tieH xs H)) M (wpR E ops.toList K (ops.toList.drop n)) sch σ (tieH xs H) M) : DrawK E id ops K σ H M := by
  rintro a w ⟨ν, hs, hh⟩
  simp only [Bool.and_eq_true, decide_eq_true_eq] at hB
  obtain ⟨hsel, hn, hsk, hch, hsc⟩ := hB
  have h1 := tieH_heap (hh.grow ((Below.refl _ _).drew) : Heap E ν H M { w with drawn := w.drawn + 1 })
  have inv0 : HeadInv .any ops n (Array.replicate ops.size false) :=
    ⟨by simp, fun j oj _ hl => (by rw [getD_replicate_false] at hl; cases hl), fun t _ ht => getD_in (by simpa using ht) (getD_replicate_false _ _)⟩
  exact wp_region_any hm (wpAny_of_T _ _ _ _ (wpHT_sound hsel hsk hch hn (h1.sublist (pickH_sub sel _)) (pickH_tieds sel H) sch _ _ σ _ M a _ hsc inv0 ⟨ν, hs, h1⟩ ⟨(h ν).1, Mem.le.refl M⟩ (h ν).2))
end
end Go.X

namespace Go.Proofs
open Go.Shelf Go.RowKit Go.Lib
def Tryz.lays106_ren : Go.Shelf.Ren := ⟨fun | 106 => 76 | 213 => 94 | 265 => 101 | n => n, fun | 9 => 9 | 3 => 3 | n => n, fun | n => n⟩
theorem Tryz.lays106 : Go.Proofs.Lays.n106 Tryz.prog Tryz.lays106_ren := {
  mixed := by kernel_rfl,
  f106 := Tryz.func76.trans (congrArg some (by kernel_rfl)),
  f213 := Tryz.func94.trans (congrArg some (by kernel_rfl)),
  f265 := Tryz.func101.trans (congrArg some (by kernel_rfl)),
  t3 := Tryz.underlying3,
  a3 := Tryz.isAgg3,
  z3 := Tryz.sizeOf3,
  v3 := Tryz.zeroValue3,
  t9 := Tryz.underlying9,
  a9 := Tryz.isAgg9,
  z9 := Tryz.sizeOf9,
  v9 := Tryz.zeroValue9 }

end Go.Proofs
namespace Go.X.Vo
open Go Go.X Go.RowKit Go.X.Bg Go.X.Nm Go.X.Bp Go.X.Sb

theorem scompare (a b : List UInt8) (M : Mem) : Meets Proofs.Tryz.prog 76 [.v (.string ⟨a.toArray⟩), .v (.string ⟨b.toArray⟩)] M fun r _ _ => r = .v (.int .i64 (cmpN a b)) := by
  refine St.Meets.ofCalls ⟨_, Proofs.Tryz.func76, by kernel_rfl, by kernel_rfl⟩ fun w => ?_
  refine (Proofs.Any.strings_Compare Proofs.Tryz.lays106 ⟨a.toArray⟩ ⟨b.toArray⟩ w).mono ?_
  rintro e w' ⟨rfl, rfl⟩
  exact ⟨rfl, Below.refl _ _⟩
def wvV (w : WV) : SV := .agg [.v (.string ⟨w.2.1.toArray⟩), .v w.1]
theorem addC (x y : WV) (M : Mem) : Meets Proofs.Tryz.prog 75 [wvV x, wvV y] M fun r _ _ => r = .v (.int .i64 (cmpN x.2.1 y.2.1)) := by
  refine Meets.of_body [0,1,2,3,4] Proofs.Tryz.func75 rfl (by kernel_rfl) rfl fun w => ?_
  simp only [Proofs.Tryz.f75, wvV, shs, zts, sos, sls, zss, eqs, sx, sb1, sb2, sb3, sb4, sb5, sb6, sb7, ↓reduceIte, zqa, zqb, zqc, zqd, zqe, zqf, reduceCtorEq, zra, zrb, zrc, zrd, zre, zrf, zrg, zrh, zri, zrj, zrk, zrl, zrm, zqg, nzs]
  refine CallK.pure ⟨rfl, rfl⟩ rfl (scompare x.2.1 y.2.1 M) ?_
  simp only [shs, zts, sos, sls, zss, eqs, sx, sb1, sb2, sb3, sb4, sb5, sb6, sb7, ↓reduceIte, zqa, zqb, zqc, zqd, zqe, zqf, reduceCtorEq, zra, zrb, zrc, zrd, zre, zrf, zrg, zrh, zri, zrj, zrk, zrl, zrm, zqg, nzs]
theorem encV_one {w : WV} (h : w.1.oneCell' = true) : ∀ c ∈ encV w, c.oneCell' = true := fun c hc => by
  simp only [encV, List.mem_cons, List.not_mem_nil, or_false] at hc
  rcases hc with rfl | rfl
  · rfl
  · exact h
theorem vols_mono {ws : List WV} (h : (ws.map (·.2)).Pairwise (fun a b => Op.bytesLess a.1 b.1 = true)) (x : WV) (i j : Nat) (a b : WV) (hij : i ≤ j) (ha : ws[i]? = some a) (hb : ws[j]? = some b) (hc : cmpN b.2.1 x.2.1 < 0) : cmpN a.2.1 x.2.1 < 0 := by
  rw [cmpN_lt] at hc ⊢
  rcases Nat.lt_or_ge i j with hlt | hge
  · have hil := (List.getElem?_eq_some_iff.1 ha).1
    have hjl := (List.getElem?_eq_some_iff.1 hb).1
    have := List.pairwise_iff_getElem.1 h i j (by rw [List.length_map]; omega) (by rw [List.length_map]; omega) hlt
    rw [List.getElem_map, List.getElem_map, (List.getElem?_eq_some_iff.1 ha).2, (List.getElem?_eq_some_iff.1 hb).2] at this
    exact less_trans this hc
  · have : i = j := by omega
    subst this
    rw [ha] at hb
    cases hb
    exact hc
/-- vol.add is lent the row of volumes -/
theorem add (b : Value) (ws : List WV) (x : WV) (M : Mem) (hbo : b.oneCell' = true) (h1 : ∀ w ∈ ws, w.1.oneCell' = true) (hx : x.1.oneCell' = true) (hs : (ws.map (·.2)).Pairwise (fun a b => Op.bytesLess a.1 b.1 = true)) (hl : ws.length ≤ 1000) :
    MeetsH Proofs.Tryz.prog 58 [.agg [.v b, .own 8000], wvV x] [(8000, .row 2 (ws.map encV))] M (OwnR (fun s => .agg [.v b, s]) 2 ((insW ws x).map encV)) := by
  refine MeetsH.of_body [0,1,2,3,4,5] Proofs.Tryz.func58 rfl (by kernel_rfl) fun w M0 => ?_
  simp only [Proofs.Tryz.f58, wvV, shs, zts, sos, sls, zss, eqs, sx, sb1, sb2, sb3, sb4, sb5, sb6, sb7, ↓reduceIte, zqa, zqb, zqc, zqd, zqe, zqf, reduceCtorEq, zra, zrb, zrc, zrd, zre, zrf, zrg, zrh, zri, zrj, zrk, zrl, zrm, zqg, nzs]
  refine CallK.lend (k := 8000) rfl rfl rfl (fun _ => rfl) (fun v M3 hM3 hv => bsV (α := WV) (fun x => .string ⟨x.2.1.toArray⟩) (fun x => x.1) (fun y => cmpN y.2.1 x.2.1) 75 _ _ v ws M3 hv (by omega) ⟨rfl, hx⟩ (fun z hz => addC z x M3) (fun i j a b hij ha hb hc => vols_mono hs x i j a b hij ha hb hc)) ?_
  have hbl := bk_le (fun y : WV => cmpN y.2.1 x.2.1) ws
  have hii : insW ws x = ws.take (bk (fun y : WV => cmpN y.2.1 x.2.1) ws) ++ x :: ws.drop (bk (fun y : WV => cmpN y.2.1 x.2.1) ws) := rfl
  rw [hii]
  generalize bk (fun y : WV => cmpN y.2.1 x.2.1) ws = bi at *
  generalize bf (fun y : WV => cmpN y.2.1 x.2.1) ws = bF
  simp only [shs, zts, sos, sls, zss, eqs, sx, sb1, sb2, sb3, sb4, sb5, sb6, sb7, ↓reduceIte, zqa, zqb, zqc, zqd, zqe, zqf, reduceCtorEq, zra, zrb, zrc, zrd, zre, zrf, zrg, zrh, zri, zrj, zrk, zrl, zrm, zqg, nzs, hx]
  refine CallK.lendR2 (A := fun s t => [s, .v (.int .i64 bi), t]) 8000 144 (fun s t s' t' ν ν' e1 e2 => by simp only [SV.vals, SV.val, e1, e2]) Ctx.id rfl rfl rfl rfl rfl (fun M6 h6 => insertV (ws.map encV) (encV x) bi M6 (by rw [List.length_map]; exact hbl) (by rw [List.length_map]; omega) (fun e he => by
    obtain ⟨y, hy, rfl⟩ := List.mem_map.1 he
    exact ⟨rfl, encV_one (h1 y hy)⟩) ⟨rfl, encV_one hx⟩) rfl ?_
  simp only [shs, zts, sos, sls, zss, eqs, sx, sb1, sb2, sb3, sb4, sb5, sb6, sb7, ↓reduceIte, zqa, zqb, zqc, zqd, zqe, zqf, reduceCtorEq, zra, zrb, zrc, zrd, zre, zrf, zrg, zrh, zri, zrj, zrk, zrl, zrm, zqg, nzs]
  refine ⟨hbo, 152, rfl, ?_⟩
  simp [hget, List.map_take, List.map_drop, encV]
theorem vfresh (b v : Value) (ws : List WV) (n : List UInt8) (M : Mem) (hv : VolsM M v ws) (hl : ws.length ≤ 6) :
    Meets Proofs.Tryz.prog 57 [stV b v, .v (.string ⟨n.toArray⟩)] M fun r _ _ => r = .v (.int .i64 (freshE (ws.map (·.2)) n)) := by
  refine Meets.of_body [0,1,2,4,5,9,14] Proofs.Tryz.func57 rfl (by kernel_rfl) rfl fun w => ?_
  generalize hc : freshE (ws.map (·.2)) n = c
  unfold freshE at hc
  rw [List.length_map] at hc
  have hF := find b v ws n M hv
  simp only [stV] at hF
  simp only [Proofs.Tryz.f57, stV, shs, zts, sos, sls, zss, eqs, sx, sb1, sb2, sb3, sb4, sb5, sb6, sb7, ↓reduceIte, zqa, zqb, zqc, zqd, zqe, zqf, reduceCtorEq, zra, zrb, zrc, zrd, zre, zrf, zrg, zrh, zri, zrj, zrk, zrl, zrm, zqg, nzs]
  refine CallK.pure ⟨rfl, rfl⟩ rfl (nameW n M) ?_
  cases hN : nmB n with
  | false =>
    rw [if_pos hN] at hc
    subst hc
    simp only [shs, zts, sos, sls, zss, eqs, sx, sb1, sb2, sb3, sb4, sb5, sb6, sb7, ↓reduceIte, zqa, zqb, zqc, zqd, zqe, zqf, reduceCtorEq, zra, zrb, zrc, zrd, zre, zrf, zrg, zrh, zri, zrj, zrk, zrl, zrm, zqg, nzs]
  | true =>
  rw [if_neg (by rw [hN]; decide)] at hc
  simp only [shs, zts, sos, sls, zss, eqs, sx, sb1, sb2, sb3, sb4, sb5, sb6, sb7, ↓reduceIte, zqa, zqb, zqc, zqd, zqe, zqf, reduceCtorEq, zra, zrb, zrc, zrd, zre, zrf, zrg, zrh, zri, zrj, zrk, zrl, zrm, zqg, nzs]
  refine CallK.pure ⟨rfl, rfl⟩ rfl hF ?_
  by_cases h2 : 0 ≤ volIx (ws.map (·.2)) n
  · have c2 := eq_true h2
    rw [if_pos h2] at hc
    subst hc
    simp only [shs, zts, sos, sls, zss, eqs, sx, sb1, sb2, sb3, sb4, sb5, sb6, sb7, ↓reduceIte, zqa, zqb, zqc, zqd, zqe, zqf, reduceCtorEq, zra, zrb, zrc, zrd, zre, zrf, zrg, zrh, zri, zrj, zrk, zrl, zrm, zqg, nzs, c2]
  have c2 := eq_false h2
  rw [if_neg h2] at hc
  by_cases h3 : ws.length = 6
  · have c3 : ((ws.length : Int) = 6) = True := eq_true (by omega)
    rw [if_pos (by omega)] at hc
    subst hc
    simp only [shs, zts, sos, sls, zss, eqs, sx, sb1, sb2, sb3, sb4, sb5, sb6, sb7, ↓reduceIte, zqa, zqb, zqc, zqd, zqe, zqf, reduceCtorEq, zra, zrb, zrc, zrd, zre, zrf, zrg, zrh, zri, zrj, zrk, zrl, zrm, zqg, nzs, c2, hv.row.len, hv.row.sl, List.length_map, c3]
  · have c3 : ((ws.length : Int) = 6) = False := eq_false (by omega)
    rw [if_neg (by omega)] at hc
    subst hc
    simp only [shs, zts, sos, sls, zss, eqs, sx, sb1, sb2, sb3, sb4, sb5, sb6, sb7, ↓reduceIte, zqa, zqb, zqc, zqd, zqe, zqf, reduceCtorEq, zra, zrb, zrc, zrd, zre, zrf, zrg, zrh, zri, zrj, zrk, zrl, zrm, zqg, nzs, c2, hv.row.len, hv.row.sl, List.length_map, c3]
/-- vol.Copied: nothing is shared -/
theorem copied (b v : Value) (bag : List It) (ws : List WV) (M : Mem) (hb : RowM M b 4 (bag.map Bg.encT)) (hv : VolsM M v ws) (hlb : bag.length ≤ 1000) (hlv : ws.length ≤ 1000) (hli : ∀ w ∈ ws, w.2.2.length ≤ 1000) :
    Meets Proofs.Tryz.prog 59 [stV b v] M (StK M (fun s => s) (bag, ws.map (·.2))) := by
  refine Meets.settleF Ctx.id ?_
  refine Meets.of_body [0,1,2,3,5,11,12,13,14] Proofs.Tryz.func59 rfl (by kernel_rfl) rfl fun w => ?_
  simp only [Proofs.Tryz.f59, stV, shs, zts, sos, sls, zss, eqs, sx, sb1, sb2, sb3, sb4, sb5, sb6, sb7, ↓reduceIte, zqa, zqb, zqc, zqd, zqe, zqf, reduceCtorEq, zra, zrb, zrc, zrd, zre, zrf, zrg, zrh, zri, zrj, zrk, zrl, zrm, zqg, nzs]
  refine CallK.rowF Ctx.id rfl rfl (cloneB b bag M hb (by omega)) fun b2 M1 hM1 hb2 hbf => ?_
  have hv1 := hv.le hM1
  simp only [shs, zts, sos, sls, zss, eqs, sx, sb1, sb2, sb3, sb4, sb5, sb6, sb7, ↓reduceIte, zqa, zqb, zqc, zqd, zqe, zqf, reduceCtorEq, zra, zrb, zrc, zrd, zre, zrf, zrg, zrh, zri, zrj, zrk, zrl, zrm, zqg, nzs, hdel, sigDrop, sigDropA, oneVs hb2.row.sl, hb2.row.one, hv.row.len, hv.row.sl, List.length_map]
  refine LoopK.nilBox 24 1 100 2 rfl rfl rfl rfl rfl ?_
  refine LoopK.go (X := Nat × List WV × Mem) (fun x => ([(1, true, .ptr 8 0 0 0), (2, true, .ptr 16 0 0 0), (3, true, .ptr 24 0 0 0), (11, true, .v v), (12, true, .v (.int .i64 ws.length)), (13, true, .v (.int .i64 x.1))],
      [(800, .row 2 (x.2.1.map encV)), (24, .box [.v b2, .own 800] none), (16, .box [.v (.slice none 0 0), .v (.slice none 0 0)] none), (8, .box [.v b, .v v] none)], x.2.2))
    (fun x => (x.1 ≤ ws.length ∧ M1.le x.2.2) ∧ x.2.1.map (·.2) = (ws.take x.1).map (·.2) ∧ (∀ w ∈ x.2.1, RowF x.2.2 w.1 3 (w.2.2.map encI3) ∧ freshB M1 w.1) ∧ (x.2.1.map (·.1)).Pairwise apartB) (fun x => ws.length - x.1) (0, [], M1) ⟨⟨Nat.zero_le _, Mem.le.refl M1⟩, by simp, fun w hw => by (cases hw), .nil⟩ (Ent.of ?_) ?_
  · simp only [sx, sb1, sb2, sb3, sb4, sb5, sb6, sb7, ↓reduceIte, zqa, zqb, zqc, zqd, zqe, zqf, reduceCtorEq, zra, zrb, zrc, zrd, zre, zrf, zrg, zrh, zri, zrj, zrk, zrl, zrm, zqg, List.map_nil, zrk]
  rintro ⟨i, us, N⟩ ⟨⟨n1, nM⟩, n2, n3, n4⟩
  simp only at n1 nM n2 n3 n4
  have hul : us.length = i := by
    have := congrArg List.length n2
    rw [List.length_map, List.length_map, List.length_take] at this
    omega
  by_cases hil : i < ws.length
  rotate_left
  · have d1 : ((i : Int) < (ws.length : Int)) = False := eq_false (by omega)
    rw [List.take_of_length_le (by omega)] at n2
    simp only [shs, zts, sos, sls, zss, eqs, sx, sb1, sb2, sb3, sb4, sb5, sb6, sb7, ↓reduceIte, zqa, zqb, zqc, zqd, zqe, zqf, reduceCtorEq, zra, zrb, zrc, zrd, zre, zrf, zrg, zrh, zri, zrj, zrk, zrl, zrm, zqg, nzs, d1]
    refine ⟨hb2.row.one, .v b2, .own 800, us, rfl, n2, (fun k hk => by cases hk), ⟨⟨hb2.le nM, hbf⟩, rfl⟩, fun w hw => ⟨(n3 w hw).1, (n3 w hw).2.of_le hM1⟩, ?_⟩
    refine List.pairwise_cons.2 ⟨fun y hy => ?_, n4⟩
    simp only [known, List.nil_append] at hy
    obtain ⟨w, hw, rfl⟩ := List.mem_map.1 hy
    exact (RowF.apart hb2 (n3 w hw).2).symm
  have d1 : ((i : Int) < (ws.length : Int)) = True := eq_true (by omega)
  obtain ⟨x, hx, _⟩ := l_drop_at (l := ws) (i := i) hil
  have hvN := hv1.le nM
  obtain ⟨g0, g1, i0⟩ := vol_at hvN hx
  have hxm := List.mem_of_getElem? hx
  have hblk := hvN.blk x hxm
  simp only [shs, zts, sos, sls, zss, eqs, sx, sb1, sb2, sb3, sb4, sb5, sb6, sb7, ↓reduceIte, zqa, zqb, zqc, zqd, zqe, zqf, reduceCtorEq, zra, zrb, zrc, zrd, zre, zrf, zrg, zrh, zri, zrj, zrk, zrl, zrm, zqg, nzs, d1, i0, i0.2, g0.1, g0.2, g1.1, g1.2, hblk.one]
  refine DrawK.pubF (k := 800) rfl fun v' N' hN' hv' hvf' => ?_
  have hblk' := hblk.le hN'
  have hnext : ∀ (u : Value) (N2 N3 : Mem), N'.le N2 → RowF N2 u 3 (x.2.2.map encI3) → freshB N' u → butB N2 N3 v' → (M1.le N3 ∧ (us ++ [(u, x.2)]).map (·.2) = (ws.take (i + 1)).map (·.2)) ∧ (∀ w ∈ us ++ [(u, x.2)], RowF N3 w.1 3 (w.2.2.map encI3) ∧ freshB M1 w.1) ∧ ((us ++ [(u, x.2)]).map (·.1)).Pairwise apartB := fun u N2 N3 hN2 hu huf hb3 => by
    refine ⟨⟨?_, ?_⟩, fun w hw => ?_, ?_⟩
    · exact le_but (nM.trans (hN'.trans hN2)) (hvf'.of_le nM) hb3
    · rw [List.take_add_one, hx, List.map_append, List.map_append, n2]
      rfl
    · rcases List.mem_append.1 hw with hw | hw
      · exact ⟨RowF.but (((n3 w hw).1.le hN').le hN2) hb3 (RowF.apart (n3 w hw).1 hvf'), (n3 w hw).2⟩
      · rw [List.mem_singleton.1 hw]
        exact ⟨RowF.but hu hb3 (RowF.apart hv' huf).symm, huf.of_le (nM.trans hN')⟩
    · rw [List.map_append, List.pairwise_append]
      refine ⟨n4, List.pairwise_singleton _ _, fun y hy z hz => ?_⟩
      obtain ⟨w, hw, rfl⟩ := List.mem_map.1 hy
      simp only [List.map_cons, List.map_nil, List.mem_singleton] at hz
      subst hz
      exact (RowF.apart ((n3 w hw).1.le hN') huf).symm
  have hrow : ∀ u : Value, us.map encV ++ [[.string ⟨x.2.1.toArray⟩, u]] = (us ++ [(u, x.2)]).map encV := fun u => by
    rw [List.map_append]; rfl
  rcases RowF.nil_or hv' with ⟨e, hnil⟩ | ⟨bb, cap, e⟩
  · have hus : us = [] := by simpa using hnil
    subst e
    refine DrawK.heldT 9 [8, 24, 40] (tk [0, 2, 4, 1, 3, 5] (.one 6 (tk [7] (.one 8 .done)))) (by kernel_rfl) (by kernel_rfl) fun xs => ?_
    simp only [shs, zts, sos, sls, zss, eqs, sx, sb1, sb2, sb3, sb4, sb5, sb6, sb7, ↓reduceIte, zqa, zqb, zqc, zqd, zqe, zqf, reduceCtorEq, zra, zrb, zrc, zrd, zre, zrf, zrg, zrh, zri, zrj, zrk, zrl, zrm, zqg, sp1, sp2, sp3, nzs, se1, se2, tks]
    refine CallK.rowF Ctx.id rfl rfl (cloneI x.1 x.2.2 N' hblk' (Nat.le_trans (hli x hxm) (by omega))) fun u N2 hN2 hu huf => ?_
    simp only [shs, zts, sos, sls, zss, eqs, sx, sb1, sb2, sb3, sb4, sb5, sb6, sb7, ↓reduceIte, zqa, zqb, zqc, zqd, zqe, zqf, reduceCtorEq, zra, zrb, zrc, zrd, zre, zrf, zrg, zrh, zri, zrj, zrk, zrl, zrm, zqg, nzs, se1, se2, tks, oneVs hu.row.sl, hu.row.one, inK, lo, hi]
    obtain ⟨⟨q1, q2⟩, q3, q4⟩ := hnext u N2 N2 hN2 hu huf (fun _ _ => rfl)
    have hr := hrow u
    subst hus
    simp only [List.map_nil, List.nil_append] at hr q2 q3 q4
    refine ⟨hN2, hN2, by omega, (i + 1, [(u, x.2)], N2), ⟨⟨⟨by simp only; omega, q1⟩, q2, q3, q4⟩, by simp only; omega⟩, Ent.heap (HEnt.untie (k := 8) rfl) (Ent.heap (HEnt.untie (k := 16) rfl) (Ent.heap (HEnt.untie (k := 24) rfl) (Ent.rekeyB 24 1 208 100 2 _ rfl rfl rfl rfl rfl (Ent.of ?_))))⟩
    simp only [sx, sb1, sb2, sb3, sb4, sb5, sb6, sb7, ↓reduceIte, zqa, zqb, zqc, zqd, zqe, zqf, reduceCtorEq, zra, zrb, zrc, zrd, zre, zrf, zrg, zrh, zri, zrj, zrk, zrl, zrm, zqg, Int.natCast_add, hr, hset]
  · subst e
    refine DrawK.heldT 9 [8, 24, 40] (tk [0, 2, 4, 1, 3, 5] (.one 6 (tk [7] (.one 8 .done)))) (by kernel_rfl) (by kernel_rfl) fun xs => ?_
    simp only [shs, zts, sos, sls, zss, eqs, sx, sb1, sb2, sb3, sb4, sb5, sb6, sb7, ↓reduceIte, zqa, zqb, zqc, zqd, zqe, zqf, reduceCtorEq, zra, zrb, zrc, zrd, zre, zrf, zrg, zrh, zri, zrj, zrk, zrl, zrm, zqg, sp1, sp2, sp3, nzs, se1, se2, tks]
    refine CallK.rowF Ctx.id rfl rfl (cloneI x.1 x.2.2 N' hblk' (Nat.le_trans (hli x hxm) (by omega))) fun u N2 hN2 hu huf => ?_
    simp only [shs, zts, sos, sls, zss, eqs, sx, sb1, sb2, sb3, sb4, sb5, sb6, sb7, ↓reduceIte, zqa, zqb, zqc, zqd, zqe, zqf, reduceCtorEq, zra, zrb, zrc, zrd, zre, zrf, zrg, zrh, zri, zrj, zrk, zrl, zrm, zqg, nzs, se1, se2, tks, oneVs hu.row.sl, hu.row.one, rowOf_some]
    refine ⟨hN2, hN2, OpK.claim 18 100 rfl rfl (hv'.le hN2) (hvf'.of_le (hM1.trans nM)) rfl rfl fun N3 hb3 => OpK.step ?_⟩
    simp only [shs, zts, sos, sls, zss, eqs, sx, sb1, sb2, sb3, sb4, sb5, sb6, sb7, ↓reduceIte, zqa, zqb, zqc, zqd, zqe, zqf, reduceCtorEq, zra, zrb, zrc, zrd, zre, zrf, zrg, zrh, zri, zrj, zrk, zrl, zrm, zqg, nzs, inK, lo, hi, List.length_map, hul, hrow]
    obtain ⟨⟨q1, q2⟩, q3, q4⟩ := hnext u N2 N3 hN2 hu huf hb3
    refine ⟨⟨by omega, by omega⟩, by omega, (i + 1, us ++ [(u, x.2)], N3), ⟨⟨⟨by simp only; omega, q1⟩, q2, q3, q4⟩, by simp only; omega⟩, Ent.heap (HEnt.untie (k := 8) rfl) (Ent.heap (HEnt.untie (k := 16) rfl) (Ent.heap (HEnt.untie (k := 24) rfl) (Ent.rekeyB 24 1 208 100 2 _ rfl rfl rfl rfl rfl (Ent.of ?_))))⟩
    simp only [sx, sb1, sb2, sb3, sb4, sb5, sb6, sb7, ↓reduceIte, zqa, zqb, zqc, zqd, zqe, zqf, reduceCtorEq, zra, zrb, zrc, zrd, zre, zrf, zrg, zrh, zri, zrj, zrk, zrl, zrm, zqg, Int.natCast_add, hset]
end Go.X.Vo

namespace Go.X.Vo
open Go Go.X Go.RowKit Go.X.Bg Go.X.Nm Go.X.Bp Go.X.Sb

theorem stO_zero (e : Value) (H : HS) (M : Mem) : StO (fun s => .tup [s, .v e]) zSt (.tup [.agg [.v (.slice none 0 0), .v (.slice none 0 0)], .v e]) H M :=
  ⟨.v (.slice none 0 0), .v (.slice none 0 0), [], rfl, rfl, fun k h => (by cases h), ⟨RowM.nil M 4, RowM.nil M 2⟩, fun w hw => by cases hw⟩
theorem insW_mem {l : List WV} {x y : WV} (h : y ∈ insW l x) : y ∈ l ∨ y = x := by
  unfold insW at h
  rcases List.mem_append.1 h with h | h
  · exact .inl (List.mem_of_mem_take h)
  · rcases List.mem_cons.1 h with rfl | h
    · exact .inr rfl
    · exact .inl (List.mem_of_mem_drop h)
/-- what stays known when the row of volumes is lent -/
theorem StF.added {M0 M2 M3 M4 : Mem} {b v u : Value} {bag : List It} {ws : List WV} {n : List UInt8} {ids : List Id3} (h : StF M0 M2 b v bag ws) (h0 : M0.le M2) (hM : M2.le M3) (hu : RowF M3 u 3 (ids.map encI3)) (hf : freshB M2 u) (hb : butB M3 M4 v) :
    M0.le M4 ∧ RowM M4 b 4 (bag.map Bg.encT) ∧ ∀ w ∈ insW ws (u, n, ids), RowM M4 w.1 3 (w.2.2.map encI3) := by
  obtain ⟨g1, g2⟩ := (h.le hM).offV hb
  refine ⟨le_but (h0.trans hM) h.fv hb, g1.row, fun w hw => ?_⟩
  rcases insW_mem hw with hw | rfl
  · exact (g2 w hw).row
  · exact (RowF.but hu hb (RowF.apart h.vols hf).symm).row
theorem hT_agg (b : Value) : Ctx (fun s => .agg [.v b, s]) := fun s s' ν ν' h => by simp only [SV.val, SV.vals, h]
theorem hA_add (b : Value) (x : SV) (hx : x.conc = true) : Ctxs (fun s => [.agg [.v b, s], x]) := fun s s' ν ν' h => by
  simp only [SV.vals, SV.val, h, SV.conc_val (ν := ν) (ν' := ν') x hx]
theorem replicate_hole (k : Nat) : (List.replicate k hole).map encI3 = List.replicate k [.bool false, .int .i64 0, .int .i64 0] := by
  rw [List.map_replicate]
  rfl
theorem make (b v : Value) (bag : List It) (ws : List WV) (n : List UInt8) (k : Int) (M : Mem) (hb : RowM M b 4 (bag.map Bg.encT)) (hv : VolsM M v ws) :
    Meets Proofs.Tryz.prog 32 [stV b v, .v (.string ⟨n.toArray⟩), .v (.int .i64 k)] M (StM (fun s => .tup [s, .v (.int .i64 (makeA bag (ws.map (·.2)) n k).2)]) (makeA bag (ws.map (·.2)) n k).1) := by
  refine Meets.settleM (Ctx.fst _) ?_
  refine Meets.of_body [0,1,2,3,6,7,8,9,13,21,27] Proofs.Tryz.func32 rfl (by kernel_rfl) rfl fun w => ?_
  generalize hc : makeA bag (ws.map (·.2)) n k = c
  unfold makeA at hc
  have hC := vcheck b v bag ws M hb hv
  simp only [stV] at hC
  simp only [Proofs.Tryz.f32, stV, shs, zts, sos, sls, zss, eqs, sx, sb1, sb2, sb3, sb4, sb5, sb6, sb7, ↓reduceIte, zqa, zqb, zqc, zqd, zqe, zqf, reduceCtorEq, zra, zrb, zrc, zrd, zre, zrf, zrg, zrh, zri, zrj, zrk, zrl, zrm, zqg, nzs]
  refine CallK.pure ⟨rfl, rfl⟩ rfl hC ?_
  by_cases h1 : stE bag (ws.map (·.2)) = 0
  rotate_left
  · have c1 := eq_false h1
    rw [if_pos h1] at hc
    subst hc
    simp only [shs, zts, sos, sls, zss, eqs, sx, sb1, sb2, sb3, sb4, sb5, sb6, sb7, ↓reduceIte, zqa, zqb, zqc, zqd, zqe, zqf, reduceCtorEq, zra, zrb, zrc, zrd, zre, zrf, zrg, zrh, zri, zrj, zrk, zrl, zrm, zqg, nzs, c1]
    exact stO_zero _ _ _
  rw [if_neg (fun h => h h1)] at hc
  obtain ⟨hB, hV, _⟩ := stE_ok h1
  have hVo := volsE_ok hV
  have hsrt := vols_srt hV
  have hbl := bag_len hB
  rw [List.length_map] at hVo
  have hli : ∀ w ∈ ws, w.2.2.length ≤ 32 := fun w hw => (hVo.2 w.2 (List.mem_map_of_mem hw)).1
  by_cases h2 : k < 1
  · have c2 := eq_true h2
    rw [if_pos (.inl h2)] at hc
    subst hc
    simp only [shs, zts, sos, sls, zss, eqs, sx, sb1, sb2, sb3, sb4, sb5, sb6, sb7, ↓reduceIte, zqa, zqb, zqc, zqd, zqe, zqf, reduceCtorEq, zra, zrb, zrc, zrd, zre, zrf, zrg, zrh, zri, zrj, zrk, zrl, zrm, zqg, nzs, h1, c2]
    exact stO_zero _ _ _
  have c2 := eq_false h2
  by_cases h3 : 32 < k
  · have c3 := eq_true h3
    rw [if_pos (.inr h3)] at hc
    subst hc
    simp only [shs, zts, sos, sls, zss, eqs, sx, sb1, sb2, sb3, sb4, sb5, sb6, sb7, ↓reduceIte, zqa, zqb, zqc, zqd, zqe, zqf, reduceCtorEq, zra, zrb, zrc, zrd, zre, zrf, zrg, zrh, zri, zrj, zrk, zrl, zrm, zqg, nzs, h1, c2, c3]
    exact stO_zero _ _ _
  have c3 := eq_false h3
  rw [if_neg (by omega)] at hc
  have hF := vfresh b v ws n M hv hVo.1
  simp only [stV] at hF
  simp only [shs, zts, sos, sls, zss, eqs, sx, sb1, sb2, sb3, sb4, sb5, sb6, sb7, ↓reduceIte, zqa, zqb, zqc, zqd, zqe, zqf, reduceCtorEq, zra, zrb, zrc, zrd, zre, zrf, zrg, zrh, zri, zrj, zrk, zrl, zrm, zqg, nzs, h1, c2, c3]
  refine CallK.pure ⟨rfl, rfl⟩ rfl hF ?_
  by_cases h4 : freshE (ws.map (·.2)) n = 0
  rotate_left
  · have c4 := eq_false h4
    rw [if_pos h4] at hc
    subst hc
    simp only [shs, zts, sos, sls, zss, eqs, sx, sb1, sb2, sb3, sb4, sb5, sb6, sb7, ↓reduceIte, zqa, zqb, zqc, zqd, zqe, zqf, reduceCtorEq, zra, zrb, zrc, zrd, zre, zrf, zrg, zrh, zri, zrj, zrk, zrl, zrm, zqg, nzs, c4]
    exact stO_zero _ _ _
  rw [if_neg (fun h => h h4)] at hc
  subst hc
  obtain ⟨m, rfl⟩ : ∃ m : Nat, k = m := ⟨k.toNat, by omega⟩
  have hcp := copied b v bag ws M hb hv (by omega) (by omega) (fun w hw => Nat.le_trans (hli w hw) (by omega))
  simp only [stV] at hcp
  simp only [shs, zts, sos, sls, zss, eqs, sx, sb1, sb2, sb3, sb4, sb5, sb6, sb7, ↓reduceIte, zqa, zqb, zqc, zqd, zqe, zqf, reduceCtorEq, zra, zrb, zrc, zrd, zre, zrf, zrg, zrh, zri, zrj, zrk, zrl, zrm, zqg, nzs, h4]
  have hend : ∀ (b2 v2 u : Value) (ws2 : List WV) (M2 M3 M4 : Mem), M.le M2 → ws2.map (·.2) = ws.map (·.2) → StF M M2 b2 v2 bag ws2 → M2.le M3 → RowF M3 u 3 ((List.replicate m hole).map encI3) → freshB M2 u → butB M3 M4 v2 →
      M.le M4 ∧ ∀ H, hget H 288 = some (.row 2 ((insW ws2 (u, n, List.replicate m hole)).map encV)) → StO (fun s => .tup [s, .v (.int .i64 0)]) (makeS bag (ws.map (·.2)) n m) (.tup [.agg [.v b2, .own 288], .v (.int .i64 0)]) H M4 := fun b2 v2 u ws2 M2 M3 M4 hM2 hw2 hS hM3 hu huf hb4 => by
    obtain ⟨q1, q2, q3⟩ := hS.added (n := n) hM2 hM3 hu huf hb4
    refine ⟨q1, fun H hH => ⟨.v b2, .own 288, insW ws2 (u, n, List.replicate m hole), rfl, ?_, fun k h => (by cases h), ⟨q2, hH⟩, q3⟩⟩
    rw [insW_map, hw2]
    simp only [makeS]
  have hadd : ∀ (b2 u : Value) (ws2 : List WV) (M2 M6 : Mem) (v2 : Value), ws2.map (·.2) = ws.map (·.2) → StF M M2 b2 v2 bag ws2 → u.oneCell' = true → MeetsH Proofs.Tryz.prog 58 [.agg [.v b2, .own 8000], wvV (u, n, List.replicate m hole)] [(8000, .row 2 (ws2.map encV))] M6 (OwnR (fun s => .agg [.v b2, s]) 2 ((insW ws2 (u, n, List.replicate m hole)).map encV)) := fun b2 u ws2 M2 M6 v2 hw2 hS hu => by
    refine add b2 ws2 (u, n, List.replicate m hole) M6 hS.bag.row.one (fun w hw => (hS.blk w hw).row.one) hu (by rw [hw2]; exact hsrt) ?_
    have := congrArg List.length hw2
    rw [List.length_map, List.length_map] at this
    omega
  refine DrawK.held [24] (tk [0, 2, 3] (.two 1 (.one 4 (tk [5] (.one 6 (.one 7 (tk [8] .done))))) 4 (tk [5] (.one 1 (.one 6 (.one 7 (tk [8] .done))))))) (by kernel_rfl) (by kernel_rfl) fun xs => ?_
  simp only [shs, zts, sos, sls, zss, eqs, sx, sb1, sb2, sb3, sb4, sb5, sb6, sb7, ↓reduceIte, zqa, zqb, zqc, zqd, zqe, zqf, reduceCtorEq, zra, zrb, zrc, zrd, zre, zrf, zrg, zrh, zri, zrj, zrk, zrl, zrm, zqg, nzs, se1, se2, tks, ← replicate_hole]
  refine ⟨?_, ?_⟩
  · refine CallK.stF (T := fun s => s) (fun _ _ => rfl) rfl rfl hcp fun b2 v2 ws2 M2 hM2 hw2 hS => ?_
    simp only [shs, zts, sos, sls, zss, eqs, sx, sb1, sb2, sb3, sb4, sb5, sb6, sb7, ↓reduceIte, zqa, zqb, zqc, zqd, zqe, zqf, reduceCtorEq, zra, zrb, zrc, zrd, zre, zrf, zrg, zrh, zri, zrj, zrk, zrl, zrm, zqg, nzs, se1, se2, tks, ← replicate_hole, stV]
    refine ⟨hM2, ⟨⟨by omega, by omega⟩, by omega, by omega⟩, hM2, ?_⟩
    refine CallK.pubF (k := 272) rfl fun u M3 hM3 hu huf => ?_
    simp only [shs, zts, sos, sls, zss, eqs, sx, sb1, sb2, sb3, sb4, sb5, sb6, sb7, ↓reduceIte, zqa, zqb, zqc, zqd, zqe, zqf, reduceCtorEq, zra, zrb, zrc, zrd, zre, zrf, zrg, zrh, zri, zrj, zrk, zrl, zrm, zqg, sp1, sp2, sp3, nzs]
    refine CallK.claim (A := fun s => [.agg [.v b2, s], wvV (u, n, List.replicate m hole)]) 1000 (hA_add b2 (wvV (u, n, List.replicate m hole)) rfl) rfl (hS.vols.le hM3) hS.fv rfl rfl fun M4 hb4 => ?_
    refine CallK.lendR (A := fun s => [.agg [.v b2, s], wvV (u, n, List.replicate m hole)]) (T := fun s => .agg [.v b2, s]) 8000 (hA_add b2 (wvV (u, n, List.replicate m hole)) rfl) (hT_agg b2) rfl rfl rfl (fun M6 _ => hadd b2 u ws2 M2 M6 v2 hw2 hS hu.row.one) rfl ?_
    obtain ⟨e1, e2⟩ := hend b2 v2 u ws2 M2 M3 M4 hM2 hw2 hS hM3 hu huf hb4
    simp only [shs, zts, sos, sls, zss, eqs, sx, sb1, sb2, sb3, sb4, sb5, sb6, sb7, ↓reduceIte, zqa, zqb, zqc, zqd, zqe, zqf, reduceCtorEq, zra, zrb, zrc, zrd, zre, zrf, zrg, zrh, zri, zrj, zrk, zrl, zrm, zqg, sp1, sp2, sp3, nzs, se1, se2, tks, hS.bag.row.one]
    exact ⟨e1, e1, e2 _ rfl⟩
  · refine ⟨⟨⟨by omega, by omega⟩, by omega, by omega⟩, CallK.stF (T := fun s => s) (fun _ _ => rfl) rfl rfl hcp fun b2 v2 ws2 M2 hM2 hw2 hS => ?_⟩
    simp only [shs, zts, sos, sls, zss, eqs, sx, sb1, sb2, sb3, sb4, sb5, sb6, sb7, ↓reduceIte, zqa, zqb, zqc, zqd, zqe, zqf, reduceCtorEq, zra, zrb, zrc, zrd, zre, zrf, zrg, zrh, zri, zrj, zrk, zrl, zrm, zqg, nzs, se1, se2, tks, stV]
    refine ⟨hM2, ?_⟩
    refine CallK.pubF (k := 272) rfl fun u M3 hM3 hu huf => ?_
    simp only [shs, zts, sos, sls, zss, eqs, sx, sb1, sb2, sb3, sb4, sb5, sb6, sb7, ↓reduceIte, zqa, zqb, zqc, zqd, zqe, zqf, reduceCtorEq, zra, zrb, zrc, zrd, zre, zrf, zrg, zrh, zri, zrj, zrk, zrl, zrm, zqg, sp1, sp2, sp3, nzs]
    refine CallK.claim (A := fun s => [.agg [.v b2, s], wvV (u, n, List.replicate m hole)]) 1000 (hA_add b2 (wvV (u, n, List.replicate m hole)) rfl) rfl (hS.vols.le hM3) hS.fv rfl rfl fun M4 hb4 => ?_
    refine CallK.lendR (A := fun s => [.agg [.v b2, s], wvV (u, n, List.replicate m hole)]) (T := fun s => .agg [.v b2, s]) 8000 (hA_add b2 (wvV (u, n, List.replicate m hole)) rfl) (hT_agg b2) rfl rfl rfl (fun M6 _ => hadd b2 u ws2 M2 M6 v2 hw2 hS hu.row.one) rfl ?_
    obtain ⟨e1, e2⟩ := hend b2 v2 u ws2 M2 M3 M4 hM2 hw2 hS hM3 hu huf hb4
    simp only [shs, zts, sos, sls, zss, eqs, sx, sb1, sb2, sb3, sb4, sb5, sb6, sb7, ↓reduceIte, zqa, zqb, zqc, zqd, zqe, zqf, reduceCtorEq, zra, zrb, zrc, zrd, zre, zrf, zrg, zrh, zri, zrj, zrk, zrl, zrm, zqg, sp1, sp2, sp3, nzs, se1, se2, tks, hS.bag.row.one]
    exact ⟨e1, e1, e2 _ rfl⟩
end Go.X.Vo

