/- Contracts of functions and the logic that they are proved in (6 texts in one). Conditions: none. -/
import Derived.Test.YteebcojoghnlnaaGreatDoorMg17
import Derived.Test.YteebcojoghnlnaaGreatDoorMg18
namespace Go.X.Bg
end Go.X.Bg
namespace Go.X.Nm
end Go.X.Nm
namespace Go.X.Bp
end Go.X.Bp
namespace Go.X.Sb
end Go.X.Sb
set_option linter.unusedSimpArgs false
set_option linter.unusedVariables false
set_option maxHeartbeats 4000000
set_option maxRecDepth 20000
namespace Go.X
open Go Go.RowKit
inductive Sch3 where
  | done
  | take (i : Nat) (n : Sch3)
  | one (i : Nat) (n : Sch3)
  | two (i : Nat) (n : Sch3) (j : Nat) (m : Sch3)
  | three (i : Nat) (n : Sch3) (j : Nat) (m : Sch3) (k : Nat) (q : Sch3)
def wpH3 (E : Env) (ops : List Oper) (Hs : HS) (Ms : Mem) (K : KP) : Sch3 → Sig → HS → Mem → Prop
  | .done, σ, H, M => K σ H M
  | .take i n, σ, H, M => opt1 (fun o => qtK E o Hs Ms (wpH3 E ops Hs Ms K n) σ H M (gdOf ops σ o.guard) o.dst) ops[i]?
  | .one i n, σ, H, M => opt1 (fun o => efK E o Hs Ms (wpH3 E ops Hs Ms K n) σ H M (gdOf ops σ o.guard)) ops[i]?
  | .two i n j m, σ, H, M => opt1 (fun o => efK E o Hs Ms (wpH3 E ops Hs Ms K n) σ H M (gdOf ops σ o.guard)) ops[i]? ∧ opt1 (fun o => efK E o Hs Ms (wpH3 E ops Hs Ms K m) σ H M (gdOf ops σ o.guard)) ops[j]?
  | .three i n j m k q, σ, H, M => opt1 (fun o => efK E o Hs Ms (wpH3 E ops Hs Ms K n) σ H M (gdOf ops σ o.guard)) ops[i]? ∧ opt1 (fun o => efK E o Hs Ms (wpH3 E ops Hs Ms K m) σ H M (gdOf ops σ o.guard)) ops[j]? ∧ opt1 (fun o => efK E o Hs Ms (wpH3 E ops Hs Ms K q) σ H M (gdOf ops σ o.guard)) ops[k]?
@[congr] theorem wpH3_congr {E : Env} {ops : List Oper} {Hs Hs' : HS} {Ms : Mem} {K : KP} {s : Sch3} {σ σ' : Sig} {H H' : HS} {M : Mem} (h0 : Hs = Hs') (h : σ = σ') (h' : H = H') : wpH3 E ops Hs Ms K s σ H M = wpH3 E ops Hs' Ms K s σ' H' M := by rw [h0, h, h']
theorem se3 : type_of% (And.intro (And.intro (And.intro @wpH3.eq_1 @wpH3.eq_2) (And.intro @wpH3.eq_3 @wpH3.eq_4)) @wpH3.eq_5) := And.intro (And.intro (And.intro @wpH3.eq_1 @wpH3.eq_2) (And.intro @wpH3.eq_3 @wpH3.eq_4)) @wpH3.eq_5
def tk3 : List Nat → Sch3 → Sch3
  | [], s => s
  | i :: l, s => .take i (tk3 l s)
theorem tks3 : type_of% (And.intro @tk3.eq_1 @tk3.eq_2) := And.intro @tk3.eq_1 @tk3.eq_2
def schT3 (md : Region.Mode) (ops : Array Oper) (n : Nat) : Sch3 → Nat → Array Bool → Bool
  | .done, f, listed => decide (f = ops.size - n) && Region.seqB md ops (ops.size - n) n listed
  | .take i s, f + 1, listed => decide (i < n) && ((Region.free md ops listed i && (Region.ready md ops listed).contains i) && schT3 md ops n s f (listed.setIfInBounds i true))
  | .one i s, f + 1, listed => decide (i < n) && (Region.ready md ops listed == [i] && schT3 md ops n s f (listed.setIfInBounds i true))
  | .two i s j m, f + 1, listed => (decide (i < n) && decide (j < n)) && (Region.ready md ops listed == [i, j] && (schT3 md ops n s f (listed.setIfInBounds i true) && schT3 md ops n m f (listed.setIfInBounds j true)))
  | .three i s j m k q, f + 1, listed => (decide (i < n) && (decide (j < n) && decide (k < n))) && (Region.ready md ops listed == [i, j, k] && (schT3 md ops n s f (listed.setIfInBounds i true) && (schT3 md ops n m f (listed.setIfInBounds j true) && schT3 md ops n q f (listed.setIfInBounds k true))))
  | _, 0, _ => false
section
variable {E : Env} {σ : Sig} {H Hs : HS} {M Ms : Mem} {ν ν' : Nat → Value} {a : Act} {w : World}
theorem wpH3_sound {ops : Array Oper} {K : KP} {w0 : World} {n : Nat} (hsel : Region.noSelect ops = true) (hsk : Region.sinkB .any ops n = true) (hch : Region.chainB .any ops n = true) (hn : n < ops.size) (h0 : Heap E ν Hs Ms w0) (ht : tieds ν Hs) :
    ∀ (sch : Sch3) (f : Nat) (listed : Array Bool) (σ : Sig) (H : HS) (M : Mem) (a : Act) (w : World), schT3 .any ops n sch f listed = true → HeadInv .any ops n listed → Rep E σ H M a w → (stayH Hs H ∧ Ms.le M) → wpH3 E ops.toList Hs Ms (wpR E ops.toList K (ops.toList.drop n)) sch σ H M →
      wpAnyT E.P .any ops (fun e a w => e = Exit.normal ∧ ∃ σ H M, Rep E σ H M a w ∧ K σ H M) (fun w => Heap E ν Hs Ms w) n f listed a w
  | .done, f, listed, σ, H, M, a, w, hB, inv, hr, _, h => by
    simp only [schT3, Bool.and_eq_true, decide_eq_true_eq] at hB
    simp only [wpH3] at h
    have h2 := wpR_sound (E := E) (ops := ops.toList) (K := K) (Q := fun e a w => e = Exit.normal ∧ ∃ σ H M, Rep E σ H M a w ∧ K σ H M) (fun σ H M a w hr hk => ⟨rfl, σ, H, M, hr, hk⟩) (ops.toList.drop n) σ H M a w hr h
    have h3 : (ops.toList.drop n).length = ops.size - n := by simp
    have := wpAnyT_of_seq (P := E.P) (md := .any) (ops := ops) (S := fun w => Heap E ν Hs Ms w) (n := n) (Q' := fun e a w => e = Exit.normal ∧ ∃ σ H M, Rep E σ H M a w ∧ K σ H M) (ops.toList.drop n) n listed a w (fun j => by rw [List.getElem?_drop, Array.getElem?_toList]) (by rw [h3]; exact hB.2) (Nat.le_refl _) (by simpa using h2)
    rw [h3] at this
    rw [hB.1]
    exact this
  | .take i m, f + 1, listed, σ, H, M, a, w, hB, inv, ⟨ν', hs, hh⟩, ⟨hsub, hle⟩, h => by
    simp only [schT3, Bool.and_eq_true, decide_eq_true_eq] at hB
    obtain ⟨hin, ⟨hf, hrd⟩, hB⟩ := hB
    simp only [wpH3] at h
    cases ho : ops[i]? with
    | none => rw [show ops.toList[i]? = none by rw [Array.getElem?_toList]; exact ho] at h; exact h.elim
    | some o =>
      rw [show ops.toList[i]? = some o by rw [Array.getElem?_toList]; exact ho] at h
      simp only [opt1] at h
      cases hg : gdOf ops.toList σ o.guard with
      | none => rw [hg] at h; exact h.elim
      | some g =>
        cases hd : o.dst with
        | none => rw [hg, hd] at h; exact h.elim
        | some d =>
          rw [hg, hd] at h
          obtain ⟨⟨hN, h1⟩, hK⟩ := h
          have hgd := gd_spec hs hg o rfl
          obtain ⟨hS, hke⟩ := Heap.stay h0 ht hh hsub hle
          refine wpAnyT_take hsk hch hn hin inv (v := bif g then (pev E.P Hs Ms σ o.op).2.1.val ν' else undef) ho hsel hf hrd (fun c a w h => by obtain ⟨h, _⟩ := h; cases h) ?_ hS ?_
          · cases g with
            | true =>
              obtain ⟨hg1, hc⟩ := h1 rfl
              refine .inl ⟨by simpa using hgd, fun w1 hw1 => ?_⟩
              exact pev_sound hs (Heap.again hw1 ht hke hh.one) o hg1 hc
            | false => exact .inr ⟨by simpa using hgd, rfl⟩
          · refine wpH3_sound hsel hsk hch hn h0 ht m f _ _ H M _ w hB (inv.set (by simpa using hrd) hin) ⟨ν', ?_, hh⟩ ⟨hsub, hle⟩ hK
            rw [hd]
            exact hs.put hN rfl
  | .one i m, f + 1, listed, σ, H, M, a, w, hB, inv, hr, hsm, h => by
    simp only [schT3, Bool.and_eq_true, decide_eq_true_eq, beq_iff_eq] at hB
    refine wpAnyT_all hB.2.1 (by simp) fun j hj => ?_
    obtain rfl : j = i := by simpa using hj
    exact wpH3_op hsel hsk hch hn h0 ht m f listed σ H M a w hB.2.2 (inv.set (by rw [hB.2.1]; simp) hB.1) hr hsm h
  | .two i m i' m2, f + 1, listed, σ, H, M, a, w, hB, inv, hr, hsm, h => by
    simp only [schT3, Bool.and_eq_true, decide_eq_true_eq, beq_iff_eq] at hB
    refine wpAnyT_all hB.2.1 (by simp) fun j hj => ?_
    rcases (by simpa using hj : j = i ∨ j = i') with rfl | rfl
    · exact wpH3_op hsel hsk hch hn h0 ht m f listed σ H M a w hB.2.2.1 (inv.set (by rw [hB.2.1]; simp) hB.1.1) hr hsm h.1
    · exact wpH3_op hsel hsk hch hn h0 ht m2 f listed σ H M a w hB.2.2.2 (inv.set (by rw [hB.2.1]; simp) hB.1.2) hr hsm h.2
  | .three i m i' m2 i'' m3, f + 1, listed, σ, H, M, a, w, hB, inv, hr, hsm, h => by
    simp only [schT3, Bool.and_eq_true, decide_eq_true_eq, beq_iff_eq] at hB
    refine wpAnyT_all hB.2.1 (by simp) fun j hj => ?_
    rcases (by simpa using hj : j = i ∨ j = i' ∨ j = i'') with rfl | rfl | rfl
    · exact wpH3_op hsel hsk hch hn h0 ht m f listed σ H M a w hB.2.2.1 (inv.set (by rw [hB.2.1]; simp) hB.1.1) hr hsm h.1
    · exact wpH3_op hsel hsk hch hn h0 ht m2 f listed σ H M a w hB.2.2.2.1 (inv.set (by rw [hB.2.1]; simp) hB.1.2.1) hr hsm h.2.1
    · exact wpH3_op hsel hsk hch hn h0 ht m3 f listed σ H M a w hB.2.2.2.2 (inv.set (by rw [hB.2.1]; simp) hB.1.2.2) hr hsm h.2.2
  | .take _ _, 0, _, _, _, _, _, _, hB, _, _, _, _ => by simp [schT3] at hB
  | .one _ _, 0, _, _, _, _, _, _, hB, _, _, _, _ => by simp [schT3] at hB
  | .two _ _ _ _, 0, _, _, _, _, _, _, hB, _, _, _, _ => by simp [schT3] at hB
  | .three _ _ _ _ _ _, 0, _, _, _, _, _, _, hB, _, _, _, _ => by simp [schT3] at hB
where
  wpH3_op {ops : Array Oper} {K : KP} {w0 : World} {n : Nat} (hsel : Region.noSelect ops = true) (hsk : Region.sinkB .any ops n = true) (hch : Region.chainB .any ops n = true) (hn : n < ops.size) (h0 : Heap E ν Hs Ms w0) (ht : tieds ν Hs) {i : Nat} (m : Sch3) (f : Nat) (listed : Array Bool) (σ : Sig) (H : HS) (M : Mem) (a : Act) (w : World)
      (hB : schT3 .any ops n m f (listed.setIfInBounds i true) = true) (inv : HeadInv .any ops n (listed.setIfInBounds i true)) (hr : Rep E σ H M a w) (_ : stayH Hs H ∧ Ms.le M)
      (h : opt1 (fun o => efK E o Hs Ms (wpH3 E ops.toList Hs Ms (wpR E ops.toList K (ops.toList.drop n)) m) σ H M (gdOf ops.toList σ o.guard)) ops.toList[i]?) :
      wpOp E.P ops (fun e a w => e = Exit.normal ∧ ∃ σ H M, Rep E σ H M a w ∧ K σ H M) i (fun a' w' => (i < n → Heap E ν Hs Ms w') ∧ wpAnyT E.P .any ops (fun e a w => e = Exit.normal ∧ ∃ σ H M, Rep E σ H M a w ∧ K σ H M) (fun w => Heap E ν Hs Ms w) n f (listed.setIfInBounds i true) a' w') a w := by
    cases ho : ops[i]? with
    | none => rw [show ops.toList[i]? = none by rw [Array.getElem?_toList]; exact ho] at h; exact h.elim
    | some o =>
      rw [show ops.toList[i]? = some o by rw [Array.getElem?_toList]; exact ho] at h
      simp only [opt1] at h
      obtain ⟨ν', hs, hh⟩ := hr
      cases hg : gdOf ops.toList σ o.guard with
      | none => rw [hg] at h; exact h.elim
      | some g =>
        rw [hg] at h
        simp only [efK] at h
        have hgd := gd_spec hs hg o rfl
        have key := stepK_sound (Nx := fun a' w' => (i < n → Heap E ν Hs Ms w') ∧ wpAnyT E.P .any ops (fun e a w => e = Exit.normal ∧ ∃ σ H M, Rep E σ H M a w ∧ K σ H M) (fun w => Heap E ν Hs Ms w) n f (listed.setIfInBounds i true) a' w')
          (Qx := fun e a w => e = Exit.normal ∧ ∃ σ H M, Rep E σ H M a w ∧ K σ H M)
          (fun σ1 H1 M1 a1 w1 hr1 hk1 => by
            obtain ⟨ν1, hs1, hh1⟩ := hr1
            exact ⟨fun _ => (Heap.stay h0 ht hh1 hk1.1.1 hk1.1.2).1, wpH3_sound hsel hsk hch hn h0 ht m f _ σ1 H1 M1 a1 w1 hB inv ⟨ν1, hs1, hh1⟩ hk1.1 hk1.2⟩) hs hh h
        unfold wpOp
        simp only [ho]
        have hgd' : Region.wanted o (yielded ops a.tmps) = g := by simpa using hgd
        rw [hgd']
        cases g with
        | true => simp only [if_true] at key ⊢; exact .inl key
        | false => simp only [Bool.false_eq_true, if_false] at key ⊢; exact key


/-- a region that draws its order: the first n after a plan (quiet ones taken first, at what of memory stays), the others in their order -/
theorem DrawK.held3 {id : Nat} {ops : Array Oper} {K : KP} (n : Nat) (sel : List Nat) (sch : Sch3) (hm : E.P.follows .mixedOrders = true)
    (hB : (Region.noSelect ops && (decide (n < ops.size) && (Region.sinkB .any ops n && (Region.chainB .any ops n && schT3 .any ops n sch ops.size (Array.replicate ops.size false))))) = true)
    (h : ∀ xs : Nat → Value, stayH (pickH sel (tieH xs H)) (tieH xs H) ∧ wpH3 E ops.toList (pickH sel (tieH xs H)) M (wpR E ops.toList K (ops.toList.drop n)) sch σ (tieH xs H) M) : DrawK E id ops K σ H M := by
  rintro a w ⟨ν, hs, hh⟩
  simp only [Bool.and_eq_true, decide_eq_true_eq] at hB
  obtain ⟨hsel, hn, hsk, hch, hsc⟩ := hB
  have h1 := tieH_heap (hh.grow ((Below.refl _ _).drew) : Heap E ν H M { w with drawn := w.drawn + 1 })
  have inv0 : HeadInv .any ops n (Array.replicate ops.size false) :=
    ⟨by simp, fun j oj _ hl => (by rw [getD_replicate_false] at hl; cases hl), fun t _ ht => getD_in (by simpa using ht) (getD_replicate_false _ _)⟩
  exact wp_region_any hm (wpAny_of_T _ _ _ _ (wpH3_sound hsel hsk hch hn (h1.sublist (pickH_sub sel _)) (pickH_tieds sel H) sch _ _ σ _ M a _ hsc inv0 ⟨ν, hs, h1⟩ ⟨(h ν).1, Mem.le.refl M⟩ (h ν).2))
end
end Go.X

namespace Go.X.Vo
open Go Go.X Go.RowKit Go.X.Bg Go.X.Nm Go.X.Bp Go.X.Sb

theorem rwith (b v : Value) (ws : List WV) (x : WV) (M : Mem) (hbo : b.oneCell' = true) (hbs : isSl b = true) (hv : VolsM M v ws) (hx : x.1.oneCell' = true) (hxs : isSl x.1 = true) (hs : (ws.map (·.2)).Pairwise (fun a b => Op.bytesLess a.1 b.1 = true)) (hf : ∀ y ∈ ws, y.2.1 ≠ x.2.1) (hl : ws.length ≤ 1000) :
    Meets Proofs.Tryz.prog 54 [stV b v, wvV x] M (OwnR (fun s => .agg [.v b, s]) 2 ((insW ws x).map encV)) := by
  have h1 : ∀ w ∈ ws, w.1.oneCell' = true := fun w hw => (hv.blk w hw).one
  have h2 : ∀ w ∈ ws ++ [x], w.1.oneCell' = true := fun w hw => by
    rcases List.mem_append.1 hw with hw | hw
    · exact h1 w hw
    · rw [List.mem_singleton.1 hw]; exact hx
  have h3 : ∀ w ∈ insW ws x, w.1.oneCell' = true := fun w hw => h2 w ((insW_perm x ws).subset hw)
  have hT : Ctx (fun s => .agg [.v b, s]) := fun s s' ν ν' h => by simp only [SV.val, SV.vals, h]
  refine Meets.closeR hT (fun e he => ?_) ?_
  · obtain ⟨y, hy, rfl⟩ := List.mem_map.1 he
    exact ⟨rfl, encV_one (h3 y hy)⟩
  refine Meets.of_body [0,1,2,3,4,5] Proofs.Tryz.func54 rfl (by kernel_rfl) rfl fun w => ?_
  have hrow : ws.map encV ++ [[.string ⟨x.2.1.toArray⟩, x.1]] = (ws ++ [x]).map encW := by
    rw [encW_map h2, List.map_append]; rfl
  simp only [Proofs.Tryz.f54, stV, wvV, shs, zts, sos, sls, zss, eqs, sx, sb1, sb2, sb3, sb4, sb5, sb6, sb7, ↓reduceIte, Nat.reduceAdd, Nat.reduceMul, Nat.reduceDiv, Nat.reduceEqDiff, Nat.reduceLT, Nat.reduceLeDiff, reduceCtorEq, Int.reduceEq, Int.reduceNe, Int.reduceLT, Int.reduceLE, Int.reduceAdd, Int.reduceSub, Int.reduceMul, Int.reduceNeg, Int.reduceToNat, Int.cast_ofNat_Int, Int.natCast_zero, Int.natCast_one, Int.toNat_natCast, Nat.reduceBEq, nzs, hbo, hx, hv.row.one]
  refine DrawK.ent (X := Mem) (fun N => M.le N) (fun N => ([(2, true, .ptr 16 0 0 0), (3, true, .ptr 24 0 0 0), (4, true, .ptr 32 0 0 0), (5, true, .ptr 40 0 0 0)], [(104, .row 2 ((ws ++ [x]).map encW)), (40, .box [.v b, .own 104] none), (32, .box [.v (.slice none 0 0), .v (.slice none 0 0)] none), (24, .box [.v (.string ⟨x.2.1.toArray⟩), .v x.1] none), (16, .box [.v b, .v v] none)], N)) ?_ ?_
  · refine DrawK.held3 10 [16, 24] (tk3 [0, 2, 5, 1, 3] (.three 4 (.two 6 (.two 7 (tk3 [8] (.one 9 .done)) 9 (.one 7 (tk3 [8] .done))) 9 (.one 6 (.one 7 (tk3 [8] .done)))) 6 (.two 4 (.two 7 (tk3 [8] (.one 9 .done)) 9 (.one 7 (tk3 [8] .done))) 9 (.one 4 (.one 7 (tk3 [8] .done)))) 9 (.two 4 (.one 6 (.one 7 (tk3 [8] .done))) 6 (.one 4 (.one 7 (tk3 [8] .done)))))) (by kernel_rfl) (by kernel_rfl) fun xs => ?_
    simp only [shs, zts, sos, sls, zss, eqs, sx, sb1, sb2, sb3, sb4, sb5, sb6, sb7, ↓reduceIte, Nat.reduceAdd, Nat.reduceMul, Nat.reduceDiv, Nat.reduceEqDiff, Nat.reduceLT, Nat.reduceLeDiff, reduceCtorEq, Int.reduceEq, Int.reduceNe, Int.reduceLT, Int.reduceLE, Int.reduceAdd, Int.reduceSub, Int.reduceMul, Int.reduceNeg, Int.reduceToNat, Int.cast_ofNat_Int, Int.natCast_zero, Int.natCast_one, Int.toNat_natCast, Nat.reduceBEq, nzs, se1, se2, se3, tks3, hx, oneVs hxs]
    refine ⟨?_, ⟨?_, ?_⟩, ?_, ?_⟩
    all_goals
      refine CallK.own Ctx.id rfl rfl (cloneV v ws M hv.row (by omega)) rfl fun M1 hM1 => ?_
      simp only [shs, zts, sos, sls, zss, eqs, sx, sb1, sb2, sb3, sb4, sb5, sb6, sb7, ↓reduceIte, Nat.reduceAdd, Nat.reduceMul, Nat.reduceDiv, Nat.reduceEqDiff, Nat.reduceLT, Nat.reduceLeDiff, reduceCtorEq, Int.reduceEq, Int.reduceNe, Int.reduceLT, Int.reduceLE, Int.reduceAdd, Int.reduceSub, Int.reduceMul, Int.reduceNeg, Int.reduceToNat, Int.cast_ofNat_Int, Int.natCast_zero, Int.natCast_one, Int.toNat_natCast, Nat.reduceBEq, nzs, se1, se2, se3, tks3, hx, oneVs hxs, oneVs hbs, hbo, List.length_map, hrow]
      repeat' apply And.intro
      all_goals first
        | exact hM1
        | omega
        | exact ⟨M1, hM1, Ent.heap (HEnt.untie (k := 32) rfl) (Ent.heap (HEnt.untie (k := 24) rfl) (Ent.heap (HEnt.untie (k := 16) rfl) (Ent.of (by simp only [sx, sb1, sb2, sb3, sb4, sb5, sb6, sb7, ↓reduceIte, Nat.reduceAdd, Nat.reduceMul, Nat.reduceDiv, Nat.reduceEqDiff, Nat.reduceLT, Nat.reduceLeDiff, reduceCtorEq, Int.reduceEq, Int.reduceNe, Int.reduceLT, Int.reduceLE, Int.reduceAdd, Int.reduceSub, Int.reduceMul, Int.reduceNeg, Int.reduceToNat, Int.cast_ofNat_Int, Int.natCast_zero, Int.natCast_one, Int.toNat_natCast, Nat.reduceBEq, hset]))))⟩
  · intro N hN
    simp only [shs, zts, sos, sls, zss, eqs, sx, sb1, sb2, sb3, sb4, sb5, sb6, sb7, ↓reduceIte, Nat.reduceAdd, Nat.reduceMul, Nat.reduceDiv, Nat.reduceEqDiff, Nat.reduceLT, Nat.reduceLeDiff, reduceCtorEq, Int.reduceEq, Int.reduceNe, Int.reduceLT, Int.reduceLE, Int.reduceAdd, Int.reduceSub, Int.reduceMul, Int.reduceNeg, Int.reduceToNat, Int.cast_ofNat_Int, Int.natCast_zero, Int.natCast_one, Int.toNat_natCast, Nat.reduceBEq, nzs]
    refine ⟨rfl, OpK.openRow (k := 104) 1002 rfl (fun _ => rfl) (fun h => by simp at h) fun bb cap sp r1 r2 => ?_⟩
    refine OpK.mkIface (t := 23) rfl rfl rfl rfl (by kernel_rfl) ⟨47, by kernel_rfl⟩ ?_
    simp only [shs, zts, sos, sls, zss, eqs, sx, sb1, sb2, sb3, sb4, sb5, sb6, sb7, ↓reduceIte, Nat.reduceAdd, Nat.reduceMul, Nat.reduceDiv, Nat.reduceEqDiff, Nat.reduceLT, Nat.reduceLeDiff, reduceCtorEq, Int.reduceEq, Int.reduceNe, Int.reduceLT, Int.reduceLE, Int.reduceAdd, Int.reduceSub, Int.reduceMul, Int.reduceNeg, Int.reduceToNat, Int.cast_ofNat_Int, Int.natCast_zero, Int.natCast_one, Int.toNat_natCast, Nat.reduceBEq, sp1, sp2, sp3, nzs, so0]
    refine stepK.mkFn rfl rfl ?_
    simp only [shs, zts, sos, sls, zss, eqs, sx, sb1, sb2, sb3, sb4, sb5, sb6, sb7, ↓reduceIte, Nat.reduceAdd, Nat.reduceMul, Nat.reduceDiv, Nat.reduceEqDiff, Nat.reduceLT, Nat.reduceLeDiff, reduceCtorEq, Int.reduceEq, Int.reduceNe, Int.reduceLT, Int.reduceLE, Int.reduceAdd, Int.reduceSub, Int.reduceMul, Int.reduceNeg, Int.reduceToNat, Int.cast_ofNat_Int, Int.natCast_zero, Int.natCast_one, Int.toNat_natCast, Nat.reduceBEq, nzs, List.length_map] at r1 ⊢
    refine CallK.sortRowJ 8016 40 1 encW 2 ltW (ws ++ [x]) (b := bb) (cap := cap) (sp := sp) (tb := none) rfl rfl rfl rfl encW_len rfl (by simp; omega) ⟨_, Proofs.Tryz.func109, by kernel_rfl, by kernel_rfl⟩ sortCW (srtLessW _ (by simp; omega)) fun l' p1 p2 => ?_
    have hlen := p1.length_eq
    have hl' := srt_insW (List.pairwise_map.1 hs) hf p1 p2
    subst hl'
    rw [encW_map h3, ← hlen]
    simp only [shs, zts, sos, sls, zss, eqs, sx, sb1, sb2, sb3, sb4, sb5, sb6, sb7, ↓reduceIte, Nat.reduceAdd, Nat.reduceMul, Nat.reduceDiv, Nat.reduceEqDiff, Nat.reduceLT, Nat.reduceLeDiff, reduceCtorEq, Int.reduceEq, Int.reduceNe, Int.reduceLT, Int.reduceLE, Int.reduceAdd, Int.reduceSub, Int.reduceMul, Int.reduceNeg, Int.reduceToNat, Int.cast_ofNat_Int, Int.natCast_zero, Int.natCast_one, Int.toNat_natCast, Nat.reduceBEq, sp1, sp2, sp3, nzs, hset, hbo]
    refine .inr (.inr ⟨bb, 8016, cap, sp, ?_, rfl, ?_⟩)
    · rw [List.length_map]
    · rw [List.length_map, hlen]
      exact r1
end Go.X.Vo

namespace Go.X.Vo
open Go Go.X Go.RowKit Go.X.Bg Go.X.Nm Go.X.Bp Go.X.Sb

/-! ### a bag, by keys -/
abbrev K2 := Int × Int
def kOf (x : It) : K2 := (x.1, x.2.1)
def itK (bag : List It) (k : K2) : Option It := bag.find? fun x => decide (kOf x = k)
def refK (bag : List It) (k : K2) : Int := ((itK bag k).map (·.2.2.2)).getD 0
theorem itK_mem {bag : List It} {k : K2} {x : It} (h : itK bag k = some x) : x ∈ bag ∧ kOf x = k := by
  unfold itK at h
  exact ⟨List.mem_of_find?_eq_some h, by simpa using List.find?_some h⟩
theorem isId_iff {id : Id3} {x : It} : isId id x = true ↔ id.1 = true ∧ kOf x = id.2 := by
  unfold isId kOf
  simp only [Bool.and_eq_true, decide_eq_true_eq]
  constructor
  · rintro ⟨h1, h2, h3⟩
    exact ⟨h1, by rw [h2, h3]⟩
  · rintro ⟨h1, h2⟩
    exact ⟨h1, congrArg Prod.fst h2, congrArg Prod.snd h2⟩
/-! ### one less, one more -/
/-- what Put makes of a right bag -/
structure PutR (bag : List It) (s : List UInt8) (bag' : List It) (id : Id3) : Prop where
  ok : bagE bag' = 0
  is : id.1 = true
  itk : ∀ k, itK bag' k = if k = id.2 then some (k.1, k.2, s, refK bag k + 1) else itK bag k
  txt : ∀ x, itK bag id.2 = some x → x.2.2.1 = s
  old : (∃ x ∈ bag, x.2.2.1 = s) → bag'.length = bag.length
  new : bag'.length ≤ bag.length + 1
  txts : ∀ t, (∃ x ∈ bag', x.2.2.1 = t) ↔ t = s ∨ ∃ x ∈ bag, x.2.2.1 = t
/-! ### right states -/
structure Rt (bag : List It) (l : List Vol) : Prop where
  ok : bagE bag = 0
  len : l.length ≤ 6
  vol : ∀ v ∈ l, v.2.length ≤ 32 ∧ nmB v.1 = true
  srt : l.Pairwise fun a b => Op.bytesLess a.1 b.1 = true
  ids : ∀ id ∈ idsOf l, id.1 = false → id = hole
  cnt : ∀ k : K2, (((idsOf l).count (true, k) : Nat) : Int) = refK bag k
theorem refK_pos {bag : List It} (h : bagE bag = 0) {k : K2} : (itK bag k ≠ none ↔ 1 ≤ refK bag k) ∧ (itK bag k = none ↔ refK bag k = 0) := by
  unfold refK
  cases hx : itK bag k with
  | none => simp
  | some x =>
    have := (oneE_ok (((bagE_iff bag).1 h).2.1 x (itK_mem hx).1)).2.2
    simp only [Option.map_some, Option.getD_some, ne_eq, reduceCtorEq, not_false_eq_true, true_iff, false_iff]
    omega
/-! ### counts -/
/-! ### setV, insV, delV -/
theorem idAt_at {l : List Vol} {i a : Nat} {x : Vol} {y : Id3} (h : l[i]? = some x) (hy : x.2[a]? = some y) : idAt l i a = y := by unfold idAt; rw [volAt_at h, hy]; rfl
theorem Rt.ref {bag : List It} {l : List Vol} (h : Rt bag l) {id : Id3} (hm : id ∈ idsOf l) (h1 : id.1 = true) : 1 ≤ refK bag id.2 := by
  have e : id = (true, id.2) := by obtain ⟨a, b⟩ := id; simp only at h1; rw [h1]
  rw [e] at hm
  have := List.count_pos_iff.2 hm
  have := h.cnt id.2
  omega
theorem Rt.it {bag : List It} {l : List Vol} (h : Rt bag l) {id : Id3} (hm : id ∈ idsOf l) (h1 : id.1 = true) : itK bag id.2 ≠ none := (refK_pos h.ok).1.2 (h.ref hm h1)
/-! with a volume more, or less -/
theorem freshE_ok {l : List Vol} {n : List UInt8} (h : freshE l n = 0) : nmB n = true ∧ (∀ y ∈ l, y.1 ≠ n) ∧ l.length ≤ 5 := by
  unfold freshE at h
  split at h
  · cases h
  rename_i h1
  split at h
  · cases h
  rename_i h2
  split at h
  · cases h
  rename_i h3
  refine ⟨by simpa using h1, fun y hy e => ?_, by omega⟩
  rcases volIx_sp l n with ⟨_, k2⟩ | ⟨j, x, k1, _⟩
  · exact k2 y hy e
  · rw [k1] at h2; omega
/-! ### answers are right states -/
end Go.X.Vo

namespace Go.X.Vo
open Go Go.X Go.RowKit Go.X.Bg Go.X.Nm Go.X.Bp Go.X.Sb

theorem stO_zero (e : Value) (H : HS) (M : Mem) : StO (fun s => .tup [s, .v e]) zSt (.tup [.agg [.v (.slice none 0 0), .v (.slice none 0 0)], .v e]) H M :=
  ⟨.v (.slice none 0 0), .v (.slice none 0 0), [], rfl, rfl, fun k h => (by cases h), ⟨RowM.nil M 4, RowM.nil M 2⟩, fun w hw => by cases hw⟩
theorem insW_mem {l : List WV} {x y : WV} (h : y ∈ insW l x) : y ∈ l ∨ y = x := by
  unfold insW at h
  rcases List.mem_append.1 h with h | h
  · exact .inl (List.mem_of_mem_take h)
  · rcases List.mem_cons.1 h with rfl | h
    · exact .inr rfl
    · exact .inl (List.mem_of_mem_drop h)
/-- what stays known when the row of volumes is lent -/
theorem StF.added {M0 M2 M3 M4 : Mem} {b v u : Value} {bag : List It} {ws : List WV} {n : List UInt8} {ids : List Id3} (h : StF M0 M2 b v bag ws) (h0 : M0.le M2) (hM : M2.le M3) (hu : RowF M3 u 3 (ids.map encI3)) (hf : freshB M2 u) (hb : butB M3 M4 v) :
    M0.le M4 ∧ RowM M4 b 4 (bag.map Bg.encT) ∧ ∀ w ∈ insW ws (u, n, ids), RowM M4 w.1 3 (w.2.2.map encI3) := by
  obtain ⟨g1, g2⟩ := (h.le hM).offV hb
  refine ⟨le_but (h0.trans hM) h.fv hb, g1.row, fun w hw => ?_⟩
  rcases insW_mem hw with hw | rfl
  · exact (g2 w hw).row
  · exact (RowF.but hu hb (RowF.apart h.vols hf).symm).row
theorem hT_agg (b : Value) : Ctx (fun s => .agg [.v b, s]) := fun s s' ν ν' h => by simp only [SV.val, SV.vals, h]
theorem hA_add (b : Value) (x : SV) (hx : x.conc = true) : Ctxs (fun s => [.agg [.v b, s], x]) := fun s s' ν ν' h => by
  simp only [SV.vals, SV.val, h, SV.conc_val (ν := ν) (ν' := ν') x hx]
theorem replicate_hole (k : Nat) : (List.replicate k hole).map encI3 = List.replicate k [.bool false, .int .i64 0, .int .i64 0] := by
  rw [List.map_replicate]
  rfl
theorem make (b v : Value) (bag : List It) (ws : List WV) (n : List UInt8) (k : Int) (M : Mem) (hb : RowM M b 4 (bag.map Bg.encT)) (hv : VolsM M v ws) :
    Meets Proofs.Tryz.prog 13 [stV b v, .v (.string ⟨n.toArray⟩), .v (.int .i64 k)] M (StM (fun s => .tup [s, .v (.int .i64 (makeA bag (ws.map (·.2)) n k).2)]) (makeA bag (ws.map (·.2)) n k).1) := by
  refine Meets.settleM (Ctx.fst _) ?_
  refine Meets.of_body [0,1,2,3,6,7,8,9,13,21,27] Proofs.Tryz.func13 rfl (by kernel_rfl) rfl fun w => ?_
  generalize hc : makeA bag (ws.map (·.2)) n k = c
  unfold makeA at hc
  have hC := vcheck b v bag ws M hb hv
  simp only [stV] at hC
  simp only [Proofs.Tryz.f13, stV, shs, zts, sos, sls, zss, eqs, sx, sb1, sb2, sb3, sb4, sb5, sb6, sb7, ↓reduceIte, Nat.reduceAdd, Nat.reduceMul, Nat.reduceDiv, Nat.reduceEqDiff, Nat.reduceLT, Nat.reduceLeDiff, reduceCtorEq, Int.reduceEq, Int.reduceNe, Int.reduceLT, Int.reduceLE, Int.reduceAdd, Int.reduceSub, Int.reduceMul, Int.reduceNeg, Int.reduceToNat, Int.cast_ofNat_Int, Int.natCast_zero, Int.natCast_one, Int.toNat_natCast, Nat.reduceBEq, nzs]
  refine CallK.pure ⟨rfl, rfl⟩ rfl hC ?_
  by_cases h1 : stE bag (ws.map (·.2)) = 0
  rotate_left
  · have c1 := eq_false h1
    rw [if_pos h1] at hc
    subst hc
    simp only [shs, zts, sos, sls, zss, eqs, sx, sb1, sb2, sb3, sb4, sb5, sb6, sb7, ↓reduceIte, Nat.reduceAdd, Nat.reduceMul, Nat.reduceDiv, Nat.reduceEqDiff, Nat.reduceLT, Nat.reduceLeDiff, reduceCtorEq, Int.reduceEq, Int.reduceNe, Int.reduceLT, Int.reduceLE, Int.reduceAdd, Int.reduceSub, Int.reduceMul, Int.reduceNeg, Int.reduceToNat, Int.cast_ofNat_Int, Int.natCast_zero, Int.natCast_one, Int.toNat_natCast, Nat.reduceBEq, nzs, c1]
    exact stO_zero _ _ _
  rw [if_neg (fun h => h h1)] at hc
  obtain ⟨hB, hV, _⟩ := stE_ok h1
  have hVo := volsE_ok hV
  have hsrt := vols_srt hV
  have hbl := bag_len hB
  rw [List.length_map] at hVo
  have hli : ∀ w ∈ ws, w.2.2.length ≤ 32 := fun w hw => (hVo.2 w.2 (List.mem_map_of_mem hw)).1
  by_cases h2 : k < 1
  · have c2 := eq_true h2
    rw [if_pos (.inl h2)] at hc
    subst hc
    simp only [shs, zts, sos, sls, zss, eqs, sx, sb1, sb2, sb3, sb4, sb5, sb6, sb7, ↓reduceIte, Nat.reduceAdd, Nat.reduceMul, Nat.reduceDiv, Nat.reduceEqDiff, Nat.reduceLT, Nat.reduceLeDiff, reduceCtorEq, Int.reduceEq, Int.reduceNe, Int.reduceLT, Int.reduceLE, Int.reduceAdd, Int.reduceSub, Int.reduceMul, Int.reduceNeg, Int.reduceToNat, Int.cast_ofNat_Int, Int.natCast_zero, Int.natCast_one, Int.toNat_natCast, Nat.reduceBEq, nzs, h1, c2]
    exact stO_zero _ _ _
  have c2 := eq_false h2
  by_cases h3 : 32 < k
  · have c3 := eq_true h3
    rw [if_pos (.inr h3)] at hc
    subst hc
    simp only [shs, zts, sos, sls, zss, eqs, sx, sb1, sb2, sb3, sb4, sb5, sb6, sb7, ↓reduceIte, Nat.reduceAdd, Nat.reduceMul, Nat.reduceDiv, Nat.reduceEqDiff, Nat.reduceLT, Nat.reduceLeDiff, reduceCtorEq, Int.reduceEq, Int.reduceNe, Int.reduceLT, Int.reduceLE, Int.reduceAdd, Int.reduceSub, Int.reduceMul, Int.reduceNeg, Int.reduceToNat, Int.cast_ofNat_Int, Int.natCast_zero, Int.natCast_one, Int.toNat_natCast, Nat.reduceBEq, nzs, h1, c2, c3]
    exact stO_zero _ _ _
  have c3 := eq_false h3
  rw [if_neg (by omega)] at hc
  have hF := vfresh b v ws n M hv hVo.1
  simp only [stV] at hF
  simp only [shs, zts, sos, sls, zss, eqs, sx, sb1, sb2, sb3, sb4, sb5, sb6, sb7, ↓reduceIte, Nat.reduceAdd, Nat.reduceMul, Nat.reduceDiv, Nat.reduceEqDiff, Nat.reduceLT, Nat.reduceLeDiff, reduceCtorEq, Int.reduceEq, Int.reduceNe, Int.reduceLT, Int.reduceLE, Int.reduceAdd, Int.reduceSub, Int.reduceMul, Int.reduceNeg, Int.reduceToNat, Int.cast_ofNat_Int, Int.natCast_zero, Int.natCast_one, Int.toNat_natCast, Nat.reduceBEq, nzs, h1, c2, c3]
  refine CallK.pure ⟨rfl, rfl⟩ rfl hF ?_
  by_cases h4 : freshE (ws.map (·.2)) n = 0
  rotate_left
  · have c4 := eq_false h4
    rw [if_pos h4] at hc
    subst hc
    simp only [shs, zts, sos, sls, zss, eqs, sx, sb1, sb2, sb3, sb4, sb5, sb6, sb7, ↓reduceIte, Nat.reduceAdd, Nat.reduceMul, Nat.reduceDiv, Nat.reduceEqDiff, Nat.reduceLT, Nat.reduceLeDiff, reduceCtorEq, Int.reduceEq, Int.reduceNe, Int.reduceLT, Int.reduceLE, Int.reduceAdd, Int.reduceSub, Int.reduceMul, Int.reduceNeg, Int.reduceToNat, Int.cast_ofNat_Int, Int.natCast_zero, Int.natCast_one, Int.toNat_natCast, Nat.reduceBEq, nzs, c4]
    exact stO_zero _ _ _
  rw [if_neg (fun h => h h4)] at hc
  subst hc
  obtain ⟨m, rfl⟩ : ∃ m : Nat, k = m := ⟨k.toNat, by omega⟩
  have hcp := copied b v bag ws M hb hv (by omega) (by omega) (fun w hw => Nat.le_trans (hli w hw) (by omega))
  simp only [stV] at hcp
  simp only [shs, zts, sos, sls, zss, eqs, sx, sb1, sb2, sb3, sb4, sb5, sb6, sb7, ↓reduceIte, Nat.reduceAdd, Nat.reduceMul, Nat.reduceDiv, Nat.reduceEqDiff, Nat.reduceLT, Nat.reduceLeDiff, reduceCtorEq, Int.reduceEq, Int.reduceNe, Int.reduceLT, Int.reduceLE, Int.reduceAdd, Int.reduceSub, Int.reduceMul, Int.reduceNeg, Int.reduceToNat, Int.cast_ofNat_Int, Int.natCast_zero, Int.natCast_one, Int.toNat_natCast, Nat.reduceBEq, nzs, h4]
  have hend : ∀ (b2 v2 u : Value) (ws2 : List WV) (M2 M3 M4 : Mem), M.le M2 → ws2.map (·.2) = ws.map (·.2) → StF M M2 b2 v2 bag ws2 → M2.le M3 → RowF M3 u 3 ((List.replicate m hole).map encI3) → freshB M2 u → butB M3 M4 v2 →
      M.le M4 ∧ ∀ H, hget H 288 = some (.row 2 ((insW ws2 (u, n, List.replicate m hole)).map encV)) → StO (fun s => .tup [s, .v (.int .i64 0)]) (makeS bag (ws.map (·.2)) n m) (.tup [.agg [.v b2, .own 288], .v (.int .i64 0)]) H M4 := fun b2 v2 u ws2 M2 M3 M4 hM2 hw2 hS hM3 hu huf hb4 => by
    obtain ⟨q1, q2, q3⟩ := hS.added (n := n) hM2 hM3 hu huf hb4
    refine ⟨q1, fun H hH => ⟨.v b2, .own 288, insW ws2 (u, n, List.replicate m hole), rfl, ?_, fun k h => (by cases h), ⟨q2, hH⟩, q3⟩⟩
    rw [insW_map, hw2]
    simp only [makeS]
  have hadd : ∀ (b2 u : Value) (ws2 : List WV) (M2 M6 : Mem) (v2 : Value), ws2.map (·.2) = ws.map (·.2) → StF M M2 b2 v2 bag ws2 → u.oneCell' = true → MeetsH Proofs.Tryz.prog 63 [.agg [.v b2, .own 8000], wvV (u, n, List.replicate m hole)] [(8000, .row 2 (ws2.map encV))] M6 (OwnR (fun s => .agg [.v b2, s]) 2 ((insW ws2 (u, n, List.replicate m hole)).map encV)) := fun b2 u ws2 M2 M6 v2 hw2 hS hu => by
    refine add b2 ws2 (u, n, List.replicate m hole) M6 hS.bag.row.one (fun w hw => (hS.blk w hw).row.one) hu (by rw [hw2]; exact hsrt) ?_
    have := congrArg List.length hw2
    rw [List.length_map, List.length_map] at this
    omega
  refine DrawK.held [24] (tk [0, 2, 3] (.two 1 (.one 4 (tk [5] (.one 6 (.one 7 (tk [8] .done))))) 4 (tk [5] (.one 1 (.one 6 (.one 7 (tk [8] .done))))))) (by kernel_rfl) (by kernel_rfl) fun xs => ?_
  simp only [shs, zts, sos, sls, zss, eqs, sx, sb1, sb2, sb3, sb4, sb5, sb6, sb7, ↓reduceIte, Nat.reduceAdd, Nat.reduceMul, Nat.reduceDiv, Nat.reduceEqDiff, Nat.reduceLT, Nat.reduceLeDiff, reduceCtorEq, Int.reduceEq, Int.reduceNe, Int.reduceLT, Int.reduceLE, Int.reduceAdd, Int.reduceSub, Int.reduceMul, Int.reduceNeg, Int.reduceToNat, Int.cast_ofNat_Int, Int.natCast_zero, Int.natCast_one, Int.toNat_natCast, Nat.reduceBEq, nzs, se1, se2, tks, ← replicate_hole]
  refine ⟨?_, ?_⟩
  · refine CallK.stF (T := fun s => s) (fun _ _ => rfl) rfl rfl hcp fun b2 v2 ws2 M2 hM2 hw2 hS => ?_
    simp only [shs, zts, sos, sls, zss, eqs, sx, sb1, sb2, sb3, sb4, sb5, sb6, sb7, ↓reduceIte, Nat.reduceAdd, Nat.reduceMul, Nat.reduceDiv, Nat.reduceEqDiff, Nat.reduceLT, Nat.reduceLeDiff, reduceCtorEq, Int.reduceEq, Int.reduceNe, Int.reduceLT, Int.reduceLE, Int.reduceAdd, Int.reduceSub, Int.reduceMul, Int.reduceNeg, Int.reduceToNat, Int.cast_ofNat_Int, Int.natCast_zero, Int.natCast_one, Int.toNat_natCast, Nat.reduceBEq, nzs, se1, se2, tks, ← replicate_hole, stV]
    refine ⟨hM2, ⟨⟨by omega, by omega⟩, by omega, by omega⟩, hM2, ?_⟩
    refine CallK.pubF (k := 272) rfl fun u M3 hM3 hu huf => ?_
    simp only [shs, zts, sos, sls, zss, eqs, sx, sb1, sb2, sb3, sb4, sb5, sb6, sb7, ↓reduceIte, Nat.reduceAdd, Nat.reduceMul, Nat.reduceDiv, Nat.reduceEqDiff, Nat.reduceLT, Nat.reduceLeDiff, reduceCtorEq, Int.reduceEq, Int.reduceNe, Int.reduceLT, Int.reduceLE, Int.reduceAdd, Int.reduceSub, Int.reduceMul, Int.reduceNeg, Int.reduceToNat, Int.cast_ofNat_Int, Int.natCast_zero, Int.natCast_one, Int.toNat_natCast, Nat.reduceBEq, sp1, sp2, sp3, nzs]
    refine CallK.claim (A := fun s => [.agg [.v b2, s], wvV (u, n, List.replicate m hole)]) 1000 (hA_add b2 (wvV (u, n, List.replicate m hole)) rfl) rfl (hS.vols.le hM3) hS.fv rfl rfl fun M4 hb4 => ?_
    refine CallK.lendR (A := fun s => [.agg [.v b2, s], wvV (u, n, List.replicate m hole)]) (T := fun s => .agg [.v b2, s]) 8000 (hA_add b2 (wvV (u, n, List.replicate m hole)) rfl) (hT_agg b2) rfl rfl rfl (fun M6 _ => hadd b2 u ws2 M2 M6 v2 hw2 hS hu.row.one) rfl ?_
    obtain ⟨e1, e2⟩ := hend b2 v2 u ws2 M2 M3 M4 hM2 hw2 hS hM3 hu huf hb4
    simp only [shs, zts, sos, sls, zss, eqs, sx, sb1, sb2, sb3, sb4, sb5, sb6, sb7, ↓reduceIte, Nat.reduceAdd, Nat.reduceMul, Nat.reduceDiv, Nat.reduceEqDiff, Nat.reduceLT, Nat.reduceLeDiff, reduceCtorEq, Int.reduceEq, Int.reduceNe, Int.reduceLT, Int.reduceLE, Int.reduceAdd, Int.reduceSub, Int.reduceMul, Int.reduceNeg, Int.reduceToNat, Int.cast_ofNat_Int, Int.natCast_zero, Int.natCast_one, Int.toNat_natCast, Nat.reduceBEq, sp1, sp2, sp3, nzs, se1, se2, tks, hS.bag.row.one]
    exact ⟨e1, e1, e2 _ rfl⟩
  · refine ⟨⟨⟨by omega, by omega⟩, by omega, by omega⟩, CallK.stF (T := fun s => s) (fun _ _ => rfl) rfl rfl hcp fun b2 v2 ws2 M2 hM2 hw2 hS => ?_⟩
    simp only [shs, zts, sos, sls, zss, eqs, sx, sb1, sb2, sb3, sb4, sb5, sb6, sb7, ↓reduceIte, Nat.reduceAdd, Nat.reduceMul, Nat.reduceDiv, Nat.reduceEqDiff, Nat.reduceLT, Nat.reduceLeDiff, reduceCtorEq, Int.reduceEq, Int.reduceNe, Int.reduceLT, Int.reduceLE, Int.reduceAdd, Int.reduceSub, Int.reduceMul, Int.reduceNeg, Int.reduceToNat, Int.cast_ofNat_Int, Int.natCast_zero, Int.natCast_one, Int.toNat_natCast, Nat.reduceBEq, nzs, se1, se2, tks, stV]
    refine ⟨hM2, ?_⟩
    refine CallK.pubF (k := 272) rfl fun u M3 hM3 hu huf => ?_
    simp only [shs, zts, sos, sls, zss, eqs, sx, sb1, sb2, sb3, sb4, sb5, sb6, sb7, ↓reduceIte, Nat.reduceAdd, Nat.reduceMul, Nat.reduceDiv, Nat.reduceEqDiff, Nat.reduceLT, Nat.reduceLeDiff, reduceCtorEq, Int.reduceEq, Int.reduceNe, Int.reduceLT, Int.reduceLE, Int.reduceAdd, Int.reduceSub, Int.reduceMul, Int.reduceNeg, Int.reduceToNat, Int.cast_ofNat_Int, Int.natCast_zero, Int.natCast_one, Int.toNat_natCast, Nat.reduceBEq, sp1, sp2, sp3, nzs]
    refine CallK.claim (A := fun s => [.agg [.v b2, s], wvV (u, n, List.replicate m hole)]) 1000 (hA_add b2 (wvV (u, n, List.replicate m hole)) rfl) rfl (hS.vols.le hM3) hS.fv rfl rfl fun M4 hb4 => ?_
    refine CallK.lendR (A := fun s => [.agg [.v b2, s], wvV (u, n, List.replicate m hole)]) (T := fun s => .agg [.v b2, s]) 8000 (hA_add b2 (wvV (u, n, List.replicate m hole)) rfl) (hT_agg b2) rfl rfl rfl (fun M6 _ => hadd b2 u ws2 M2 M6 v2 hw2 hS hu.row.one) rfl ?_
    obtain ⟨e1, e2⟩ := hend b2 v2 u ws2 M2 M3 M4 hM2 hw2 hS hM3 hu huf hb4
    simp only [shs, zts, sos, sls, zss, eqs, sx, sb1, sb2, sb3, sb4, sb5, sb6, sb7, ↓reduceIte, Nat.reduceAdd, Nat.reduceMul, Nat.reduceDiv, Nat.reduceEqDiff, Nat.reduceLT, Nat.reduceLeDiff, reduceCtorEq, Int.reduceEq, Int.reduceNe, Int.reduceLT, Int.reduceLE, Int.reduceAdd, Int.reduceSub, Int.reduceMul, Int.reduceNeg, Int.reduceToNat, Int.cast_ofNat_Int, Int.natCast_zero, Int.natCast_one, Int.toNat_natCast, Nat.reduceBEq, sp1, sp2, sp3, nzs, se1, se2, tks, hS.bag.row.one]
    exact ⟨e1, e1, e2 _ rfl⟩
end Go.X.Vo

namespace Go.X.Vo
open Go Go.X Go.RowKit Go.X.Bg Go.X.Nm Go.X.Bp Go.X.Sb

theorem ws_at {ws : List WV} {L : List Vol} (h : ws.map (·.2) = L) {i : Nat} {y : Vol} (hy : L[i]? = some y) : ∃ x, ws[i]? = some x ∧ x.2 = y := by
  rw [← h, List.getElem?_map, Option.map_eq_some_iff] at hy
  exact hy
theorem foldl_take {α β : Type} (g : β → α → β) (b : β) {l : List α} {j : Nat} {y : α} (h : l[j]? = some y) : (l.take (j + 1)).foldl g b = g ((l.take j).foldl g b) y := by
  rw [List.take_add_one, h, List.foldl_append]
  rfl
end Go.X.Vo

namespace Go.X.Vo
open Go Go.X Go.RowKit Go.X.Bg Go.X.Nm Go.X.Bp Go.X.Sb

theorem stKO_zero (M0 : Mem) (e : Value) (H : HS) (M : Mem) : StKO M0 (fun s => .tup [s, .v e]) zSt (.tup [.agg [.v (.slice none 0 0), .v (.slice none 0 0)], .v e]) H M :=
  ⟨.v (.slice none 0 0), .v (.slice none 0 0), [], rfl, rfl, fun k h => (by cases h), ⟨⟨(zero_stK M0 M).bag, (zero_stK M0 M).fb⟩, ⟨(zero_stK M0 M).vols, (zero_stK M0 M).fv⟩⟩, fun w hw => (by cases hw), (zero_stK M0 M).ap⟩
theorem set_same {α : Type} {l : List α} {i : Nat} {x : α} (h : l[i]? = some x) : l.set i x = l := by
  apply List.ext_getElem?
  intro j
  rw [List.getElem?_set]
  split
  · rename_i e
    subst e
    rw [if_pos (List.getElem?_eq_some_iff.1 h).1, h]
  · rfl
theorem stKO_of {M0 M : Mem} {b v : Value} {bag : List It} {ws : List WV} {A : St} (T : SV → SV) (H : HS) (h : StF M0 M b v bag ws) (h1 : bag = A.1) (h2 : ws.map (·.2) = A.2) : StKO M0 T A (T (.agg [.v b, .v v])) H M := by
  subst h1
  exact ⟨.v b, .v v, ws, rfl, h2, fun k h => (by cases h), ⟨⟨h.bag, h.fb⟩, ⟨h.vols, h.fv⟩⟩, fun w hw => ⟨h.blk w hw, h.fw hw⟩, h.ap⟩
theorem idsl_set {l : List Id3} {a : Nat} (r : Id3) : (l.map encI3).set a (encI3 r) = (l.set a r).map encI3 := by rw [List.map_set]
theorem getD_id {l : List Id3} {i : Nat} {x : Id3} (h : l[i]? = some x) : (l.map encI3).getD i [] = [.bool x.1, .int .i64 x.2.1, .int .i64 x.2.2] := by
  rw [List.getD_eq_getElem?_getD, List.getElem?_map, h]
  rfl
theorem vtrim (b v : Value) (bag : List It) (ws : List WV) (n : List UInt8) (at' : Int) (M : Mem) (hb : RowM M b 4 (bag.map Bg.encT)) (hv : VolsM M v ws) :
    Meets Proofs.Tryz.prog 9 [stV b v, .v (.string ⟨n.toArray⟩), .v (.int .i64 at')] M (StK M (fun s => .tup [s, .v (.int .i64 (trimA bag (ws.map (·.2)) n at').2)]) (trimA bag (ws.map (·.2)) n at').1) := by
  refine Meets.settleF (Ctx.fst _) ?_
  refine Meets.of_body [0,1,2,3,6,7,8,9,10,11,20,36] Proofs.Tryz.func9 rfl (by kernel_rfl) rfl fun w => ?_
  generalize hc : trimA bag (ws.map (·.2)) n at' = c
  unfold trimA at hc
  have hP := place b v bag ws n at' M hb hv
  unfold plI at hP
  simp only [stV] at hP
  simp only [Proofs.Tryz.f9, stV, shs, zts, sos, sls, zss, eqs, sx, sb1, sb2, sb3, sb4, sb5, sb6, sb7, ↓reduceIte, Nat.reduceAdd, Nat.reduceMul, Nat.reduceDiv, Nat.reduceEqDiff, Nat.reduceLT, Nat.reduceLeDiff, reduceCtorEq, Int.reduceEq, Int.reduceNe, Int.reduceLT, Int.reduceLE, Int.reduceAdd, Int.reduceSub, Int.reduceMul, Int.reduceNeg, Int.reduceToNat, Int.cast_ofNat_Int, Int.natCast_zero, Int.natCast_one, Int.toNat_natCast, Nat.reduceBEq, nzs]
  refine CallK.pure ⟨rfl, rfl⟩ rfl hP ?_
  by_cases h1 : plE bag (ws.map (·.2)) n at' = 0
  rotate_left
  · have c1 := eq_false h1
    rw [if_pos h1] at hc
    subst hc
    simp only [shs, zts, sos, sls, zss, eqs, sx, sb1, sb2, sb3, sb4, sb5, sb6, sb7, ↓reduceIte, Nat.reduceAdd, Nat.reduceMul, Nat.reduceDiv, Nat.reduceEqDiff, Nat.reduceLT, Nat.reduceLeDiff, reduceCtorEq, Int.reduceEq, Int.reduceNe, Int.reduceLT, Int.reduceLE, Int.reduceAdd, Int.reduceSub, Int.reduceMul, Int.reduceNeg, Int.reduceToNat, Int.cast_ofNat_Int, Int.natCast_zero, Int.natCast_one, Int.toNat_natCast, Nat.reduceBEq, nzs, c1]
    exact stKO_zero _ _ _ _
  rw [if_neg (fun h => h h1)] at hc
  subst hc
  obtain ⟨hs, h2, h3, h4⟩ := plE_ok h1
  obtain ⟨i, x, k1, k2, k3, k4⟩ := volIx_at h2
  have hbk := blks_at k1 k4
  rw [hbk] at h4
  obtain ⟨m, rfl⟩ : ∃ m : Nat, at' = m := ⟨at'.toNat, by omega⟩
  obtain ⟨hB, hV, _⟩ := stE_ok hs
  have hVo := volsE_ok hV
  have hbl := bag_len hB
  rw [List.length_map] at hVo
  have hli : ∀ w ∈ ws, w.2.2.length ≤ 32 := fun w hw => (hVo.2 w.2 (List.mem_map_of_mem hw)).1
  have hcp := copied b v bag ws M hb hv (by omega) (by omega) (fun w hw => Nat.le_trans (hli w hw) (by omega))
  simp only [stV] at hcp
  rw [k1]
  simp only [shs, zts, sos, sls, zss, eqs, sx, sb1, sb2, sb3, sb4, sb5, sb6, sb7, ↓reduceIte, Nat.reduceAdd, Nat.reduceMul, Nat.reduceDiv, Nat.reduceEqDiff, Nat.reduceLT, Nat.reduceLeDiff, reduceCtorEq, Int.reduceEq, Int.reduceNe, Int.reduceLT, Int.reduceLE, Int.reduceAdd, Int.reduceSub, Int.reduceMul, Int.reduceNeg, Int.reduceToNat, Int.cast_ofNat_Int, Int.natCast_zero, Int.natCast_one, Int.toNat_natCast, Nat.reduceBEq, nzs, h1, if_true, Int.toNat_natCast]
  refine CallK.stF (T := fun s => s) (fun _ _ => rfl) rfl rfl hcp fun b2 v2 ws2 M2 hM2 hw2 hS => ?_
  obtain ⟨x2, hx2, e2⟩ := ws_at hw2 k4
  obtain ⟨_, g1, i0⟩ := vol_at hS.volsM hx2
  have hx2m := List.mem_of_getElem? hx2
  have hblk := hS.blk x2 hx2m
  have hml : m < x.2.2.length := by omega
  obtain ⟨id, hid, _⟩ := l_drop_at (l := x.2.2) (i := m) hml
  have hid2 : x2.2.2[m]? = some id := by rw [e2]; exact hid
  obtain ⟨y0, y1, y2, yi⟩ := id_at hblk.row hid2
  have hgo := goI_ok ((volsE_ok hV).2 x.2 (List.mem_of_getElem? k4)).2.2 id (List.mem_of_getElem? hid)
  have hidAt : idAt (ws.map (·.2)) i m = id := by unfold idAt; rw [volAt_at k4, hid]; rfl
  have hset : (ws2.set i (x2.1, x2.2.1, x2.2.2.set m hole)).map (·.2) = setV (ws.map (·.2)) i m hole := by
    rw [setV_at k4, ← show ws2.map (·.2) = ws.map (·.2) from hw2, List.map_set, e2]
  have hml2 : m < (x2.2.2.map encI3).length := by rw [List.length_map, e2]; exact hml
  obtain ⟨q0, q1, q2⟩ := id
  simp only at y0 y1 y2
  cases q0 with
  | false =>
    have hq : q1 = 0 ∧ q2 = 0 := by
      unfold idE at hgo
      by_cases hz : q1 = 0 ∧ q2 = 0
      · exact hz
      · rw [if_pos ⟨rfl, hz⟩] at hgo; cases hgo
    obtain ⟨rfl, rfl⟩ := hq
    have hs2 : ws2.set i (x2.1, x2.2.1, x2.2.2.set m hole) = ws2 := by
      have e5 : x2.2.2.set m hole = x2.2.2 := set_same hid2
      rw [e5]
      exact set_same hx2
    rw [hs2] at hset
    simp only [shs, zts, sos, sls, zss, eqs, sx, sb1, sb2, sb3, sb4, sb5, sb6, sb7, ↓reduceIte, Nat.reduceAdd, Nat.reduceMul, Nat.reduceDiv, Nat.reduceEqDiff, Nat.reduceLT, Nat.reduceLeDiff, reduceCtorEq, Int.reduceEq, Int.reduceNe, Int.reduceLT, Int.reduceLE, Int.reduceAdd, Int.reduceSub, Int.reduceMul, Int.reduceNeg, Int.reduceToNat, Int.cast_ofNat_Int, Int.natCast_zero, Int.natCast_one, Int.toNat_natCast, Nat.reduceBEq, nzs, stV, hS.bag.row.one, hS.vols.row.one, i0, i0.2, g1.1, g1.2, yi, yi.2, y0.1, y0.2]
    exact stKO_of (fun s => .tup [s, .v (.int .i64 0)]) _ hS (by simp only [trimS, hidAt]; exact (if_neg (fun h => by cases h)).symm) hset
  | true =>
    have hD := drop b2 bag (true, q1, q2) M2 hS.bag.row
    simp only [idS] at hD
    simp only [shs, zts, sos, sls, zss, eqs, sx, sb1, sb2, sb3, sb4, sb5, sb6, sb7, ↓reduceIte, Nat.reduceAdd, Nat.reduceMul, Nat.reduceDiv, Nat.reduceEqDiff, Nat.reduceLT, Nat.reduceLeDiff, reduceCtorEq, Int.reduceEq, Int.reduceNe, Int.reduceLT, Int.reduceLE, Int.reduceAdd, Int.reduceSub, Int.reduceMul, Int.reduceNeg, Int.reduceToNat, Int.cast_ofNat_Int, Int.natCast_zero, Int.natCast_one, Int.toNat_natCast, Nat.reduceBEq, nzs, stV, hS.bag.row.one, hS.vols.row.one, i0, i0.2, g1.1, g1.2, yi, yi.2, y0.1, y0.2]
    refine DrawK.plan (tk [2, 3, 4] (.one 0 (.one 1 (.one 5 (tk [6, 7, 8, 9] (.one 10 .done)))))) (by kernel_rfl) (by kernel_rfl) ?_
    simp only [shs, zts, sos, sls, zss, eqs, sx, sb1, sb2, sb3, sb4, sb5, sb6, sb7, ↓reduceIte, Nat.reduceAdd, Nat.reduceMul, Nat.reduceDiv, Nat.reduceEqDiff, Nat.reduceLT, Nat.reduceLeDiff, reduceCtorEq, Int.reduceEq, Int.reduceNe, Int.reduceLT, Int.reduceLE, Int.reduceAdd, Int.reduceSub, Int.reduceMul, Int.reduceNeg, Int.reduceToNat, Int.cast_ofNat_Int, Int.natCast_zero, Int.natCast_one, Int.toNat_natCast, Nat.reduceBEq, nzs, se1, se2, tks, yi.2, y0.1, y0.2, y1.1, y1.2, y2.1, y2.2]
    refine CallK.own (T := fun s => .tup [s, .v (.int .i64 (dropS bag (true, q1, q2)).2)]) (Ctx.fst _) rfl rfl hD rfl fun M3 hM3 => ?_
    have hS3 := hS.le hM3
    simp only [shs, zts, sos, sls, zss, eqs, sx, sb1, sb2, sb3, sb4, sb5, sb6, sb7, ↓reduceIte, Nat.reduceAdd, Nat.reduceMul, Nat.reduceDiv, Nat.reduceEqDiff, Nat.reduceLT, Nat.reduceLeDiff, reduceCtorEq, Int.reduceEq, Int.reduceNe, Int.reduceLT, Int.reduceLE, Int.reduceAdd, Int.reduceSub, Int.reduceMul, Int.reduceNeg, Int.reduceToNat, Int.cast_ofNat_Int, Int.natCast_zero, Int.natCast_one, Int.toNat_natCast, Nat.reduceBEq, nzs, se1, se2, tks, hS.vols.row.one, stRD_ea]
    refine ⟨hM3, hM3, yi.2, ?_⟩
    have hget : (x2.2.2.map encI3).getD m [] = [.bool true, .int .i64 q1, .int .i64 q2] := getD_id hid2
    refine OpK.turnF (es := x2.2.2.map encI3) rfl rfl (of_eq_true so49) rfl rfl rfl rfl (by rw [sh49]; rfl) (hS3.blk x2 hx2m) (hS.fw hx2m) hml2 (by decide) fun M4 hb4 hr4 => ?_
    have hr5 : RowF M4 x2.1 3 ((x2.2.2.set m hole).map encI3) := by
      rw [hget] at hr4
      rw [← idsl_set]
      exact hr4
    have hS4 := hS3.turnB hx2 hb4 hr5
    have eA : (trimS bag (ws.map (·.2)) i m).1 = (dropS bag (true, q1, q2)).1 := by
      simp only [trimS, hidAt]
      rw [dropS_ok hB]
      exact if_pos rfl
    simp only [shs, zts, sos, sls, zss, eqs, sx, sb1, sb2, sb3, sb4, sb5, sb6, sb7, ↓reduceIte, Nat.reduceAdd, Nat.reduceMul, Nat.reduceDiv, Nat.reduceEqDiff, Nat.reduceLT, Nat.reduceLeDiff, reduceCtorEq, Int.reduceEq, Int.reduceNe, Int.reduceLT, Int.reduceLE, Int.reduceAdd, Int.reduceSub, Int.reduceMul, Int.reduceNeg, Int.reduceToNat, Int.cast_ofNat_Int, Int.natCast_zero, Int.natCast_one, Int.toNat_natCast, Nat.reduceBEq, nzs]
    refine ⟨hS.vols.row.one, .own 344, .v v2, _, rfl, hset, fun k _ h2 => (by cases h2), ⟨?_, ⟨hS4.vols, hS4.fv⟩⟩, fun w hw => ⟨hS4.blk w hw, hS4.fw hw⟩, (List.pairwise_cons.1 hS4.ap).2⟩
    rw [eA]
    rfl
theorem vwrite (b v : Value) (bag : List It) (ws : List WV) (n : List UInt8) (at' : Int) (s : List UInt8) (M : Mem) (hb : RowM M b 4 (bag.map Bg.encT)) (hv : VolsM M v ws) :
    Meets Proofs.Tryz.prog 10 [stV b v, .v (.string ⟨n.toArray⟩), .v (.int .i64 at'), .v (.string ⟨s.toArray⟩)] M (StM (fun t => .tup [t, .v (.int .i64 (writeA bag (ws.map (·.2)) n at' s).2)]) (writeA bag (ws.map (·.2)) n at' s).1) := by
  refine Meets.settleM (Ctx.fst _) ?_
  refine Meets.of_body [0,1,2,3,4,8,9,10,11,12,14,15,24,43] Proofs.Tryz.func10 rfl (by kernel_rfl) rfl fun w => ?_
  have hT := vtrim b v bag ws n at' M hb hv
  unfold trimA at hT
  generalize hc : writeA bag (ws.map (·.2)) n at' s = c
  unfold writeA at hc
  have hP := place b v bag ws n at' M hb hv
  unfold plI at hP
  simp only [stV] at hP hT
  simp only [Proofs.Tryz.f10, stV, shs, zts, sos, sls, zss, eqs, sx, sb1, sb2, sb3, sb4, sb5, sb6, sb7, ↓reduceIte, Nat.reduceAdd, Nat.reduceMul, Nat.reduceDiv, Nat.reduceEqDiff, Nat.reduceLT, Nat.reduceLeDiff, reduceCtorEq, Int.reduceEq, Int.reduceNe, Int.reduceLT, Int.reduceLE, Int.reduceAdd, Int.reduceSub, Int.reduceMul, Int.reduceNeg, Int.reduceToNat, Int.cast_ofNat_Int, Int.natCast_zero, Int.natCast_one, Int.toNat_natCast, Nat.reduceBEq, nzs]
  refine CallK.pure ⟨rfl, rfl⟩ rfl hP ?_
  by_cases h1 : plE bag (ws.map (·.2)) n at' = 0
  rotate_left
  · have c1 := eq_false h1
    rw [if_pos h1] at hc
    subst hc
    simp only [shs, zts, sos, sls, zss, eqs, sx, sb1, sb2, sb3, sb4, sb5, sb6, sb7, ↓reduceIte, Nat.reduceAdd, Nat.reduceMul, Nat.reduceDiv, Nat.reduceEqDiff, Nat.reduceLT, Nat.reduceLeDiff, reduceCtorEq, Int.reduceEq, Int.reduceNe, Int.reduceLT, Int.reduceLE, Int.reduceAdd, Int.reduceSub, Int.reduceMul, Int.reduceNeg, Int.reduceToNat, Int.cast_ofNat_Int, Int.natCast_zero, Int.natCast_one, Int.toNat_natCast, Nat.reduceBEq, nzs, c1]
    exact stO_zero _ _ _
  rw [if_neg (fun h => h h1)] at hc hT
  obtain ⟨hs, h2, h3, h4⟩ := plE_ok h1
  obtain ⟨i, x, k1, k2, k3, k4⟩ := volIx_at h2
  have hbk := blks_at k1 k4
  rw [hbk] at h4
  obtain ⟨m, rfl⟩ : ∃ m : Nat, at' = m := ⟨at'.toNat, by omega⟩
  obtain ⟨hB, hV, _⟩ := stE_ok hs
  rw [k1] at hc hT ⊢
  simp only [Int.toNat_natCast] at hc hT
  simp only [shs, zts, sos, sls, zss, eqs, sx, sb1, sb2, sb3, sb4, sb5, sb6, sb7, ↓reduceIte, Nat.reduceAdd, Nat.reduceMul, Nat.reduceDiv, Nat.reduceEqDiff, Nat.reduceLT, Nat.reduceLeDiff, reduceCtorEq, Int.reduceEq, Int.reduceNe, Int.reduceLT, Int.reduceLE, Int.reduceAdd, Int.reduceSub, Int.reduceMul, Int.reduceNeg, Int.reduceToNat, Int.cast_ofNat_Int, Int.natCast_zero, Int.natCast_one, Int.toNat_natCast, Nat.reduceBEq, nzs, h1, if_true]
  refine CallK.stF (T := fun t => .tup [t, .v (.int .i64 0)]) (fun _ _ => rfl) rfl rfl hT fun b2 v2 ws2 M2 hM2 hw2 hS => ?_
  have hml : m < x.2.2.length := by omega
  have hil := (List.getElem?_eq_some_iff.1 k4).1
  have hy : (trimS bag (ws.map (·.2)) i m).2[i]? = some (x.2.1, x.2.2.set m hole) := by
    show (setV (ws.map (·.2)) i m hole)[i]? = _
    rw [setV_at k4, List.getElem?_set_self hil]
  obtain ⟨x2, hx2, e2⟩ := ws_at hw2 hy
  have hx2m := List.mem_of_getElem? hx2
  obtain ⟨_, g1, i0⟩ := vol_at hS.volsM hx2
  have hblk := hS.blk x2 hx2m
  have hml2 : m < x2.2.2.length := by rw [e2, List.length_set]; exact hml
  obtain ⟨id, hid, _⟩ := l_drop_at (l := x2.2.2) (i := m) hml2
  obtain ⟨y0, y1, y2, yi⟩ := id_at hblk.row hid
  have hB2 : bagE (trimS bag (ws.map (·.2)) i m).1 = 0 := bagE_lessId hB _
  have hPu := put b2 (trimS bag (ws.map (·.2)) i m).1 s M2 hS.bag.row
  have hp : putS (trimS bag (ws.map (·.2)) i m).1 s = putG (trimS bag (ws.map (·.2)) i m).1 s := if_neg (fun h => h hB2)
  rw [hp] at hPu
  unfold writeS at hc
  change (if (putG (trimS bag (ws.map (·.2)) i m).1 s).2.2 ≠ 0 then (zSt, (putG (trimS bag (ws.map (·.2)) i m).1 s).2.2) else (((putG (trimS bag (ws.map (·.2)) i m).1 s).1, setV (ws.map (·.2)) i m (putG (trimS bag (ws.map (·.2)) i m).1 s).2.1), 0)) = c at hc
  simp only [shs, zts, sos, sls, zss, eqs, sx, sb1, sb2, sb3, sb4, sb5, sb6, sb7, ↓reduceIte, Nat.reduceAdd, Nat.reduceMul, Nat.reduceDiv, Nat.reduceEqDiff, Nat.reduceLT, Nat.reduceLeDiff, reduceCtorEq, Int.reduceEq, Int.reduceNe, Int.reduceLT, Int.reduceLE, Int.reduceAdd, Int.reduceSub, Int.reduceMul, Int.reduceNeg, Int.reduceToNat, Int.cast_ofNat_Int, Int.natCast_zero, Int.natCast_one, Int.toNat_natCast, Nat.reduceBEq, nzs, stV, hS.bag.row.one, hS.vols.row.one]
  refine CallK.own (putT_ctx _ _) rfl rfl hPu rfl fun M3 hM3 => ?_
  generalize putG (trimS bag (ws.map (·.2)) i m).1 s = pg at *
  obtain ⟨pl, pid, pe⟩ := pg
  simp only at hc
  have hS3 := hS.le hM3
  by_cases h5 : pe = 0
  rotate_left
  · have c5 := eq_false h5
    rw [if_pos h5] at hc
    subst hc
    simp only [shs, zts, sos, sls, zss, eqs, sx, sb1, sb2, sb3, sb4, sb5, sb6, sb7, ↓reduceIte, Nat.reduceAdd, Nat.reduceMul, Nat.reduceDiv, Nat.reduceEqDiff, Nat.reduceLT, Nat.reduceLeDiff, reduceCtorEq, Int.reduceEq, Int.reduceNe, Int.reduceLT, Int.reduceLE, Int.reduceAdd, Int.reduceSub, Int.reduceMul, Int.reduceNeg, Int.reduceToNat, Int.cast_ofNat_Int, Int.natCast_zero, Int.natCast_one, Int.toNat_natCast, Nat.reduceBEq, nzs, putT, idS, c5, hS.vols.row.one]
    exact stO_zero _ _ _
  rw [if_neg (fun h => h h5)] at hc
  subst hc
  simp only [shs, zts, sos, sls, zss, eqs, sx, sb1, sb2, sb3, sb4, sb5, sb6, sb7, ↓reduceIte, Nat.reduceAdd, Nat.reduceMul, Nat.reduceDiv, Nat.reduceEqDiff, Nat.reduceLT, Nat.reduceLeDiff, reduceCtorEq, Int.reduceEq, Int.reduceNe, Int.reduceLT, Int.reduceLE, Int.reduceAdd, Int.reduceSub, Int.reduceMul, Int.reduceNeg, Int.reduceToNat, Int.cast_ofNat_Int, Int.natCast_zero, Int.natCast_one, Int.toNat_natCast, Nat.reduceBEq, nzs, putT, idS, h5, hS.vols.row.one]
  have g1' := vol_at hS3.volsM hx2
  refine DrawK.heldT 12 [120] (tk [2, 6, 7, 8] (.one 0 (.one 1 (tk [3, 4, 5, 9] (.one 10 (tk [11] .done)))))) (by kernel_rfl) (by kernel_rfl) fun xs => ?_
  simp only [shs, zts, sos, sls, zss, eqs, sx, sb1, sb2, sb3, sb4, sb5, sb6, sb7, ↓reduceIte, Nat.reduceAdd, Nat.reduceMul, Nat.reduceDiv, Nat.reduceEqDiff, Nat.reduceLT, Nat.reduceLeDiff, reduceCtorEq, Int.reduceEq, Int.reduceNe, Int.reduceLT, Int.reduceLE, Int.reduceAdd, Int.reduceSub, Int.reduceMul, Int.reduceNeg, Int.reduceToNat, Int.cast_ofNat_Int, Int.natCast_zero, Int.natCast_one, Int.toNat_natCast, Nat.reduceBEq, nzs, se1, se2, tks, i0, i0.2, g1'.2.1.1, g1'.2.1.2, yi, yi.2, stRD_ea, hS.vols.row.one]
  have hml3 : m < (x2.2.2.map encI3).length := by rw [List.length_map]; exact hml2
  have hget : (x2.2.2.map encI3).getD m [] = [.bool id.1, .int .i64 id.2.1, .int .i64 id.2.2] := getD_id hid
  refine OpK.turnF (es := x2.2.2.map encI3) rfl rfl (of_eq_true so49) rfl rfl rfl rfl (by rw [sh49]; rfl) (hS3.blk x2 hx2m) (hS.fw hx2m) hml3 (Nat.le_refl 3) fun M4 hb4 hr4 => ?_
  have hr5 : RowF M4 x2.1 3 ((x2.2.2.set m pid).map encI3) := by
    rw [hget] at hr4
    rw [← idsl_set]
    exact hr4
  have hS4 := hS3.turnB hx2 hb4 hr5
  simp only [shs, zts, sos, sls, zss, eqs, sx, sb1, sb2, sb3, sb4, sb5, sb6, sb7, ↓reduceIte, Nat.reduceAdd, Nat.reduceMul, Nat.reduceDiv, Nat.reduceEqDiff, Nat.reduceLT, Nat.reduceLeDiff, reduceCtorEq, Int.reduceEq, Int.reduceNe, Int.reduceLT, Int.reduceLE, Int.reduceAdd, Int.reduceSub, Int.reduceMul, Int.reduceNeg, Int.reduceToNat, Int.cast_ofNat_Int, Int.natCast_zero, Int.natCast_one, Int.toNat_natCast, Nat.reduceBEq, nzs]
  refine ⟨hS.vols.row.one, .own 304, .v v2, _, rfl, ?_, fun k _ h2 => (by cases h2), ⟨rfl, hS4.vols.row⟩, fun w hw => (hS4.blk w hw).row⟩
  have hv2 : ws2.map (·.2) = setV (ws.map (·.2)) i m hole := hw2
  show (ws2.set i (x2.1, x2.2.1, x2.2.2.set m pid)).map (·.2) = setV (ws.map (·.2)) i m pid
  rw [List.map_set, hv2, setV_at k4, setV_at k4, List.set_set, e2, List.set_set]
end Go.X.Vo

