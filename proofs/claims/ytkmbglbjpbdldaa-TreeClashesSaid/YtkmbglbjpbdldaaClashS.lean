/- woollaw.TreeClashes returns true. Conditions: none. -/
import Derived.Test.YtkmbglbjpbdldaaClash5
set_option linter.unusedSimpArgs false
set_option linter.unusedVariables false
set_option maxHeartbeats 4000000
set_option maxRecDepth 20000
namespace Go.X.Ts
open Go Go.X Go.X.Pol Go.X.Pl Go.X.Rp Go.X.Pd Go.X.Md Go.X.Mv Go.X.Pt Go.X.Tv

theorem clSays (ya yb : Value) (a b : List (List UInt8)) (M : Mem) (ha : RowM M ya 1 (a.map encS)) (hb : RowM M yb 1 (b.map encS)) (hla : ∀ s ∈ a, s.length ≤ maxLen) (hlb : ∀ s ∈ b, s.length ≤ maxLen) :
    Meets Proofs.Try.prog 5 [.v ya, .v yb] M fun r _ _ => r = .v (.bool true) := by
  refine Meets.of_body [0,1,4,5,6,7,8,9,10,11,12,13,14,15,33,44,46,90,100] Proofs.Try.func5 rfl (by kernel_rfl) rfl fun w => ?_
  have hT := tclash ya yb a b M ha hb hla hlb
  have hC := compare ya yb a b M ha hb hla hlb
  simp only [Proofs.Try.f5, shs, zts, sos, sls, zss, eqs, sx, sb1, sb2, sb3, sb4, sb5, ↓reduceIte, Nat.reduceAdd, Nat.reduceMul, Nat.reduceDiv, Nat.reduceEqDiff, Nat.reduceLT, Nat.reduceLeDiff, reduceCtorEq, Int.reduceEq, Int.reduceNe, Int.reduceLT, Int.reduceLE, Int.reduceAdd, Int.reduceSub, Int.reduceMul, Int.reduceNeg, Int.reduceToNat, Int.cast_ofNat_Int, Int.natCast_zero, Int.natCast_one, Int.toNat_natCast, Nat.reduceBEq]
  by_cases h : cmE a b = 0
  · obtain ⟨⟨ea, eb⟩, hab⟩ := cmE_ok h
    obtain ⟨a0, a32, a64⟩ := lvE_ok ea
    obtain ⟨b0, b32, b64⟩ := lvE_ok eb
    have h0 := List.length_pos_iff.2 a0
    have d1 : ((a.length : Int) = (b.length : Int)) = True := eq_true (by omega)
    unfold tcR at hT
    unfold cmR at hC
    rw [if_pos h] at hT hC
    rw [h] at hC
    have hO : tcO a b = if topV (lv0 a) ≠ topV (lv0 b) ∨ a = b then none else clP a b := rfl
    have hN : clP a b = none → a = b := fun hn => by
      unfold clP at hn
      cases hs : srD (lv0 a) (lv0 b) 5 with
      | some p => rw [hs] at hn; cases hn
      | none =>
        rw [hs, orO] at hn
        exact srL_none hab hn
    have hcl : ∀ M', M.le M' → Meets Proofs.Try.prog 33 [.v ya, .v yb] M' (fun r _ _ => r = ans2 (clP a b)) := fun M' hM => rclash ya yb a b M' (ha.le hM) (hb.le hM) h0 hab a32 a64 b64
    generalize tcO a b = T at *
    generalize clP a b = C at *
    obtain ⟨s, t, c, hs, hs1, hs2⟩ : ∃ (s t : List UInt8) (c : Int), ans3 T = .tup [.v (.string ⟨s.toArray⟩), .v (.string ⟨t.toArray⟩), .v (.int .i64 c)] ∧ (T = none → s = [] ∧ t = [] ∧ c = 4) ∧ (∀ p, T = some p → p = (s, t) ∧ c = 0) := by
      cases T with
      | none => exact ⟨[], [], 4, rfl, fun _ => ⟨rfl, rfl, rfl⟩, fun p hp => nomatch hp⟩
      | some p => exact ⟨p.1, p.2, 0, rfl, fun hn => (nomatch hn), fun q hq => (by cases hq; exact ⟨rfl, rfl⟩)⟩
    rw [hs] at hT
    refine CallK.pure ⟨rfl, rfl⟩ rfl hT ?_
    simp only [shs, zts, sos, sls, zss, eqs, sx, sb1, sb2, sb3, sb4, sb5, ↓reduceIte, Nat.reduceAdd, Nat.reduceMul, Nat.reduceDiv, Nat.reduceEqDiff, Nat.reduceLT, Nat.reduceLeDiff, reduceCtorEq, Int.reduceEq, Int.reduceNe, Int.reduceLT, Int.reduceLE, Int.reduceAdd, Int.reduceSub, Int.reduceMul, Int.reduceNeg, Int.reduceToNat, Int.cast_ofNat_Int, Int.natCast_zero, Int.natCast_one, Int.toNat_natCast, Nat.reduceBEq]
    refine CallK.row (Ctx.fst3 _ _) rfl rfl hC fun v1 M1 hM1 hv1 => ?_
    have ha1 := ha.le hM1
    have hb1 := hb.le hM1
    simp only [shs, zts, sos, sls, zss, eqs, sx, sb1, sb2, sb3, sb4, sb5, ↓reduceIte, Nat.reduceAdd, Nat.reduceMul, Nat.reduceDiv, Nat.reduceEqDiff, Nat.reduceLT, Nat.reduceLeDiff, reduceCtorEq, Int.reduceEq, Int.reduceNe, Int.reduceLT, Int.reduceLE, Int.reduceAdd, Int.reduceSub, Int.reduceMul, Int.reduceNeg, Int.reduceToNat, Int.cast_ofNat_Int, Int.natCast_zero, Int.natCast_one, Int.toNat_natCast, Nat.reduceBEq]
    refine CallK.pure ⟨rfl, rfl⟩ rfl (rleaves ya a M1 ha1 hla) ?_
    rw [ea]
    simp only [shs, zts, sos, sls, zss, eqs, sx, sb1, sb2, sb3, sb4, sb5, ↓reduceIte, Nat.reduceAdd, Nat.reduceMul, Nat.reduceDiv, Nat.reduceEqDiff, Nat.reduceLT, Nat.reduceLeDiff, reduceCtorEq, Int.reduceEq, Int.reduceNe, Int.reduceLT, Int.reduceLE, Int.reduceAdd, Int.reduceSub, Int.reduceMul, Int.reduceNeg, Int.reduceToNat, Int.cast_ofNat_Int, Int.natCast_zero, Int.natCast_one, Int.toNat_natCast, Nat.reduceBEq]
    refine CallK.pure ⟨rfl, rfl⟩ rfl (rleaves yb b M1 hb1 hlb) ?_
    rw [eb]
    simp only [shs, zts, sos, sls, zss, eqs, sx, sb1, sb2, sb3, sb4, sb5, ↓reduceIte, Nat.reduceAdd, Nat.reduceMul, Nat.reduceDiv, Nat.reduceEqDiff, Nat.reduceLT, Nat.reduceLeDiff, reduceCtorEq, Int.reduceEq, Int.reduceNe, Int.reduceLT, Int.reduceLE, Int.reduceAdd, Int.reduceSub, Int.reduceMul, Int.reduceNeg, Int.reduceToNat, Int.cast_ofNat_Int, Int.natCast_zero, Int.natCast_one, Int.toNat_natCast, Nat.reduceBEq, ha.len, ha.sl, hb.len, hb.sl, List.length_map, d1]
    refine CallK.row (Ctx.fst _) rfl rfl ((rcompare 32 ya yb a b M1 ha1 hb1 h0 hab a32 a32 a64 b64).mono fun s H M' _ ⟨k, e, hk⟩ => ⟨.own k, e, hk⟩) fun v2 M2 hM2 hv2 => ?_
    have hv1' := hv1.le hM2
    rw [encN_map] at hv1' hv2
    simp only [shs, zts, sos, sls, zss, eqs, sx, sb1, sb2, sb3, sb4, sb5, ↓reduceIte, Nat.reduceAdd, Nat.reduceMul, Nat.reduceDiv, Nat.reduceEqDiff, Nat.reduceLT, Nat.reduceLeDiff, reduceCtorEq, Int.reduceEq, Int.reduceNe, Int.reduceLT, Int.reduceLE, Int.reduceAdd, Int.reduceSub, Int.reduceMul, Int.reduceNeg, Int.reduceToNat, Int.cast_ofNat_Int, Int.natCast_zero, Int.natCast_one, Int.toNat_natCast, Nat.reduceBEq]
    refine CallK.pure ⟨rfl, rfl⟩ rfl (eqI v1 v2 _ _ M2 hv1' hv2) ?_
    simp only [shs, zts, sos, sls, zss, eqs, sx, sb1, sb2, sb3, sb4, sb5, ↓reduceIte, Nat.reduceAdd, Nat.reduceMul, Nat.reduceDiv, Nat.reduceEqDiff, Nat.reduceLT, Nat.reduceLeDiff, reduceCtorEq, Int.reduceEq, Int.reduceNe, Int.reduceLT, Int.reduceLE, Int.reduceAdd, Int.reduceSub, Int.reduceMul, Int.reduceNeg, Int.reduceToNat, Int.cast_ofNat_Int, Int.natCast_zero, Int.natCast_one, Int.toNat_natCast, Nat.reduceBEq]
    refine CallK.pure ⟨rfl, rfl⟩ rfl (eqSt' ya yb a b M2 (ha1.le hM2) (hb1.le hM2)) ?_
    by_cases hee : a = b
    · have d3 : (a = b) = True := eq_true hee
      rw [if_pos (.inr hee)] at hO
      obtain ⟨rfl, rfl, rfl⟩ := hs1 hO
      simp only [shs, zts, sos, sls, zss, eqs, sx, sb1, sb2, sb3, sb4, sb5, ↓reduceIte, Nat.reduceAdd, Nat.reduceMul, Nat.reduceDiv, Nat.reduceEqDiff, Nat.reduceLT, Nat.reduceLeDiff, reduceCtorEq, Int.reduceEq, Int.reduceNe, Int.reduceLT, Int.reduceLE, Int.reduceAdd, Int.reduceSub, Int.reduceMul, Int.reduceNeg, Int.reduceToNat, Int.cast_ofNat_Int, Int.natCast_zero, Int.natCast_one, Int.toNat_natCast, Nat.reduceBEq, d3]
    have d3 : (a = b) = False := eq_false hee
    simp only [shs, zts, sos, sls, zss, eqs, sx, sb1, sb2, sb3, sb4, sb5, ↓reduceIte, Nat.reduceAdd, Nat.reduceMul, Nat.reduceDiv, Nat.reduceEqDiff, Nat.reduceLT, Nat.reduceLeDiff, reduceCtorEq, Int.reduceEq, Int.reduceNe, Int.reduceLT, Int.reduceLE, Int.reduceAdd, Int.reduceSub, Int.reduceMul, Int.reduceNeg, Int.reduceToNat, Int.cast_ofNat_Int, Int.natCast_zero, Int.natCast_one, Int.toNat_natCast, Nat.reduceBEq, d3]
    refine CallK.pure ⟨rfl, rfl⟩ rfl (rroot 32 ya a M2 (ha1.le hM2) a0 a32 a32 a64) ?_
    simp only [shs, zts, sos, sls, zss, eqs, sx, sb1, sb2, sb3, sb4, sb5, ↓reduceIte, Nat.reduceAdd, Nat.reduceMul, Nat.reduceDiv, Nat.reduceEqDiff, Nat.reduceLT, Nat.reduceLeDiff, reduceCtorEq, Int.reduceEq, Int.reduceNe, Int.reduceLT, Int.reduceLE, Int.reduceAdd, Int.reduceSub, Int.reduceMul, Int.reduceNeg, Int.reduceToNat, Int.cast_ofNat_Int, Int.natCast_zero, Int.natCast_one, Int.toNat_natCast, Nat.reduceBEq]
    refine CallK.pure ⟨rfl, rfl⟩ rfl (rroot 32 yb b M2 (hb1.le hM2) b0 b32 b32 b64) ?_
    by_cases hd : topV (lv0 a) = topV (lv0 b)
    · have d2 : ((topV (lv0 a) : Int) = (topV (lv0 b) : Int)) = True := eq_true (by omega)
      rw [if_neg (by rintro (h | h); exact h hd; exact hee h)] at hO
      cases hCn : C with
      | none => exact (hee (hN hCn)).elim
      | some p =>
        obtain ⟨rfl, rfl⟩ := hs2 p (hO.trans hCn)
        have hcl' := hcl M2 (hM1.trans hM2)
        rw [hCn, ans2, strV, strV] at hcl'
        simp only [shs, zts, sos, sls, zss, eqs, sx, sb1, sb2, sb3, sb4, sb5, ↓reduceIte, Nat.reduceAdd, Nat.reduceMul, Nat.reduceDiv, Nat.reduceEqDiff, Nat.reduceLT, Nat.reduceLeDiff, reduceCtorEq, Int.reduceEq, Int.reduceNe, Int.reduceLT, Int.reduceLE, Int.reduceAdd, Int.reduceSub, Int.reduceMul, Int.reduceNeg, Int.reduceToNat, Int.cast_ofNat_Int, Int.natCast_zero, Int.natCast_one, Int.toNat_natCast, Nat.reduceBEq, d2]
        refine CallK.pure ⟨rfl, rfl⟩ rfl hcl' ?_
        simp only [shs, zts, sos, sls, zss, eqs, sx, sb1, sb2, sb3, sb4, sb5, ↓reduceIte, Nat.reduceAdd, Nat.reduceMul, Nat.reduceDiv, Nat.reduceEqDiff, Nat.reduceLT, Nat.reduceLeDiff, reduceCtorEq, Int.reduceEq, Int.reduceNe, Int.reduceLT, Int.reduceLE, Int.reduceAdd, Int.reduceSub, Int.reduceMul, Int.reduceNeg, Int.reduceToNat, Int.cast_ofNat_Int, Int.natCast_zero, Int.natCast_one, Int.toNat_natCast, Nat.reduceBEq]
    · have d2 : ((topV (lv0 a) : Int) = (topV (lv0 b) : Int)) = False := eq_false (by omega)
      rw [if_pos (.inl hd)] at hO
      obtain ⟨rfl, rfl, rfl⟩ := hs1 hO
      simp only [shs, zts, sos, sls, zss, eqs, sx, sb1, sb2, sb3, sb4, sb5, ↓reduceIte, Nat.reduceAdd, Nat.reduceMul, Nat.reduceDiv, Nat.reduceEqDiff, Nat.reduceLT, Nat.reduceLeDiff, reduceCtorEq, Int.reduceEq, Int.reduceNe, Int.reduceLT, Int.reduceLE, Int.reduceAdd, Int.reduceSub, Int.reduceMul, Int.reduceNeg, Int.reduceToNat, Int.cast_ofNat_Int, Int.natCast_zero, Int.natCast_one, Int.toNat_natCast, Nat.reduceBEq, d2]
  · unfold tcR at hT
    unfold cmR at hC
    rw [if_neg h] at hT hC
    rw [strV] at hT
    have hE : (if lvE a ≠ 0 then lvE a else if lvE b ≠ 0 then lvE b else if a.length ≠ b.length then (11 : Int) else 0) = cmE a b := rfl
    generalize cmE a b = c at hE h hT hC
    have dc : (c = 0) = False := eq_false h
    refine CallK.pure ⟨rfl, rfl⟩ rfl hT ?_
    simp only [shs, zts, sos, sls, zss, eqs, sx, sb1, sb2, sb3, sb4, sb5, ↓reduceIte, Nat.reduceAdd, Nat.reduceMul, Nat.reduceDiv, Nat.reduceEqDiff, Nat.reduceLT, Nat.reduceLeDiff, reduceCtorEq, Int.reduceEq, Int.reduceNe, Int.reduceLT, Int.reduceLE, Int.reduceAdd, Int.reduceSub, Int.reduceMul, Int.reduceNeg, Int.reduceToNat, Int.cast_ofNat_Int, Int.natCast_zero, Int.natCast_one, Int.toNat_natCast, Nat.reduceBEq]
    refine CallK.row (Ctx.fst3 _ _) rfl rfl hC fun v1 M1 hM1 hv1 => ?_
    have ha1 := ha.le hM1
    have hb1 := hb.le hM1
    simp only [shs, zts, sos, sls, zss, eqs, sx, sb1, sb2, sb3, sb4, sb5, ↓reduceIte, Nat.reduceAdd, Nat.reduceMul, Nat.reduceDiv, Nat.reduceEqDiff, Nat.reduceLT, Nat.reduceLeDiff, reduceCtorEq, Int.reduceEq, Int.reduceNe, Int.reduceLT, Int.reduceLE, Int.reduceAdd, Int.reduceSub, Int.reduceMul, Int.reduceNeg, Int.reduceToNat, Int.cast_ofNat_Int, Int.natCast_zero, Int.natCast_one, Int.toNat_natCast, Nat.reduceBEq]
    refine CallK.pure ⟨rfl, rfl⟩ rfl (rleaves ya a M1 ha1 hla) ?_
    by_cases ea : lvE a = 0
    · have ea1 : (lvE a = 0) = True := eq_true ea
      rw [if_neg (by simp [ea])] at hE
      simp only [shs, zts, sos, sls, zss, eqs, sx, sb1, sb2, sb3, sb4, sb5, ↓reduceIte, Nat.reduceAdd, Nat.reduceMul, Nat.reduceDiv, Nat.reduceEqDiff, Nat.reduceLT, Nat.reduceLeDiff, reduceCtorEq, Int.reduceEq, Int.reduceNe, Int.reduceLT, Int.reduceLE, Int.reduceAdd, Int.reduceSub, Int.reduceMul, Int.reduceNeg, Int.reduceToNat, Int.cast_ofNat_Int, Int.natCast_zero, Int.natCast_one, Int.toNat_natCast, Nat.reduceBEq, ea1]
      refine CallK.pure ⟨rfl, rfl⟩ rfl (rleaves yb b M1 hb1 hlb) ?_
      by_cases eb : lvE b = 0
      · have eb1 : (lvE b = 0) = True := eq_true eb
        rw [if_neg (by simp [eb])] at hE
        by_cases hl : a.length = b.length
        · rw [if_neg (by simp [hl])] at hE
          exact (h hE.symm).elim
        · rw [if_pos hl] at hE
          have d1 : ((a.length : Int) = (b.length : Int)) = False := eq_false (by omega)
          subst hE
          simp only [shs, zts, sos, sls, zss, eqs, sx, sb1, sb2, sb3, sb4, sb5, ↓reduceIte, Nat.reduceAdd, Nat.reduceMul, Nat.reduceDiv, Nat.reduceEqDiff, Nat.reduceLT, Nat.reduceLeDiff, reduceCtorEq, Int.reduceEq, Int.reduceNe, Int.reduceLT, Int.reduceLE, Int.reduceAdd, Int.reduceSub, Int.reduceMul, Int.reduceNeg, Int.reduceToNat, Int.cast_ofNat_Int, Int.natCast_zero, Int.natCast_one, Int.toNat_natCast, Nat.reduceBEq, eb1, d1, ha.len, ha.sl, hb.len, hb.sl, hv1.len, hv1.sl, List.length_map, List.length_nil]
      · have eb1 : (lvE b = 0) = False := eq_false eb
        rw [if_pos eb] at hE
        subst hE
        simp only [shs, zts, sos, sls, zss, eqs, sx, sb1, sb2, sb3, sb4, sb5, ↓reduceIte, Nat.reduceAdd, Nat.reduceMul, Nat.reduceDiv, Nat.reduceEqDiff, Nat.reduceLT, Nat.reduceLeDiff, reduceCtorEq, Int.reduceEq, Int.reduceNe, Int.reduceLT, Int.reduceLE, Int.reduceAdd, Int.reduceSub, Int.reduceMul, Int.reduceNeg, Int.reduceToNat, Int.cast_ofNat_Int, Int.natCast_zero, Int.natCast_one, Int.toNat_natCast, Nat.reduceBEq, eb1, ha.len, ha.sl, hb.len, hb.sl, hv1.len, hv1.sl, List.length_map, List.length_nil]
    · have ea1 : (lvE a = 0) = False := eq_false ea
      rw [if_pos ea] at hE
      subst hE
      simp only [shs, zts, sos, sls, zss, eqs, sx, sb1, sb2, sb3, sb4, sb5, ↓reduceIte, Nat.reduceAdd, Nat.reduceMul, Nat.reduceDiv, Nat.reduceEqDiff, Nat.reduceLT, Nat.reduceLeDiff, reduceCtorEq, Int.reduceEq, Int.reduceNe, Int.reduceLT, Int.reduceLE, Int.reduceAdd, Int.reduceSub, Int.reduceMul, Int.reduceNeg, Int.reduceToNat, Int.cast_ofNat_Int, Int.natCast_zero, Int.natCast_one, Int.toNat_natCast, Nat.reduceBEq, ea1, ha.len, ha.sl, hb.len, hb.sl, hv1.len, hv1.sl, List.length_map, List.length_nil]
theorem clLaw (a b : Value × List (List UInt8)) (M : Mem) (h : RowM M a.1 1 (a.2.map fun s => [.string ⟨s.toArray⟩]) ∧ ∀ s ∈ a.2, s.length ≤ maxLen) (h' : RowM M b.1 1 (b.2.map fun s => [.string ⟨s.toArray⟩]) ∧ ∀ s ∈ b.2, s.length ≤ maxLen) :
    Meets Proofs.Try.prog 5 [.v a.1, .v b.1] M fun r _ _ => r = .v (.bool true) := clSays a.1 b.1 a.2 b.2 M h.1 h'.1 h.2 h'.2
end Go.X.Ts
