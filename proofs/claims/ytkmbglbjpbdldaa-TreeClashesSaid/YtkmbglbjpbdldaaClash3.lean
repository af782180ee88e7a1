/- sync.Compare: its contract. Conditions: none. -/
import Derived.Test.YtkmbglbjpbdldaaClash2
set_option linter.unusedSimpArgs false
set_option linter.unusedVariables false
set_option maxHeartbeats 4000000
set_option maxRecDepth 20000
namespace Go.X.Ts
open Go Go.X Go.X.Pol Go.X.Pl Go.X.Rp Go.X.Pd Go.X.Md Go.X.Mv Go.X.Pt Go.X.Tv

theorem oneV_sl {v : Value} (h : isSl v = true) : oneV v = true := by cases v <;> first | rfl | cases h
def cmE (a b : List (List UInt8)) : Int := if lvE a ≠ 0 then lvE a else if lvE b ≠ 0 then lvE b else if a.length ≠ b.length then 11 else 0
def cmR (a b : List (List UInt8)) : List Nat × Nat := if cmE a b = 0 then rc 32 (lv0 a) (lv0 b) else ([], 0)
theorem cmE_ok {a b : List (List UInt8)} (h : cmE a b = 0) : (lvE a = 0 ∧ lvE b = 0) ∧ a.length = b.length := by
  unfold cmE at h
  split at h
  · contradiction
  · split at h
    · contradiction
    · split at h
      · cases h
      · omega
theorem blk_all {α : Type} {l : List α} {d : Nat} (h : l.length ≤ 2 ^ d) : blk l d 0 = l := by
  unfold blk
  rw [Nat.zero_mul, List.drop_zero, List.take_of_length_le h]
theorem map_add0 (l : List Nat) (k : Nat) : l.map (· + 0 * k) = l := by simp
theorem compare (ya yb : Value) (a b : List (List UInt8)) (M : Mem) (ha : RowM M ya 1 (a.map encS)) (hb : RowM M yb 1 (b.map encS)) (hla : ∀ s ∈ a, s.length ≤ maxLen) (hlb : ∀ s ∈ b, s.length ≤ maxLen) :
    Meets Proofs.Try.prog 28 [.v ya, .v yb] M (RowR (fun t => .tup [t, .v (.int .i64 ((cmR a b).2 : Int)), .v (.int .i64 (cmE a b))]) 1 ((cmR a b).1.map encN)) := by
  refine Meets.of_body [0,1,4,5,6,7,8,9,13,18,24] Proofs.Try.func28 rfl (by kernel_rfl) rfl fun w => ?_
  have hCa := check ya a M ha hla
  have hCb := check yb b M hb hlb
  unfold cmR
  by_cases h : cmE a b = 0
  · obtain ⟨⟨ea, eb⟩, hab⟩ := cmE_ok h
    obtain ⟨a0, a32, a64⟩ := lvE_ok ea
    obtain ⟨b0, b32, b64⟩ := lvE_ok eb
    have h0 := List.length_pos_iff.2 a0
    rw [ea] at hCa
    rw [eb] at hCb
    rw [if_pos h, h]
    have d1 : ((a.length : Int) = (b.length : Int)) = True := eq_true (by omega)
    obtain ⟨t1, t2⟩ := tp_facts a.length (by omega) h0
    have hrl := rc_bound 32 (lv0 a) (lv0 b) (by rw [lv0_len]; exact h0) (by rw [lv0_len]; exact a32)
    simp only [Proofs.Try.f28, shs, zts, sos, sls, zss, eqs, sx, sb1, sb2, sb3, sb4, sb5, ↓reduceIte, Nat.reduceAdd, Nat.reduceMul, Nat.reduceDiv, Nat.reduceEqDiff, Nat.reduceLT, Nat.reduceLeDiff, reduceCtorEq, Int.reduceEq, Int.reduceNe, Int.reduceLT, Int.reduceLE, Int.reduceAdd, Int.reduceSub, Int.reduceMul, Int.reduceNeg, Int.reduceToNat, Int.cast_ofNat_Int, Int.natCast_zero, Int.natCast_one, Int.toNat_natCast, Nat.reduceBEq]
    refine CallK.pure ⟨rfl, rfl⟩ rfl hCa ?_
    simp only [shs, zts, sos, sls, zss, eqs, sx, sb1, sb2, sb3, sb4, sb5, ↓reduceIte, Nat.reduceAdd, Nat.reduceMul, Nat.reduceDiv, Nat.reduceEqDiff, Nat.reduceLT, Nat.reduceLeDiff, reduceCtorEq, Int.reduceEq, Int.reduceNe, Int.reduceLT, Int.reduceLE, Int.reduceAdd, Int.reduceSub, Int.reduceMul, Int.reduceNeg, Int.reduceToNat, Int.cast_ofNat_Int, Int.natCast_zero, Int.natCast_one, Int.toNat_natCast, Nat.reduceBEq]
    refine CallK.pure ⟨rfl, rfl⟩ rfl hCb ?_
    simp only [shs, zts, sos, sls, zss, eqs, sx, sb1, sb2, sb3, sb4, sb5, ↓reduceIte, Nat.reduceAdd, Nat.reduceMul, Nat.reduceDiv, Nat.reduceEqDiff, Nat.reduceLT, Nat.reduceLeDiff, reduceCtorEq, Int.reduceEq, Int.reduceNe, Int.reduceLT, Int.reduceLE, Int.reduceAdd, Int.reduceSub, Int.reduceMul, Int.reduceNeg, Int.reduceToNat, Int.cast_ofNat_Int, Int.natCast_zero, Int.natCast_one, Int.toNat_natCast, Nat.reduceBEq, ha.len, ha.sl, hb.len, hb.sl, List.length_map, d1]
    refine CallK.res rfl rfl (levels ya a M ha a0 a32 a64) (fun r M' ⟨v, h, _⟩ => by subst h; rfl) fun r M1 hM1 ⟨va, hr, hva⟩ => ?_
    subst hr
    simp only [shs, zts, sos, sls, zss, eqs, sx, sb1, sb2, sb3, sb4, sb5, ↓reduceIte, Nat.reduceAdd, Nat.reduceMul, Nat.reduceDiv, Nat.reduceEqDiff, Nat.reduceLT, Nat.reduceLeDiff, reduceCtorEq, Int.reduceEq, Int.reduceNe, Int.reduceLT, Int.reduceLE, Int.reduceAdd, Int.reduceSub, Int.reduceMul, Int.reduceNeg, Int.reduceToNat, Int.cast_ofNat_Int, Int.natCast_zero, Int.natCast_one, Int.toNat_natCast, Nat.reduceBEq]
    refine CallK.res rfl rfl (levels yb b M1 (hb.le hM1) b0 b32 b64) (fun r M' ⟨v, h, _⟩ => by subst h; rfl) fun r M2 hM2 ⟨vb, hr, hvb⟩ => ?_
    subst hr
    have hva := hva.le hM2
    obtain ⟨s1, s2⟩ := hva.len
    have hL := levs_len 32 (lv0 a)
    rw [lv0_len] at hL
    have hL' : (levs 32 (a.map leafP)).length = tpN 32 a.length + 1 := hL
    rw [hL'] at s1
    have e1 : ((tpN 32 a.length + 1 : Nat) : Int) - 1 = ((tpN 32 a.length : Nat) : Int) := by omega
    have i1 : inK .i64 ((tpN 32 a.length : Nat) : Int) := i64J (by omega)
    have hk := look 32 va vb (lv0 a) (lv0 b)
    simp only [shs, zts, sos, sls, zss, eqs, sx, sb1, sb2, sb3, sb4, sb5, ↓reduceIte, Nat.reduceAdd, Nat.reduceMul, Nat.reduceDiv, Nat.reduceEqDiff, Nat.reduceLT, Nat.reduceLeDiff, reduceCtorEq, Int.reduceEq, Int.reduceNe, Int.reduceLT, Int.reduceLE, Int.reduceAdd, Int.reduceSub, Int.reduceMul, Int.reduceNeg, Int.reduceToNat, Int.cast_ofNat_Int, Int.natCast_zero, Int.natCast_one, Int.toNat_natCast, Nat.reduceBEq, nzs, s1, s2, e1, i1]
    refine ⟨⟨oneV_sl s2, oneV_sl hvb.len.2⟩, CallK.nilBox 240 2 900 1 rfl rfl rfl rfl rfl rfl ?_⟩
    refine CallK.tie 240 rfl fun bb => CallK.fixP 240 (b := bb) rfl ?_
    simp only [shA1, shA2, sx, sb1, sb2, sb3, sb4, sb5, ↓reduceIte, Nat.reduceAdd, Nat.reduceMul, Nat.reduceDiv, Nat.reduceEqDiff, Nat.reduceLT, Nat.reduceLeDiff, reduceCtorEq, Int.reduceEq, Int.reduceNe, Int.reduceLT, Int.reduceLE, Int.reduceAdd, Int.reduceSub, Int.reduceMul, Int.reduceNeg, Int.reduceToNat, Int.cast_ofNat_Int, Int.natCast_zero, Int.natCast_one, Int.toNat_natCast, Nat.reduceBEq, hset, List.set_cons_succ, List.set_cons_zero]
    have hk := look 32 va vb (lv0 a) (lv0 b) bb (tpN 32 a.length) 0 [] 0 M2 hva hvb (by rw [lv0_len, lv0_len, hab]) (by rw [lv0_len]; exact a32) (by rw [lv0_len]; exact Nat.le_refl _) (by omega) (by rw [lv0_len]; omega) (by omega)
      (by rw [blk_all (by rw [lv0_len]; exact t2), lv0_len]; omega) (by rw [blk_all (by rw [lv0_len]; exact t2), lv0_len, List.length_nil]; omega)
    rw [blk_all (by rw [lv0_len]; exact t2), blk_all (by rw [lv0_len, ← hab]; exact t2), map_add0, List.nil_append, Nat.zero_add] at hk
    refine CallK.lendN (A := fun _ => [.v (ptrV bb), .v (.int .i64 ((tpN 32 a.length : Nat) : Int)), .v (.int .i64 0)]) (Pin := boxP va vb bb [] 0) (T := fun (_ : Unit) _ => .tup []) [7200, 240] (fun _ _ _ _ _ => rfl) (boxP_nat va vb bb _ _) (fun _ _ _ _ _ _ => rfl) (boxP_nat va vb bb _ _) rfl rfl ⟨rfl, rfl, trivial⟩ rfl hk fun _ M3 hM3 _ => ?_
    generalize rc 32 (lv0 a) (lv0 b) = X at *
    generalize tpN 32 a.length = tp at *
    simp only [shs, zts, sos, sls, zss, eqs, sx, sb1, sb2, sb3, sb4, sb5, ↓reduceIte, Nat.reduceAdd, Nat.reduceMul, Nat.reduceDiv, Nat.reduceEqDiff, Nat.reduceLT, Nat.reduceLeDiff, reduceCtorEq, Int.reduceEq, Int.reduceNe, Int.reduceLT, Int.reduceLE, Int.reduceAdd, Int.reduceSub, Int.reduceMul, Int.reduceNeg, Int.reduceToNat, Int.cast_ofNat_Int, Int.natCast_zero, Int.natCast_one, Int.toNat_natCast, Nat.reduceBEq, nzs, shB, boxP]
    refine DrawK.unfix 9 305 rfl rfl (DrawK.pub (k := 304) rfl fun vo M4 hM4 hvo => ?_)
    simp only [sp1, sp2, sp3, sx, sb1, sb2, sb3, sb4, sb5, ↓reduceIte, Nat.reduceAdd, Nat.reduceMul, Nat.reduceDiv, Nat.reduceEqDiff, Nat.reduceLT, Nat.reduceLeDiff, reduceCtorEq, Int.reduceEq, Int.reduceNe, Int.reduceLT, Int.reduceLE, Int.reduceAdd, Int.reduceSub, Int.reduceMul, Int.reduceNeg, Int.reduceToNat, Int.cast_ofNat_Int, Int.natCast_zero, Int.natCast_one, Int.toNat_natCast, Nat.reduceBEq]
    refine DrawK.pubB (k := 305) rfl rfl fun bo M5 hM5 hbo => ?_
    simp only [shA2, shA1, sx, sb1, sb2, sb3, sb4, sb5, ↓reduceIte, Nat.reduceAdd, Nat.reduceMul, Nat.reduceDiv, Nat.reduceEqDiff, Nat.reduceLT, Nat.reduceLeDiff, reduceCtorEq, Int.reduceEq, Int.reduceNe, Int.reduceLT, Int.reduceLE, Int.reduceAdd, Int.reduceSub, Int.reduceMul, Int.reduceNeg, Int.reduceToNat, Int.cast_ofNat_Int, Int.natCast_zero, Int.natCast_one, Int.toNat_natCast, Nat.reduceBEq, SV.vals, SV.val] at hbo ⊢
    have hvo := hvo.le hM5
    have g1 := hbo.at' (j := 2) rfl
    have g2 := hbo.at' (j := 3) rfl
    refine DrawK.plan (tk [0, 1, 2, 3, 4, 5, 6, 7] (ones' [8, 9, 10] .done)) (by kernel_rfl) (by kernel_rfl) ?_
    simp only [shs, zts, sos, sls, zss, eqs, sx, sb1, sb2, sb3, sb4, sb5, ↓reduceIte, Nat.reduceAdd, Nat.reduceMul, Nat.reduceDiv, Nat.reduceEqDiff, Nat.reduceLT, Nat.reduceLeDiff, reduceCtorEq, Int.reduceEq, Int.reduceNe, Int.reduceLT, Int.reduceLE, Int.reduceAdd, Int.reduceSub, Int.reduceMul, Int.reduceNeg, Int.reduceToNat, Int.cast_ofNat_Int, Int.natCast_zero, Int.natCast_one, Int.toNat_natCast, Nat.reduceBEq, nzs, se1, se2, tks, g1.1, g1.2, g2.1, g2.2]
    exact ⟨.v vo, rfl, hvo⟩
  · have hE : (if lvE a ≠ 0 then lvE a else if lvE b ≠ 0 then lvE b else if a.length ≠ b.length then (11 : Int) else 0) = cmE a b := rfl
    rw [if_neg h]
    generalize cmE a b = c at hE h ⊢
    simp only [Proofs.Try.f28, shs, zts, sos, sls, zss, eqs, sx, sb1, sb2, sb3, sb4, sb5, ↓reduceIte, Nat.reduceAdd, Nat.reduceMul, Nat.reduceDiv, Nat.reduceEqDiff, Nat.reduceLT, Nat.reduceLeDiff, reduceCtorEq, Int.reduceEq, Int.reduceNe, Int.reduceLT, Int.reduceLE, Int.reduceAdd, Int.reduceSub, Int.reduceMul, Int.reduceNeg, Int.reduceToNat, Int.cast_ofNat_Int, Int.natCast_zero, Int.natCast_one, Int.toNat_natCast, Nat.reduceBEq]
    refine CallK.pure ⟨rfl, rfl⟩ rfl hCa ?_
    by_cases ea : lvE a = 0
    · have ea1 : (lvE a = 0) = True := eq_true ea
      rw [if_neg (by simp [ea])] at hE
      simp only [shs, zts, sos, sls, zss, eqs, sx, sb1, sb2, sb3, sb4, sb5, ↓reduceIte, Nat.reduceAdd, Nat.reduceMul, Nat.reduceDiv, Nat.reduceEqDiff, Nat.reduceLT, Nat.reduceLeDiff, reduceCtorEq, Int.reduceEq, Int.reduceNe, Int.reduceLT, Int.reduceLE, Int.reduceAdd, Int.reduceSub, Int.reduceMul, Int.reduceNeg, Int.reduceToNat, Int.cast_ofNat_Int, Int.natCast_zero, Int.natCast_one, Int.toNat_natCast, Nat.reduceBEq, ea1]
      refine CallK.pure ⟨rfl, rfl⟩ rfl hCb ?_
      by_cases eb : lvE b = 0
      · have eb1 : (lvE b = 0) = True := eq_true eb
        rw [if_neg (by simp [eb])] at hE
        by_cases hl : a.length = b.length
        · rw [if_neg (by simp [hl])] at hE
          exact (h hE.symm).elim
        · rw [if_pos hl] at hE
          have d1 : ((a.length : Int) = (b.length : Int)) = False := eq_false (by omega)
          subst hE
          simp only [shs, zts, sos, sls, zss, eqs, sx, sb1, sb2, sb3, sb4, sb5, ↓reduceIte, Nat.reduceAdd, Nat.reduceMul, Nat.reduceDiv, Nat.reduceEqDiff, Nat.reduceLT, Nat.reduceLeDiff, reduceCtorEq, Int.reduceEq, Int.reduceNe, Int.reduceLT, Int.reduceLE, Int.reduceAdd, Int.reduceSub, Int.reduceMul, Int.reduceNeg, Int.reduceToNat, Int.cast_ofNat_Int, Int.natCast_zero, Int.natCast_one, Int.toNat_natCast, Nat.reduceBEq, eb1, d1, ha.len, ha.sl, hb.len, hb.sl, List.length_map]
          exact ⟨_, rfl, RowM.nil _ _⟩
      · have eb1 : (lvE b = 0) = False := eq_false eb
        rw [if_pos eb] at hE
        subst hE
        simp only [shs, zts, sos, sls, zss, eqs, sx, sb1, sb2, sb3, sb4, sb5, ↓reduceIte, Nat.reduceAdd, Nat.reduceMul, Nat.reduceDiv, Nat.reduceEqDiff, Nat.reduceLT, Nat.reduceLeDiff, reduceCtorEq, Int.reduceEq, Int.reduceNe, Int.reduceLT, Int.reduceLE, Int.reduceAdd, Int.reduceSub, Int.reduceMul, Int.reduceNeg, Int.reduceToNat, Int.cast_ofNat_Int, Int.natCast_zero, Int.natCast_one, Int.toNat_natCast, Nat.reduceBEq, eb1]
        exact ⟨_, rfl, RowM.nil _ _⟩
    · have ea1 : (lvE a = 0) = False := eq_false ea
      rw [if_pos ea] at hE
      subst hE
      simp only [shs, zts, sos, sls, zss, eqs, sx, sb1, sb2, sb3, sb4, sb5, ↓reduceIte, Nat.reduceAdd, Nat.reduceMul, Nat.reduceDiv, Nat.reduceEqDiff, Nat.reduceLT, Nat.reduceLeDiff, reduceCtorEq, Int.reduceEq, Int.reduceNe, Int.reduceLT, Int.reduceLE, Int.reduceAdd, Int.reduceSub, Int.reduceMul, Int.reduceNeg, Int.reduceToNat, Int.cast_ofNat_Int, Int.natCast_zero, Int.natCast_one, Int.toNat_natCast, Nat.reduceBEq, ea1]
      exact ⟨_, rfl, RowM.nil _ _⟩
end Go.X.Ts
