/- tree.Clash. Conditions: none. -/
import Derived.Test.YtkmbglbjpbdldaaClash4
set_option linter.unusedSimpArgs false
set_option linter.unusedVariables false
set_option maxHeartbeats 4000000
set_option maxRecDepth 20000
namespace Go.X.Ts
open Go Go.X Go.X.Pol Go.X.Pl Go.X.Rp Go.X.Pd Go.X.Md Go.X.Mv Go.X.Pt Go.X.Tv

def ans3 : Option (List UInt8 × List UInt8) → SV
  | some (s, t) => .tup [strV s, strV t, .v (.int .i64 0)]
  | none => .tup [strV [], strV [], .v (.int .i64 4)]
def tcO (a b : List (List UInt8)) : Option (List UInt8 × List UInt8) := if topV (lv0 a) ≠ topV (lv0 b) ∨ a = b then none else clP a b
def tcR (a b : List (List UInt8)) : SV := if cmE a b = 0 then ans3 (tcO a b) else .tup [strV [], strV [], .v (.int .i64 (cmE a b))]
theorem tclash (ya yb : Value) (a b : List (List UInt8)) (M : Mem) (ha : RowM M ya 1 (a.map encS)) (hb : RowM M yb 1 (b.map encS)) (hla : ∀ s ∈ a, s.length ≤ maxLen) (hlb : ∀ s ∈ b, s.length ≤ maxLen) :
    Meets Proofs.Try.prog 27 [.v ya, .v yb] M (fun r _ _ => r = tcR a b) := by
  refine Meets.of_body [0,1,4,5,6,7,8,9,10,11,12,13,14,15,16,20,25,31,56,59,66,67,68,79,122,127,128,129,139] Proofs.Try.func27 rfl (by kernel_rfl) rfl fun w => ?_
  have hCa := check ya a M ha hla
  have hCb := check yb b M hb hlb
  unfold tcR
  by_cases h : cmE a b = 0
  · obtain ⟨⟨ea, eb⟩, hab⟩ := cmE_ok h
    obtain ⟨a0, a32, a64⟩ := lvE_ok ea
    obtain ⟨b0, b32, b64⟩ := lvE_ok eb
    have h0 := List.length_pos_iff.2 a0
    rw [ea] at hCa
    rw [eb] at hCb
    rw [if_pos h]
    have d1 : ((a.length : Int) = (b.length : Int)) = True := eq_true (by omega)
    obtain ⟨t1, t2⟩ := tp_facts a.length (by omega) h0
    simp only [Proofs.Try.f27, shs, zts, sos, sls, zss, eqs, sx, sb1, sb2, sb3, sb4, sb5, ↓reduceIte, Nat.reduceAdd, Nat.reduceMul, Nat.reduceDiv, Nat.reduceEqDiff, Nat.reduceLT, Nat.reduceLeDiff, reduceCtorEq, Int.reduceEq, Int.reduceNe, Int.reduceLT, Int.reduceLE, Int.reduceAdd, Int.reduceSub, Int.reduceMul, Int.reduceNeg, Int.reduceToNat, Int.cast_ofNat_Int, Int.natCast_zero, Int.natCast_one, Int.toNat_natCast, Nat.reduceBEq]
    refine CallK.pure ⟨rfl, rfl⟩ rfl hCa ?_
    simp only [shs, zts, sos, sls, zss, eqs, sx, sb1, sb2, sb3, sb4, sb5, ↓reduceIte, Nat.reduceAdd, Nat.reduceMul, Nat.reduceDiv, Nat.reduceEqDiff, Nat.reduceLT, Nat.reduceLeDiff, reduceCtorEq, Int.reduceEq, Int.reduceNe, Int.reduceLT, Int.reduceLE, Int.reduceAdd, Int.reduceSub, Int.reduceMul, Int.reduceNeg, Int.reduceToNat, Int.cast_ofNat_Int, Int.natCast_zero, Int.natCast_one, Int.toNat_natCast, Nat.reduceBEq]
    refine CallK.pure ⟨rfl, rfl⟩ rfl hCb ?_
    simp only [shs, zts, sos, sls, zss, eqs, sx, sb1, sb2, sb3, sb4, sb5, ↓reduceIte, Nat.reduceAdd, Nat.reduceMul, Nat.reduceDiv, Nat.reduceEqDiff, Nat.reduceLT, Nat.reduceLeDiff, reduceCtorEq, Int.reduceEq, Int.reduceNe, Int.reduceLT, Int.reduceLE, Int.reduceAdd, Int.reduceSub, Int.reduceMul, Int.reduceNeg, Int.reduceToNat, Int.cast_ofNat_Int, Int.natCast_zero, Int.natCast_one, Int.toNat_natCast, Nat.reduceBEq, ha.len, ha.sl, hb.len, hb.sl, List.length_map, d1]
    refine CallK.res rfl rfl (levels ya a M ha a0 a32 a64) (fun r M' ⟨v, h, _⟩ => by subst h; rfl) fun r M1 hM1 ⟨va, hr, hva⟩ => ?_
    subst hr
    simp only [shs, zts, sos, sls, zss, eqs, sx, sb1, sb2, sb3, sb4, sb5, ↓reduceIte, Nat.reduceAdd, Nat.reduceMul, Nat.reduceDiv, Nat.reduceEqDiff, Nat.reduceLT, Nat.reduceLeDiff, reduceCtorEq, Int.reduceEq, Int.reduceNe, Int.reduceLT, Int.reduceLE, Int.reduceAdd, Int.reduceSub, Int.reduceMul, Int.reduceNeg, Int.reduceToNat, Int.cast_ofNat_Int, Int.natCast_zero, Int.natCast_one, Int.toNat_natCast, Nat.reduceBEq]
    refine CallK.res rfl rfl (levels yb b M1 (hb.le hM1) b0 b32 b64) (fun r M' ⟨v, h, _⟩ => by subst h; rfl) fun r M2 hM2 ⟨vb, hr, hvb⟩ => ?_
    subst hr
    have hva := hva.le hM2
    have ha2 := (ha.le hM1).le hM2
    have hb2 := (hb.le hM1).le hM2
    obtain ⟨s1, s2⟩ := hva.len
    have hL := levs_len 32 (lv0 a)
    rw [lv0_len] at hL
    have hL' : (levs 32 (a.map leafP)).length = tpN 32 a.length + 1 := hL
    rw [hL'] at s1
    have e1 : ((tpN 32 a.length + 1 : Nat) : Int) - 1 = ((tpN 32 a.length : Nat) : Int) := by omega
    have i1 : inK .i64 ((tpN 32 a.length : Nat) : Int) := i64J (by omega)
    have hlA := lv0_len a
    have hlB := lv0_len b
    obtain ⟨ua, ⟨a1, a2⟩, ⟨a3, a4⟩, a5, ⟨a6, a7⟩, a8⟩ := Levs.at (l := lv0 a) hva (d := tpN 32 a.length) (i := 0) (by rw [hlA]; exact Nat.le_refl _) t1 (by omega)
    obtain ⟨ub, ⟨b1, b2⟩, ⟨b3, b4⟩, b5, ⟨b6, b7⟩, b8⟩ := Levs.at (l := lv0 b) hvb (d := tpN 32 a.length) (i := 0) (by rw [hlB, hab]; exact Nat.le_refl _) t1 (by omega)
    have a5 := a5 _ rfl
    have a8 := a8 0 rfl
    have b5 := b5 _ rfl
    have b8 := b8 0 rfl
    rw [blk_all (by rw [hlA]; exact t2)] at a6
    rw [blk_all (by rw [hlB, ← hab]; exact t2)] at b6
    have hR : orO (srD (lv0 a) (lv0 b) (tpN 32 a.length)) (srL a b) = clP a b := by
      unfold clP
      rw [show 5 = tpN 32 a.length + (5 - tpN 32 a.length) by omega, srD_top (by rw [hlA]; exact t2)]
    generalize hT : tcO a b = T
    unfold tcO at hT
    simp only [shs, zts, sos, sls, zss, eqs, sx, sb1, sb2, sb3, sb4, sb5, ↓reduceIte, Nat.reduceAdd, Nat.reduceMul, Nat.reduceDiv, Nat.reduceEqDiff, Nat.reduceLT, Nat.reduceLeDiff, reduceCtorEq, Int.reduceEq, Int.reduceNe, Int.reduceLT, Int.reduceLE, Int.reduceAdd, Int.reduceSub, Int.reduceMul, Int.reduceNeg, Int.reduceToNat, Int.cast_ofNat_Int, Int.natCast_zero, Int.natCast_one, Int.toNat_natCast, Nat.reduceBEq, nzs, s1, s2, e1, i1]
    refine DrawK.plan (tk [0, 1, 2, 3, 4, 5, 6, 7, 8, 9, 10, 11, 12, 13, 14, 15] (ones' [16] (tk [17] .done))) (by kernel_rfl) (by kernel_rfl) ?_
    by_cases hd : topV (lv0 a) = topV (lv0 b)
    · have d2 : ((topV (lv0 a) : Int) = (topV (lv0 b) : Int)) = True := eq_true (by omega)
      simp only [shs, zts, sos, sls, zss, eqs, sx, sb1, sb2, sb3, sb4, sb5, ↓reduceIte, Nat.reduceAdd, Nat.reduceMul, Nat.reduceDiv, Nat.reduceEqDiff, Nat.reduceLT, Nat.reduceLeDiff, reduceCtorEq, Int.reduceEq, Int.reduceNe, Int.reduceLT, Int.reduceLE, Int.reduceAdd, Int.reduceSub, Int.reduceMul, Int.reduceNeg, Int.reduceToNat, Int.cast_ofNat_Int, Int.natCast_zero, Int.natCast_one, Int.toNat_natCast, Nat.reduceBEq, nzs, se1, se2, tks, d2, a1, a2, a4, a5, a5.2, a6, a7, a8, a8.2, b1, b2, b4, b5, b5.2, b6, b7, b8, b8.2]
      refine CallK.pure ⟨rfl, rfl⟩ rfl (eqSt' ya yb a b M2 ha2 hb2) ?_
      by_cases hee : a = b
      · have d3 : (a = b) = True := eq_true hee
        rw [if_pos (.inr hee)] at hT
        subst hT
        simp only [shs, zts, sos, sls, zss, eqs, sx, sb1, sb2, sb3, sb4, sb5, ↓reduceIte, Nat.reduceAdd, Nat.reduceMul, Nat.reduceDiv, Nat.reduceEqDiff, Nat.reduceLT, Nat.reduceLeDiff, reduceCtorEq, Int.reduceEq, Int.reduceNe, Int.reduceLT, Int.reduceLE, Int.reduceAdd, Int.reduceSub, Int.reduceMul, Int.reduceNeg, Int.reduceToNat, Int.cast_ofNat_Int, Int.natCast_zero, Int.natCast_one, Int.toNat_natCast, Nat.reduceBEq, nzs, se1, se2, tks, d3]
        rfl
      have d3 : (a = b) = False := eq_false hee
      rw [if_neg (by rintro (h | h); exact h hd; exact hee h), ← hR] at hT
      simp only [shs, zts, sos, sls, zss, eqs, sx, sb1, sb2, sb3, sb4, sb5, ↓reduceIte, Nat.reduceAdd, Nat.reduceMul, Nat.reduceDiv, Nat.reduceEqDiff, Nat.reduceLT, Nat.reduceLeDiff, reduceCtorEq, Int.reduceEq, Int.reduceNe, Int.reduceLT, Int.reduceLE, Int.reduceAdd, Int.reduceSub, Int.reduceMul, Int.reduceNeg, Int.reduceToNat, Int.cast_ofNat_Int, Int.natCast_zero, Int.natCast_one, Int.toNat_natCast, Nat.reduceBEq, nzs, se1, se2, tks, d3]
      clear a1 a2 a3 a4 a5 a6 a7 a8 b1 b2 b3 b4 b5 b6 b7 b8 hR
      refine LoopK.go (X := Nat) (fun x => ([(0, true, .v ya), (1, true, .v yb), (9, true, .v va), (10, true, .v vb), (12, true, .v (.int .i64 x))], [], M2))
        (fun x => x ≤ tpN 32 a.length ∧ orO (srD (lv0 a) (lv0 b) x) (srL a b) = T) (fun x => x) (tpN 32 a.length) ⟨Nat.le_refl _, hT⟩ (Ent.of ?_) ?_
      · simp only [sx, sb1, sb2, sb3, sb4, sb5, ↓reduceIte, Nat.reduceAdd, Nat.reduceMul, Nat.reduceDiv, Nat.reduceEqDiff, Nat.reduceLT, Nat.reduceLeDiff, reduceCtorEq, Int.reduceEq, Int.reduceNe, Int.reduceLT, Int.reduceLE, Int.reduceAdd, Int.reduceSub, Int.reduceMul, Int.reduceNeg, Int.reduceToNat, Int.cast_ofNat_Int, Int.natCast_zero, Int.natCast_one, Int.toNat_natCast, Nat.reduceBEq]
      rintro d ⟨h1, h2⟩
      cases d with
      | zero =>
        rw [srD, orO] at h2
        simp only [shs, zts, sos, sls, zss, eqs, sx, sb1, sb2, sb3, sb4, sb5, ↓reduceIte, Nat.reduceAdd, Nat.reduceMul, Nat.reduceDiv, Nat.reduceEqDiff, Nat.reduceLT, Nat.reduceLeDiff, reduceCtorEq, Int.reduceEq, Int.reduceNe, Int.reduceLT, Int.reduceLE, Int.reduceAdd, Int.reduceSub, Int.reduceMul, Int.reduceNeg, Int.reduceToNat, Int.cast_ofNat_Int, Int.natCast_zero, Int.natCast_one, Int.toNat_natCast, Nat.reduceBEq, ha.len, ha.sl, List.length_map]
        refine LoopK.go (X := Nat × Nat) (fun x => ([(0, true, .v ya), (1, true, .v yb), (127, true, .v (.int .i64 a.length)), (128, true, .v (.int .i64 x.2))], [], M2))
          (fun x => x.1 + x.2 = a.length ∧ srL (a.drop x.2) (b.drop x.2) = T) (fun x => x.1) (a.length, 0) ⟨rfl, h2⟩ (Ent.of ?_) ?_
        · simp only [sx, sb1, sb2, sb3, sb4, sb5, ↓reduceIte, Nat.reduceAdd, Nat.reduceMul, Nat.reduceDiv, Nat.reduceEqDiff, Nat.reduceLT, Nat.reduceLeDiff, reduceCtorEq, Int.reduceEq, Int.reduceNe, Int.reduceLT, Int.reduceLE, Int.reduceAdd, Int.reduceSub, Int.reduceMul, Int.reduceNeg, Int.reduceToNat, Int.cast_ofNat_Int, Int.natCast_zero, Int.natCast_one, Int.toNat_natCast, Nat.reduceBEq]
        rintro ⟨f, i⟩ ⟨h3, h4⟩
        simp only at h3 h4
        by_cases hi : i < a.length
        · have c1 : ((i : Int) < (a.length : Int)) = True := eq_true (by omega)
          obtain ⟨x, hx, hdx⟩ := l_drop_at (l := a) (i := i) hi
          obtain ⟨y, hy, hdy⟩ := l_drop_at (l := b) (i := i) (by omega)
          have g1 := ha2.el1 hx rfl
          have g2 := hb2.el1 hy rfl
          have x1 := ha.ix (i := (i : Int)) (by omega) (by rw [List.length_map]; omega)
          have x2 := hb.ix (i := (i : Int)) (by omega) (by rw [List.length_map]; omega)
          have lx := a64 x (List.mem_of_getElem? hx)
          have ly := b64 y (List.mem_of_getElem? hy)
          have z1 : (((1 + x.length : Nat) : Int) ≤ 9223372036854775807) = True := eq_true (by omega)
          have z2 : (((1 + y.length : Nat) : Int) ≤ 9223372036854775807) = True := eq_true (by omega)
          have i1 : inK .i64 ((i : Int) + 1) := i64J (by omega)
          rw [srL_at hdx hdy] at h4
          simp only [shs, zts, sos, sls, zss, eqs, sx, sb1, sb2, sb3, sb4, sb5, ↓reduceIte, Nat.reduceAdd, Nat.reduceMul, Nat.reduceDiv, Nat.reduceEqDiff, Nat.reduceLT, Nat.reduceLeDiff, reduceCtorEq, Int.reduceEq, Int.reduceNe, Int.reduceLT, Int.reduceLE, Int.reduceAdd, Int.reduceSub, Int.reduceMul, Int.reduceNeg, Int.reduceToNat, Int.cast_ofNat_Int, Int.natCast_zero, Int.natCast_one, Int.toNat_natCast, Nat.reduceBEq, nzs, c1]
          refine DrawK.quiet (by kernel_rfl) (by kernel_rfl) ?_
          by_cases hxy : x = y
          · have e1 : (x = y) = True := eq_true hxy
            rw [if_pos hxy] at h4
            simp only [shs, zts, sos, sls, zss, eqs, sx, sb1, sb2, sb3, sb4, sb5, ↓reduceIte, Nat.reduceAdd, Nat.reduceMul, Nat.reduceDiv, Nat.reduceEqDiff, Nat.reduceLT, Nat.reduceLeDiff, reduceCtorEq, Int.reduceEq, Int.reduceNe, Int.reduceLT, Int.reduceLE, Int.reduceAdd, Int.reduceSub, Int.reduceMul, Int.reduceNeg, Int.reduceToNat, Int.cast_ofNat_Int, Int.natCast_zero, Int.natCast_one, Int.toNat_natCast, Nat.reduceBEq, nzs, g1.1, g1.2, g2.1, g2.2, x1, x1.2, x2, x2.2, e1, i1]
            refine ⟨(f - 1, i + 1), ⟨⟨by simp only; omega, h4⟩, by simp only; omega⟩, Ent.of ?_⟩
            simp only [sx, sb1, sb2, sb3, sb4, sb5, ↓reduceIte, Nat.reduceAdd, Nat.reduceMul, Nat.reduceDiv, Nat.reduceEqDiff, Nat.reduceLT, Nat.reduceLeDiff, reduceCtorEq, Int.reduceEq, Int.reduceNe, Int.reduceLT, Int.reduceLE, Int.reduceAdd, Int.reduceSub, Int.reduceMul, Int.reduceNeg, Int.reduceToNat, Int.cast_ofNat_Int, Int.natCast_zero, Int.natCast_one, Int.toNat_natCast, Nat.reduceBEq, Int.natCast_add]
          · have e1 : (x = y) = False := eq_false hxy
            rw [if_neg hxy] at h4
            subst h4
            simp only [shs, zts, sos, sls, zss, eqs, sx, sb1, sb2, sb3, sb4, sb5, ↓reduceIte, Nat.reduceAdd, Nat.reduceMul, Nat.reduceDiv, Nat.reduceEqDiff, Nat.reduceLT, Nat.reduceLeDiff, reduceCtorEq, Int.reduceEq, Int.reduceNe, Int.reduceLT, Int.reduceLE, Int.reduceAdd, Int.reduceSub, Int.reduceMul, Int.reduceNeg, Int.reduceToNat, Int.cast_ofNat_Int, Int.natCast_zero, Int.natCast_one, Int.toNat_natCast, Nat.reduceBEq, nzs, g1.1, g1.2, g2.1, g2.2, x1, x1.2, x2, x2.2, e1]
            refine DrawK.plan (tk [0, 1, 2, 3, 4, 5, 6, 7, 8, 9] (ones' [10, 11, 12] .done)) (by kernel_rfl) (by kernel_rfl) ?_
            simp only [shs, zts, sos, sls, zss, eqs, sx, sb1, sb2, sb3, sb4, sb5, ↓reduceIte, Nat.reduceAdd, Nat.reduceMul, Nat.reduceDiv, Nat.reduceEqDiff, Nat.reduceLT, Nat.reduceLeDiff, reduceCtorEq, Int.reduceEq, Int.reduceNe, Int.reduceLT, Int.reduceLE, Int.reduceAdd, Int.reduceSub, Int.reduceMul, Int.reduceNeg, Int.reduceToNat, Int.cast_ofNat_Int, Int.natCast_zero, Int.natCast_one, Int.toNat_natCast, Nat.reduceBEq, nzs, se1, se2, tks, g1.1, g1.2, g2.1, g2.2, x1, x1.2, x2, x2.2, z1, z2]
            rfl
        · have c1 : ((i : Int) < (a.length : Int)) = False := eq_false (by omega)
          rw [List.drop_eq_nil_of_le (by omega), List.drop_eq_nil_of_le (by omega)] at h4
          subst h4
          simp only [shs, zts, sos, sls, zss, eqs, sx, sb1, sb2, sb3, sb4, sb5, ↓reduceIte, Nat.reduceAdd, Nat.reduceMul, Nat.reduceDiv, Nat.reduceEqDiff, Nat.reduceLT, Nat.reduceLeDiff, reduceCtorEq, Int.reduceEq, Int.reduceNe, Int.reduceLT, Int.reduceLE, Int.reduceAdd, Int.reduceSub, Int.reduceMul, Int.reduceNeg, Int.reduceToNat, Int.cast_ofNat_Int, Int.natCast_zero, Int.natCast_one, Int.toNat_natCast, Nat.reduceBEq, nzs, c1]
          rfl
      | succ e =>
        have e0 : (0 < ((e + 1 : Nat) : Int)) = True := eq_true (by omega)
        rw [srD, orO_assoc, hlA] at h2
        generalize hC : orO (srD (lv0 a) (lv0 b) e) (srL a b) = C at h2
        obtain ⟨ua, ⟨a1, a2⟩, ⟨a3, a4⟩, a5, _⟩ := Levs.at (l := lv0 a) hva (d := e + 1) (i := 0) (by rw [hlA]; exact h1) (by omega) (by omega)
        have a5 := a5 _ rfl
        rw [upN_len, hlA] at a3
        simp only [shs, zts, sos, sls, zss, eqs, sx, sb1, sb2, sb3, sb4, sb5, ↓reduceIte, Nat.reduceAdd, Nat.reduceMul, Nat.reduceDiv, Nat.reduceEqDiff, Nat.reduceLT, Nat.reduceLeDiff, reduceCtorEq, Int.reduceEq, Int.reduceNe, Int.reduceLT, Int.reduceLE, Int.reduceAdd, Int.reduceSub, Int.reduceMul, Int.reduceNeg, Int.reduceToNat, Int.cast_ofNat_Int, Int.natCast_zero, Int.natCast_one, Int.toNat_natCast, Nat.reduceBEq, nzs, e0, a1, a2, a3, a4, a5, a5.2]
        clear a1 a2 a3 a4 a5
        refine LoopK.go (X := Nat × Nat) (fun x => ([(0, true, .v ya), (1, true, .v yb), (9, true, .v va), (10, true, .v vb), (12, true, .v (.int .i64 ((e + 1 : Nat) : Int))), (66, true, .v (.int .i64 (cl (e + 1) a.length : Nat))), (67, true, .v (.int .i64 (x.2 : Nat)))], [], M2))
          (fun x => x.1 + x.2 = cl (e + 1) a.length ∧ orO (srI (lv0 a) (lv0 b) e x.1 x.2) C = T) (fun x => x.1) (cl (e + 1) a.length, 0) ⟨rfl, h2⟩ (Ent.of ?_) ?_
        · simp only [sx, sb1, sb2, sb3, sb4, sb5, ↓reduceIte, Nat.reduceAdd, Nat.reduceMul, Nat.reduceDiv, Nat.reduceEqDiff, Nat.reduceLT, Nat.reduceLeDiff, reduceCtorEq, Int.reduceEq, Int.reduceNe, Int.reduceLT, Int.reduceLE, Int.reduceAdd, Int.reduceSub, Int.reduceMul, Int.reduceNeg, Int.reduceToNat, Int.cast_ofNat_Int, Int.natCast_zero, Int.natCast_one, Int.toNat_natCast, Nat.reduceBEq]
        rintro ⟨f, i⟩ ⟨h3, h4⟩
        simp only at h3 h4
        have hci := cl_iff (e + 1) a.length i
        have hp := Nat.two_pow_pos e
        have ee : i * 2 ^ (e + 1) = 2 * i * 2 ^ e := by rw [Nat.pow_succ, Nat.mul_comm 2 i, Nat.mul_assoc, Nat.mul_comm (2 ^ e)]
        have e1 : ((e + 1 : Nat) : Int) - 1 = (e : Int) := by omega
        have ie : inK .i64 ((e : Nat) : Int) := i64J (by omega)
        by_cases hi : i < cl (e + 1) a.length
        · have hin := hci.1 hi
          have hi32 : i < 32 := by
            have := Nat.le_mul_of_pos_right i (Nat.two_pow_pos (e + 1))
            omega
          obtain ⟨f, rfl⟩ : ∃ g, f = g + 1 := ⟨f - 1, by omega⟩
          have c1 : ((i : Int) < ((cl (e + 1) a.length : Nat) : Int)) = True := eq_true (by omega)
          have ej : 2 * (i : Int) = ((2 * i : Nat) : Int) := by omega
          have ej1 : ((2 * i : Nat) : Int) + 1 = ((2 * i + 1 : Nat) : Int) := by omega
          have i2 : inK .i64 ((2 * i : Nat) : Int) := i64J (by omega)
          have i3 : inK .i64 ((2 * i + 1 : Nat) : Int) := i64J (by omega)
          have i4 : inK .i64 ((i : Int) + 1) := i64J (by omega)
          obtain ⟨ua, ⟨a1, a2⟩, ⟨a3, a4⟩, a5, ⟨a6, a7⟩, a8⟩ := Levs.at (l := lv0 a) hva (d := e) (i := 2 * i) (by rw [hlA]; omega) (by omega) (by rw [hlA, ← ee]; exact hin)
          have a5 := a5 _ rfl
          have a8 := a8 _ rfl
          rw [upN_len, hlA] at a3
          have hc2 := cl_iff e a.length (2 * i + 1)
          rw [srI, hlA, nd, nd] at h4
          by_cases hm : 2 * i + 1 < cl e a.length
          · have hm2 := hc2.1 hm
            have c2 : (((cl e a.length : Nat) : Int) ≤ ((2 * i + 1 : Nat) : Int)) = False := eq_false (by omega)
            obtain ⟨ua', ⟨a1', a2'⟩, _, _, ⟨a9, a10⟩, a11⟩ := Levs.at (l := lv0 a) hva (d := e) (i := 2 * i + 1) (by rw [hlA]; omega) (by omega) (by rw [hlA]; exact hm2)
            rw [a1] at a1'
            subst a1'
            have a11 := a11 _ rfl
            obtain ⟨ub, ⟨b1, b2⟩, ⟨b3, b4⟩, b5, ⟨b6, b7⟩, b8⟩ := Levs.at (l := lv0 b) hvb (d := e) (i := 2 * i) (by rw [hlB, ← hab]; omega) (by omega) (by rw [hlB, ← ee]; omega)
            have b5 := b5 _ rfl
            have b8 := b8 _ rfl
            obtain ⟨ub', ⟨b1', b2'⟩, _, _, ⟨b9, b10⟩, b11⟩ := Levs.at (l := lv0 b) hvb (d := e) (i := 2 * i + 1) (by rw [hlB, ← hab]; omega) (by omega) (by rw [hlB]; omega)
            rw [b1] at b1'
            subst b1'
            have b11 := b11 _ rfl
            have q : ∀ (l : List (List UInt8)) (j : Nat), l.length ≤ 32 → j * 2 ^ e < l.length → topV (blk (lv0 l) e j) ≤ 1073741824 := fun l j hl hj => by
              have hbl := blk_len l e j
              rw [← blk_lv0]
              exact topV_le (lv0_ok _) (List.length_pos_iff.1 (by rw [lv0_len]; omega)) (by rw [lv0_len]; omega)
            have q1 := q a (2 * i) a32 (by omega)
            have q2 := q a (2 * i + 1) a32 hm2
            have q3 := q b (2 * i) b32 (by omega)
            have q4 := q b (2 * i + 1) b32 (by omega)
            clear q
            generalize topV (blk (lv0 a) e (2 * i)) = x1 at *
            generalize topV (blk (lv0 a) e (2 * i + 1)) = x2 at *
            generalize topV (blk (lv0 b) e (2 * i)) = x3 at *
            generalize topV (blk (lv0 b) e (2 * i + 1)) = x4 at *
            simp only [shs, zts, sos, sls, zss, eqs, sx, sb1, sb2, sb3, sb4, sb5, ↓reduceIte, Nat.reduceAdd, Nat.reduceMul, Nat.reduceDiv, Nat.reduceEqDiff, Nat.reduceLT, Nat.reduceLeDiff, reduceCtorEq, Int.reduceEq, Int.reduceNe, Int.reduceLT, Int.reduceLE, Int.reduceAdd, Int.reduceSub, Int.reduceMul, Int.reduceNeg, Int.reduceToNat, Int.cast_ofNat_Int, Int.natCast_zero, Int.natCast_one, Int.toNat_natCast, Nat.reduceBEq, nzs, c1, c2, e1, ie, ej, ej1, i2, i3, a1, a2, a3, a4, a5, a5.2]
            refine DrawK.plan (tk [0, 1, 2, 3, 4, 5, 6, 7, 8, 9, 10, 11, 12, 13, 14, 15, 16, 17, 18, 20, 21, 22, 23, 24, 25, 26, 27, 28, 29, 30, 31, 32, 33, 34, 35, 36, 37, 38] (ones' [19, 39, 40, 41] .done)) (by kernel_rfl) (by kernel_rfl) ?_
            simp only [shs, zts, sos, sls, zss, eqs, sx, sb1, sb2, sb3, sb4, sb5, ↓reduceIte, Nat.reduceAdd, Nat.reduceMul, Nat.reduceDiv, Nat.reduceEqDiff, Nat.reduceLT, Nat.reduceLeDiff, reduceCtorEq, Int.reduceEq, Int.reduceNe, Int.reduceLT, Int.reduceLE, Int.reduceAdd, Int.reduceSub, Int.reduceMul, Int.reduceNeg, Int.reduceToNat, Int.cast_ofNat_Int, Int.natCast_zero, Int.natCast_one, Int.toNat_natCast, Nat.reduceBEq, nzs, se1, se2, tks, e1, ie, ej, ej1, i2, i3, a1, a2, a4, a5, a5.2, a6, a7, a8, a8.2, a9, a10, a11, a11.2, b1, b2, b4, b5, b5.2, b6, b7, b8, b8.2, b9, b10, b11, b11.2]
            refine CallK.pure ⟨rfl, rfl⟩ rfl (said x1 x2 M2 (by omega) (by omega)) ?_
            simp only [shs, zts, sos, sls, zss, eqs, sx, sb1, sb2, sb3, sb4, sb5, ↓reduceIte, Nat.reduceAdd, Nat.reduceMul, Nat.reduceDiv, Nat.reduceEqDiff, Nat.reduceLT, Nat.reduceLeDiff, reduceCtorEq, Int.reduceEq, Int.reduceNe, Int.reduceLT, Int.reduceLE, Int.reduceAdd, Int.reduceSub, Int.reduceMul, Int.reduceNeg, Int.reduceToNat, Int.cast_ofNat_Int, Int.natCast_zero, Int.natCast_one, Int.toNat_natCast, Nat.reduceBEq, nzs, se1, se2, tks]
            refine CallK.pure ⟨rfl, rfl⟩ rfl (said x3 x4 M2 (by omega) (by omega)) ?_
            by_cases hne : saidN x1 x2 = saidN x3 x4
            · have d1 : (saidN x1 x2 = saidN x3 x4) = True := eq_true hne
              rw [if_neg (fun h => h.2 hne)] at h4
              simp only [shs, zts, sos, sls, zss, eqs, sx, sb1, sb2, sb3, sb4, sb5, ↓reduceIte, Nat.reduceAdd, Nat.reduceMul, Nat.reduceDiv, Nat.reduceEqDiff, Nat.reduceLT, Nat.reduceLeDiff, reduceCtorEq, Int.reduceEq, Int.reduceNe, Int.reduceLT, Int.reduceLE, Int.reduceAdd, Int.reduceSub, Int.reduceMul, Int.reduceNeg, Int.reduceToNat, Int.cast_ofNat_Int, Int.natCast_zero, Int.natCast_one, Int.toNat_natCast, Nat.reduceBEq, nzs, se1, se2, tks, d1, i4]
              refine ⟨(f, i + 1), ⟨⟨by simp only; omega, h4⟩, by simp only; omega⟩, Ent.of ?_⟩
              simp only [sx, sb1, sb2, sb3, sb4, sb5, ↓reduceIte, Nat.reduceAdd, Nat.reduceMul, Nat.reduceDiv, Nat.reduceEqDiff, Nat.reduceLT, Nat.reduceLeDiff, reduceCtorEq, Int.reduceEq, Int.reduceNe, Int.reduceLT, Int.reduceLE, Int.reduceAdd, Int.reduceSub, Int.reduceMul, Int.reduceNeg, Int.reduceToNat, Int.cast_ofNat_Int, Int.natCast_zero, Int.natCast_one, Int.toNat_natCast, Nat.reduceBEq, Int.natCast_add]
            · have d1 : (saidN x1 x2 = saidN x3 x4) = False := eq_false hne
              rw [if_pos ⟨hm2, hne⟩, orO] at h4
              subst h4
              simp only [shs, zts, sos, sls, zss, eqs, sx, sb1, sb2, sb3, sb4, sb5, ↓reduceIte, Nat.reduceAdd, Nat.reduceMul, Nat.reduceDiv, Nat.reduceEqDiff, Nat.reduceLT, Nat.reduceLeDiff, reduceCtorEq, Int.reduceEq, Int.reduceNe, Int.reduceLT, Int.reduceLE, Int.reduceAdd, Int.reduceSub, Int.reduceMul, Int.reduceNeg, Int.reduceToNat, Int.cast_ofNat_Int, Int.natCast_zero, Int.natCast_one, Int.toNat_natCast, Nat.reduceBEq, nzs, se1, se2, tks, d1]
              rfl
          · have c2 : (((cl e a.length : Nat) : Int) ≤ ((2 * i + 1 : Nat) : Int)) = True := eq_true (by omega)
            rw [if_neg (fun h => hm (hc2.2 h.1))] at h4
            simp only [shs, zts, sos, sls, zss, eqs, sx, sb1, sb2, sb3, sb4, sb5, ↓reduceIte, Nat.reduceAdd, Nat.reduceMul, Nat.reduceDiv, Nat.reduceEqDiff, Nat.reduceLT, Nat.reduceLeDiff, reduceCtorEq, Int.reduceEq, Int.reduceNe, Int.reduceLT, Int.reduceLE, Int.reduceAdd, Int.reduceSub, Int.reduceMul, Int.reduceNeg, Int.reduceToNat, Int.cast_ofNat_Int, Int.natCast_zero, Int.natCast_one, Int.toNat_natCast, Nat.reduceBEq, nzs, c1, c2, e1, ie, ej, ej1, i2, i3, i4, a1, a2, a3, a4, a5, a5.2]
            refine ⟨(f, i + 1), ⟨⟨by simp only; omega, h4⟩, by simp only; omega⟩, Ent.of ?_⟩
            simp only [sx, sb1, sb2, sb3, sb4, sb5, ↓reduceIte, Nat.reduceAdd, Nat.reduceMul, Nat.reduceDiv, Nat.reduceEqDiff, Nat.reduceLT, Nat.reduceLeDiff, reduceCtorEq, Int.reduceEq, Int.reduceNe, Int.reduceLT, Int.reduceLE, Int.reduceAdd, Int.reduceSub, Int.reduceMul, Int.reduceNeg, Int.reduceToNat, Int.cast_ofNat_Int, Int.natCast_zero, Int.natCast_one, Int.toNat_natCast, Nat.reduceBEq, Int.natCast_add]
        · have c1 : ((i : Int) < ((cl (e + 1) a.length : Nat) : Int)) = False := eq_false (by omega)
          have f0 : f = 0 := by omega
          subst f0
          rw [srI, orO] at h4
          simp only [shs, zts, sos, sls, zss, eqs, sx, sb1, sb2, sb3, sb4, sb5, ↓reduceIte, Nat.reduceAdd, Nat.reduceMul, Nat.reduceDiv, Nat.reduceEqDiff, Nat.reduceLT, Nat.reduceLeDiff, reduceCtorEq, Int.reduceEq, Int.reduceNe, Int.reduceLT, Int.reduceLE, Int.reduceAdd, Int.reduceSub, Int.reduceMul, Int.reduceNeg, Int.reduceToNat, Int.cast_ofNat_Int, Int.natCast_zero, Int.natCast_one, Int.toNat_natCast, Nat.reduceBEq, nzs, c1, e1, ie]
          refine ⟨e, ⟨⟨by omega, by rw [hC]; exact h4⟩, by omega⟩, Ent.of ?_⟩
          simp only [sx, sb1, sb2, sb3, sb4, sb5, ↓reduceIte, Nat.reduceAdd, Nat.reduceMul, Nat.reduceDiv, Nat.reduceEqDiff, Nat.reduceLT, Nat.reduceLeDiff, reduceCtorEq, Int.reduceEq, Int.reduceNe, Int.reduceLT, Int.reduceLE, Int.reduceAdd, Int.reduceSub, Int.reduceMul, Int.reduceNeg, Int.reduceToNat, Int.cast_ofNat_Int, Int.natCast_zero, Int.natCast_one, Int.toNat_natCast, Nat.reduceBEq]
    · have d2 : ((topV (lv0 a) : Int) = (topV (lv0 b) : Int)) = False := eq_false (by omega)
      rw [if_pos (.inl hd)] at hT
      subst hT
      simp only [shs, zts, sos, sls, zss, eqs, sx, sb1, sb2, sb3, sb4, sb5, ↓reduceIte, Nat.reduceAdd, Nat.reduceMul, Nat.reduceDiv, Nat.reduceEqDiff, Nat.reduceLT, Nat.reduceLeDiff, reduceCtorEq, Int.reduceEq, Int.reduceNe, Int.reduceLT, Int.reduceLE, Int.reduceAdd, Int.reduceSub, Int.reduceMul, Int.reduceNeg, Int.reduceToNat, Int.cast_ofNat_Int, Int.natCast_zero, Int.natCast_one, Int.toNat_natCast, Nat.reduceBEq, nzs, se1, se2, tks, d2, a1, a2, a4, a5, a5.2, a6, a7, a8, a8.2, b1, b2, b4, b5, b5.2, b6, b7, b8, b8.2]
      rfl
  · have hE : (if lvE a ≠ 0 then lvE a else if lvE b ≠ 0 then lvE b else if a.length ≠ b.length then (11 : Int) else 0) = cmE a b := rfl
    rw [if_neg h]
    generalize cmE a b = c at hE h ⊢
    simp only [Proofs.Try.f27, shs, zts, sos, sls, zss, eqs, sx, sb1, sb2, sb3, sb4, sb5, ↓reduceIte, Nat.reduceAdd, Nat.reduceMul, Nat.reduceDiv, Nat.reduceEqDiff, Nat.reduceLT, Nat.reduceLeDiff, reduceCtorEq, Int.reduceEq, Int.reduceNe, Int.reduceLT, Int.reduceLE, Int.reduceAdd, Int.reduceSub, Int.reduceMul, Int.reduceNeg, Int.reduceToNat, Int.cast_ofNat_Int, Int.natCast_zero, Int.natCast_one, Int.toNat_natCast, Nat.reduceBEq]
    refine CallK.pure ⟨rfl, rfl⟩ rfl hCa ?_
    by_cases ea : lvE a = 0
    · have ea1 : (lvE a = 0) = True := eq_true ea
      rw [if_neg (by simp [ea])] at hE
      simp only [shs, zts, sos, sls, zss, eqs, sx, sb1, sb2, sb3, sb4, sb5, ↓reduceIte, Nat.reduceAdd, Nat.reduceMul, Nat.reduceDiv, Nat.reduceEqDiff, Nat.reduceLT, Nat.reduceLeDiff, reduceCtorEq, Int.reduceEq, Int.reduceNe, Int.reduceLT, Int.reduceLE, Int.reduceAdd, Int.reduceSub, Int.reduceMul, Int.reduceNeg, Int.reduceToNat, Int.cast_ofNat_Int, Int.natCast_zero, Int.natCast_one, Int.toNat_natCast, Nat.reduceBEq, ea1]
      refine CallK.pure ⟨rfl, rfl⟩ rfl hCb ?_
      by_cases eb : lvE b = 0
      · have eb1 : (lvE b = 0) = True := eq_true eb
        rw [if_neg (by simp [eb])] at hE
        by_cases hl : a.length = b.length
        · rw [if_neg (by simp [hl])] at hE
          exact (h hE.symm).elim
        · rw [if_pos hl] at hE
          have d1 : ((a.length : Int) = (b.length : Int)) = False := eq_false (by omega)
          subst hE
          simp only [shs, zts, sos, sls, zss, eqs, sx, sb1, sb2, sb3, sb4, sb5, ↓reduceIte, Nat.reduceAdd, Nat.reduceMul, Nat.reduceDiv, Nat.reduceEqDiff, Nat.reduceLT, Nat.reduceLeDiff, reduceCtorEq, Int.reduceEq, Int.reduceNe, Int.reduceLT, Int.reduceLE, Int.reduceAdd, Int.reduceSub, Int.reduceMul, Int.reduceNeg, Int.reduceToNat, Int.cast_ofNat_Int, Int.natCast_zero, Int.natCast_one, Int.toNat_natCast, Nat.reduceBEq, eb1, d1, ha.len, ha.sl, hb.len, hb.sl, List.length_map]
          rfl
      · have eb1 : (lvE b = 0) = False := eq_false eb
        rw [if_pos eb] at hE
        subst hE
        simp only [shs, zts, sos, sls, zss, eqs, sx, sb1, sb2, sb3, sb4, sb5, ↓reduceIte, Nat.reduceAdd, Nat.reduceMul, Nat.reduceDiv, Nat.reduceEqDiff, Nat.reduceLT, Nat.reduceLeDiff, reduceCtorEq, Int.reduceEq, Int.reduceNe, Int.reduceLT, Int.reduceLE, Int.reduceAdd, Int.reduceSub, Int.reduceMul, Int.reduceNeg, Int.reduceToNat, Int.cast_ofNat_Int, Int.natCast_zero, Int.natCast_one, Int.toNat_natCast, Nat.reduceBEq, eb1]
        rfl
    · have ea1 : (lvE a = 0) = False := eq_false ea
      rw [if_pos ea] at hE
      subst hE
      simp only [shs, zts, sos, sls, zss, eqs, sx, sb1, sb2, sb3, sb4, sb5, ↓reduceIte, Nat.reduceAdd, Nat.reduceMul, Nat.reduceDiv, Nat.reduceEqDiff, Nat.reduceLT, Nat.reduceLeDiff, reduceCtorEq, Int.reduceEq, Int.reduceNe, Int.reduceLT, Int.reduceLE, Int.reduceAdd, Int.reduceSub, Int.reduceMul, Int.reduceNeg, Int.reduceToNat, Int.cast_ofNat_Int, Int.natCast_zero, Int.natCast_one, Int.toNat_natCast, Nat.reduceBEq, ea1]
      rfl
end Go.X.Ts
