/- woollaw.PolySays returns true. Conditions: none. -/
import Derived.Test.YtkhadbanpfngnaaPolyD
import Derived.Test.YtkhadbanpfngnaaFwD
set_option linter.unusedSimpArgs false
set_option linter.unusedVariables false
set_option maxHeartbeats 4000000
set_option maxRecDepth 20000
namespace Go.X.Ps
open Go Go.X Go.X.Pol Go.X.Pl Go.X.Rp Go.X.Pd

theorem coefNeg (a : Int) (M : Mem) (ha : a ≤ 0) :
    Meets Proofs.Try.prog 24 [.v (.int .i64 a)] M (RowR (fun s => s) 1 []) := by
  refine Meets.of_body [0,2,3,5] Proofs.Try.func24 rfl (by kernel_rfl) rfl fun w => ?_
  simp only [Proofs.Try.f24, shs, zts, sos, sls, zss, sx, sb1, sb2, sb3, sb4, sb5, ↓reduceIte, Nat.reduceAdd, Nat.reduceMul, Nat.reduceDiv, Nat.reduceEqDiff, Nat.reduceLT, Nat.reduceLeDiff, reduceCtorEq, Int.reduceEq, Int.reduceNe, Int.reduceLT, Int.reduceLE, Int.reduceAdd, Int.reduceSub, Int.reduceMul, Int.reduceNeg, Int.reduceToNat, Int.cast_ofNat_Int, Int.natCast_zero, Int.natCast_one, Int.toNat_natCast, Nat.reduceBEq]
  refine LoopK.go (X := Unit) (fun _ => ([(0, true, .v (.int .i64 a)), (3, true, .v (.slice none 0 0))], [], M)) (fun _ => True) (fun _ => 0) () trivial (Ent.of ?_) ?_
  · simp only [sx, sb1, sb2, sb3, sb4, sb5, ↓reduceIte, Nat.reduceAdd, Nat.reduceMul, Nat.reduceDiv, Nat.reduceEqDiff, Nat.reduceLT, Nat.reduceLeDiff, reduceCtorEq, Int.reduceEq, Int.reduceNe, Int.reduceLT, Int.reduceLE, Int.reduceAdd, Int.reduceSub, Int.reduceMul, Int.reduceNeg, Int.reduceToNat, Int.cast_ofNat_Int, Int.natCast_zero, Int.natCast_one, Int.toNat_natCast, Nat.reduceBEq]
  intro _ _
  have h0 : (0 < a) = False := eq_false (by omega)
  simp only [shs, zts, sos, sls, zss, sx, sb1, sb2, sb3, sb4, sb5, ↓reduceIte, Nat.reduceAdd, Nat.reduceMul, Nat.reduceDiv, Nat.reduceEqDiff, Nat.reduceLT, Nat.reduceLeDiff, reduceCtorEq, Int.reduceEq, Int.reduceNe, Int.reduceLT, Int.reduceLE, Int.reduceAdd, Int.reduceSub, Int.reduceMul, Int.reduceNeg, Int.reduceToNat, Int.cast_ofNat_Int, Int.natCast_zero, Int.natCast_one, Int.toNat_natCast, Nat.reduceBEq, h0]
  exact ⟨.v (.slice none 0 0), rfl, RowM.nil _ _⟩
theorem coefI (a : Int) (M : Mem) (ha : inK .i64 a) :
    Meets Proofs.Try.prog 24 [.v (.int .i64 a)] M (RowR (fun s => s) 1 ((bitsL (sz a.toNat) a.toNat).map encT)) := by
  simp only [inK, lo, hi] at ha
  by_cases h : a ≤ 0
  · have := coefNeg a M h
    rw [show a.toNat = 0 by omega]
    exact this
  · have := coef a.toNat M (by omega)
    rw [show ((a.toNat : Nat) : Int) = a by omega] at this
    exact this

theorem setMod {n x i : Nat} {v : Bool} (h : v = x.testBit i) : ((bitsL n (x % 2 ^ i)).map encT).set i [.bool v] = (bitsL n (x % 2 ^ (i + 1))).map encT := by
  have h2 : (bitsL n (x % 2 ^ i)).set i v = bitsL n (x % 2 ^ (i + 1)) := bitsL_set (by rw [h, Nat.testBit_mod_two_pow]; simp) (fun j hj => by
    rw [Nat.testBit_mod_two_pow, Nat.testBit_mod_two_pow]
    congr 1
    simp only [decide_eq_decide]
    omega)
  rw [← h2, List.map_set]
  rfl

theorem says (a b : Int) (M : Mem) (_ : inK .i64 a) (hb : inK .i64 b) :
    Meets Proofs.Try.prog 4 [.v (.int .i64 a), .v (.int .i64 b)] M fun r _ _ => r = .v (.bool true) := by
  refine Meets.of_body [0,1,4,5,6,7,8,9,10,11,12,13,14,15,42,46,81,85,107,108,109,155,161] Proofs.Try.func4 rfl (by kernel_rfl) rfl fun w => ?_
  simp only [Proofs.Try.f4, shs, zts, sos, sls, zss, sx, sb1, sb2, sb3, sb4, sb5, ↓reduceIte, Nat.reduceAdd, Nat.reduceMul, Nat.reduceDiv, Nat.reduceEqDiff, Nat.reduceLT, Nat.reduceLeDiff, reduceCtorEq, Int.reduceEq, Int.reduceNe, Int.reduceLT, Int.reduceLE, Int.reduceAdd, Int.reduceSub, Int.reduceMul, Int.reduceNeg, Int.reduceToNat, Int.cast_ofNat_Int, Int.natCast_zero, Int.natCast_one, Int.toNat_natCast, Nat.reduceBEq]
  have er1 : er (-1) = 1 := rfl
  by_cases hba : a < 0 ∨ 2147483647 < a
  · have hpa : pe [a] = 1 := by simp only [pe, if_pos hba]
    refine CallK.pure ⟨rfl, rfl⟩ rfl (Deg_bad a M hba) ?_
    simp only [shs, zts, sos, sls, zss, sx, sb1, sb2, sb3, sb4, sb5, ↓reduceIte, Nat.reduceAdd, Nat.reduceMul, Nat.reduceDiv, Nat.reduceEqDiff, Nat.reduceLT, Nat.reduceLeDiff, reduceCtorEq, Int.reduceEq, Int.reduceNe, Int.reduceLT, Int.reduceLE, Int.reduceAdd, Int.reduceSub, Int.reduceMul, Int.reduceNeg, Int.reduceToNat, Int.cast_ofNat_Int, Int.natCast_zero, Int.natCast_one, Int.toNat_natCast, Nat.reduceBEq]
    refine CallK.pure ⟨rfl, rfl⟩ rfl (Add_bad a b M (.inl hba)) ?_
    simp only [shs, zts, sos, sls, zss, sx, sb1, sb2, sb3, sb4, sb5, ↓reduceIte, Nat.reduceAdd, Nat.reduceMul, Nat.reduceDiv, Nat.reduceEqDiff, Nat.reduceLT, Nat.reduceLeDiff, reduceCtorEq, Int.reduceEq, Int.reduceNe, Int.reduceLT, Int.reduceLE, Int.reduceAdd, Int.reduceSub, Int.reduceMul, Int.reduceNeg, Int.reduceToNat, Int.cast_ofNat_Int, Int.natCast_zero, Int.natCast_one, Int.toNat_natCast, Nat.reduceBEq]
    refine CallK.pure ⟨rfl, rfl⟩ rfl (Mul_bad a b M (.inl hba)) ?_
    simp only [shs, zts, sos, sls, zss, sx, sb1, sb2, sb3, sb4, sb5, ↓reduceIte, Nat.reduceAdd, Nat.reduceMul, Nat.reduceDiv, Nat.reduceEqDiff, Nat.reduceLT, Nat.reduceLeDiff, reduceCtorEq, Int.reduceEq, Int.reduceNe, Int.reduceLT, Int.reduceLE, Int.reduceAdd, Int.reduceSub, Int.reduceMul, Int.reduceNeg, Int.reduceToNat, Int.cast_ofNat_Int, Int.natCast_zero, Int.natCast_one, Int.toNat_natCast, Nat.reduceBEq]
    refine CallK.pure ⟨rfl, rfl⟩ rfl (check a M) ?_
    simp only [shs, zts, sos, sls, zss, sx, sb1, sb2, sb3, sb4, sb5, ↓reduceIte, Nat.reduceAdd, Nat.reduceMul, Nat.reduceDiv, Nat.reduceEqDiff, Nat.reduceLT, Nat.reduceLeDiff, reduceCtorEq, Int.reduceEq, Int.reduceNe, Int.reduceLT, Int.reduceLE, Int.reduceAdd, Int.reduceSub, Int.reduceMul, Int.reduceNeg, Int.reduceToNat, Int.cast_ofNat_Int, Int.natCast_zero, Int.natCast_one, Int.toNat_natCast, Nat.reduceBEq, er_bad hba]
    refine CallK.lend (k := 288) rfl rfl rfl (fun _ => rfl) (fun v2 M2 _ hv2 => poly v2 [a] M2 hv2) ?_
    simp only [hpa, shs, zts, sos, sls, zss, sx, sb1, sb2, sb3, sb4, sb5, ↓reduceIte, Nat.reduceAdd, Nat.reduceMul, Nat.reduceDiv, Nat.reduceEqDiff, Nat.reduceLT, Nat.reduceLeDiff, reduceCtorEq, Int.reduceEq, Int.reduceNe, Int.reduceLT, Int.reduceLE, Int.reduceAdd, Int.reduceSub, Int.reduceMul, Int.reduceNeg, Int.reduceToNat, Int.cast_ofNat_Int, Int.natCast_zero, Int.natCast_one, Int.toNat_natCast, Nat.reduceBEq]
    refine CallK.pure ⟨rfl, rfl⟩ rfl (check (-1) M) ?_
    simp only [er1, shs, zts, sos, sls, zss, sx, sb1, sb2, sb3, sb4, sb5, ↓reduceIte, Nat.reduceAdd, Nat.reduceMul, Nat.reduceDiv, Nat.reduceEqDiff, Nat.reduceLT, Nat.reduceLeDiff, reduceCtorEq, Int.reduceEq, Int.reduceNe, Int.reduceLT, Int.reduceLE, Int.reduceAdd, Int.reduceSub, Int.reduceMul, Int.reduceNeg, Int.reduceToNat, Int.cast_ofNat_Int, Int.natCast_zero, Int.natCast_one, Int.toNat_natCast, Nat.reduceBEq]
    refine CallK.lend (k := 352) rfl rfl rfl (fun _ => rfl) (fun v2 M2 _ hv2 => poly v2 [a] M2 hv2) ?_
    simp only [hpa, shs, zts, sos, sls, zss, sx, sb1, sb2, sb3, sb4, sb5, ↓reduceIte, Nat.reduceAdd, Nat.reduceMul, Nat.reduceDiv, Nat.reduceEqDiff, Nat.reduceLT, Nat.reduceLeDiff, reduceCtorEq, Int.reduceEq, Int.reduceNe, Int.reduceLT, Int.reduceLE, Int.reduceAdd, Int.reduceSub, Int.reduceMul, Int.reduceNeg, Int.reduceToNat, Int.cast_ofNat_Int, Int.natCast_zero, Int.natCast_one, Int.toNat_natCast, Nat.reduceBEq]
  obtain ⟨a, rfl, ha'⟩ := nat_of hba
  have hpa : pe [(a : Int)] = 0 := by simp only [pe, if_neg hba]
  refine CallK.pure ⟨rfl, rfl⟩ rfl (Deg a M ha') ?_
  simp only [shs, zts, sos, sls, zss, sx, sb1, sb2, sb3, sb4, sb5, ↓reduceIte, Nat.reduceAdd, Nat.reduceMul, Nat.reduceDiv, Nat.reduceEqDiff, Nat.reduceLT, Nat.reduceLeDiff, reduceCtorEq, Int.reduceEq, Int.reduceNe, Int.reduceLT, Int.reduceLE, Int.reduceAdd, Int.reduceSub, Int.reduceMul, Int.reduceNeg, Int.reduceToNat, Int.cast_ofNat_Int, Int.natCast_zero, Int.natCast_one, Int.toNat_natCast, Nat.reduceBEq]
  have h31 := sz31 ha'
  by_cases hbb : b < 0 ∨ 2147483647 < b
  · have hpb : pe [b] = 1 := by simp only [pe, if_pos hbb]
    refine CallK.pure ⟨rfl, rfl⟩ rfl (Add_bad a b M (.inr hbb)) ?_
    simp only [shs, zts, sos, sls, zss, sx, sb1, sb2, sb3, sb4, sb5, ↓reduceIte, Nat.reduceAdd, Nat.reduceMul, Nat.reduceDiv, Nat.reduceEqDiff, Nat.reduceLT, Nat.reduceLeDiff, reduceCtorEq, Int.reduceEq, Int.reduceNe, Int.reduceLT, Int.reduceLE, Int.reduceAdd, Int.reduceSub, Int.reduceMul, Int.reduceNeg, Int.reduceToNat, Int.cast_ofNat_Int, Int.natCast_zero, Int.natCast_one, Int.toNat_natCast, Nat.reduceBEq]
    refine CallK.pure ⟨rfl, rfl⟩ rfl (Mul_bad a b M (.inr hbb)) ?_
    simp only [shs, zts, sos, sls, zss, sx, sb1, sb2, sb3, sb4, sb5, ↓reduceIte, Nat.reduceAdd, Nat.reduceMul, Nat.reduceDiv, Nat.reduceEqDiff, Nat.reduceLT, Nat.reduceLeDiff, reduceCtorEq, Int.reduceEq, Int.reduceNe, Int.reduceLT, Int.reduceLE, Int.reduceAdd, Int.reduceSub, Int.reduceMul, Int.reduceNeg, Int.reduceToNat, Int.cast_ofNat_Int, Int.natCast_zero, Int.natCast_one, Int.toNat_natCast, Nat.reduceBEq]
    refine CallK.pure ⟨rfl, rfl⟩ rfl (check a M) ?_
    simp only [shs, zts, sos, sls, zss, sx, sb1, sb2, sb3, sb4, sb5, ↓reduceIte, Nat.reduceAdd, Nat.reduceMul, Nat.reduceDiv, Nat.reduceEqDiff, Nat.reduceLT, Nat.reduceLeDiff, reduceCtorEq, Int.reduceEq, Int.reduceNe, Int.reduceLT, Int.reduceLE, Int.reduceAdd, Int.reduceSub, Int.reduceMul, Int.reduceNeg, Int.reduceToNat, Int.cast_ofNat_Int, Int.natCast_zero, Int.natCast_one, Int.toNat_natCast, Nat.reduceBEq, er_ok hba]
    refine CallK.lend (k := 288) rfl rfl rfl (fun _ => rfl) (fun v2 M2 _ hv2 => poly v2 [(a : Int)] M2 hv2) ?_
    simp only [hpa, shs, zts, sos, sls, zss, sx, sb1, sb2, sb3, sb4, sb5, ↓reduceIte, Nat.reduceAdd, Nat.reduceMul, Nat.reduceDiv, Nat.reduceEqDiff, Nat.reduceLT, Nat.reduceLeDiff, reduceCtorEq, Int.reduceEq, Int.reduceNe, Int.reduceLT, Int.reduceLE, Int.reduceAdd, Int.reduceSub, Int.reduceMul, Int.reduceNeg, Int.reduceToNat, Int.cast_ofNat_Int, Int.natCast_zero, Int.natCast_one, Int.toNat_natCast, Nat.reduceBEq]
    refine CallK.pure ⟨rfl, rfl⟩ rfl (check (-1) M) ?_
    simp only [er1, shs, zts, sos, sls, zss, sx, sb1, sb2, sb3, sb4, sb5, ↓reduceIte, Nat.reduceAdd, Nat.reduceMul, Nat.reduceDiv, Nat.reduceEqDiff, Nat.reduceLT, Nat.reduceLeDiff, reduceCtorEq, Int.reduceEq, Int.reduceNe, Int.reduceLT, Int.reduceLE, Int.reduceAdd, Int.reduceSub, Int.reduceMul, Int.reduceNeg, Int.reduceToNat, Int.cast_ofNat_Int, Int.natCast_zero, Int.natCast_one, Int.toNat_natCast, Nat.reduceBEq]
    refine CallK.lend (k := 352) rfl rfl rfl (fun _ => rfl) (fun v2 M2 _ hv2 => poly v2 [(a : Int)] M2 hv2) ?_
    simp only [hpa, shs, zts, sos, sls, zss, sx, sb1, sb2, sb3, sb4, sb5, ↓reduceIte, Nat.reduceAdd, Nat.reduceMul, Nat.reduceDiv, Nat.reduceEqDiff, Nat.reduceLT, Nat.reduceLeDiff, reduceCtorEq, Int.reduceEq, Int.reduceNe, Int.reduceLT, Int.reduceLE, Int.reduceAdd, Int.reduceSub, Int.reduceMul, Int.reduceNeg, Int.reduceToNat, Int.cast_ofNat_Int, Int.natCast_zero, Int.natCast_one, Int.toNat_natCast, Nat.reduceBEq]
    refine CallK.row Ctx.id rfl rfl (coef a M (by omega)) fun v1 M1 hM1 hv1 => ?_
    simp only [shs, zts, sos, sls, zss, sx, sb1, sb2, sb3, sb4, sb5, ↓reduceIte, Nat.reduceAdd, Nat.reduceMul, Nat.reduceDiv, Nat.reduceEqDiff, Nat.reduceLT, Nat.reduceLeDiff, reduceCtorEq, Int.reduceEq, Int.reduceNe, Int.reduceLT, Int.reduceLE, Int.reduceAdd, Int.reduceSub, Int.reduceMul, Int.reduceNeg, Int.reduceToNat, Int.cast_ofNat_Int, Int.natCast_zero, Int.natCast_one, Int.toNat_natCast, Nat.reduceBEq]
    refine CallK.row Ctx.id rfl rfl (coefI b M1 hb) fun v2 M2 hM2 hv2 => ?_
    replace hv1 := hv1.le hM2
    simp only [shs, zts, sos, sls, zss, sx, sb1, sb2, sb3, sb4, sb5, ↓reduceIte, Nat.reduceAdd, Nat.reduceMul, Nat.reduceDiv, Nat.reduceEqDiff, Nat.reduceLT, Nat.reduceLeDiff, reduceCtorEq, Int.reduceEq, Int.reduceNe, Int.reduceLT, Int.reduceLE, Int.reduceAdd, Int.reduceSub, Int.reduceMul, Int.reduceNeg, Int.reduceToNat, Int.cast_ofNat_Int, Int.natCast_zero, Int.natCast_one, Int.toNat_natCast, Nat.reduceBEq, hv1.len, hv1.sl, List.length_map, bitsL_len, inK, lo, hi]
    refine ⟨by omega, ?_⟩
    refine CallK.lend (k := 664) rfl rfl rfl (fun _ => rfl) (fun v2 M2 _ hv2 => poly v2 [b] M2 hv2) ?_
    simp only [hpb, shs, zts, sos, sls, zss, sx, sb1, sb2, sb3, sb4, sb5, ↓reduceIte, Nat.reduceAdd, Nat.reduceMul, Nat.reduceDiv, Nat.reduceEqDiff, Nat.reduceLT, Nat.reduceLeDiff, reduceCtorEq, Int.reduceEq, Int.reduceNe, Int.reduceLT, Int.reduceLE, Int.reduceAdd, Int.reduceSub, Int.reduceMul, Int.reduceNeg, Int.reduceToNat, Int.cast_ofNat_Int, Int.natCast_zero, Int.natCast_one, Int.toNat_natCast, Nat.reduceBEq]
  obtain ⟨b, rfl, hb'⟩ := nat_of hbb
  have hpb : pe [(b : Int)] = 0 := by simp only [pe, if_neg hbb]
  have h31b := sz31 hb'
  refine CallK.pure ⟨rfl, rfl⟩ rfl (Add a b M ha' hb') ?_
  simp only [shs, zts, sos, sls, zss, sx, sb1, sb2, sb3, sb4, sb5, ↓reduceIte, Nat.reduceAdd, Nat.reduceMul, Nat.reduceDiv, Nat.reduceEqDiff, Nat.reduceLT, Nat.reduceLeDiff, reduceCtorEq, Int.reduceEq, Int.reduceNe, Int.reduceLT, Int.reduceLE, Int.reduceAdd, Int.reduceSub, Int.reduceMul, Int.reduceNeg, Int.reduceToNat, Int.cast_ofNat_Int, Int.natCast_zero, Int.natCast_one, Int.toNat_natCast, Nat.reduceBEq]
  have hMul := Mul a b M ha' hb'
  have hpn : (bitsL (sz (a ^^^ b)) (a ^^^ b)).length = sz (a ^^^ b) := bitsL_len _ _
  have hmm : sz (mulp a b) ≤ 31 ↔ mulp a b ≤ 2147483647 := by rw [sz_le]; omega
  obtain ⟨p, e, hV, hpe⟩ : ∃ p e : Int, mulV a b = .tup [.v (.int .i64 p), .v (.int .i64 e)] ∧ ((mulp a b ≤ 2147483647 ∧ p = ((mulp a b : Nat) : Int) ∧ e = 0) ∨ (¬ mulp a b ≤ 2147483647 ∧ p = 0 ∧ e = 2)) := by
    by_cases h : mulp a b ≤ 2147483647
    · exact ⟨_, _, by rw [mulV, if_pos h], .inl ⟨h, rfl, rfl⟩⟩
    · exact ⟨_, _, by rw [mulV, if_neg h], .inr ⟨h, rfl, rfl⟩⟩
  rw [hV] at hMul
  refine CallK.pure ⟨rfl, rfl⟩ rfl hMul ?_
  have hL : (max (sz a : Int) (sz b : Int)) = ((max (sz a) (sz b) : Nat) : Int) := by omega
  simp only [shs, zts, sos, sls, zss, sx, sb1, sb2, sb3, sb4, sb5, ↓reduceIte, Nat.reduceAdd, Nat.reduceMul, Nat.reduceDiv, Nat.reduceEqDiff, Nat.reduceLT, Nat.reduceLeDiff, reduceCtorEq, Int.reduceEq, Int.reduceNe, Int.reduceLT, Int.reduceLE, Int.reduceAdd, Int.reduceSub, Int.reduceMul, Int.reduceNeg, Int.reduceToNat, Int.cast_ofNat_Int, Int.natCast_zero, Int.natCast_one, Int.toNat_natCast, Nat.reduceBEq]
  refine CallK.pure ⟨rfl, rfl⟩ rfl (check a M) ?_
  simp only [shs, zts, sos, sls, zss, sx, sb1, sb2, sb3, sb4, sb5, ↓reduceIte, Nat.reduceAdd, Nat.reduceMul, Nat.reduceDiv, Nat.reduceEqDiff, Nat.reduceLT, Nat.reduceLeDiff, reduceCtorEq, Int.reduceEq, Int.reduceNe, Int.reduceLT, Int.reduceLE, Int.reduceAdd, Int.reduceSub, Int.reduceMul, Int.reduceNeg, Int.reduceToNat, Int.cast_ofNat_Int, Int.natCast_zero, Int.natCast_one, Int.toNat_natCast, Nat.reduceBEq, er_ok hba]
  refine CallK.lend (k := 288) rfl rfl rfl (fun _ => rfl) (fun v2 M2 _ hv2 => poly v2 [(a : Int)] M2 hv2) ?_
  simp only [hpa, shs, zts, sos, sls, zss, sx, sb1, sb2, sb3, sb4, sb5, ↓reduceIte, Nat.reduceAdd, Nat.reduceMul, Nat.reduceDiv, Nat.reduceEqDiff, Nat.reduceLT, Nat.reduceLeDiff, reduceCtorEq, Int.reduceEq, Int.reduceNe, Int.reduceLT, Int.reduceLE, Int.reduceAdd, Int.reduceSub, Int.reduceMul, Int.reduceNeg, Int.reduceToNat, Int.cast_ofNat_Int, Int.natCast_zero, Int.natCast_one, Int.toNat_natCast, Nat.reduceBEq]
  refine CallK.pure ⟨rfl, rfl⟩ rfl (check (-1) M) ?_
  simp only [er1, shs, zts, sos, sls, zss, sx, sb1, sb2, sb3, sb4, sb5, ↓reduceIte, Nat.reduceAdd, Nat.reduceMul, Nat.reduceDiv, Nat.reduceEqDiff, Nat.reduceLT, Nat.reduceLeDiff, reduceCtorEq, Int.reduceEq, Int.reduceNe, Int.reduceLT, Int.reduceLE, Int.reduceAdd, Int.reduceSub, Int.reduceMul, Int.reduceNeg, Int.reduceToNat, Int.cast_ofNat_Int, Int.natCast_zero, Int.natCast_one, Int.toNat_natCast, Nat.reduceBEq]
  refine CallK.lend (k := 352) rfl rfl rfl (fun _ => rfl) (fun v2 M2 _ hv2 => poly v2 [(a : Int)] M2 hv2) ?_
  simp only [hpa, shs, zts, sos, sls, zss, sx, sb1, sb2, sb3, sb4, sb5, ↓reduceIte, Nat.reduceAdd, Nat.reduceMul, Nat.reduceDiv, Nat.reduceEqDiff, Nat.reduceLT, Nat.reduceLeDiff, reduceCtorEq, Int.reduceEq, Int.reduceNe, Int.reduceLT, Int.reduceLE, Int.reduceAdd, Int.reduceSub, Int.reduceMul, Int.reduceNeg, Int.reduceToNat, Int.cast_ofNat_Int, Int.natCast_zero, Int.natCast_one, Int.toNat_natCast, Nat.reduceBEq]
  refine CallK.row Ctx.id rfl rfl (coef a M (by omega)) fun v1 M1 hM1 hv1 => ?_
  simp only [shs, zts, sos, sls, zss, sx, sb1, sb2, sb3, sb4, sb5, ↓reduceIte, Nat.reduceAdd, Nat.reduceMul, Nat.reduceDiv, Nat.reduceEqDiff, Nat.reduceLT, Nat.reduceLeDiff, reduceCtorEq, Int.reduceEq, Int.reduceNe, Int.reduceLT, Int.reduceLE, Int.reduceAdd, Int.reduceSub, Int.reduceMul, Int.reduceNeg, Int.reduceToNat, Int.cast_ofNat_Int, Int.natCast_zero, Int.natCast_one, Int.toNat_natCast, Nat.reduceBEq]
  refine CallK.row Ctx.id rfl rfl (coef b M1 (by omega)) fun v2 M2 hM2 hv2 => ?_
  replace hv1 := hv1.le hM2
  simp only [shs, zts, sos, sls, zss, sx, sb1, sb2, sb3, sb4, sb5, ↓reduceIte, Nat.reduceAdd, Nat.reduceMul, Nat.reduceDiv, Nat.reduceEqDiff, Nat.reduceLT, Nat.reduceLeDiff, reduceCtorEq, Int.reduceEq, Int.reduceNe, Int.reduceLT, Int.reduceLE, Int.reduceAdd, Int.reduceSub, Int.reduceMul, Int.reduceNeg, Int.reduceToNat, Int.cast_ofNat_Int, Int.natCast_zero, Int.natCast_one, Int.toNat_natCast, Nat.reduceBEq, hv1.len, hv1.sl, List.length_map, bitsL_len, inK, lo, hi]
  refine ⟨by omega, ?_⟩
  refine CallK.lend (k := 664) rfl rfl rfl (fun _ => rfl) (fun v2 M2 _ hv2 => poly v2 [(b : Int)] M2 hv2) ?_
  simp only [hpb, shs, zts, sos, sls, zss, sx, sb1, sb2, sb3, sb4, sb5, ↓reduceIte, Nat.reduceAdd, Nat.reduceMul, Nat.reduceDiv, Nat.reduceEqDiff, Nat.reduceLT, Nat.reduceLeDiff, reduceCtorEq, Int.reduceEq, Int.reduceNe, Int.reduceLT, Int.reduceLE, Int.reduceAdd, Int.reduceSub, Int.reduceMul, Int.reduceNeg, Int.reduceToNat, Int.cast_ofNat_Int, Int.natCast_zero, Int.natCast_one, Int.toNat_natCast, Nat.reduceBEq, hv1.len, hv1.sl, hv2.len, hv2.sl, List.length_map, bitsL_len, inK, lo, hi, hL, repF]
  have hLe : max (sz a) (sz b) ≤ 31 := by omega
  have hLx : sz (a ^^^ b) ≤ max (sz a) (sz b) := sz_xor (by omega) (by omega)
  generalize hLL : max (sz a) (sz b) = L at *
  refine ⟨by omega, ?_⟩
  refine LoopK.go (X := Nat) (fun i => ([(0, true, .v (.int .i64 a)), (1, true, .v (.int .i64 b)), (7, true, .v (.int .i64 ((a ^^^ b : Nat) : Int))), (8, true, .v (.int .i64 0)), (9, true, .v (.int .i64 p)), (10, true, .v (.int .i64 e)), (11, true, .v v1), (12, true, .v v2), (13, true, .own 840), (107, true, .v (.int .i64 L)), (108, true, .v (.int .i64 i))],
      [(840, .row 1 ((bitsL L ((a ^^^ b) % 2 ^ i)).map encT))], M2))
    (fun i => i ≤ L) (fun i => L - i) 0 (Nat.zero_le _) (Ent.of ?_) ?_
  · simp only [sx, sb1, sb2, sb3, sb4, sb5, ↓reduceIte, Nat.reduceAdd, Nat.reduceMul, Nat.reduceDiv, Nat.reduceEqDiff, Nat.reduceLT, Nat.reduceLeDiff, reduceCtorEq, Int.reduceEq, Int.reduceNe, Int.reduceLT, Int.reduceLE, Int.reduceAdd, Int.reduceSub, Int.reduceMul, Int.reduceNeg, Int.reduceToNat, Int.cast_ofNat_Int, Int.natCast_zero, Int.natCast_one, Int.toNat_natCast, Nat.reduceBEq, Nat.pow_zero, Nat.mod_one]
  intro i hiL
  simp only [shs, zts, sos, sls, zss, sx, sb1, sb2, sb3, sb4, sb5, ↓reduceIte, Nat.reduceAdd, Nat.reduceMul, Nat.reduceDiv, Nat.reduceEqDiff, Nat.reduceLT, Nat.reduceLeDiff, reduceCtorEq, Int.reduceEq, Int.reduceNe, Int.reduceLT, Int.reduceLE, Int.reduceAdd, Int.reduceSub, Int.reduceMul, Int.reduceNeg, Int.reduceToNat, Int.cast_ofNat_Int, Int.natCast_zero, Int.natCast_one, Int.toNat_natCast, Nat.reduceBEq]
  refine ⟨fun h3 => ?_, fun h3 => ?_⟩
  · refine DrawK.tail 36 (by kernel_rfl) (by kernel_rfl) ?_
    have ht : (a ^^^ b).testBit i = (a.testBit i != b.testBit i) := Nat.testBit_xor ..
    by_cases h1 : i < sz a
    · have d1 : ((i : Int) < (sz a : Nat)) = True := eq_true (by omega)
      have d1' : (((sz a : Nat) : Int) ≤ i) = False := eq_false (by omega)
      have g1 := hv1.el1 (bitsL_get (x := a) h1) rfl
      have i1 := hv1.ix (i := (i : Int)) (by omega) (by rw [List.length_map, bitsL_len]; omega)
      by_cases h2 : i < sz b
      · have d2 : ((i : Int) < (sz b : Nat)) = True := eq_true (by omega)
        have g2 := hv2.el1 (bitsL_get (x := b) h2) rfl
        have i2 := hv2.ix (i := (i : Int)) (by omega) (by rw [List.length_map, bitsL_len]; omega)
        have hset := setMod (n := L) (x := a ^^^ b) (i := i) (v := !a.testBit i == b.testBit i) (by rw [ht]; rfl)
        simp only [shs, zts, sos, sls, zss, sx, sb1, sb2, sb3, sb4, sb5, ↓reduceIte, Nat.reduceAdd, Nat.reduceMul, Nat.reduceDiv, Nat.reduceEqDiff, Nat.reduceLT, Nat.reduceLeDiff, reduceCtorEq, Int.reduceEq, Int.reduceNe, Int.reduceLT, Int.reduceLE, Int.reduceAdd, Int.reduceSub, Int.reduceMul, Int.reduceNeg, Int.reduceToNat, Int.cast_ofNat_Int, Int.natCast_zero, Int.natCast_one, Int.toNat_natCast, Nat.reduceBEq, hv1.len, hv1.sl, hv2.len, hv2.sl, List.length_map, bitsL_len, d1, d1', d2, g1.1, g2.1, hset, inK, lo, hi]
        refine ⟨i1, g1.2, i2, g2.2, by omega, fun _ => trivial, ⟨by omega, by omega⟩, by omega, i + 1, ⟨by omega, by omega⟩, Ent.of ?_⟩
        simp only [sx, sb1, sb2, sb3, sb4, sb5, ↓reduceIte, Nat.reduceAdd, Nat.reduceMul, Nat.reduceDiv, Nat.reduceEqDiff, Nat.reduceLT, Nat.reduceLeDiff, reduceCtorEq, Int.reduceEq, Int.reduceNe, Int.reduceLT, Int.reduceLE, Int.reduceAdd, Int.reduceSub, Int.reduceMul, Int.reduceNeg, Int.reduceToNat, Int.cast_ofNat_Int, Int.natCast_zero, Int.natCast_one, Int.toNat_natCast, Nat.reduceBEq, Int.natCast_add]
      · have d2 : ((i : Int) < (sz b : Nat)) = False := eq_false (by omega)
        have hbi := testBit_sz (x := b) (i := i) (by omega)
        have hset := setMod (n := L) (x := a ^^^ b) (i := i) (v := a.testBit i) (by rw [ht, hbi]; simp)
        simp only [shs, zts, sos, sls, zss, sx, sb1, sb2, sb3, sb4, sb5, ↓reduceIte, Nat.reduceAdd, Nat.reduceMul, Nat.reduceDiv, Nat.reduceEqDiff, Nat.reduceLT, Nat.reduceLeDiff, reduceCtorEq, Int.reduceEq, Int.reduceNe, Int.reduceLT, Int.reduceLE, Int.reduceAdd, Int.reduceSub, Int.reduceMul, Int.reduceNeg, Int.reduceToNat, Int.cast_ofNat_Int, Int.natCast_zero, Int.natCast_one, Int.toNat_natCast, Nat.reduceBEq, hv1.len, hv1.sl, hv2.len, hv2.sl, List.length_map, bitsL_len, d1, d1', d2, g1.1, hset, inK, lo, hi]
        refine ⟨i1, g1.2, by omega, fun _ => trivial, ⟨by omega, by omega⟩, by omega, i + 1, ⟨by omega, by omega⟩, Ent.of ?_⟩
        simp only [sx, sb1, sb2, sb3, sb4, sb5, ↓reduceIte, Nat.reduceAdd, Nat.reduceMul, Nat.reduceDiv, Nat.reduceEqDiff, Nat.reduceLT, Nat.reduceLeDiff, reduceCtorEq, Int.reduceEq, Int.reduceNe, Int.reduceLT, Int.reduceLE, Int.reduceAdd, Int.reduceSub, Int.reduceMul, Int.reduceNeg, Int.reduceToNat, Int.cast_ofNat_Int, Int.natCast_zero, Int.natCast_one, Int.toNat_natCast, Nat.reduceBEq, Int.natCast_add]
    · have d1 : ((i : Int) < (sz a : Nat)) = False := eq_false (by omega)
      have d1' : (((sz a : Nat) : Int) ≤ i) = True := eq_true (by omega)
      have hai := testBit_sz (x := a) (i := i) (by omega)
      have h2 : i < sz b := by omega
      have d2 : ((i : Int) < (sz b : Nat)) = True := eq_true (by omega)
      have g2 := hv2.el1 (bitsL_get (x := b) h2) rfl
      have i2 := hv2.ix (i := (i : Int)) (by omega) (by rw [List.length_map, bitsL_len]; omega)
      have hset := setMod (n := L) (x := a ^^^ b) (i := i) (v := b.testBit i) (by rw [ht, hai]; simp)
      simp only [shs, zts, sos, sls, zss, sx, sb1, sb2, sb3, sb4, sb5, ↓reduceIte, Nat.reduceAdd, Nat.reduceMul, Nat.reduceDiv, Nat.reduceEqDiff, Nat.reduceLT, Nat.reduceLeDiff, reduceCtorEq, Int.reduceEq, Int.reduceNe, Int.reduceLT, Int.reduceLE, Int.reduceAdd, Int.reduceSub, Int.reduceMul, Int.reduceNeg, Int.reduceToNat, Int.cast_ofNat_Int, Int.natCast_zero, Int.natCast_one, Int.toNat_natCast, Nat.reduceBEq, hv1.len, hv1.sl, hv2.len, hv2.sl, List.length_map, bitsL_len, d1, d1', d2, g2.1, hset, inK, lo, hi]
      refine ⟨i2, g2.2, by omega, fun _ => trivial, ⟨by omega, by omega⟩, by omega, i + 1, ⟨by omega, by omega⟩, Ent.of ?_⟩
      simp only [sx, sb1, sb2, sb3, sb4, sb5, ↓reduceIte, Nat.reduceAdd, Nat.reduceMul, Nat.reduceDiv, Nat.reduceEqDiff, Nat.reduceLT, Nat.reduceLeDiff, reduceCtorEq, Int.reduceEq, Int.reduceNe, Int.reduceLT, Int.reduceLE, Int.reduceAdd, Int.reduceSub, Int.reduceMul, Int.reduceNeg, Int.reduceToNat, Int.cast_ofNat_Int, Int.natCast_zero, Int.natCast_one, Int.toNat_natCast, Nat.reduceBEq, Int.natCast_add]
  · have : i = L := by omega
    subst this
    rw [mod_of_lt hLx]
    refine CallK.lend (k := 840) rfl rfl rfl (fun _ => rfl) (fun v3 M3 _ hv3 => num v3 _ (a ^^^ b) M3 hv3 (by omega) (sz_le.1 hLx)) ?_
    simp only [shs, zts, sos, sls, zss, sx, sb1, sb2, sb3, sb4, sb5, ↓reduceIte, Nat.reduceAdd, Nat.reduceMul, Nat.reduceDiv, Nat.reduceEqDiff, Nat.reduceLT, Nat.reduceLeDiff, reduceCtorEq, Int.reduceEq, Int.reduceNe, Int.reduceLT, Int.reduceLE, Int.reduceAdd, Int.reduceSub, Int.reduceMul, Int.reduceNeg, Int.reduceToNat, Int.cast_ofNat_Int, Int.natCast_zero, Int.natCast_one, Int.toNat_natCast, Nat.reduceBEq]
    refine CallK.row Ctx.id rfl rfl (prod v1 v2 _ _ a b M2 hv1 hv2 (lt_two_sz a) (lt_two_sz b) (by omega) (by omega)) fun v4 M4 hM4 hv4 => ?_
    have h62 := mulp_62 ha' hb'
    rcases hpe with ⟨h, rfl, rfl⟩ | ⟨h, rfl, rfl⟩
    · have hgt : (31 < ((sz (mulp a b) : Nat) : Int)) = False := eq_false (by omega)
      simp only [shs, zts, sos, sls, zss, sx, sb1, sb2, sb3, sb4, sb5, ↓reduceIte, Nat.reduceAdd, Nat.reduceMul, Nat.reduceDiv, Nat.reduceEqDiff, Nat.reduceLT, Nat.reduceLeDiff, reduceCtorEq, Int.reduceEq, Int.reduceNe, Int.reduceLT, Int.reduceLE, Int.reduceAdd, Int.reduceSub, Int.reduceMul, Int.reduceNeg, Int.reduceToNat, Int.cast_ofNat_Int, Int.natCast_zero, Int.natCast_one, Int.toNat_natCast, Nat.reduceBEq, hv4.len, hv4.sl, List.length_map, bitsL_len, hgt]
      refine CallK.pure ⟨rfl, rfl⟩ rfl (num v4 _ (mulp a b) M4 hv4 (by omega) (lt_two_sz _)) ?_
      simp only [shs, zts, sos, sls, zss, sx, sb1, sb2, sb3, sb4, sb5, ↓reduceIte, Nat.reduceAdd, Nat.reduceMul, Nat.reduceDiv, Nat.reduceEqDiff, Nat.reduceLT, Nat.reduceLeDiff, reduceCtorEq, Int.reduceEq, Int.reduceNe, Int.reduceLT, Int.reduceLE, Int.reduceAdd, Int.reduceSub, Int.reduceMul, Int.reduceNeg, Int.reduceToNat, Int.cast_ofNat_Int, Int.natCast_zero, Int.natCast_one, Int.toNat_natCast, Nat.reduceBEq]
    · have hgt : (31 < ((sz (mulp a b) : Nat) : Int)) = True := eq_true (by omega)
      simp only [shs, zts, sos, sls, zss, sx, sb1, sb2, sb3, sb4, sb5, ↓reduceIte, Nat.reduceAdd, Nat.reduceMul, Nat.reduceDiv, Nat.reduceEqDiff, Nat.reduceLT, Nat.reduceLeDiff, reduceCtorEq, Int.reduceEq, Int.reduceNe, Int.reduceLT, Int.reduceLE, Int.reduceAdd, Int.reduceSub, Int.reduceMul, Int.reduceNeg, Int.reduceToNat, Int.cast_ofNat_Int, Int.natCast_zero, Int.natCast_one, Int.toNat_natCast, Nat.reduceBEq, hv4.len, hv4.sl, List.length_map, bitsL_len, hgt]
end Go.X.Ps
