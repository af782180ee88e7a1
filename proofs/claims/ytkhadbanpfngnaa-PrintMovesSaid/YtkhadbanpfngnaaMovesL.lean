/- woollaw.PrintMoves returns true. Conditions: none. -/
import Derived.Test.YtkhadbanpfngnaaMoves
set_option linter.unusedSimpArgs false
set_option linter.unusedVariables false
set_option maxHeartbeats 4000000
set_option maxRecDepth 20000
namespace Go.X.Mv
open Go Go.X Go.X.Pol Go.X.Pl Go.X.Rp Go.X.Pd Go.X.Md

theorem roll_eq {m R y : Nat} (h0 : m ≠ 0) (hy : y ≤ 255) : pmod (R * 2 ^ 8 + y) m = pmod (mulp R 256) m ^^^ pmod (mulp y 1) m := by
  rw [← xor_low (k := 8) (show y < 2 ^ 8 by omega), pmod_xor h0, mulp_one_right, mulp_comm R, show (256 : Nat) = 2 ^ 8 from rfl, mulp_pow1]

theorem p0 (m a b n x y : Int) (M : Mem) (h : m < 2 ∨ 2147483647 < m) :
    Meets Proofs.Try.prog 13 [.v (.int .i64 m), .v (.int .i64 a), .v (.int .i64 b), .v (.int .i64 n), .v (.int .i64 x), .v (.int .i64 y)] M fun r _ _ => r = .v (.bool true) := by
  refine Meets.of_body [0,1,2,3,4,5,12,13,14,15,16,17,18,19,20,62,94,96,103,123,125] Proofs.Try.func13 rfl (by kernel_rfl) rfl fun w => ?_
  have e : mdE m = 1 := if_pos h
  simp only [Proofs.Try.f13, shs, zts, sos, sls, zss, sx, sb1, sb2, sb3, sb4, sb5, ↓reduceIte, Nat.reduceAdd, Nat.reduceMul, Nat.reduceDiv, Nat.reduceEqDiff, Nat.reduceLT, Nat.reduceLeDiff, reduceCtorEq, Int.reduceEq, Int.reduceNe, Int.reduceLT, Int.reduceLE, Int.reduceAdd, Int.reduceSub, Int.reduceMul, Int.reduceNeg, Int.reduceToNat, Int.cast_ofNat_Int, Int.natCast_zero, Int.natCast_one, Int.toNat_natCast, Nat.reduceBEq]
  refine CallK.pure ⟨rfl, rfl⟩ rfl (join_bad m a b n M h) ?_
  simp only [shs, zts, sos, sls, zss, sx, sb1, sb2, sb3, sb4, sb5, ↓reduceIte, Nat.reduceAdd, Nat.reduceMul, Nat.reduceDiv, Nat.reduceEqDiff, Nat.reduceLT, Nat.reduceLeDiff, reduceCtorEq, Int.reduceEq, Int.reduceNe, Int.reduceLT, Int.reduceLE, Int.reduceAdd, Int.reduceSub, Int.reduceMul, Int.reduceNeg, Int.reduceToNat, Int.cast_ofNat_Int, Int.natCast_zero, Int.natCast_one, Int.toNat_natCast, Nat.reduceBEq]
  refine CallK.pure ⟨rfl, rfl⟩ rfl (roll_bad m a x y n M h) ?_
  simp only [shs, zts, sos, sls, zss, sx, sb1, sb2, sb3, sb4, sb5, ↓reduceIte, Nat.reduceAdd, Nat.reduceMul, Nat.reduceDiv, Nat.reduceEqDiff, Nat.reduceLT, Nat.reduceLeDiff, reduceCtorEq, Int.reduceEq, Int.reduceNe, Int.reduceLT, Int.reduceLE, Int.reduceAdd, Int.reduceSub, Int.reduceMul, Int.reduceNeg, Int.reduceToNat, Int.cast_ofNat_Int, Int.natCast_zero, Int.natCast_one, Int.toNat_natCast, Nat.reduceBEq]
  refine CallK.pure ⟨rfl, rfl⟩ rfl (modulus m M) ?_
  simp only [shs, zts, sos, sls, zss, sx, sb1, sb2, sb3, sb4, sb5, ↓reduceIte, Nat.reduceAdd, Nat.reduceMul, Nat.reduceDiv, Nat.reduceEqDiff, Nat.reduceLT, Nat.reduceLeDiff, reduceCtorEq, Int.reduceEq, Int.reduceNe, Int.reduceLT, Int.reduceLE, Int.reduceAdd, Int.reduceSub, Int.reduceMul, Int.reduceNeg, Int.reduceToNat, Int.cast_ofNat_Int, Int.natCast_zero, Int.natCast_one, Int.toNat_natCast, Nat.reduceBEq, e]

theorem pA (m : Nat) (a b n x y : Int) (M : Mem) (h2 : 2 ≤ m) (hm : m ≤ 2147483647) (ha : rb m a = false) :
    Meets Proofs.Try.prog 13 [.v (.int .i64 (m : Int)), .v (.int .i64 a), .v (.int .i64 b), .v (.int .i64 n), .v (.int .i64 x), .v (.int .i64 y)] M fun r _ _ => r = .v (.bool true) := by
  refine Meets.of_body [0,1,2,3,4,5,12,13,14,15,16,17,18,19,20,62,94,96,103,123,125] Proofs.Try.func13 rfl (by kernel_rfl) rfl fun w => ?_
  simp only [Proofs.Try.f13, shs, zts, sos, sls, zss, sx, sb1, sb2, sb3, sb4, sb5, ↓reduceIte, Nat.reduceAdd, Nat.reduceMul, Nat.reduceDiv, Nat.reduceEqDiff, Nat.reduceLT, Nat.reduceLeDiff, reduceCtorEq, Int.reduceEq, Int.reduceNe, Int.reduceLT, Int.reduceLE, Int.reduceAdd, Int.reduceSub, Int.reduceMul, Int.reduceNeg, Int.reduceToNat, Int.cast_ofNat_Int, Int.natCast_zero, Int.natCast_one, Int.toNat_natCast, Nat.reduceBEq]
  refine CallK.pure ⟨rfl, rfl⟩ rfl (join_arg m a b n M h2 hm (.inl (by rw [ha]; rfl))) ?_
  simp only [shs, zts, sos, sls, zss, sx, sb1, sb2, sb3, sb4, sb5, ↓reduceIte, Nat.reduceAdd, Nat.reduceMul, Nat.reduceDiv, Nat.reduceEqDiff, Nat.reduceLT, Nat.reduceLeDiff, reduceCtorEq, Int.reduceEq, Int.reduceNe, Int.reduceLT, Int.reduceLE, Int.reduceAdd, Int.reduceSub, Int.reduceMul, Int.reduceNeg, Int.reduceToNat, Int.cast_ofNat_Int, Int.natCast_zero, Int.natCast_one, Int.toNat_natCast, Nat.reduceBEq]
  refine CallK.pure ⟨rfl, rfl⟩ rfl (roll_arg m a x y n M h2 hm (.inl ha)) ?_
  simp only [shs, zts, sos, sls, zss, sx, sb1, sb2, sb3, sb4, sb5, ↓reduceIte, Nat.reduceAdd, Nat.reduceMul, Nat.reduceDiv, Nat.reduceEqDiff, Nat.reduceLT, Nat.reduceLeDiff, reduceCtorEq, Int.reduceEq, Int.reduceNe, Int.reduceLT, Int.reduceLE, Int.reduceAdd, Int.reduceSub, Int.reduceMul, Int.reduceNeg, Int.reduceToNat, Int.cast_ofNat_Int, Int.natCast_zero, Int.natCast_one, Int.toNat_natCast, Nat.reduceBEq]
  refine CallK.pure ⟨rfl, rfl⟩ rfl (modulus m M) ?_
  simp only [shs, zts, sos, sls, zss, sx, sb1, sb2, sb3, sb4, sb5, ↓reduceIte, Nat.reduceAdd, Nat.reduceMul, Nat.reduceDiv, Nat.reduceEqDiff, Nat.reduceLT, Nat.reduceLeDiff, reduceCtorEq, Int.reduceEq, Int.reduceNe, Int.reduceLT, Int.reduceLE, Int.reduceAdd, Int.reduceSub, Int.reduceMul, Int.reduceNeg, Int.reduceToNat, Int.cast_ofNat_Int, Int.natCast_zero, Int.natCast_one, Int.toNat_natCast, Nat.reduceBEq, mdE_ok h2 hm]
  refine CallK.pure ⟨rfl, rfl⟩ rfl (rrest m a M h2 hm) ?_
  simp only [shs, zts, sos, sls, zss, sx, sb1, sb2, sb3, sb4, sb5, ↓reduceIte, Nat.reduceAdd, Nat.reduceMul, Nat.reduceDiv, Nat.reduceEqDiff, Nat.reduceLT, Nat.reduceLeDiff, reduceCtorEq, Int.reduceEq, Int.reduceNe, Int.reduceLT, Int.reduceLE, Int.reduceAdd, Int.reduceSub, Int.reduceMul, Int.reduceNeg, Int.reduceToNat, Int.cast_ofNat_Int, Int.natCast_zero, Int.natCast_one, Int.toNat_natCast, Nat.reduceBEq, ha]
  refine CallK.pure ⟨rfl, rfl⟩ rfl (rrest m a M h2 hm) ?_
  simp only [shs, zts, sos, sls, zss, sx, sb1, sb2, sb3, sb4, sb5, ↓reduceIte, Nat.reduceAdd, Nat.reduceMul, Nat.reduceDiv, Nat.reduceEqDiff, Nat.reduceLT, Nat.reduceLeDiff, reduceCtorEq, Int.reduceEq, Int.reduceNe, Int.reduceLT, Int.reduceLE, Int.reduceAdd, Int.reduceSub, Int.reduceMul, Int.reduceNeg, Int.reduceToNat, Int.cast_ofNat_Int, Int.natCast_zero, Int.natCast_one, Int.toNat_natCast, Nat.reduceBEq, ha]

/-- what the law says of Roll, from its middle on -/
theorem pB (m a : Nat) (b n x y : Int) (M : Mem) (h2 : 2 ≤ m) (hm : m ≤ 2147483647) (ha : rb m a = true) (hb : rb m b = false) :
    Meets Proofs.Try.prog 13 [.v (.int .i64 (m : Int)), .v (.int .i64 (a : Int)), .v (.int .i64 b), .v (.int .i64 n), .v (.int .i64 x), .v (.int .i64 y)] M fun r _ _ => r = .v (.bool true) := by
  refine Meets.of_body [0,1,2,3,4,5,12,13,14,15,16,17,18,19,20,62,94,96,103,123,125] Proofs.Try.func13 rfl (by kernel_rfl) rfl fun w => ?_
  have h0 : m ≠ 0 := by omega
  obtain ⟨_, e1, _, ha'⟩ := rb_nat hm ha
  have ha'' : a ≤ 1073741824 := by omega
  simp only [Proofs.Try.f13, shs, zts, sos, sls, zss, sx, sb1, sb2, sb3, sb4, sb5, ↓reduceIte, Nat.reduceAdd, Nat.reduceMul, Nat.reduceDiv, Nat.reduceEqDiff, Nat.reduceLT, Nat.reduceLeDiff, reduceCtorEq, Int.reduceEq, Int.reduceNe, Int.reduceLT, Int.reduceLE, Int.reduceAdd, Int.reduceSub, Int.reduceMul, Int.reduceNeg, Int.reduceToNat, Int.cast_ofNat_Int, Int.natCast_zero, Int.natCast_one, Int.toNat_natCast, Nat.reduceBEq]
  refine CallK.pure ⟨rfl, rfl⟩ rfl (join_arg m a b n M h2 hm (.inl (by rw [ha, hb]; rfl))) ?_
  simp only [shs, zts, sos, sls, zss, sx, sb1, sb2, sb3, sb4, sb5, ↓reduceIte, Nat.reduceAdd, Nat.reduceMul, Nat.reduceDiv, Nat.reduceEqDiff, Nat.reduceLT, Nat.reduceLeDiff, reduceCtorEq, Int.reduceEq, Int.reduceNe, Int.reduceLT, Int.reduceLE, Int.reduceAdd, Int.reduceSub, Int.reduceMul, Int.reduceNeg, Int.reduceToNat, Int.cast_ofNat_Int, Int.natCast_zero, Int.natCast_one, Int.toNat_natCast, Nat.reduceBEq]
  by_cases hB : rollB x y n
  · refine CallK.pure ⟨rfl, rfl⟩ rfl (roll_arg m a x y n M h2 hm (.inr hB)) ?_
    simp only [shs, zts, sos, sls, zss, sx, sb1, sb2, sb3, sb4, sb5, ↓reduceIte, Nat.reduceAdd, Nat.reduceMul, Nat.reduceDiv, Nat.reduceEqDiff, Nat.reduceLT, Nat.reduceLeDiff, reduceCtorEq, Int.reduceEq, Int.reduceNe, Int.reduceLT, Int.reduceLE, Int.reduceAdd, Int.reduceSub, Int.reduceMul, Int.reduceNeg, Int.reduceToNat, Int.cast_ofNat_Int, Int.natCast_zero, Int.natCast_one, Int.toNat_natCast, Nat.reduceBEq]
    refine CallK.pure ⟨rfl, rfl⟩ rfl (modulus m M) ?_
    simp only [shs, zts, sos, sls, zss, sx, sb1, sb2, sb3, sb4, sb5, ↓reduceIte, Nat.reduceAdd, Nat.reduceMul, Nat.reduceDiv, Nat.reduceEqDiff, Nat.reduceLT, Nat.reduceLeDiff, reduceCtorEq, Int.reduceEq, Int.reduceNe, Int.reduceLT, Int.reduceLE, Int.reduceAdd, Int.reduceSub, Int.reduceMul, Int.reduceNeg, Int.reduceToNat, Int.cast_ofNat_Int, Int.natCast_zero, Int.natCast_one, Int.toNat_natCast, Nat.reduceBEq, mdE_ok h2 hm]
    refine CallK.pure ⟨rfl, rfl⟩ rfl (rrest m a M h2 hm) ?_
    simp only [shs, zts, sos, sls, zss, sx, sb1, sb2, sb3, sb4, sb5, ↓reduceIte, Nat.reduceAdd, Nat.reduceMul, Nat.reduceDiv, Nat.reduceEqDiff, Nat.reduceLT, Nat.reduceLeDiff, reduceCtorEq, Int.reduceEq, Int.reduceNe, Int.reduceLT, Int.reduceLE, Int.reduceAdd, Int.reduceSub, Int.reduceMul, Int.reduceNeg, Int.reduceToNat, Int.cast_ofNat_Int, Int.natCast_zero, Int.natCast_one, Int.toNat_natCast, Nat.reduceBEq, ha]
    refine CallK.pure ⟨rfl, rfl⟩ rfl (rrest m b M h2 hm) ?_
    simp only [shs, zts, sos, sls, zss, sx, sb1, sb2, sb3, sb4, sb5, ↓reduceIte, Nat.reduceAdd, Nat.reduceMul, Nat.reduceDiv, Nat.reduceEqDiff, Nat.reduceLT, Nat.reduceLeDiff, reduceCtorEq, Int.reduceEq, Int.reduceNe, Int.reduceLT, Int.reduceLE, Int.reduceAdd, Int.reduceSub, Int.reduceMul, Int.reduceNeg, Int.reduceToNat, Int.cast_ofNat_Int, Int.natCast_zero, Int.natCast_one, Int.toNat_natCast, Nat.reduceBEq, hb]
    refine CallK.pure ⟨rfl, rfl⟩ rfl (rrest m a M h2 hm) ?_
    simp only [shs, zts, sos, sls, zss, sx, sb1, sb2, sb3, sb4, sb5, ↓reduceIte, Nat.reduceAdd, Nat.reduceMul, Nat.reduceDiv, Nat.reduceEqDiff, Nat.reduceLT, Nat.reduceLeDiff, reduceCtorEq, Int.reduceEq, Int.reduceNe, Int.reduceLT, Int.reduceLE, Int.reduceAdd, Int.reduceSub, Int.reduceMul, Int.reduceNeg, Int.reduceToNat, Int.cast_ofNat_Int, Int.natCast_zero, Int.natCast_one, Int.toNat_natCast, Nat.reduceBEq, ha]
    exact fun h => by unfold rollB at hB; omega
  · unfold rollB at hB
    obtain ⟨x, rfl⟩ : ∃ k : Nat, x = k := ⟨x.toNat, by omega⟩
    obtain ⟨y, rfl⟩ : ∃ k : Nat, y = k := ⟨y.toNat, by omega⟩
    obtain ⟨n, rfl⟩ : ∃ k : Nat, n = k := ⟨n.toNat, by omega⟩
    have b1 : ((x : Int) < 0) = False := eq_false (by omega)
    have b2 : (255 < (x : Int)) = False := eq_false (by omega)
    have b3 : ((y : Int) < 0) = False := eq_false (by omega)
    have b4 : (255 < (y : Int)) = False := eq_false (by omega)
    have b5 : ((n : Int) < 1) = False := eq_false (by omega)
    have b6 : (600 < (n : Int)) = False := eq_false (by omega)
    refine CallK.pure ⟨rfl, rfl⟩ rfl (roll_ok m a x y n M h2 hm ha (by omega) (by omega) (by omega) (by omega)) ?_
    simp only [shs, zts, sos, sls, zss, sx, sb1, sb2, sb3, sb4, sb5, ↓reduceIte, Nat.reduceAdd, Nat.reduceMul, Nat.reduceDiv, Nat.reduceEqDiff, Nat.reduceLT, Nat.reduceLeDiff, reduceCtorEq, Int.reduceEq, Int.reduceNe, Int.reduceLT, Int.reduceLE, Int.reduceAdd, Int.reduceSub, Int.reduceMul, Int.reduceNeg, Int.reduceToNat, Int.cast_ofNat_Int, Int.natCast_zero, Int.natCast_one, Int.toNat_natCast, Nat.reduceBEq]
    refine CallK.pure ⟨rfl, rfl⟩ rfl (modulus m M) ?_
    simp only [shs, zts, sos, sls, zss, sx, sb1, sb2, sb3, sb4, sb5, ↓reduceIte, Nat.reduceAdd, Nat.reduceMul, Nat.reduceDiv, Nat.reduceEqDiff, Nat.reduceLT, Nat.reduceLeDiff, reduceCtorEq, Int.reduceEq, Int.reduceNe, Int.reduceLT, Int.reduceLE, Int.reduceAdd, Int.reduceSub, Int.reduceMul, Int.reduceNeg, Int.reduceToNat, Int.cast_ofNat_Int, Int.natCast_zero, Int.natCast_one, Int.toNat_natCast, Nat.reduceBEq, mdE_ok h2 hm]
    refine CallK.pure ⟨rfl, rfl⟩ rfl (rrest m a M h2 hm) ?_
    simp only [shs, zts, sos, sls, zss, sx, sb1, sb2, sb3, sb4, sb5, ↓reduceIte, Nat.reduceAdd, Nat.reduceMul, Nat.reduceDiv, Nat.reduceEqDiff, Nat.reduceLT, Nat.reduceLeDiff, reduceCtorEq, Int.reduceEq, Int.reduceNe, Int.reduceLT, Int.reduceLE, Int.reduceAdd, Int.reduceSub, Int.reduceMul, Int.reduceNeg, Int.reduceToNat, Int.cast_ofNat_Int, Int.natCast_zero, Int.natCast_one, Int.toNat_natCast, Nat.reduceBEq, ha]
    refine CallK.pure ⟨rfl, rfl⟩ rfl (rrest m b M h2 hm) ?_
    simp only [shs, zts, sos, sls, zss, sx, sb1, sb2, sb3, sb4, sb5, ↓reduceIte, Nat.reduceAdd, Nat.reduceMul, Nat.reduceDiv, Nat.reduceEqDiff, Nat.reduceLT, Nat.reduceLeDiff, reduceCtorEq, Int.reduceEq, Int.reduceNe, Int.reduceLT, Int.reduceLE, Int.reduceAdd, Int.reduceSub, Int.reduceMul, Int.reduceNeg, Int.reduceToNat, Int.cast_ofNat_Int, Int.natCast_zero, Int.natCast_one, Int.toNat_natCast, Nat.reduceBEq, hb]
    refine CallK.pure ⟨rfl, rfl⟩ rfl (rrest m a M h2 hm) ?_
    have hp := red_le (x := powp 2 (8 * n)) h0 hm
    have hr := red_le (x := powp 2 (8 * (n - 1))) h0 hm
    have hq := red_le (x := mulp x (pmod (powp 2 (8 * (n - 1))) m)) h0 hm
    have hx1 := xor30 (a := a) (b := pmod (powp 2 (8 * n)) m) (by omega) (by omega)
    have hx2 := xor30 (a := a ^^^ pmod (powp 2 (8 * n)) m) (b := pmod (mulp x (pmod (powp 2 (8 * (n - 1))) m)) m) hx1 (by omega)
    have en : (n : Int) - 1 = ((n - 1 : Nat) : Int) := by omega
    have hE := roll_eq (m := m) (R := a ^^^ pmod (powp 2 (8 * n)) m ^^^ pmod (mulp x (pmod (powp 2 (8 * (n - 1))) m)) m) (y := y) h0 (by omega)
    simp only [shs, zts, sos, sls, zss, sx, sb1, sb2, sb3, sb4, sb5, ↓reduceIte, Nat.reduceAdd, Nat.reduceMul, Nat.reduceDiv, Nat.reduceEqDiff, Nat.reduceLT, Nat.reduceLeDiff, reduceCtorEq, Int.reduceEq, Int.reduceNe, Int.reduceLT, Int.reduceLE, Int.reduceAdd, Int.reduceSub, Int.reduceMul, Int.reduceNeg, Int.reduceToNat, Int.cast_ofNat_Int, Int.natCast_zero, Int.natCast_one, Int.toNat_natCast, Nat.reduceBEq, ha, b1, b2, b3, b4, b5, b6, e8, en, inK, lo, hi]
    refine ⟨by omega, CallK.pure ⟨rfl, rfl⟩ rfl (rmodpow _ 2 (8 * n) m M (Nat.le_refl _) (by omega) (by omega) hm h0) ?_⟩
    simp only [shs, zts, sos, sls, zss, sx, sb1, sb2, sb3, sb4, sb5, ↓reduceIte, Nat.reduceAdd, Nat.reduceMul, Nat.reduceDiv, Nat.reduceEqDiff, Nat.reduceLT, Nat.reduceLeDiff, reduceCtorEq, Int.reduceEq, Int.reduceNe, Int.reduceLT, Int.reduceLE, Int.reduceAdd, Int.reduceSub, Int.reduceMul, Int.reduceNeg, Int.reduceToNat, Int.cast_ofNat_Int, Int.natCast_zero, Int.natCast_one, Int.toNat_natCast, Nat.reduceBEq, en, e8, inK, lo, hi]
    refine ⟨by omega, by omega, by omega, CallK.pure ⟨rfl, rfl⟩ rfl (rmodpow _ 2 (8 * (n - 1)) m M (Nat.le_refl _) (by omega) (by omega) hm h0) ?_⟩
    simp only [shs, zts, sos, sls, zss, sx, sb1, sb2, sb3, sb4, sb5, ↓reduceIte, Nat.reduceAdd, Nat.reduceMul, Nat.reduceDiv, Nat.reduceEqDiff, Nat.reduceLT, Nat.reduceLeDiff, reduceCtorEq, Int.reduceEq, Int.reduceNe, Int.reduceLT, Int.reduceLE, Int.reduceAdd, Int.reduceSub, Int.reduceMul, Int.reduceNeg, Int.reduceToNat, Int.cast_ofNat_Int, Int.natCast_zero, Int.natCast_one, Int.toNat_natCast, Nat.reduceBEq]
    refine CallK.pure ⟨rfl, rfl⟩ rfl (rmodmul x _ m M (by omega) (by omega) hm h0) ?_
    have hz1 := red_le (x := mulp (a ^^^ pmod (powp 2 (8 * n)) m ^^^ pmod (mulp x (pmod (powp 2 (8 * (n - 1))) m)) m) 256) h0 hm
    have hz2 := red_le (x := mulp y 1) h0 hm
    have hz3 := xor30 (a := pmod (mulp (a ^^^ pmod (powp 2 (8 * n)) m ^^^ pmod (mulp x (pmod (powp 2 (8 * (n - 1))) m)) m) 256) m) (b := pmod (mulp y 1) m) (by omega) (by omega)
    simp only [shs, zts, sos, sls, zss, sx, sb1, sb2, sb3, sb4, sb5, ↓reduceIte, Nat.reduceAdd, Nat.reduceMul, Nat.reduceDiv, Nat.reduceEqDiff, Nat.reduceLT, Nat.reduceLeDiff, reduceCtorEq, Int.reduceEq, Int.reduceNe, Int.reduceLT, Int.reduceLE, Int.reduceAdd, Int.reduceSub, Int.reduceMul, Int.reduceNeg, Int.reduceToNat, Int.cast_ofNat_Int, Int.natCast_zero, Int.natCast_one, Int.toNat_natCast, Nat.reduceBEq, lo, hi]
    refine ⟨by omega, CallK.pure ⟨rfl, rfl⟩ rfl (rmodmul _ 256 m M (by omega) (by omega) hm h0) ?_⟩
    simp only [shs, zts, sos, sls, zss, sx, sb1, sb2, sb3, sb4, sb5, ↓reduceIte, Nat.reduceAdd, Nat.reduceMul, Nat.reduceDiv, Nat.reduceEqDiff, Nat.reduceLT, Nat.reduceLeDiff, reduceCtorEq, Int.reduceEq, Int.reduceNe, Int.reduceLT, Int.reduceLE, Int.reduceAdd, Int.reduceSub, Int.reduceMul, Int.reduceNeg, Int.reduceToNat, Int.cast_ofNat_Int, Int.natCast_zero, Int.natCast_one, Int.toNat_natCast, Nat.reduceBEq]
    refine CallK.pure ⟨rfl, rfl⟩ rfl (rmodmul y 1 m M (by omega) (by omega) hm h0) ?_
    simp only [shs, zts, sos, sls, zss, sx, sb1, sb2, sb3, sb4, sb5, ↓reduceIte, Nat.reduceAdd, Nat.reduceMul, Nat.reduceDiv, Nat.reduceEqDiff, Nat.reduceLT, Nat.reduceLeDiff, reduceCtorEq, Int.reduceEq, Int.reduceNe, Int.reduceLT, Int.reduceLE, Int.reduceAdd, Int.reduceSub, Int.reduceMul, Int.reduceNeg, Int.reduceToNat, Int.cast_ofNat_Int, Int.natCast_zero, Int.natCast_one, Int.toNat_natCast, Nat.reduceBEq, lo, hi, rollV, hE]
    omega

theorem pC (m a b : Nat) (n x y : Int) (M : Mem) (h2 : 2 ≤ m) (hm : m ≤ 2147483647) (ha : rb m a = true) (hb : rb m b = true) (hn : n < 0) :
    Meets Proofs.Try.prog 13 [.v (.int .i64 (m : Int)), .v (.int .i64 (a : Int)), .v (.int .i64 (b : Int)), .v (.int .i64 n), .v (.int .i64 x), .v (.int .i64 y)] M fun r _ _ => r = .v (.bool true) := by
  refine Meets.of_body [0,1,2,3,4,5,12,13,14,15,16,17,18,19,20,62,94,96,103,123,125] Proofs.Try.func13 rfl (by kernel_rfl) rfl fun w => ?_
  have h0 : m ≠ 0 := by omega
  obtain ⟨_, e1, _, ha'⟩ := rb_nat hm ha
  have ha'' : a ≤ 1073741824 := by omega
  obtain ⟨_, e2, _, hb'⟩ := rb_nat hm hb
  have hb'' : b ≤ 1073741824 := by omega
  have c1 : (n < 0) = True := eq_true hn
  have c2 : (n < 1) = True := eq_true (by omega)
  simp only [Proofs.Try.f13, shs, zts, sos, sls, zss, sx, sb1, sb2, sb3, sb4, sb5, ↓reduceIte, Nat.reduceAdd, Nat.reduceMul, Nat.reduceDiv, Nat.reduceEqDiff, Nat.reduceLT, Nat.reduceLeDiff, reduceCtorEq, Int.reduceEq, Int.reduceNe, Int.reduceLT, Int.reduceLE, Int.reduceAdd, Int.reduceSub, Int.reduceMul, Int.reduceNeg, Int.reduceToNat, Int.cast_ofNat_Int, Int.natCast_zero, Int.natCast_one, Int.toNat_natCast, Nat.reduceBEq]
  refine CallK.pure ⟨rfl, rfl⟩ rfl (join_arg m a b n M h2 hm (.inr (.inl hn))) ?_
  simp only [shs, zts, sos, sls, zss, sx, sb1, sb2, sb3, sb4, sb5, ↓reduceIte, Nat.reduceAdd, Nat.reduceMul, Nat.reduceDiv, Nat.reduceEqDiff, Nat.reduceLT, Nat.reduceLeDiff, reduceCtorEq, Int.reduceEq, Int.reduceNe, Int.reduceLT, Int.reduceLE, Int.reduceAdd, Int.reduceSub, Int.reduceMul, Int.reduceNeg, Int.reduceToNat, Int.cast_ofNat_Int, Int.natCast_zero, Int.natCast_one, Int.toNat_natCast, Nat.reduceBEq]
  refine CallK.pure ⟨rfl, rfl⟩ rfl (roll_arg m a x y n M h2 hm (.inr (by unfold rollB; omega))) ?_
  simp only [shs, zts, sos, sls, zss, sx, sb1, sb2, sb3, sb4, sb5, ↓reduceIte, Nat.reduceAdd, Nat.reduceMul, Nat.reduceDiv, Nat.reduceEqDiff, Nat.reduceLT, Nat.reduceLeDiff, reduceCtorEq, Int.reduceEq, Int.reduceNe, Int.reduceLT, Int.reduceLE, Int.reduceAdd, Int.reduceSub, Int.reduceMul, Int.reduceNeg, Int.reduceToNat, Int.cast_ofNat_Int, Int.natCast_zero, Int.natCast_one, Int.toNat_natCast, Nat.reduceBEq]
  refine CallK.pure ⟨rfl, rfl⟩ rfl (modulus m M) ?_
  simp only [shs, zts, sos, sls, zss, sx, sb1, sb2, sb3, sb4, sb5, ↓reduceIte, Nat.reduceAdd, Nat.reduceMul, Nat.reduceDiv, Nat.reduceEqDiff, Nat.reduceLT, Nat.reduceLeDiff, reduceCtorEq, Int.reduceEq, Int.reduceNe, Int.reduceLT, Int.reduceLE, Int.reduceAdd, Int.reduceSub, Int.reduceMul, Int.reduceNeg, Int.reduceToNat, Int.cast_ofNat_Int, Int.natCast_zero, Int.natCast_one, Int.toNat_natCast, Nat.reduceBEq, mdE_ok h2 hm]
  refine CallK.pure ⟨rfl, rfl⟩ rfl (rrest m a M h2 hm) ?_
  simp only [shs, zts, sos, sls, zss, sx, sb1, sb2, sb3, sb4, sb5, ↓reduceIte, Nat.reduceAdd, Nat.reduceMul, Nat.reduceDiv, Nat.reduceEqDiff, Nat.reduceLT, Nat.reduceLeDiff, reduceCtorEq, Int.reduceEq, Int.reduceNe, Int.reduceLT, Int.reduceLE, Int.reduceAdd, Int.reduceSub, Int.reduceMul, Int.reduceNeg, Int.reduceToNat, Int.cast_ofNat_Int, Int.natCast_zero, Int.natCast_one, Int.toNat_natCast, Nat.reduceBEq, ha]
  refine CallK.pure ⟨rfl, rfl⟩ rfl (rrest m b M h2 hm) ?_
  simp only [shs, zts, sos, sls, zss, sx, sb1, sb2, sb3, sb4, sb5, ↓reduceIte, Nat.reduceAdd, Nat.reduceMul, Nat.reduceDiv, Nat.reduceEqDiff, Nat.reduceLT, Nat.reduceLeDiff, reduceCtorEq, Int.reduceEq, Int.reduceNe, Int.reduceLT, Int.reduceLE, Int.reduceAdd, Int.reduceSub, Int.reduceMul, Int.reduceNeg, Int.reduceToNat, Int.cast_ofNat_Int, Int.natCast_zero, Int.natCast_one, Int.toNat_natCast, Nat.reduceBEq, hb, c1, c2]
  refine CallK.pure ⟨rfl, rfl⟩ rfl (rrest m a M h2 hm) ?_
  simp only [shs, zts, sos, sls, zss, sx, sb1, sb2, sb3, sb4, sb5, ↓reduceIte, Nat.reduceAdd, Nat.reduceMul, Nat.reduceDiv, Nat.reduceEqDiff, Nat.reduceLT, Nat.reduceLeDiff, reduceCtorEq, Int.reduceEq, Int.reduceNe, Int.reduceLT, Int.reduceLE, Int.reduceAdd, Int.reduceSub, Int.reduceMul, Int.reduceNeg, Int.reduceToNat, Int.cast_ofNat_Int, Int.natCast_zero, Int.natCast_one, Int.toNat_natCast, Nat.reduceBEq, ha, c1, c2]

theorem pC2 (m a b : Nat) (n x y : Int) (M : Mem) (h2 : 2 ≤ m) (hm : m ≤ 2147483647) (ha : rb m a = true) (hb : rb m b = true) (hn : 600 < n) :
    Meets Proofs.Try.prog 13 [.v (.int .i64 (m : Int)), .v (.int .i64 (a : Int)), .v (.int .i64 (b : Int)), .v (.int .i64 n), .v (.int .i64 x), .v (.int .i64 y)] M fun r _ _ => r = .v (.bool true) := by
  refine Meets.of_body [0,1,2,3,4,5,12,13,14,15,16,17,18,19,20,62,94,96,103,123,125] Proofs.Try.func13 rfl (by kernel_rfl) rfl fun w => ?_
  have h0 : m ≠ 0 := by omega
  obtain ⟨_, e1, _, ha'⟩ := rb_nat hm ha
  have ha'' : a ≤ 1073741824 := by omega
  obtain ⟨_, e2, _, hb'⟩ := rb_nat hm hb
  have hb'' : b ≤ 1073741824 := by omega
  have c1 : (n < 0) = False := eq_false (by omega)
  have c2 : (n < 1) = False := eq_false (by omega)
  have c3 : (600 < n) = True := eq_true hn
  simp only [Proofs.Try.f13, shs, zts, sos, sls, zss, sx, sb1, sb2, sb3, sb4, sb5, ↓reduceIte, Nat.reduceAdd, Nat.reduceMul, Nat.reduceDiv, Nat.reduceEqDiff, Nat.reduceLT, Nat.reduceLeDiff, reduceCtorEq, Int.reduceEq, Int.reduceNe, Int.reduceLT, Int.reduceLE, Int.reduceAdd, Int.reduceSub, Int.reduceMul, Int.reduceNeg, Int.reduceToNat, Int.cast_ofNat_Int, Int.natCast_zero, Int.natCast_one, Int.toNat_natCast, Nat.reduceBEq]
  refine CallK.pure ⟨rfl, rfl⟩ rfl (join_arg m a b n M h2 hm (.inr (.inr hn))) ?_
  simp only [shs, zts, sos, sls, zss, sx, sb1, sb2, sb3, sb4, sb5, ↓reduceIte, Nat.reduceAdd, Nat.reduceMul, Nat.reduceDiv, Nat.reduceEqDiff, Nat.reduceLT, Nat.reduceLeDiff, reduceCtorEq, Int.reduceEq, Int.reduceNe, Int.reduceLT, Int.reduceLE, Int.reduceAdd, Int.reduceSub, Int.reduceMul, Int.reduceNeg, Int.reduceToNat, Int.cast_ofNat_Int, Int.natCast_zero, Int.natCast_one, Int.toNat_natCast, Nat.reduceBEq]
  refine CallK.pure ⟨rfl, rfl⟩ rfl (roll_arg m a x y n M h2 hm (.inr (by unfold rollB; omega))) ?_
  simp only [shs, zts, sos, sls, zss, sx, sb1, sb2, sb3, sb4, sb5, ↓reduceIte, Nat.reduceAdd, Nat.reduceMul, Nat.reduceDiv, Nat.reduceEqDiff, Nat.reduceLT, Nat.reduceLeDiff, reduceCtorEq, Int.reduceEq, Int.reduceNe, Int.reduceLT, Int.reduceLE, Int.reduceAdd, Int.reduceSub, Int.reduceMul, Int.reduceNeg, Int.reduceToNat, Int.cast_ofNat_Int, Int.natCast_zero, Int.natCast_one, Int.toNat_natCast, Nat.reduceBEq]
  refine CallK.pure ⟨rfl, rfl⟩ rfl (modulus m M) ?_
  simp only [shs, zts, sos, sls, zss, sx, sb1, sb2, sb3, sb4, sb5, ↓reduceIte, Nat.reduceAdd, Nat.reduceMul, Nat.reduceDiv, Nat.reduceEqDiff, Nat.reduceLT, Nat.reduceLeDiff, reduceCtorEq, Int.reduceEq, Int.reduceNe, Int.reduceLT, Int.reduceLE, Int.reduceAdd, Int.reduceSub, Int.reduceMul, Int.reduceNeg, Int.reduceToNat, Int.cast_ofNat_Int, Int.natCast_zero, Int.natCast_one, Int.toNat_natCast, Nat.reduceBEq, mdE_ok h2 hm]
  refine CallK.pure ⟨rfl, rfl⟩ rfl (rrest m a M h2 hm) ?_
  simp only [shs, zts, sos, sls, zss, sx, sb1, sb2, sb3, sb4, sb5, ↓reduceIte, Nat.reduceAdd, Nat.reduceMul, Nat.reduceDiv, Nat.reduceEqDiff, Nat.reduceLT, Nat.reduceLeDiff, reduceCtorEq, Int.reduceEq, Int.reduceNe, Int.reduceLT, Int.reduceLE, Int.reduceAdd, Int.reduceSub, Int.reduceMul, Int.reduceNeg, Int.reduceToNat, Int.cast_ofNat_Int, Int.natCast_zero, Int.natCast_one, Int.toNat_natCast, Nat.reduceBEq, ha]
  refine CallK.pure ⟨rfl, rfl⟩ rfl (rrest m b M h2 hm) ?_
  simp only [shs, zts, sos, sls, zss, sx, sb1, sb2, sb3, sb4, sb5, ↓reduceIte, Nat.reduceAdd, Nat.reduceMul, Nat.reduceDiv, Nat.reduceEqDiff, Nat.reduceLT, Nat.reduceLeDiff, reduceCtorEq, Int.reduceEq, Int.reduceNe, Int.reduceLT, Int.reduceLE, Int.reduceAdd, Int.reduceSub, Int.reduceMul, Int.reduceNeg, Int.reduceToNat, Int.cast_ofNat_Int, Int.natCast_zero, Int.natCast_one, Int.toNat_natCast, Nat.reduceBEq, hb, c1, c2, c3]
  refine CallK.pure ⟨rfl, rfl⟩ rfl (rrest m a M h2 hm) ?_
  simp only [shs, zts, sos, sls, zss, sx, sb1, sb2, sb3, sb4, sb5, ↓reduceIte, Nat.reduceAdd, Nat.reduceMul, Nat.reduceDiv, Nat.reduceEqDiff, Nat.reduceLT, Nat.reduceLeDiff, reduceCtorEq, Int.reduceEq, Int.reduceNe, Int.reduceLT, Int.reduceLE, Int.reduceAdd, Int.reduceSub, Int.reduceMul, Int.reduceNeg, Int.reduceToNat, Int.cast_ofNat_Int, Int.natCast_zero, Int.natCast_one, Int.toNat_natCast, Nat.reduceBEq, ha, c1, c2, c3]

theorem pD (m a b n : Nat) (x y : Int) (M : Mem) (h2 : 2 ≤ m) (hm : m ≤ 2147483647) (ha : rb m a = true) (hb : rb m b = true) (hn : n ≤ 600) (hB : rollB x y n) :
    Meets Proofs.Try.prog 13 [.v (.int .i64 (m : Int)), .v (.int .i64 (a : Int)), .v (.int .i64 (b : Int)), .v (.int .i64 (n : Int)), .v (.int .i64 x), .v (.int .i64 y)] M fun r _ _ => r = .v (.bool true) := by
  refine Meets.of_body [0,1,2,3,4,5,12,13,14,15,16,17,18,19,20,62,94,96,103,123,125] Proofs.Try.func13 rfl (by kernel_rfl) rfl fun w => ?_
  have h0 : m ≠ 0 := by omega
  obtain ⟨_, e1, _, ha'⟩ := rb_nat hm ha
  have ha'' : a ≤ 1073741824 := by omega
  obtain ⟨_, e2, _, hb'⟩ := rb_nat hm hb
  have hb'' : b ≤ 1073741824 := by omega
  have c1 : ((n : Int) < 0) = False := eq_false (by omega)
  have c3 : (600 < (n : Int)) = False := eq_false (by omega)
  simp only [Proofs.Try.f13, shs, zts, sos, sls, zss, sx, sb1, sb2, sb3, sb4, sb5, ↓reduceIte, Nat.reduceAdd, Nat.reduceMul, Nat.reduceDiv, Nat.reduceEqDiff, Nat.reduceLT, Nat.reduceLeDiff, reduceCtorEq, Int.reduceEq, Int.reduceNe, Int.reduceLT, Int.reduceLE, Int.reduceAdd, Int.reduceSub, Int.reduceMul, Int.reduceNeg, Int.reduceToNat, Int.cast_ofNat_Int, Int.natCast_zero, Int.natCast_one, Int.toNat_natCast, Nat.reduceBEq]
  refine CallK.pure ⟨rfl, rfl⟩ rfl (join_ok m a b n M h2 hm ha hb hn) ?_
  simp only [shs, zts, sos, sls, zss, sx, sb1, sb2, sb3, sb4, sb5, ↓reduceIte, Nat.reduceAdd, Nat.reduceMul, Nat.reduceDiv, Nat.reduceEqDiff, Nat.reduceLT, Nat.reduceLeDiff, reduceCtorEq, Int.reduceEq, Int.reduceNe, Int.reduceLT, Int.reduceLE, Int.reduceAdd, Int.reduceSub, Int.reduceMul, Int.reduceNeg, Int.reduceToNat, Int.cast_ofNat_Int, Int.natCast_zero, Int.natCast_one, Int.toNat_natCast, Nat.reduceBEq]
  refine CallK.pure ⟨rfl, rfl⟩ rfl (roll_arg m a x y n M h2 hm (.inr hB)) ?_
  simp only [shs, zts, sos, sls, zss, sx, sb1, sb2, sb3, sb4, sb5, ↓reduceIte, Nat.reduceAdd, Nat.reduceMul, Nat.reduceDiv, Nat.reduceEqDiff, Nat.reduceLT, Nat.reduceLeDiff, reduceCtorEq, Int.reduceEq, Int.reduceNe, Int.reduceLT, Int.reduceLE, Int.reduceAdd, Int.reduceSub, Int.reduceMul, Int.reduceNeg, Int.reduceToNat, Int.cast_ofNat_Int, Int.natCast_zero, Int.natCast_one, Int.toNat_natCast, Nat.reduceBEq]
  refine CallK.pure ⟨rfl, rfl⟩ rfl (modulus m M) ?_
  simp only [shs, zts, sos, sls, zss, sx, sb1, sb2, sb3, sb4, sb5, ↓reduceIte, Nat.reduceAdd, Nat.reduceMul, Nat.reduceDiv, Nat.reduceEqDiff, Nat.reduceLT, Nat.reduceLeDiff, reduceCtorEq, Int.reduceEq, Int.reduceNe, Int.reduceLT, Int.reduceLE, Int.reduceAdd, Int.reduceSub, Int.reduceMul, Int.reduceNeg, Int.reduceToNat, Int.cast_ofNat_Int, Int.natCast_zero, Int.natCast_one, Int.toNat_natCast, Nat.reduceBEq, mdE_ok h2 hm]
  refine CallK.pure ⟨rfl, rfl⟩ rfl (rrest m a M h2 hm) ?_
  simp only [shs, zts, sos, sls, zss, sx, sb1, sb2, sb3, sb4, sb5, ↓reduceIte, Nat.reduceAdd, Nat.reduceMul, Nat.reduceDiv, Nat.reduceEqDiff, Nat.reduceLT, Nat.reduceLeDiff, reduceCtorEq, Int.reduceEq, Int.reduceNe, Int.reduceLT, Int.reduceLE, Int.reduceAdd, Int.reduceSub, Int.reduceMul, Int.reduceNeg, Int.reduceToNat, Int.cast_ofNat_Int, Int.natCast_zero, Int.natCast_one, Int.toNat_natCast, Nat.reduceBEq, ha]
  refine CallK.pure ⟨rfl, rfl⟩ rfl (rrest m b M h2 hm) ?_
  simp only [shs, zts, sos, sls, zss, sx, sb1, sb2, sb3, sb4, sb5, ↓reduceIte, Nat.reduceAdd, Nat.reduceMul, Nat.reduceDiv, Nat.reduceEqDiff, Nat.reduceLT, Nat.reduceLeDiff, reduceCtorEq, Int.reduceEq, Int.reduceNe, Int.reduceLT, Int.reduceLE, Int.reduceAdd, Int.reduceSub, Int.reduceMul, Int.reduceNeg, Int.reduceToNat, Int.cast_ofNat_Int, Int.natCast_zero, Int.natCast_one, Int.toNat_natCast, Nat.reduceBEq, hb, c1, c3]
  refine CallK.pure ⟨rfl, rfl⟩ rfl (rrest m a M h2 hm) ?_
  simp only [shs, zts, sos, sls, zss, sx, sb1, sb2, sb3, sb4, sb5, ↓reduceIte, Nat.reduceAdd, Nat.reduceMul, Nat.reduceDiv, Nat.reduceEqDiff, Nat.reduceLT, Nat.reduceLeDiff, reduceCtorEq, Int.reduceEq, Int.reduceNe, Int.reduceLT, Int.reduceLE, Int.reduceAdd, Int.reduceSub, Int.reduceMul, Int.reduceNeg, Int.reduceToNat, Int.cast_ofNat_Int, Int.natCast_zero, Int.natCast_one, Int.toNat_natCast, Nat.reduceBEq, ha, c3, e8, inK, lo, hi]
  refine ⟨fun _ => ?_, fun h => by unfold rollB at hB; omega⟩
  refine ⟨by omega, CallK.pure ⟨rfl, rfl⟩ rfl (rmodpow _ 2 (8 * n) m M (Nat.le_refl _) (by omega) (by omega) hm h0) ?_⟩
  simp only [shs, zts, sos, sls, zss, sx, sb1, sb2, sb3, sb4, sb5, ↓reduceIte, Nat.reduceAdd, Nat.reduceMul, Nat.reduceDiv, Nat.reduceEqDiff, Nat.reduceLT, Nat.reduceLeDiff, reduceCtorEq, Int.reduceEq, Int.reduceNe, Int.reduceLT, Int.reduceLE, Int.reduceAdd, Int.reduceSub, Int.reduceMul, Int.reduceNeg, Int.reduceToNat, Int.cast_ofNat_Int, Int.natCast_zero, Int.natCast_one, Int.toNat_natCast, Nat.reduceBEq]
  have j1 := red_le (x := powp 2 (8 * n)) h0 hm
  have j2 := red_le (x := mulp a (pmod (powp 2 (8 * n)) m)) h0 hm
  have j3 := xor30 (a := pmod (mulp a (pmod (powp 2 (8 * n)) m)) m) (b := b) (by omega) (by omega)
  refine CallK.pure ⟨rfl, rfl⟩ rfl (rmodmul a _ m M (by omega) (by omega) hm h0) ?_
  simp only [shs, zts, sos, sls, zss, sx, sb1, sb2, sb3, sb4, sb5, ↓reduceIte, Nat.reduceAdd, Nat.reduceMul, Nat.reduceDiv, Nat.reduceEqDiff, Nat.reduceLT, Nat.reduceLeDiff, reduceCtorEq, Int.reduceEq, Int.reduceNe, Int.reduceLT, Int.reduceLE, Int.reduceAdd, Int.reduceSub, Int.reduceMul, Int.reduceNeg, Int.reduceToNat, Int.cast_ofNat_Int, Int.natCast_zero, Int.natCast_one, Int.toNat_natCast, Nat.reduceBEq, e8, inK, lo, hi]
  refine ⟨by omega, by omega, CallK.pure ⟨rfl, rfl⟩ rfl (rmodpow _ 2 (8 * n) m M (Nat.le_refl _) (by omega) (by omega) hm h0) ?_⟩
  simp only [shs, zts, sos, sls, zss, sx, sb1, sb2, sb3, sb4, sb5, ↓reduceIte, Nat.reduceAdd, Nat.reduceMul, Nat.reduceDiv, Nat.reduceEqDiff, Nat.reduceLT, Nat.reduceLeDiff, reduceCtorEq, Int.reduceEq, Int.reduceNe, Int.reduceLT, Int.reduceLE, Int.reduceAdd, Int.reduceSub, Int.reduceMul, Int.reduceNeg, Int.reduceToNat, Int.cast_ofNat_Int, Int.natCast_zero, Int.natCast_one, Int.toNat_natCast, Nat.reduceBEq, joinV, e8, inK, lo, hi]
  omega

theorem pE (m a b n x y : Nat) (M : Mem) (h2 : 2 ≤ m) (hm : m ≤ 2147483647) (ha : rb m a = true) (hb : rb m b = true) (hn1 : 1 ≤ n) (hn : n ≤ 600) (hx : x ≤ 255) (hy : y ≤ 255) :
    Meets Proofs.Try.prog 13 [.v (.int .i64 (m : Int)), .v (.int .i64 (a : Int)), .v (.int .i64 (b : Int)), .v (.int .i64 n), .v (.int .i64 x), .v (.int .i64 y)] M fun r _ _ => r = .v (.bool true) := by
  refine Meets.of_body [0,1,2,3,4,5,12,13,14,15,16,17,18,19,20,62,94,96,103,123,125] Proofs.Try.func13 rfl (by kernel_rfl) rfl fun w => ?_
  have h0 : m ≠ 0 := by omega
  obtain ⟨_, e1, _, ha'⟩ := rb_nat hm ha
  have ha'' : a ≤ 1073741824 := by omega
  obtain ⟨_, e2, _, hb'⟩ := rb_nat hm hb
  have hb'' : b ≤ 1073741824 := by omega
  have b1 : ((x : Int) < 0) = False := eq_false (by omega)
  have b2 : (255 < (x : Int)) = False := eq_false (by omega)
  have b3 : ((y : Int) < 0) = False := eq_false (by omega)
  have b4 : (255 < (y : Int)) = False := eq_false (by omega)
  have b5 : ((n : Int) < 1) = False := eq_false (by omega)
  have b6 : (600 < (n : Int)) = False := eq_false (by omega)
  have c1 : ((n : Int) < 0) = False := eq_false (by omega)
  have hp := red_le (x := powp 2 (8 * n)) h0 hm
  have hr := red_le (x := powp 2 (8 * (n - 1))) h0 hm
  have hq := red_le (x := mulp x (pmod (powp 2 (8 * (n - 1))) m)) h0 hm
  have hx1 := xor30 (a := a) (b := pmod (powp 2 (8 * n)) m) (by omega) (by omega)
  have hx2 := xor30 (a := a ^^^ pmod (powp 2 (8 * n)) m) (b := pmod (mulp x (pmod (powp 2 (8 * (n - 1))) m)) m) hx1 (by omega)
  have en : (n : Int) - 1 = ((n - 1 : Nat) : Int) := by omega
  have hE := roll_eq (m := m) (R := a ^^^ pmod (powp 2 (8 * n)) m ^^^ pmod (mulp x (pmod (powp 2 (8 * (n - 1))) m)) m) (y := y) h0 (by omega)
  simp only [Proofs.Try.f13, shs, zts, sos, sls, zss, sx, sb1, sb2, sb3, sb4, sb5, ↓reduceIte, Nat.reduceAdd, Nat.reduceMul, Nat.reduceDiv, Nat.reduceEqDiff, Nat.reduceLT, Nat.reduceLeDiff, reduceCtorEq, Int.reduceEq, Int.reduceNe, Int.reduceLT, Int.reduceLE, Int.reduceAdd, Int.reduceSub, Int.reduceMul, Int.reduceNeg, Int.reduceToNat, Int.cast_ofNat_Int, Int.natCast_zero, Int.natCast_one, Int.toNat_natCast, Nat.reduceBEq]
  refine CallK.pure ⟨rfl, rfl⟩ rfl (join_ok m a b n M h2 hm ha hb hn) ?_
  simp only [shs, zts, sos, sls, zss, sx, sb1, sb2, sb3, sb4, sb5, ↓reduceIte, Nat.reduceAdd, Nat.reduceMul, Nat.reduceDiv, Nat.reduceEqDiff, Nat.reduceLT, Nat.reduceLeDiff, reduceCtorEq, Int.reduceEq, Int.reduceNe, Int.reduceLT, Int.reduceLE, Int.reduceAdd, Int.reduceSub, Int.reduceMul, Int.reduceNeg, Int.reduceToNat, Int.cast_ofNat_Int, Int.natCast_zero, Int.natCast_one, Int.toNat_natCast, Nat.reduceBEq]
  refine CallK.pure ⟨rfl, rfl⟩ rfl (roll_ok m a x y n M h2 hm ha hx hy hn1 hn) ?_
  simp only [shs, zts, sos, sls, zss, sx, sb1, sb2, sb3, sb4, sb5, ↓reduceIte, Nat.reduceAdd, Nat.reduceMul, Nat.reduceDiv, Nat.reduceEqDiff, Nat.reduceLT, Nat.reduceLeDiff, reduceCtorEq, Int.reduceEq, Int.reduceNe, Int.reduceLT, Int.reduceLE, Int.reduceAdd, Int.reduceSub, Int.reduceMul, Int.reduceNeg, Int.reduceToNat, Int.cast_ofNat_Int, Int.natCast_zero, Int.natCast_one, Int.toNat_natCast, Nat.reduceBEq]
  refine CallK.pure ⟨rfl, rfl⟩ rfl (modulus m M) ?_
  simp only [shs, zts, sos, sls, zss, sx, sb1, sb2, sb3, sb4, sb5, ↓reduceIte, Nat.reduceAdd, Nat.reduceMul, Nat.reduceDiv, Nat.reduceEqDiff, Nat.reduceLT, Nat.reduceLeDiff, reduceCtorEq, Int.reduceEq, Int.reduceNe, Int.reduceLT, Int.reduceLE, Int.reduceAdd, Int.reduceSub, Int.reduceMul, Int.reduceNeg, Int.reduceToNat, Int.cast_ofNat_Int, Int.natCast_zero, Int.natCast_one, Int.toNat_natCast, Nat.reduceBEq, mdE_ok h2 hm]
  refine CallK.pure ⟨rfl, rfl⟩ rfl (rrest m a M h2 hm) ?_
  simp only [shs, zts, sos, sls, zss, sx, sb1, sb2, sb3, sb4, sb5, ↓reduceIte, Nat.reduceAdd, Nat.reduceMul, Nat.reduceDiv, Nat.reduceEqDiff, Nat.reduceLT, Nat.reduceLeDiff, reduceCtorEq, Int.reduceEq, Int.reduceNe, Int.reduceLT, Int.reduceLE, Int.reduceAdd, Int.reduceSub, Int.reduceMul, Int.reduceNeg, Int.reduceToNat, Int.cast_ofNat_Int, Int.natCast_zero, Int.natCast_one, Int.toNat_natCast, Nat.reduceBEq, ha]
  refine CallK.pure ⟨rfl, rfl⟩ rfl (rrest m b M h2 hm) ?_
  simp only [shs, zts, sos, sls, zss, sx, sb1, sb2, sb3, sb4, sb5, ↓reduceIte, Nat.reduceAdd, Nat.reduceMul, Nat.reduceDiv, Nat.reduceEqDiff, Nat.reduceLT, Nat.reduceLeDiff, reduceCtorEq, Int.reduceEq, Int.reduceNe, Int.reduceLT, Int.reduceLE, Int.reduceAdd, Int.reduceSub, Int.reduceMul, Int.reduceNeg, Int.reduceToNat, Int.cast_ofNat_Int, Int.natCast_zero, Int.natCast_one, Int.toNat_natCast, Nat.reduceBEq, hb, c1, b6]
  refine CallK.pure ⟨rfl, rfl⟩ rfl (rrest m a M h2 hm) ?_
  simp only [shs, zts, sos, sls, zss, sx, sb1, sb2, sb3, sb4, sb5, ↓reduceIte, Nat.reduceAdd, Nat.reduceMul, Nat.reduceDiv, Nat.reduceEqDiff, Nat.reduceLT, Nat.reduceLeDiff, reduceCtorEq, Int.reduceEq, Int.reduceNe, Int.reduceLT, Int.reduceLE, Int.reduceAdd, Int.reduceSub, Int.reduceMul, Int.reduceNeg, Int.reduceToNat, Int.cast_ofNat_Int, Int.natCast_zero, Int.natCast_one, Int.toNat_natCast, Nat.reduceBEq, ha, b1, b2, b3, b4, b5, b6, e8, inK, lo, hi]
  refine ⟨by omega, CallK.pure ⟨rfl, rfl⟩ rfl (rmodpow _ 2 (8 * n) m M (Nat.le_refl _) (by omega) (by omega) hm h0) ?_⟩
  simp only [shs, zts, sos, sls, zss, sx, sb1, sb2, sb3, sb4, sb5, ↓reduceIte, Nat.reduceAdd, Nat.reduceMul, Nat.reduceDiv, Nat.reduceEqDiff, Nat.reduceLT, Nat.reduceLeDiff, reduceCtorEq, Int.reduceEq, Int.reduceNe, Int.reduceLT, Int.reduceLE, Int.reduceAdd, Int.reduceSub, Int.reduceMul, Int.reduceNeg, Int.reduceToNat, Int.cast_ofNat_Int, Int.natCast_zero, Int.natCast_one, Int.toNat_natCast, Nat.reduceBEq]
  have j1 := red_le (x := powp 2 (8 * n)) h0 hm
  have j2 := red_le (x := mulp a (pmod (powp 2 (8 * n)) m)) h0 hm
  have j3 := xor30 (a := pmod (mulp a (pmod (powp 2 (8 * n)) m)) m) (b := b) (by omega) (by omega)
  refine CallK.pure ⟨rfl, rfl⟩ rfl (rmodmul a _ m M (by omega) (by omega) hm h0) ?_
  simp only [shs, zts, sos, sls, zss, sx, sb1, sb2, sb3, sb4, sb5, ↓reduceIte, Nat.reduceAdd, Nat.reduceMul, Nat.reduceDiv, Nat.reduceEqDiff, Nat.reduceLT, Nat.reduceLeDiff, reduceCtorEq, Int.reduceEq, Int.reduceNe, Int.reduceLT, Int.reduceLE, Int.reduceAdd, Int.reduceSub, Int.reduceMul, Int.reduceNeg, Int.reduceToNat, Int.cast_ofNat_Int, Int.natCast_zero, Int.natCast_one, Int.toNat_natCast, Nat.reduceBEq, e8, inK, lo, hi]
  refine ⟨by omega, by omega, CallK.pure ⟨rfl, rfl⟩ rfl (rmodpow _ 2 (8 * n) m M (Nat.le_refl _) (by omega) (by omega) hm h0) ?_⟩
  simp only [shs, zts, sos, sls, zss, sx, sb1, sb2, sb3, sb4, sb5, ↓reduceIte, Nat.reduceAdd, Nat.reduceMul, Nat.reduceDiv, Nat.reduceEqDiff, Nat.reduceLT, Nat.reduceLeDiff, reduceCtorEq, Int.reduceEq, Int.reduceNe, Int.reduceLT, Int.reduceLE, Int.reduceAdd, Int.reduceSub, Int.reduceMul, Int.reduceNeg, Int.reduceToNat, Int.cast_ofNat_Int, Int.natCast_zero, Int.natCast_one, Int.toNat_natCast, Nat.reduceBEq, joinV, e8, inK, lo, hi]
  refine ⟨by omega, ?_⟩
  refine ⟨by omega, CallK.pure ⟨rfl, rfl⟩ rfl (rmodpow _ 2 (8 * n) m M (Nat.le_refl _) (by omega) (by omega) hm h0) ?_⟩
  simp only [shs, zts, sos, sls, zss, sx, sb1, sb2, sb3, sb4, sb5, ↓reduceIte, Nat.reduceAdd, Nat.reduceMul, Nat.reduceDiv, Nat.reduceEqDiff, Nat.reduceLT, Nat.reduceLeDiff, reduceCtorEq, Int.reduceEq, Int.reduceNe, Int.reduceLT, Int.reduceLE, Int.reduceAdd, Int.reduceSub, Int.reduceMul, Int.reduceNeg, Int.reduceToNat, Int.cast_ofNat_Int, Int.natCast_zero, Int.natCast_one, Int.toNat_natCast, Nat.reduceBEq, en, e8, inK, lo, hi]
  refine ⟨by omega, by omega, by omega, CallK.pure ⟨rfl, rfl⟩ rfl (rmodpow _ 2 (8 * (n - 1)) m M (Nat.le_refl _) (by omega) (by omega) hm h0) ?_⟩
  simp only [shs, zts, sos, sls, zss, sx, sb1, sb2, sb3, sb4, sb5, ↓reduceIte, Nat.reduceAdd, Nat.reduceMul, Nat.reduceDiv, Nat.reduceEqDiff, Nat.reduceLT, Nat.reduceLeDiff, reduceCtorEq, Int.reduceEq, Int.reduceNe, Int.reduceLT, Int.reduceLE, Int.reduceAdd, Int.reduceSub, Int.reduceMul, Int.reduceNeg, Int.reduceToNat, Int.cast_ofNat_Int, Int.natCast_zero, Int.natCast_one, Int.toNat_natCast, Nat.reduceBEq]
  refine CallK.pure ⟨rfl, rfl⟩ rfl (rmodmul x _ m M (by omega) (by omega) hm h0) ?_
  have hz1 := red_le (x := mulp (a ^^^ pmod (powp 2 (8 * n)) m ^^^ pmod (mulp x (pmod (powp 2 (8 * (n - 1))) m)) m) 256) h0 hm
  have hz2 := red_le (x := mulp y 1) h0 hm
  have hz3 := xor30 (a := pmod (mulp (a ^^^ pmod (powp 2 (8 * n)) m ^^^ pmod (mulp x (pmod (powp 2 (8 * (n - 1))) m)) m) 256) m) (b := pmod (mulp y 1) m) (by omega) (by omega)
  simp only [shs, zts, sos, sls, zss, sx, sb1, sb2, sb3, sb4, sb5, ↓reduceIte, Nat.reduceAdd, Nat.reduceMul, Nat.reduceDiv, Nat.reduceEqDiff, Nat.reduceLT, Nat.reduceLeDiff, reduceCtorEq, Int.reduceEq, Int.reduceNe, Int.reduceLT, Int.reduceLE, Int.reduceAdd, Int.reduceSub, Int.reduceMul, Int.reduceNeg, Int.reduceToNat, Int.cast_ofNat_Int, Int.natCast_zero, Int.natCast_one, Int.toNat_natCast, Nat.reduceBEq, lo, hi]
  refine ⟨by omega, CallK.pure ⟨rfl, rfl⟩ rfl (rmodmul _ 256 m M (by omega) (by omega) hm h0) ?_⟩
  simp only [shs, zts, sos, sls, zss, sx, sb1, sb2, sb3, sb4, sb5, ↓reduceIte, Nat.reduceAdd, Nat.reduceMul, Nat.reduceDiv, Nat.reduceEqDiff, Nat.reduceLT, Nat.reduceLeDiff, reduceCtorEq, Int.reduceEq, Int.reduceNe, Int.reduceLT, Int.reduceLE, Int.reduceAdd, Int.reduceSub, Int.reduceMul, Int.reduceNeg, Int.reduceToNat, Int.cast_ofNat_Int, Int.natCast_zero, Int.natCast_one, Int.toNat_natCast, Nat.reduceBEq]
  refine CallK.pure ⟨rfl, rfl⟩ rfl (rmodmul y 1 m M (by omega) (by omega) hm h0) ?_
  simp only [shs, zts, sos, sls, zss, sx, sb1, sb2, sb3, sb4, sb5, ↓reduceIte, Nat.reduceAdd, Nat.reduceMul, Nat.reduceDiv, Nat.reduceEqDiff, Nat.reduceLT, Nat.reduceLeDiff, reduceCtorEq, Int.reduceEq, Int.reduceNe, Int.reduceLT, Int.reduceLE, Int.reduceAdd, Int.reduceSub, Int.reduceMul, Int.reduceNeg, Int.reduceToNat, Int.cast_ofNat_Int, Int.natCast_zero, Int.natCast_one, Int.toNat_natCast, Nat.reduceBEq, lo, hi, rollV, hE]
  omega

theorem says (m a b n x y : Int) (M : Mem) (_ : inK .i64 m) (_ : inK .i64 a) (_ : inK .i64 b) (_ : inK .i64 n) (_ : inK .i64 x) (_ : inK .i64 y) :
    Meets Proofs.Try.prog 13 [.v (.int .i64 m), .v (.int .i64 a), .v (.int .i64 b), .v (.int .i64 n), .v (.int .i64 x), .v (.int .i64 y)] M fun r _ _ => r = .v (.bool true) := by
  by_cases h : m < 2 ∨ 2147483647 < m
  · exact p0 m a b n x y M h
  obtain ⟨m, rfl⟩ : ∃ k : Nat, m = k := ⟨m.toNat, by omega⟩
  have h2 : 2 ≤ m := by omega
  have hm : m ≤ 2147483647 := by omega
  cases ha : rb m a with
  | false => exact pA m a b n x y M h2 hm ha
  | true =>
    obtain ⟨a, rfl, _, _⟩ := rb_nat hm ha
    cases hb : rb m b with
    | false => exact pB m a b n x y M h2 hm ha hb
    | true =>
      obtain ⟨b, rfl, _, _⟩ := rb_nat hm hb
      by_cases hn : n < 0
      · exact pC m a b n x y M h2 hm ha hb hn
      by_cases hn6 : 600 < n
      · exact pC2 m a b n x y M h2 hm ha hb hn6
      obtain ⟨n, rfl⟩ : ∃ k : Nat, n = k := ⟨n.toNat, by omega⟩
      by_cases hB : rollB x y n
      · exact pD m a b n x y M h2 hm ha hb (by omega) hB
      · unfold rollB at hB
        obtain ⟨x, rfl⟩ : ∃ k : Nat, x = k := ⟨x.toNat, by omega⟩
        obtain ⟨y, rfl⟩ : ∃ k : Nat, y = k := ⟨y.toNat, by omega⟩
        exact pE m a b n x y M h2 hm ha hb (by omega) (by omega) (by omega) (by omega)
end Go.X.Mv
