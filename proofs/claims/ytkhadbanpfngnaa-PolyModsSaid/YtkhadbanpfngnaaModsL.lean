/- woollaw.PolyMods returns true. Conditions: none. -/
import Derived.Test.YtkhadbanpfngnaaMods
set_option linter.unusedSimpArgs false
set_option linter.unusedVariables false
set_option maxHeartbeats 4000000
set_option maxRecDepth 20000
namespace Go.X.Md
open Go Go.X Go.X.Pol Go.X.Pl Go.X.Rp Go.X.Pd

theorem says (a b n m : Int) (M : Mem) (_ : inK .i64 a) (_ : inK .i64 b) (hn : inK .i64 n) (_ : inK .i64 m) :
    Meets Proofs.Try.prog 10 [.v (.int .i64 a), .v (.int .i64 b), .v (.int .i64 n), .v (.int .i64 m)] M fun r _ _ => r = .v (.bool true) := by
  refine Meets.of_body [0,1,2,3,8,9,10,11,12,13,14,15,16,45,51,57,59,65] Proofs.Try.func10 rfl (by kernel_rfl) rfl fun w => ?_
  simp only [inK, lo, hi] at hn
  have hn2 := hn.2
  simp only [Proofs.Try.f10, shs, zts, sos, sls, zss, sx, sb1, sb2, sb3, sb4, sb5, ↓reduceIte, Nat.reduceAdd, Nat.reduceMul, Nat.reduceDiv, Nat.reduceEqDiff, Nat.reduceLT, Nat.reduceLeDiff, reduceCtorEq, Int.reduceEq, Int.reduceNe, Int.reduceLT, Int.reduceLE, Int.reduceAdd, Int.reduceSub, Int.reduceMul, Int.reduceNeg, Int.reduceToNat, Int.cast_ofNat_Int, Int.natCast_zero, Int.natCast_one, Int.toNat_natCast, Nat.reduceBEq]
  have hpe3 : pe [a, b, m] = if a < 0 ∨ 2147483647 < a then 1 else if b < 0 ∨ 2147483647 < b then 1 else if m < 0 ∨ 2147483647 < m then 1 else 0 := rfl
  have hpe2 : pe [a, m] = if a < 0 ∨ 2147483647 < a then 1 else if m < 0 ∨ 2147483647 < m then 1 else 0 := rfl
  have k1 : mmE a b m = if a < 0 ∨ 2147483647 < a then 1 else if b < 0 ∨ 2147483647 < b then 1 else if m < 0 ∨ 2147483647 < m then 1 else if m = 0 then 10 else 0 := rfl
  have k2 : mpE a n m = if a < 0 ∨ 2147483647 < a then 1 else if m < 0 ∨ 2147483647 < m then 1 else if n < 0 then 1 else if m = 0 then 10 else 0 := rfl
  by_cases ha : a < 0 ∨ 2147483647 < a
  · rw [if_pos ha] at hpe3 hpe2 k1 k2
    have c1 := modmul_bad a b m M (by rw [k1]; decide)
    have c2 := modpow_bad a n m M (by rw [k2]; decide)
    rw [k1] at c1
    rw [k2] at c2
    refine CallK.pure ⟨rfl, rfl⟩ rfl c1 ?_
    simp only [shs, zts, sos, sls, zss, sx, sb1, sb2, sb3, sb4, sb5, ↓reduceIte, Nat.reduceAdd, Nat.reduceMul, Nat.reduceDiv, Nat.reduceEqDiff, Nat.reduceLT, Nat.reduceLeDiff, reduceCtorEq, Int.reduceEq, Int.reduceNe, Int.reduceLT, Int.reduceLE, Int.reduceAdd, Int.reduceSub, Int.reduceMul, Int.reduceNeg, Int.reduceToNat, Int.cast_ofNat_Int, Int.natCast_zero, Int.natCast_one, Int.toNat_natCast, Nat.reduceBEq]
    refine CallK.pure ⟨rfl, rfl⟩ rfl c2 ?_
    simp only [shs, zts, sos, sls, zss, sx, sb1, sb2, sb3, sb4, sb5, ↓reduceIte, Nat.reduceAdd, Nat.reduceMul, Nat.reduceDiv, Nat.reduceEqDiff, Nat.reduceLT, Nat.reduceLeDiff, reduceCtorEq, Int.reduceEq, Int.reduceNe, Int.reduceLT, Int.reduceLE, Int.reduceAdd, Int.reduceSub, Int.reduceMul, Int.reduceNeg, Int.reduceToNat, Int.cast_ofNat_Int, Int.natCast_zero, Int.natCast_one, Int.toNat_natCast, Nat.reduceBEq]
    refine CallK.lend (k := 272) rfl rfl rfl (fun _ => rfl) (fun v2 M2 _ hv2 => poly v2 [a, b, m] M2 hv2) ?_
    simp only [hpe3, shs, zts, sos, sls, zss, sx, sb1, sb2, sb3, sb4, sb5, ↓reduceIte, Nat.reduceAdd, Nat.reduceMul, Nat.reduceDiv, Nat.reduceEqDiff, Nat.reduceLT, Nat.reduceLeDiff, reduceCtorEq, Int.reduceEq, Int.reduceNe, Int.reduceLT, Int.reduceLE, Int.reduceAdd, Int.reduceSub, Int.reduceMul, Int.reduceNeg, Int.reduceToNat, Int.cast_ofNat_Int, Int.natCast_zero, Int.natCast_one, Int.toNat_natCast, Nat.reduceBEq]
    refine CallK.lend (k := 304) rfl rfl rfl (fun _ => rfl) (fun v2 M2 _ hv2 => poly v2 [a, m] M2 hv2) ?_
    simp only [hpe2, shs, zts, sos, sls, zss, sx, sb1, sb2, sb3, sb4, sb5, ↓reduceIte, Nat.reduceAdd, Nat.reduceMul, Nat.reduceDiv, Nat.reduceEqDiff, Nat.reduceLT, Nat.reduceLeDiff, reduceCtorEq, Int.reduceEq, Int.reduceNe, Int.reduceLT, Int.reduceLE, Int.reduceAdd, Int.reduceSub, Int.reduceMul, Int.reduceNeg, Int.reduceToNat, Int.cast_ofNat_Int, Int.natCast_zero, Int.natCast_one, Int.toNat_natCast, Nat.reduceBEq]
  rw [if_neg ha] at hpe3 hpe2 k1 k2
  by_cases hm : m < 0 ∨ 2147483647 < m
  · have hpe3' : pe [a, b, m] = 1 := by rw [hpe3]; split <;> first | rfl | simp [hm]
    have k1' : mmE a b m = 1 := by rw [k1]; split <;> first | rfl | simp [hm]
    rw [if_pos hm] at hpe2 k2
    have c1 := modmul_bad a b m M (by rw [k1']; decide)
    have c2 := modpow_bad a n m M (by rw [k2]; decide)
    rw [k1'] at c1
    rw [k2] at c2
    refine CallK.pure ⟨rfl, rfl⟩ rfl c1 ?_
    simp only [shs, zts, sos, sls, zss, sx, sb1, sb2, sb3, sb4, sb5, ↓reduceIte, Nat.reduceAdd, Nat.reduceMul, Nat.reduceDiv, Nat.reduceEqDiff, Nat.reduceLT, Nat.reduceLeDiff, reduceCtorEq, Int.reduceEq, Int.reduceNe, Int.reduceLT, Int.reduceLE, Int.reduceAdd, Int.reduceSub, Int.reduceMul, Int.reduceNeg, Int.reduceToNat, Int.cast_ofNat_Int, Int.natCast_zero, Int.natCast_one, Int.toNat_natCast, Nat.reduceBEq]
    refine CallK.pure ⟨rfl, rfl⟩ rfl c2 ?_
    simp only [shs, zts, sos, sls, zss, sx, sb1, sb2, sb3, sb4, sb5, ↓reduceIte, Nat.reduceAdd, Nat.reduceMul, Nat.reduceDiv, Nat.reduceEqDiff, Nat.reduceLT, Nat.reduceLeDiff, reduceCtorEq, Int.reduceEq, Int.reduceNe, Int.reduceLT, Int.reduceLE, Int.reduceAdd, Int.reduceSub, Int.reduceMul, Int.reduceNeg, Int.reduceToNat, Int.cast_ofNat_Int, Int.natCast_zero, Int.natCast_one, Int.toNat_natCast, Nat.reduceBEq]
    refine CallK.lend (k := 272) rfl rfl rfl (fun _ => rfl) (fun v2 M2 _ hv2 => poly v2 [a, b, m] M2 hv2) ?_
    simp only [hpe3', shs, zts, sos, sls, zss, sx, sb1, sb2, sb3, sb4, sb5, ↓reduceIte, Nat.reduceAdd, Nat.reduceMul, Nat.reduceDiv, Nat.reduceEqDiff, Nat.reduceLT, Nat.reduceLeDiff, reduceCtorEq, Int.reduceEq, Int.reduceNe, Int.reduceLT, Int.reduceLE, Int.reduceAdd, Int.reduceSub, Int.reduceMul, Int.reduceNeg, Int.reduceToNat, Int.cast_ofNat_Int, Int.natCast_zero, Int.natCast_one, Int.toNat_natCast, Nat.reduceBEq]
    refine CallK.lend (k := 304) rfl rfl rfl (fun _ => rfl) (fun v2 M2 _ hv2 => poly v2 [a, m] M2 hv2) ?_
    simp only [hpe2, shs, zts, sos, sls, zss, sx, sb1, sb2, sb3, sb4, sb5, ↓reduceIte, Nat.reduceAdd, Nat.reduceMul, Nat.reduceDiv, Nat.reduceEqDiff, Nat.reduceLT, Nat.reduceLeDiff, reduceCtorEq, Int.reduceEq, Int.reduceNe, Int.reduceLT, Int.reduceLE, Int.reduceAdd, Int.reduceSub, Int.reduceMul, Int.reduceNeg, Int.reduceToNat, Int.cast_ofNat_Int, Int.natCast_zero, Int.natCast_one, Int.toNat_natCast, Nat.reduceBEq]
  rw [if_neg hm] at hpe2 k2
  obtain ⟨a, rfl, ha'⟩ := nat_of ha
  obtain ⟨m, rfl, hm'⟩ := nat_of hm
  by_cases hm0 : m = 0
  · have e0 : (m : Int) = 0 := by omega
    have f1 : (pe [(a : Int), b, (m : Int)] = 1 ∧ mmE a b m = 1) ∨ (pe [(a : Int), b, (m : Int)] = 0 ∧ mmE a b m = 10) := by
      by_cases hb : b < 0 ∨ 2147483647 < b
      · exact .inl ⟨by rw [hpe3, if_pos hb], by rw [k1, if_pos hb]⟩
      · exact .inr ⟨by rw [hpe3, if_neg hb, if_neg hm], by rw [k1, if_neg hb, if_neg hm, if_pos e0]⟩
    have e0' : ((m : Int) = 0) = True := eq_true e0
    have f2 : (n < 0 ∧ mpE a n m = 1) ∨ (¬ n < 0 ∧ mpE a n m = 10) := by
      by_cases hb : n < 0
      · exact .inl ⟨hb, by rw [k2, if_pos hb]⟩
      · exact .inr ⟨hb, by rw [k2, if_neg hb, if_pos e0]⟩
    have c1 := modmul_bad a b m M (by omega)
    have c2 := modpow_bad a n m M (by omega)
    rcases f1 with ⟨f1, f1'⟩ | ⟨f1, f1'⟩ <;> rcases f2 with ⟨f2, f2'⟩ | ⟨f2, f2'⟩ <;> rw [f1'] at c1 <;> rw [f2'] at c2 <;>
    · refine CallK.pure ⟨rfl, rfl⟩ rfl c1 ?_
      simp only [shs, zts, sos, sls, zss, sx, sb1, sb2, sb3, sb4, sb5, ↓reduceIte, Nat.reduceAdd, Nat.reduceMul, Nat.reduceDiv, Nat.reduceEqDiff, Nat.reduceLT, Nat.reduceLeDiff, reduceCtorEq, Int.reduceEq, Int.reduceNe, Int.reduceLT, Int.reduceLE, Int.reduceAdd, Int.reduceSub, Int.reduceMul, Int.reduceNeg, Int.reduceToNat, Int.cast_ofNat_Int, Int.natCast_zero, Int.natCast_one, Int.toNat_natCast, Nat.reduceBEq]
      refine CallK.pure ⟨rfl, rfl⟩ rfl c2 ?_
      simp only [shs, zts, sos, sls, zss, sx, sb1, sb2, sb3, sb4, sb5, ↓reduceIte, Nat.reduceAdd, Nat.reduceMul, Nat.reduceDiv, Nat.reduceEqDiff, Nat.reduceLT, Nat.reduceLeDiff, reduceCtorEq, Int.reduceEq, Int.reduceNe, Int.reduceLT, Int.reduceLE, Int.reduceAdd, Int.reduceSub, Int.reduceMul, Int.reduceNeg, Int.reduceToNat, Int.cast_ofNat_Int, Int.natCast_zero, Int.natCast_one, Int.toNat_natCast, Nat.reduceBEq]
      refine CallK.lend (k := 272) rfl rfl rfl (fun _ => rfl) (fun v2 M2 _ hv2 => poly v2 [(a : Int), b, (m : Int)] M2 hv2) ?_
      simp only [f1, e0', f2, shs, zts, sos, sls, zss, sx, sb1, sb2, sb3, sb4, sb5, ↓reduceIte, Nat.reduceAdd, Nat.reduceMul, Nat.reduceDiv, Nat.reduceEqDiff, Nat.reduceLT, Nat.reduceLeDiff, reduceCtorEq, Int.reduceEq, Int.reduceNe, Int.reduceLT, Int.reduceLE, Int.reduceAdd, Int.reduceSub, Int.reduceMul, Int.reduceNeg, Int.reduceToNat, Int.cast_ofNat_Int, Int.natCast_zero, Int.natCast_one, Int.toNat_natCast, Nat.reduceBEq]
      refine CallK.lend (k := 304) rfl rfl rfl (fun _ => rfl) (fun v2 M2 _ hv2 => poly v2 [(a : Int), (m : Int)] M2 hv2) ?_
      simp only [hpe2, e0', f2, shs, zts, sos, sls, zss, sx, sb1, sb2, sb3, sb4, sb5, ↓reduceIte, Nat.reduceAdd, Nat.reduceMul, Nat.reduceDiv, Nat.reduceEqDiff, Nat.reduceLT, Nat.reduceLeDiff, reduceCtorEq, Int.reduceEq, Int.reduceNe, Int.reduceLT, Int.reduceLE, Int.reduceAdd, Int.reduceSub, Int.reduceMul, Int.reduceNeg, Int.reduceToNat, Int.cast_ofNat_Int, Int.natCast_zero, Int.natCast_one, Int.toNat_natCast, Nat.reduceBEq]
  · have e0 : ¬ (m : Int) = 0 := by omega
    by_cases hb : b < 0 ∨ 2147483647 < b
    · rw [if_pos hb] at k1 hpe3
      have c1 := modmul_bad a b m M (by rw [k1]; decide)
      rw [k1] at c1
      refine CallK.pure ⟨rfl, rfl⟩ rfl c1 ?_
      simp only [shs, zts, sos, sls, zss, sx, sb1, sb2, sb3, sb4, sb5, ↓reduceIte, Nat.reduceAdd, Nat.reduceMul, Nat.reduceDiv, Nat.reduceEqDiff, Nat.reduceLT, Nat.reduceLeDiff, reduceCtorEq, Int.reduceEq, Int.reduceNe, Int.reduceLT, Int.reduceLE, Int.reduceAdd, Int.reduceSub, Int.reduceMul, Int.reduceNeg, Int.reduceToNat, Int.cast_ofNat_Int, Int.natCast_zero, Int.natCast_one, Int.toNat_natCast, Nat.reduceBEq]
      by_cases hn0 : n < 0
      · rw [if_pos hn0] at k2
        have c2 := modpow_bad a n m M (by rw [k2]; decide)
        rw [k2] at c2
        refine CallK.pure ⟨rfl, rfl⟩ rfl c2 ?_
        simp only [shs, zts, sos, sls, zss, sx, sb1, sb2, sb3, sb4, sb5, ↓reduceIte, Nat.reduceAdd, Nat.reduceMul, Nat.reduceDiv, Nat.reduceEqDiff, Nat.reduceLT, Nat.reduceLeDiff, reduceCtorEq, Int.reduceEq, Int.reduceNe, Int.reduceLT, Int.reduceLE, Int.reduceAdd, Int.reduceSub, Int.reduceMul, Int.reduceNeg, Int.reduceToNat, Int.cast_ofNat_Int, Int.natCast_zero, Int.natCast_one, Int.toNat_natCast, Nat.reduceBEq]
        refine CallK.lend (k := 272) rfl rfl rfl (fun _ => rfl) (fun v2 M2 _ hv2 => poly v2 [(a : Int), b, (m : Int)] M2 hv2) ?_
        simp only [hpe3, e0, hn0, shs, zts, sos, sls, zss, sx, sb1, sb2, sb3, sb4, sb5, ↓reduceIte, Nat.reduceAdd, Nat.reduceMul, Nat.reduceDiv, Nat.reduceEqDiff, Nat.reduceLT, Nat.reduceLeDiff, reduceCtorEq, Int.reduceEq, Int.reduceNe, Int.reduceLT, Int.reduceLE, Int.reduceAdd, Int.reduceSub, Int.reduceMul, Int.reduceNeg, Int.reduceToNat, Int.cast_ofNat_Int, Int.natCast_zero, Int.natCast_one, Int.toNat_natCast, Nat.reduceBEq]
        refine CallK.lend (k := 304) rfl rfl rfl (fun _ => rfl) (fun v2 M2 _ hv2 => poly v2 [(a : Int), (m : Int)] M2 hv2) ?_
        simp only [hpe2, e0, hn0, shs, zts, sos, sls, zss, sx, sb1, sb2, sb3, sb4, sb5, ↓reduceIte, Nat.reduceAdd, Nat.reduceMul, Nat.reduceDiv, Nat.reduceEqDiff, Nat.reduceLT, Nat.reduceLeDiff, reduceCtorEq, Int.reduceEq, Int.reduceNe, Int.reduceLT, Int.reduceLE, Int.reduceAdd, Int.reduceSub, Int.reduceMul, Int.reduceNeg, Int.reduceToNat, Int.cast_ofNat_Int, Int.natCast_zero, Int.natCast_one, Int.toNat_natCast, Nat.reduceBEq]
      · obtain ⟨n, rfl⟩ : ∃ k : Nat, n = k := ⟨n.toNat, by omega⟩
        have hn0 : ((n : Int) < 0) = False := eq_false hn0
        refine CallK.pure ⟨rfl, rfl⟩ rfl (modpow a n m M ha' (by omega) hm' hm0) ?_
        simp only [shs, zts, sos, sls, zss, sx, sb1, sb2, sb3, sb4, sb5, ↓reduceIte, Nat.reduceAdd, Nat.reduceMul, Nat.reduceDiv, Nat.reduceEqDiff, Nat.reduceLT, Nat.reduceLeDiff, reduceCtorEq, Int.reduceEq, Int.reduceNe, Int.reduceLT, Int.reduceLE, Int.reduceAdd, Int.reduceSub, Int.reduceMul, Int.reduceNeg, Int.reduceToNat, Int.cast_ofNat_Int, Int.natCast_zero, Int.natCast_one, Int.toNat_natCast, Nat.reduceBEq]
        refine CallK.lend (k := 272) rfl rfl rfl (fun _ => rfl) (fun v2 M2 _ hv2 => poly v2 [(a : Int), b, (m : Int)] M2 hv2) ?_
        simp only [hpe3, e0, hn0, shs, zts, sos, sls, zss, sx, sb1, sb2, sb3, sb4, sb5, ↓reduceIte, Nat.reduceAdd, Nat.reduceMul, Nat.reduceDiv, Nat.reduceEqDiff, Nat.reduceLT, Nat.reduceLeDiff, reduceCtorEq, Int.reduceEq, Int.reduceNe, Int.reduceLT, Int.reduceLE, Int.reduceAdd, Int.reduceSub, Int.reduceMul, Int.reduceNeg, Int.reduceToNat, Int.cast_ofNat_Int, Int.natCast_zero, Int.natCast_one, Int.toNat_natCast, Nat.reduceBEq]
        refine CallK.lend (k := 304) rfl rfl rfl (fun _ => rfl) (fun v2 M2 _ hv2 => poly v2 [(a : Int), (m : Int)] M2 hv2) ?_
        simp only [hpe2, e0, hn0, shs, zts, sos, sls, zss, sx, sb1, sb2, sb3, sb4, sb5, ↓reduceIte, Nat.reduceAdd, Nat.reduceMul, Nat.reduceDiv, Nat.reduceEqDiff, Nat.reduceLT, Nat.reduceLeDiff, reduceCtorEq, Int.reduceEq, Int.reduceNe, Int.reduceLT, Int.reduceLE, Int.reduceAdd, Int.reduceSub, Int.reduceMul, Int.reduceNeg, Int.reduceToNat, Int.cast_ofNat_Int, Int.natCast_zero, Int.natCast_one, Int.toNat_natCast, Nat.reduceBEq]
        refine CallK.pure ⟨rfl, rfl⟩ rfl (rmodpow n a n m M (Nat.le_refl _) (by omega) ha' hm' hm0) ?_
        simp only [shs, zts, sos, sls, zss, sx, sb1, sb2, sb3, sb4, sb5, ↓reduceIte, Nat.reduceAdd, Nat.reduceMul, Nat.reduceDiv, Nat.reduceEqDiff, Nat.reduceLT, Nat.reduceLeDiff, reduceCtorEq, Int.reduceEq, Int.reduceNe, Int.reduceLT, Int.reduceLE, Int.reduceAdd, Int.reduceSub, Int.reduceMul, Int.reduceNeg, Int.reduceToNat, Int.cast_ofNat_Int, Int.natCast_zero, Int.natCast_one, Int.toNat_natCast, Nat.reduceBEq]
    · rw [if_neg hb, if_neg hm] at k1 hpe3
      obtain ⟨b, rfl, hb'⟩ := nat_of hb
      refine CallK.pure ⟨rfl, rfl⟩ rfl (modmul a b m M ha' hb' hm' hm0) ?_
      simp only [shs, zts, sos, sls, zss, sx, sb1, sb2, sb3, sb4, sb5, ↓reduceIte, Nat.reduceAdd, Nat.reduceMul, Nat.reduceDiv, Nat.reduceEqDiff, Nat.reduceLT, Nat.reduceLeDiff, reduceCtorEq, Int.reduceEq, Int.reduceNe, Int.reduceLT, Int.reduceLE, Int.reduceAdd, Int.reduceSub, Int.reduceMul, Int.reduceNeg, Int.reduceToNat, Int.cast_ofNat_Int, Int.natCast_zero, Int.natCast_one, Int.toNat_natCast, Nat.reduceBEq]
      by_cases hn0 : n < 0
      · rw [if_pos hn0] at k2
        have c2 := modpow_bad a n m M (by rw [k2]; decide)
        rw [k2] at c2
        refine CallK.pure ⟨rfl, rfl⟩ rfl c2 ?_
        simp only [shs, zts, sos, sls, zss, sx, sb1, sb2, sb3, sb4, sb5, ↓reduceIte, Nat.reduceAdd, Nat.reduceMul, Nat.reduceDiv, Nat.reduceEqDiff, Nat.reduceLT, Nat.reduceLeDiff, reduceCtorEq, Int.reduceEq, Int.reduceNe, Int.reduceLT, Int.reduceLE, Int.reduceAdd, Int.reduceSub, Int.reduceMul, Int.reduceNeg, Int.reduceToNat, Int.cast_ofNat_Int, Int.natCast_zero, Int.natCast_one, Int.toNat_natCast, Nat.reduceBEq]
        refine CallK.lend (k := 272) rfl rfl rfl (fun _ => rfl) (fun v2 M2 _ hv2 => poly v2 [(a : Int), (b : Int), (m : Int)] M2 hv2) ?_
        simp only [hpe3, e0, hn0, shs, zts, sos, sls, zss, sx, sb1, sb2, sb3, sb4, sb5, ↓reduceIte, Nat.reduceAdd, Nat.reduceMul, Nat.reduceDiv, Nat.reduceEqDiff, Nat.reduceLT, Nat.reduceLeDiff, reduceCtorEq, Int.reduceEq, Int.reduceNe, Int.reduceLT, Int.reduceLE, Int.reduceAdd, Int.reduceSub, Int.reduceMul, Int.reduceNeg, Int.reduceToNat, Int.cast_ofNat_Int, Int.natCast_zero, Int.natCast_one, Int.toNat_natCast, Nat.reduceBEq]
        refine CallK.lend (k := 304) rfl rfl rfl (fun _ => rfl) (fun v2 M2 _ hv2 => poly v2 [(a : Int), (m : Int)] M2 hv2) ?_
        simp only [hpe2, e0, hn0, shs, zts, sos, sls, zss, sx, sb1, sb2, sb3, sb4, sb5, ↓reduceIte, Nat.reduceAdd, Nat.reduceMul, Nat.reduceDiv, Nat.reduceEqDiff, Nat.reduceLT, Nat.reduceLeDiff, reduceCtorEq, Int.reduceEq, Int.reduceNe, Int.reduceLT, Int.reduceLE, Int.reduceAdd, Int.reduceSub, Int.reduceMul, Int.reduceNeg, Int.reduceToNat, Int.cast_ofNat_Int, Int.natCast_zero, Int.natCast_one, Int.toNat_natCast, Nat.reduceBEq]
        refine CallK.pure ⟨rfl, rfl⟩ rfl (rmodmul a b m M ha' hb' hm' hm0) ?_
        simp only [shs, zts, sos, sls, zss, sx, sb1, sb2, sb3, sb4, sb5, ↓reduceIte, Nat.reduceAdd, Nat.reduceMul, Nat.reduceDiv, Nat.reduceEqDiff, Nat.reduceLT, Nat.reduceLeDiff, reduceCtorEq, Int.reduceEq, Int.reduceNe, Int.reduceLT, Int.reduceLE, Int.reduceAdd, Int.reduceSub, Int.reduceMul, Int.reduceNeg, Int.reduceToNat, Int.cast_ofNat_Int, Int.natCast_zero, Int.natCast_one, Int.toNat_natCast, Nat.reduceBEq]
      · obtain ⟨n, rfl⟩ : ∃ k : Nat, n = k := ⟨n.toNat, by omega⟩
        have hn0 : ((n : Int) < 0) = False := eq_false hn0
        refine CallK.pure ⟨rfl, rfl⟩ rfl (modpow a n m M ha' (by omega) hm' hm0) ?_
        simp only [shs, zts, sos, sls, zss, sx, sb1, sb2, sb3, sb4, sb5, ↓reduceIte, Nat.reduceAdd, Nat.reduceMul, Nat.reduceDiv, Nat.reduceEqDiff, Nat.reduceLT, Nat.reduceLeDiff, reduceCtorEq, Int.reduceEq, Int.reduceNe, Int.reduceLT, Int.reduceLE, Int.reduceAdd, Int.reduceSub, Int.reduceMul, Int.reduceNeg, Int.reduceToNat, Int.cast_ofNat_Int, Int.natCast_zero, Int.natCast_one, Int.toNat_natCast, Nat.reduceBEq]
        refine CallK.lend (k := 272) rfl rfl rfl (fun _ => rfl) (fun v2 M2 _ hv2 => poly v2 [(a : Int), (b : Int), (m : Int)] M2 hv2) ?_
        simp only [hpe3, e0, hn0, shs, zts, sos, sls, zss, sx, sb1, sb2, sb3, sb4, sb5, ↓reduceIte, Nat.reduceAdd, Nat.reduceMul, Nat.reduceDiv, Nat.reduceEqDiff, Nat.reduceLT, Nat.reduceLeDiff, reduceCtorEq, Int.reduceEq, Int.reduceNe, Int.reduceLT, Int.reduceLE, Int.reduceAdd, Int.reduceSub, Int.reduceMul, Int.reduceNeg, Int.reduceToNat, Int.cast_ofNat_Int, Int.natCast_zero, Int.natCast_one, Int.toNat_natCast, Nat.reduceBEq]
        refine CallK.lend (k := 304) rfl rfl rfl (fun _ => rfl) (fun v2 M2 _ hv2 => poly v2 [(a : Int), (m : Int)] M2 hv2) ?_
        simp only [hpe2, e0, hn0, shs, zts, sos, sls, zss, sx, sb1, sb2, sb3, sb4, sb5, ↓reduceIte, Nat.reduceAdd, Nat.reduceMul, Nat.reduceDiv, Nat.reduceEqDiff, Nat.reduceLT, Nat.reduceLeDiff, reduceCtorEq, Int.reduceEq, Int.reduceNe, Int.reduceLT, Int.reduceLE, Int.reduceAdd, Int.reduceSub, Int.reduceMul, Int.reduceNeg, Int.reduceToNat, Int.cast_ofNat_Int, Int.natCast_zero, Int.natCast_one, Int.toNat_natCast, Nat.reduceBEq]
        refine CallK.pure ⟨rfl, rfl⟩ rfl (rmodmul a b m M ha' hb' hm' hm0) ?_
        simp only [shs, zts, sos, sls, zss, sx, sb1, sb2, sb3, sb4, sb5, ↓reduceIte, Nat.reduceAdd, Nat.reduceMul, Nat.reduceDiv, Nat.reduceEqDiff, Nat.reduceLT, Nat.reduceLeDiff, reduceCtorEq, Int.reduceEq, Int.reduceNe, Int.reduceLT, Int.reduceLE, Int.reduceAdd, Int.reduceSub, Int.reduceMul, Int.reduceNeg, Int.reduceToNat, Int.cast_ofNat_Int, Int.natCast_zero, Int.natCast_one, Int.toNat_natCast, Nat.reduceBEq]
        refine CallK.pure ⟨rfl, rfl⟩ rfl (rmodpow n a n m M (Nat.le_refl _) (by omega) ha' hm' hm0) ?_
        simp only [shs, zts, sos, sls, zss, sx, sb1, sb2, sb3, sb4, sb5, ↓reduceIte, Nat.reduceAdd, Nat.reduceMul, Nat.reduceDiv, Nat.reduceEqDiff, Nat.reduceLT, Nat.reduceLeDiff, reduceCtorEq, Int.reduceEq, Int.reduceNe, Int.reduceLT, Int.reduceLE, Int.reduceAdd, Int.reduceSub, Int.reduceMul, Int.reduceNeg, Int.reduceToNat, Int.cast_ofNat_Int, Int.natCast_zero, Int.natCast_one, Int.toNat_natCast, Nat.reduceBEq]
end Go.X.Md
