/- Joining and rolling prints: what print.Join, print.Roll and woolref return. Conditions: none. -/
import Derived.Test.YtkhadbanpfngnaaMods
set_option linter.unusedSimpArgs false
set_option linter.unusedVariables false
set_option maxHeartbeats 4000000
set_option maxRecDepth 20000
namespace Go.X.Mv
open Go Go.X Go.X.Pol Go.X.Pl Go.X.Rp Go.X.Pd Go.X.Md

def mdE (m : Int) : Int := if m < 2 ∨ 2147483647 < m then 1 else 0
theorem mod (m : Int) (M : Mem) : Meets Proofs.Try.prog 17 [.v (.int .i64 m)] M fun r _ _ => r = .v (.int .i64 (mdE m)) := by
  refine Meets.of_body [0,2,8] Proofs.Try.func17 rfl (by kernel_rfl) rfl fun w => ?_
  simp only [Proofs.Try.f17, shs, zts, sos, sls, zss, eqs, sx, sb1, sb2, sb3, sb4, sb5, ↓reduceIte, Nat.reduceAdd, Nat.reduceMul, Nat.reduceDiv, Nat.reduceEqDiff, Nat.reduceLT, Nat.reduceLeDiff, reduceCtorEq, Int.reduceEq, Int.reduceNe, Int.reduceLT, Int.reduceLE, Int.reduceAdd, Int.reduceSub, Int.reduceMul, Int.reduceNeg, Int.reduceToNat, Int.cast_ofNat_Int, Int.natCast_zero, Int.natCast_one, Int.toNat_natCast, Nat.reduceBEq]
  refine ⟨fun h => ?_, fun h => ?_⟩
  · rw [mdE, if_pos (by omega)]
  · rw [mdE, if_neg (by omega)]
theorem modulus (m : Int) (M : Mem) : Meets Proofs.Try.prog 16 [.v (.int .i64 m)] M fun r _ _ => r = .v (.int .i64 (mdE m)) := by
  refine Meets.of_body [0,2,4] Proofs.Try.func16 rfl (by kernel_rfl) rfl fun w => ?_
  simp only [Proofs.Try.f16, shs, zts, sos, sls, zss, eqs, sx, sb1, sb2, sb3, sb4, sb5, ↓reduceIte, Nat.reduceAdd, Nat.reduceMul, Nat.reduceDiv, Nat.reduceEqDiff, Nat.reduceLT, Nat.reduceLeDiff, reduceCtorEq, Int.reduceEq, Int.reduceNe, Int.reduceLT, Int.reduceLE, Int.reduceAdd, Int.reduceSub, Int.reduceMul, Int.reduceNeg, Int.reduceToNat, Int.cast_ofNat_Int, Int.natCast_zero, Int.natCast_one, Int.toNat_natCast, Nat.reduceBEq]
  refine CallK.pure ⟨rfl, rfl⟩ rfl (within m 2 2147483647 M) ?_
  simp only [shs, zts, sos, sls, zss, eqs, sx, sb1, sb2, sb3, sb4, sb5, ↓reduceIte, Nat.reduceAdd, Nat.reduceMul, Nat.reduceDiv, Nat.reduceEqDiff, Nat.reduceLT, Nat.reduceLeDiff, reduceCtorEq, Int.reduceEq, Int.reduceNe, Int.reduceLT, Int.reduceLE, Int.reduceAdd, Int.reduceSub, Int.reduceMul, Int.reduceNeg, Int.reduceToNat, Int.cast_ofNat_Int, Int.natCast_zero, Int.natCast_one, Int.toNat_natCast, Nat.reduceBEq]
  refine ⟨fun h => ?_, fun h => ?_⟩
  · rw [mdE, if_neg (by omega)]
  · rw [mdE, if_pos (by omega)]

/-- may it be left? -/
def rb (m : Nat) (a : Int) : Bool := decide (0 ≤ a ∧ a < 2 ^ (sz m - 1))
theorem p30 {m : Nat} (hm : m ≤ 2147483647) : 2 ^ (sz m - 1) ≤ 1073741824 := Nat.pow_le_pow_right (n := 2) (j := 30) (by omega) (by have := sz31 hm; omega)
theorem rest (m : Nat) (a : Int) (M : Mem) (h2 : 2 ≤ m) (hm : m ≤ 2147483647) :
    Meets Proofs.Try.prog 108 [.v (.int .i64 (m : Int)), .v (.int .i64 a)] M fun r _ _ => r = .v (.bool (rb m a)) := by
  refine Meets.of_body [0,1,4,5] Proofs.Try.func108 rfl (by kernel_rfl) rfl fun w => ?_
  simp only [Proofs.Try.f108, shs, zts, sos, sls, zss, eqs, sx, sb1, sb2, sb3, sb4, sb5, ↓reduceIte, Nat.reduceAdd, Nat.reduceMul, Nat.reduceDiv, Nat.reduceEqDiff, Nat.reduceLT, Nat.reduceLeDiff, reduceCtorEq, Int.reduceEq, Int.reduceNe, Int.reduceLT, Int.reduceLE, Int.reduceAdd, Int.reduceSub, Int.reduceMul, Int.reduceNeg, Int.reduceToNat, Int.cast_ofNat_Int, Int.natCast_zero, Int.natCast_one, Int.toNat_natCast, Nat.reduceBEq]
  refine CallK.pure ⟨rfl, rfl⟩ rfl (Deg m M hm) ?_
  have hs := sz31 hm
  have hs0 := sz_pos.2 (show m ≠ 0 by omega)
  have hp := p30 hm
  have e : ((sz m : Nat) : Int) - 1 = ((sz m - 1 : Nat) : Int) := by omega
  simp only [shs, zts, sos, sls, zss, eqs, sx, sb1, sb2, sb3, sb4, sb5, ↓reduceIte, Nat.reduceAdd, Nat.reduceMul, Nat.reduceDiv, Nat.reduceEqDiff, Nat.reduceLT, Nat.reduceLeDiff, reduceCtorEq, Int.reduceEq, Int.reduceNe, Int.reduceLT, Int.reduceLE, Int.reduceAdd, Int.reduceSub, Int.reduceMul, Int.reduceNeg, Int.reduceToNat, Int.cast_ofNat_Int, Int.natCast_zero, Int.natCast_one, Int.toNat_natCast, Nat.reduceBEq, e, inK, lo, hi, b64, pw, Int.one_mul]
  have h0 := Nat.two_pow_pos (sz m - 1)
  generalize hP : 2 ^ (sz m - 1) = P at hp h0
  refine ⟨fun h => ⟨h, by omega, by omega⟩, ?_⟩
  congr 2
  unfold rb
  rw [pw, hP]
  by_cases h : 0 ≤ a <;> simp [h]
theorem rrest (m : Nat) (a : Int) (M : Mem) (h2 : 2 ≤ m) (hm : m ≤ 2147483647) :
    Meets Proofs.Try.prog 62 [.v (.int .i64 (m : Int)), .v (.int .i64 a)] M fun r _ _ => r = .v (.bool (rb m a)) := by
  refine Meets.of_body [0,1,4] Proofs.Try.func62 rfl (by kernel_rfl) rfl fun w => ?_
  simp only [Proofs.Try.f62, shs, zts, sos, sls, zss, eqs, sx, sb1, sb2, sb3, sb4, sb5, ↓reduceIte, Nat.reduceAdd, Nat.reduceMul, Nat.reduceDiv, Nat.reduceEqDiff, Nat.reduceLT, Nat.reduceLeDiff, reduceCtorEq, Int.reduceEq, Int.reduceNe, Int.reduceLT, Int.reduceLE, Int.reduceAdd, Int.reduceSub, Int.reduceMul, Int.reduceNeg, Int.reduceToNat, Int.cast_ofNat_Int, Int.natCast_zero, Int.natCast_one, Int.toNat_natCast, Nat.reduceBEq]
  have hs := sz31 hm
  have hs0 := sz_pos.2 (show m ≠ 0 by omega)
  have hp := p30 hm
  have e : ((sz m : Nat) : Int) - 1 = ((sz m - 1 : Nat) : Int) := by omega
  refine CallK.row Ctx.id rfl rfl (coef m M (by omega)) fun v1 M1 hM1 hv1 => ?_
  have h0 := Nat.two_pow_pos (sz m - 1)
  have e2 : (1 : Int) * ((2 ^ (sz m - 1) : Nat) : Int) - 1 = ((2 ^ (sz m - 1) - 1 : Nat) : Int) := by omega
  simp only [shs, zts, sos, sls, zss, eqs, sx, sb1, sb2, sb3, sb4, sb5, ↓reduceIte, Nat.reduceAdd, Nat.reduceMul, Nat.reduceDiv, Nat.reduceEqDiff, Nat.reduceLT, Nat.reduceLeDiff, reduceCtorEq, Int.reduceEq, Int.reduceNe, Int.reduceLT, Int.reduceLE, Int.reduceAdd, Int.reduceSub, Int.reduceMul, Int.reduceNeg, Int.reduceToNat, Int.cast_ofNat_Int, Int.natCast_zero, Int.natCast_one, Int.toNat_natCast, Nat.reduceBEq, hv1.len, hv1.sl, List.length_map, bitsL_len, e, inK, lo, hi, b64, pw, e2]
  generalize hP : 2 ^ (sz m - 1) = P at hp h0
  refine ⟨by omega, by omega, by omega, CallK.pure ⟨rfl, rfl⟩ rfl (within a 0 _ M1) ?_⟩
  simp only [shs, zts, sos, sls, zss, eqs, sx, sb1, sb2, sb3, sb4, sb5, ↓reduceIte, Nat.reduceAdd, Nat.reduceMul, Nat.reduceDiv, Nat.reduceEqDiff, Nat.reduceLT, Nat.reduceLeDiff, reduceCtorEq, Int.reduceEq, Int.reduceNe, Int.reduceLT, Int.reduceLE, Int.reduceAdd, Int.reduceSub, Int.reduceMul, Int.reduceNeg, Int.reduceToNat, Int.cast_ofNat_Int, Int.natCast_zero, Int.natCast_one, Int.toNat_natCast, Nat.reduceBEq]
  congr 2
  unfold rb
  rw [pw, hP]
  simp only [decide_eq_decide]
  omega
theorem rb_nat {m : Nat} {a : Int} (hm : m ≤ 2147483647) (h : rb m a = true) : ∃ n : Nat, a = n ∧ n < 2 ^ (sz m - 1) ∧ n ≤ 1073741824 := by
  have hp := p30 hm
  unfold rb at h
  rw [pw] at h
  generalize hP : 2 ^ (sz m - 1) = P at hp h
  have := of_decide_eq_true h
  exact ⟨a.toNat, by omega, by omega, by omega⟩
theorem red_lt {m x : Nat} (h0 : m ≠ 0) : pmod x m < 2 ^ (sz m - 1) := sz_le.1 (by have := (divmod (a := x) h0).2; omega)
theorem red_le {m x : Nat} (h0 : m ≠ 0) (hm : m ≤ 2147483647) : pmod x m ≤ 1073741824 := Nat.le_trans (Nat.le_of_lt (red_lt h0)) (p30 hm)
theorem xor30 {a b : Nat} (ha : a < 2147483648) (hb : b < 2147483648) : a ^^^ b < 2147483648 := Nat.xor_lt_two_pow (n := 31) ha hb
theorem e8 (n : Nat) : (8 : Int) * (n : Int) = ((8 * n : Nat) : Int) := by omega

def joinV (m a b n : Nat) : Nat := pmod (mulp a (pmod (powp 2 (8 * n)) m)) m ^^^ b ^^^ pmod (powp 2 (8 * n)) m
theorem join_bad (m a b n : Int) (M : Mem) (h : m < 2 ∨ 2147483647 < m) :
    Meets Proofs.Try.prog 60 [.v (.int .i64 m), .v (.int .i64 a), .v (.int .i64 b), .v (.int .i64 n)] M fun r _ _ => r = .tup [.v (.int .i64 0), .v (.int .i64 1)] := by
  refine Meets.of_body [0,1,2,3,8,9,10,11,13,18,37] Proofs.Try.func60 rfl (by kernel_rfl) rfl fun w => ?_
  have e : mdE m = 1 := if_pos h
  simp only [Proofs.Try.f60, shs, zts, sos, sls, zss, eqs, sx, sb1, sb2, sb3, sb4, sb5, ↓reduceIte, Nat.reduceAdd, Nat.reduceMul, Nat.reduceDiv, Nat.reduceEqDiff, Nat.reduceLT, Nat.reduceLeDiff, reduceCtorEq, Int.reduceEq, Int.reduceNe, Int.reduceLT, Int.reduceLE, Int.reduceAdd, Int.reduceSub, Int.reduceMul, Int.reduceNeg, Int.reduceToNat, Int.cast_ofNat_Int, Int.natCast_zero, Int.natCast_one, Int.toNat_natCast, Nat.reduceBEq]
  refine CallK.pure ⟨rfl, rfl⟩ rfl (mod m M) ?_
  simp only [shs, zts, sos, sls, zss, eqs, sx, sb1, sb2, sb3, sb4, sb5, ↓reduceIte, Nat.reduceAdd, Nat.reduceMul, Nat.reduceDiv, Nat.reduceEqDiff, Nat.reduceLT, Nat.reduceLeDiff, reduceCtorEq, Int.reduceEq, Int.reduceNe, Int.reduceLT, Int.reduceLE, Int.reduceAdd, Int.reduceSub, Int.reduceMul, Int.reduceNeg, Int.reduceToNat, Int.cast_ofNat_Int, Int.natCast_zero, Int.natCast_one, Int.toNat_natCast, Nat.reduceBEq, e]
theorem mdE_ok {m : Nat} (h2 : 2 ≤ m) (hm : m ≤ 2147483647) : mdE m = 0 := if_neg (by omega)
theorem join_arg (m : Nat) (a b n : Int) (M : Mem) (h2 : 2 ≤ m) (hm : m ≤ 2147483647) (h : (rb m a && rb m b) = false ∨ (n < 0 ∨ 600 < n)) :
    Meets Proofs.Try.prog 60 [.v (.int .i64 (m : Int)), .v (.int .i64 a), .v (.int .i64 b), .v (.int .i64 n)] M fun r _ _ => r = .tup [.v (.int .i64 0), .v (.int .i64 1)] := by
  refine Meets.of_body [0,1,2,3,8,9,10,11,13,18,37] Proofs.Try.func60 rfl (by kernel_rfl) rfl fun w => ?_
  simp only [Proofs.Try.f60, shs, zts, sos, sls, zss, eqs, sx, sb1, sb2, sb3, sb4, sb5, ↓reduceIte, Nat.reduceAdd, Nat.reduceMul, Nat.reduceDiv, Nat.reduceEqDiff, Nat.reduceLT, Nat.reduceLeDiff, reduceCtorEq, Int.reduceEq, Int.reduceNe, Int.reduceLT, Int.reduceLE, Int.reduceAdd, Int.reduceSub, Int.reduceMul, Int.reduceNeg, Int.reduceToNat, Int.cast_ofNat_Int, Int.natCast_zero, Int.natCast_one, Int.toNat_natCast, Nat.reduceBEq]
  refine CallK.pure ⟨rfl, rfl⟩ rfl (mod m M) ?_
  simp only [shs, zts, sos, sls, zss, eqs, sx, sb1, sb2, sb3, sb4, sb5, ↓reduceIte, Nat.reduceAdd, Nat.reduceMul, Nat.reduceDiv, Nat.reduceEqDiff, Nat.reduceLT, Nat.reduceLeDiff, reduceCtorEq, Int.reduceEq, Int.reduceNe, Int.reduceLT, Int.reduceLE, Int.reduceAdd, Int.reduceSub, Int.reduceMul, Int.reduceNeg, Int.reduceToNat, Int.cast_ofNat_Int, Int.natCast_zero, Int.natCast_one, Int.toNat_natCast, Nat.reduceBEq, mdE_ok h2 hm]
  refine CallK.pure ⟨rfl, rfl⟩ rfl (rest m a M h2 hm) ?_
  cases h1 : rb m a
  · simp only [shs, zts, sos, sls, zss, eqs, sx, sb1, sb2, sb3, sb4, sb5, ↓reduceIte, Nat.reduceAdd, Nat.reduceMul, Nat.reduceDiv, Nat.reduceEqDiff, Nat.reduceLT, Nat.reduceLeDiff, reduceCtorEq, Int.reduceEq, Int.reduceNe, Int.reduceLT, Int.reduceLE, Int.reduceAdd, Int.reduceSub, Int.reduceMul, Int.reduceNeg, Int.reduceToNat, Int.cast_ofNat_Int, Int.natCast_zero, Int.natCast_one, Int.toNat_natCast, Nat.reduceBEq]
  · simp only [shs, zts, sos, sls, zss, eqs, sx, sb1, sb2, sb3, sb4, sb5, ↓reduceIte, Nat.reduceAdd, Nat.reduceMul, Nat.reduceDiv, Nat.reduceEqDiff, Nat.reduceLT, Nat.reduceLeDiff, reduceCtorEq, Int.reduceEq, Int.reduceNe, Int.reduceLT, Int.reduceLE, Int.reduceAdd, Int.reduceSub, Int.reduceMul, Int.reduceNeg, Int.reduceToNat, Int.cast_ofNat_Int, Int.natCast_zero, Int.natCast_one, Int.toNat_natCast, Nat.reduceBEq]
    refine CallK.pure ⟨rfl, rfl⟩ rfl (rest m b M h2 hm) ?_
    cases h3 : rb m b
    · simp only [shs, zts, sos, sls, zss, eqs, sx, sb1, sb2, sb3, sb4, sb5, ↓reduceIte, Nat.reduceAdd, Nat.reduceMul, Nat.reduceDiv, Nat.reduceEqDiff, Nat.reduceLT, Nat.reduceLeDiff, reduceCtorEq, Int.reduceEq, Int.reduceNe, Int.reduceLT, Int.reduceLE, Int.reduceAdd, Int.reduceSub, Int.reduceMul, Int.reduceNeg, Int.reduceToNat, Int.cast_ofNat_Int, Int.natCast_zero, Int.natCast_one, Int.toNat_natCast, Nat.reduceBEq]
    · rw [h1, h3] at h
      have h' : n < 0 ∨ 600 < n := h.resolve_left (by decide)
      simp only [shs, zts, sos, sls, zss, eqs, sx, sb1, sb2, sb3, sb4, sb5, ↓reduceIte, Nat.reduceAdd, Nat.reduceMul, Nat.reduceDiv, Nat.reduceEqDiff, Nat.reduceLT, Nat.reduceLeDiff, reduceCtorEq, Int.reduceEq, Int.reduceNe, Int.reduceLT, Int.reduceLE, Int.reduceAdd, Int.reduceSub, Int.reduceMul, Int.reduceNeg, Int.reduceToNat, Int.cast_ofNat_Int, Int.natCast_zero, Int.natCast_one, Int.toNat_natCast, Nat.reduceBEq]
      exact fun h4 => by omega
theorem join_ok (m a b n : Nat) (M : Mem) (h2 : 2 ≤ m) (hm : m ≤ 2147483647) (ha : rb m a = true) (hb : rb m b = true) (hn : n ≤ 600) :
    Meets Proofs.Try.prog 60 [.v (.int .i64 (m : Int)), .v (.int .i64 (a : Int)), .v (.int .i64 (b : Int)), .v (.int .i64 (n : Int))] M fun r _ _ => r = .tup [.v (.int .i64 ((joinV m a b n : Nat) : Int)), .v (.int .i64 0)] := by
  refine Meets.of_body [0,1,2,3,8,9,10,11,13,18,37] Proofs.Try.func60 rfl (by kernel_rfl) rfl fun w => ?_
  have h0 : m ≠ 0 := by omega
  obtain ⟨_, e1, _, ha'⟩ := rb_nat hm ha
  obtain ⟨_, e2, _, hb'⟩ := rb_nat hm hb
  have hp := red_le (x := powp 2 (8 * n)) h0 hm
  have hq := red_le (x := mulp a (pmod (powp 2 (8 * n)) m)) h0 hm
  have hx := xor30 (a := pmod (mulp a (pmod (powp 2 (8 * n)) m)) m) (b := b) (by omega) (by omega)
  simp only [Proofs.Try.f60, shs, zts, sos, sls, zss, eqs, sx, sb1, sb2, sb3, sb4, sb5, ↓reduceIte, Nat.reduceAdd, Nat.reduceMul, Nat.reduceDiv, Nat.reduceEqDiff, Nat.reduceLT, Nat.reduceLeDiff, reduceCtorEq, Int.reduceEq, Int.reduceNe, Int.reduceLT, Int.reduceLE, Int.reduceAdd, Int.reduceSub, Int.reduceMul, Int.reduceNeg, Int.reduceToNat, Int.cast_ofNat_Int, Int.natCast_zero, Int.natCast_one, Int.toNat_natCast, Nat.reduceBEq]
  refine CallK.pure ⟨rfl, rfl⟩ rfl (mod m M) ?_
  simp only [shs, zts, sos, sls, zss, eqs, sx, sb1, sb2, sb3, sb4, sb5, ↓reduceIte, Nat.reduceAdd, Nat.reduceMul, Nat.reduceDiv, Nat.reduceEqDiff, Nat.reduceLT, Nat.reduceLeDiff, reduceCtorEq, Int.reduceEq, Int.reduceNe, Int.reduceLT, Int.reduceLE, Int.reduceAdd, Int.reduceSub, Int.reduceMul, Int.reduceNeg, Int.reduceToNat, Int.cast_ofNat_Int, Int.natCast_zero, Int.natCast_one, Int.toNat_natCast, Nat.reduceBEq, mdE_ok h2 hm]
  refine CallK.pure ⟨rfl, rfl⟩ rfl (rest m a M h2 hm) ?_
  simp only [shs, zts, sos, sls, zss, eqs, sx, sb1, sb2, sb3, sb4, sb5, ↓reduceIte, Nat.reduceAdd, Nat.reduceMul, Nat.reduceDiv, Nat.reduceEqDiff, Nat.reduceLT, Nat.reduceLeDiff, reduceCtorEq, Int.reduceEq, Int.reduceNe, Int.reduceLT, Int.reduceLE, Int.reduceAdd, Int.reduceSub, Int.reduceMul, Int.reduceNeg, Int.reduceToNat, Int.cast_ofNat_Int, Int.natCast_zero, Int.natCast_one, Int.toNat_natCast, Nat.reduceBEq, ha]
  refine CallK.pure ⟨rfl, rfl⟩ rfl (rest m b M h2 hm) ?_
  simp only [shs, zts, sos, sls, zss, eqs, sx, sb1, sb2, sb3, sb4, sb5, ↓reduceIte, Nat.reduceAdd, Nat.reduceMul, Nat.reduceDiv, Nat.reduceEqDiff, Nat.reduceLT, Nat.reduceLeDiff, reduceCtorEq, Int.reduceEq, Int.reduceNe, Int.reduceLT, Int.reduceLE, Int.reduceAdd, Int.reduceSub, Int.reduceMul, Int.reduceNeg, Int.reduceToNat, Int.cast_ofNat_Int, Int.natCast_zero, Int.natCast_one, Int.toNat_natCast, Nat.reduceBEq, hb, e8, inK, lo, hi]
  refine ⟨fun h => by omega, fun _ => ⟨by omega, CallK.pure ⟨rfl, rfl⟩ rfl (modpow 2 (8 * n) m M (by omega) (by omega) hm h0) ?_⟩⟩
  simp only [shs, zts, sos, sls, zss, eqs, sx, sb1, sb2, sb3, sb4, sb5, ↓reduceIte, Nat.reduceAdd, Nat.reduceMul, Nat.reduceDiv, Nat.reduceEqDiff, Nat.reduceLT, Nat.reduceLeDiff, reduceCtorEq, Int.reduceEq, Int.reduceNe, Int.reduceLT, Int.reduceLE, Int.reduceAdd, Int.reduceSub, Int.reduceMul, Int.reduceNeg, Int.reduceToNat, Int.cast_ofNat_Int, Int.natCast_zero, Int.natCast_one, Int.toNat_natCast, Nat.reduceBEq]
  refine CallK.pure ⟨rfl, rfl⟩ rfl (modmul a _ m M (by omega) (by omega) hm h0) ?_
  simp only [shs, zts, sos, sls, zss, eqs, sx, sb1, sb2, sb3, sb4, sb5, ↓reduceIte, Nat.reduceAdd, Nat.reduceMul, Nat.reduceDiv, Nat.reduceEqDiff, Nat.reduceLT, Nat.reduceLeDiff, reduceCtorEq, Int.reduceEq, Int.reduceNe, Int.reduceLT, Int.reduceLE, Int.reduceAdd, Int.reduceSub, Int.reduceMul, Int.reduceNeg, Int.reduceToNat, Int.cast_ofNat_Int, Int.natCast_zero, Int.natCast_one, Int.toNat_natCast, Nat.reduceBEq, lo, hi, joinV]
  omega

def rollV (m a x y n : Nat) : Nat := pmod ((a ^^^ pmod (powp 2 (8 * n)) m ^^^ pmod (mulp x (pmod (powp 2 (8 * (n - 1))) m)) m) * 2 ^ 8 + y) m ^^^ pmod (powp 2 (8 * n)) m
theorem roll_bad (m a x y n : Int) (M : Mem) (h : m < 2 ∨ 2147483647 < m) :
    Meets Proofs.Try.prog 61 [.v (.int .i64 m), .v (.int .i64 a), .v (.int .i64 x), .v (.int .i64 y), .v (.int .i64 n)] M fun r _ _ => r = .tup [.v (.int .i64 0), .v (.int .i64 1)] := by
  refine Meets.of_body [0,1,2,3,4,10,11,12,13,15,17,20,24,53] Proofs.Try.func61 rfl (by kernel_rfl) rfl fun w => ?_
  have e : mdE m = 1 := if_pos h
  simp only [Proofs.Try.f61, shs, zts, sos, sls, zss, eqs, sx, sb1, sb2, sb3, sb4, sb5, ↓reduceIte, Nat.reduceAdd, Nat.reduceMul, Nat.reduceDiv, Nat.reduceEqDiff, Nat.reduceLT, Nat.reduceLeDiff, reduceCtorEq, Int.reduceEq, Int.reduceNe, Int.reduceLT, Int.reduceLE, Int.reduceAdd, Int.reduceSub, Int.reduceMul, Int.reduceNeg, Int.reduceToNat, Int.cast_ofNat_Int, Int.natCast_zero, Int.natCast_one, Int.toNat_natCast, Nat.reduceBEq]
  refine CallK.pure ⟨rfl, rfl⟩ rfl (mod m M) ?_
  simp only [shs, zts, sos, sls, zss, eqs, sx, sb1, sb2, sb3, sb4, sb5, ↓reduceIte, Nat.reduceAdd, Nat.reduceMul, Nat.reduceDiv, Nat.reduceEqDiff, Nat.reduceLT, Nat.reduceLeDiff, reduceCtorEq, Int.reduceEq, Int.reduceNe, Int.reduceLT, Int.reduceLE, Int.reduceAdd, Int.reduceSub, Int.reduceMul, Int.reduceNeg, Int.reduceToNat, Int.cast_ofNat_Int, Int.natCast_zero, Int.natCast_one, Int.toNat_natCast, Nat.reduceBEq, e]
def rollB (x y n : Int) : Prop := ((((x < 0 ∨ 255 < x) ∨ y < 0) ∨ 255 < y) ∨ n < 1) ∨ 600 < n
theorem roll_arg (m : Nat) (a x y n : Int) (M : Mem) (h2 : 2 ≤ m) (hm : m ≤ 2147483647) (h : rb m a = false ∨ rollB x y n) :
    Meets Proofs.Try.prog 61 [.v (.int .i64 (m : Int)), .v (.int .i64 a), .v (.int .i64 x), .v (.int .i64 y), .v (.int .i64 n)] M fun r _ _ => r = .tup [.v (.int .i64 0), .v (.int .i64 1)] := by
  refine Meets.of_body [0,1,2,3,4,10,11,12,13,15,17,20,24,53] Proofs.Try.func61 rfl (by kernel_rfl) rfl fun w => ?_
  simp only [Proofs.Try.f61, shs, zts, sos, sls, zss, eqs, sx, sb1, sb2, sb3, sb4, sb5, ↓reduceIte, Nat.reduceAdd, Nat.reduceMul, Nat.reduceDiv, Nat.reduceEqDiff, Nat.reduceLT, Nat.reduceLeDiff, reduceCtorEq, Int.reduceEq, Int.reduceNe, Int.reduceLT, Int.reduceLE, Int.reduceAdd, Int.reduceSub, Int.reduceMul, Int.reduceNeg, Int.reduceToNat, Int.cast_ofNat_Int, Int.natCast_zero, Int.natCast_one, Int.toNat_natCast, Nat.reduceBEq]
  refine CallK.pure ⟨rfl, rfl⟩ rfl (mod m M) ?_
  simp only [shs, zts, sos, sls, zss, eqs, sx, sb1, sb2, sb3, sb4, sb5, ↓reduceIte, Nat.reduceAdd, Nat.reduceMul, Nat.reduceDiv, Nat.reduceEqDiff, Nat.reduceLT, Nat.reduceLeDiff, reduceCtorEq, Int.reduceEq, Int.reduceNe, Int.reduceLT, Int.reduceLE, Int.reduceAdd, Int.reduceSub, Int.reduceMul, Int.reduceNeg, Int.reduceToNat, Int.cast_ofNat_Int, Int.natCast_zero, Int.natCast_one, Int.toNat_natCast, Nat.reduceBEq, mdE_ok h2 hm]
  refine CallK.pure ⟨rfl, rfl⟩ rfl (rest m a M h2 hm) ?_
  cases h1 : rb m a
  · simp only [shs, zts, sos, sls, zss, eqs, sx, sb1, sb2, sb3, sb4, sb5, ↓reduceIte, Nat.reduceAdd, Nat.reduceMul, Nat.reduceDiv, Nat.reduceEqDiff, Nat.reduceLT, Nat.reduceLeDiff, reduceCtorEq, Int.reduceEq, Int.reduceNe, Int.reduceLT, Int.reduceLE, Int.reduceAdd, Int.reduceSub, Int.reduceMul, Int.reduceNeg, Int.reduceToNat, Int.cast_ofNat_Int, Int.natCast_zero, Int.natCast_one, Int.toNat_natCast, Nat.reduceBEq]
  · rw [h1] at h
    have h' : rollB x y n := h.resolve_left (by decide)
    unfold rollB at h'
    simp only [shs, zts, sos, sls, zss, eqs, sx, sb1, sb2, sb3, sb4, sb5, ↓reduceIte, Nat.reduceAdd, Nat.reduceMul, Nat.reduceDiv, Nat.reduceEqDiff, Nat.reduceLT, Nat.reduceLeDiff, reduceCtorEq, Int.reduceEq, Int.reduceNe, Int.reduceLT, Int.reduceLE, Int.reduceAdd, Int.reduceSub, Int.reduceMul, Int.reduceNeg, Int.reduceToNat, Int.cast_ofNat_Int, Int.natCast_zero, Int.natCast_one, Int.toNat_natCast, Nat.reduceBEq]
    exact fun h4 => by omega
theorem roll_ok (m a x y n : Nat) (M : Mem) (h2 : 2 ≤ m) (hm : m ≤ 2147483647) (ha : rb m a = true) (hx : x ≤ 255) (hy : y ≤ 255) (hn1 : 1 ≤ n) (hn : n ≤ 600) :
    Meets Proofs.Try.prog 61 [.v (.int .i64 (m : Int)), .v (.int .i64 (a : Int)), .v (.int .i64 (x : Int)), .v (.int .i64 (y : Int)), .v (.int .i64 (n : Int))] M fun r _ _ => r = .tup [.v (.int .i64 ((rollV m a x y n : Nat) : Int)), .v (.int .i64 0)] := by
  refine Meets.of_body [0,1,2,3,4,10,11,12,13,15,17,20,24,53] Proofs.Try.func61 rfl (by kernel_rfl) rfl fun w => ?_
  have h0 : m ≠ 0 := by omega
  obtain ⟨_, e1, _, ha'⟩ := rb_nat hm ha
  have hp := red_le (x := powp 2 (8 * n)) h0 hm
  have hr := red_le (x := powp 2 (8 * (n - 1))) h0 hm
  have hq := red_le (x := mulp x (pmod (powp 2 (8 * (n - 1))) m)) h0 hm
  have hx1 := xor30 (a := a) (b := pmod (powp 2 (8 * n)) m) (by omega) (by omega)
  have hx2 := xor30 (a := a ^^^ pmod (powp 2 (8 * n)) m) (b := pmod (mulp x (pmod (powp 2 (8 * (n - 1))) m)) m) hx1 (by omega)
  have en : (n : Int) - 1 = ((n - 1 : Nat) : Int) := by omega
  simp only [Proofs.Try.f61, shs, zts, sos, sls, zss, eqs, sx, sb1, sb2, sb3, sb4, sb5, ↓reduceIte, Nat.reduceAdd, Nat.reduceMul, Nat.reduceDiv, Nat.reduceEqDiff, Nat.reduceLT, Nat.reduceLeDiff, reduceCtorEq, Int.reduceEq, Int.reduceNe, Int.reduceLT, Int.reduceLE, Int.reduceAdd, Int.reduceSub, Int.reduceMul, Int.reduceNeg, Int.reduceToNat, Int.cast_ofNat_Int, Int.natCast_zero, Int.natCast_one, Int.toNat_natCast, Nat.reduceBEq]
  refine CallK.pure ⟨rfl, rfl⟩ rfl (mod m M) ?_
  simp only [shs, zts, sos, sls, zss, eqs, sx, sb1, sb2, sb3, sb4, sb5, ↓reduceIte, Nat.reduceAdd, Nat.reduceMul, Nat.reduceDiv, Nat.reduceEqDiff, Nat.reduceLT, Nat.reduceLeDiff, reduceCtorEq, Int.reduceEq, Int.reduceNe, Int.reduceLT, Int.reduceLE, Int.reduceAdd, Int.reduceSub, Int.reduceMul, Int.reduceNeg, Int.reduceToNat, Int.cast_ofNat_Int, Int.natCast_zero, Int.natCast_one, Int.toNat_natCast, Nat.reduceBEq, mdE_ok h2 hm]
  refine CallK.pure ⟨rfl, rfl⟩ rfl (rest m a M h2 hm) ?_
  simp only [shs, zts, sos, sls, zss, eqs, sx, sb1, sb2, sb3, sb4, sb5, ↓reduceIte, Nat.reduceAdd, Nat.reduceMul, Nat.reduceDiv, Nat.reduceEqDiff, Nat.reduceLT, Nat.reduceLeDiff, reduceCtorEq, Int.reduceEq, Int.reduceNe, Int.reduceLT, Int.reduceLE, Int.reduceAdd, Int.reduceSub, Int.reduceMul, Int.reduceNeg, Int.reduceToNat, Int.cast_ofNat_Int, Int.natCast_zero, Int.natCast_one, Int.toNat_natCast, Nat.reduceBEq, ha, e8, inK, lo, hi]
  refine ⟨fun h => by omega, fun _ => ⟨by omega, CallK.pure ⟨rfl, rfl⟩ rfl (modpow 2 (8 * n) m M (by omega) (by omega) hm h0) ?_⟩⟩
  simp only [shs, zts, sos, sls, zss, eqs, sx, sb1, sb2, sb3, sb4, sb5, ↓reduceIte, Nat.reduceAdd, Nat.reduceMul, Nat.reduceDiv, Nat.reduceEqDiff, Nat.reduceLT, Nat.reduceLeDiff, reduceCtorEq, Int.reduceEq, Int.reduceNe, Int.reduceLT, Int.reduceLE, Int.reduceAdd, Int.reduceSub, Int.reduceMul, Int.reduceNeg, Int.reduceToNat, Int.cast_ofNat_Int, Int.natCast_zero, Int.natCast_one, Int.toNat_natCast, Nat.reduceBEq, en, e8, inK, lo, hi]
  refine ⟨by omega, by omega, CallK.pure ⟨rfl, rfl⟩ rfl (modpow 2 (8 * (n - 1)) m M (by omega) (by omega) hm h0) ?_⟩
  simp only [shs, zts, sos, sls, zss, eqs, sx, sb1, sb2, sb3, sb4, sb5, ↓reduceIte, Nat.reduceAdd, Nat.reduceMul, Nat.reduceDiv, Nat.reduceEqDiff, Nat.reduceLT, Nat.reduceLeDiff, reduceCtorEq, Int.reduceEq, Int.reduceNe, Int.reduceLT, Int.reduceLE, Int.reduceAdd, Int.reduceSub, Int.reduceMul, Int.reduceNeg, Int.reduceToNat, Int.cast_ofNat_Int, Int.natCast_zero, Int.natCast_one, Int.toNat_natCast, Nat.reduceBEq]
  refine CallK.pure ⟨rfl, rfl⟩ rfl (modmul x _ m M (by omega) (by omega) hm h0) ?_
  unfold rollV
  generalize pmod (powp 2 (8 * n)) m = P at *
  generalize pmod (mulp x (pmod (powp 2 (8 * (n - 1))) m)) m = Q at *
  have ho := or_low (p := a ^^^ P ^^^ Q) (c := y) (k := 8) (by omega)
  have hz := red_le (x := (a ^^^ P ^^^ Q) * 2 ^ 8 + y) h0 hm
  simp only [shs, zts, sos, sls, zss, eqs, sx, sb1, sb2, sb3, sb4, sb5, ↓reduceIte, Nat.reduceAdd, Nat.reduceMul, Nat.reduceDiv, Nat.reduceEqDiff, Nat.reduceLT, Nat.reduceLeDiff, reduceCtorEq, Int.reduceEq, Int.reduceNe, Int.reduceLT, Int.reduceLE, Int.reduceAdd, Int.reduceSub, Int.reduceMul, Int.reduceNeg, Int.reduceToNat, Int.cast_ofNat_Int, Int.natCast_zero, Int.natCast_one, Int.toNat_natCast, Nat.reduceBEq, lo, hi, inK, mw, b64u, uw (show a ^^^ P ^^^ Q < 18446744073709551616 by omega), uw (show y < 18446744073709551616 by omega), orw (show (a ^^^ P ^^^ Q) * 2 ^ 8 < 18446744073709551616 by omega) (show y < 18446744073709551616 by omega), ho]
  refine ⟨by omega, by omega, (fun h => by cases h), by omega, (fun h => by cases h), CallK.pure ⟨rfl, rfl⟩ rfl (over _ m M (by omega) hm h0) ?_⟩
  simp only [shs, zts, sos, sls, zss, eqs, sx, sb1, sb2, sb3, sb4, sb5, ↓reduceIte, Nat.reduceAdd, Nat.reduceMul, Nat.reduceDiv, Nat.reduceEqDiff, Nat.reduceLT, Nat.reduceLeDiff, reduceCtorEq, Int.reduceEq, Int.reduceNe, Int.reduceLT, Int.reduceLE, Int.reduceAdd, Int.reduceSub, Int.reduceMul, Int.reduceNeg, Int.reduceToNat, Int.cast_ofNat_Int, Int.natCast_zero, Int.natCast_one, Int.toNat_natCast, Nat.reduceBEq, lo, hi, iw (show pmod ((a ^^^ P ^^^ Q) * 2 ^ 8 + y) m < 9223372036854775808 by omega)]
  refine ⟨(fun h => by cases h), by omega⟩
end Go.X.Mv
