/- Products and powers of polynomials by a modulus; woollaw.PolyMods returns true. Conditions: none. -/
import Derived.Test.YtkhadbanpfngnaaPolyD
set_option linter.unusedSimpArgs false
set_option linter.unusedVariables false
set_option maxHeartbeats 4000000
set_option maxRecDepth 20000
namespace Go.X.Md
open Go Go.X Go.X.Pol Go.X.Pl Go.X.Rp Go.X.Pd

def powp (a : Nat) : Nat → Nat
  | 0 => 1
  | n + 1 => mulp (powp a n) a
theorem powp_one (a : Nat) : powp a 1 = a := mulp_one a
theorem powp_add (a n k : Nat) : powp a (n + k) = mulp (powp a n) (powp a k) := by
  induction k with
  | zero => rw [Nat.add_zero, powp, mulp_one_right]
  | succ k ih => rw [← Nat.add_assoc, powp, powp, ih, mulp_assoc]
theorem powp_sq (a n : Nat) : powp (mulp a a) n = powp a (n + n) := by
  induction n with
  | zero => rfl
  | succ n ih =>
    rw [powp, ih, show n + 1 + (n + 1) = (n + n) + 1 + 1 by omega, powp, powp, mulp_assoc]
theorem powp_mod {a m : Nat} (hm : m ≠ 0) (x n : Nat) : pmod (mulp x (powp (pmod a m) n)) m = pmod (mulp x (powp a n)) m := by
  induction n generalizing x with
  | zero => rfl
  | succ n ih =>
    rw [powp, powp, ← mulp_assoc, pmod_mul_right hm, mulp_comm (mulp x (powp (pmod a m) n)) a, ← mulp_assoc, ih, mulp_comm a x, mulp_assoc, mulp_comm a]

theorem modmul (a b m : Nat) (M : Mem) (ha : a ≤ 2147483647) (hb : b ≤ 2147483647) (hm : m ≤ 2147483647) (h0 : m ≠ 0) :
    Meets Proofs.Try.prog 44 [.v (.int .i64 (a : Int)), .v (.int .i64 (b : Int)), .v (.int .i64 (m : Int))] M fun r _ _ => r = .tup [.v (.int .i64 ((pmod (mulp a b) m : Nat) : Int)), .v (.int .i64 0)] := by
  refine Meets.of_body [0,1,2,6,7,8,9,11,16,21,24] Proofs.Try.func44 rfl (by kernel_rfl) rfl fun w => ?_
  have h62 := mulp_62 ha hb
  have hp := pmod_le (a := mulp a b) h0 hm
  simp only [Proofs.Try.f44, shs, zts, sos, sls, zss, eqs, sx, sb1, sb2, sb3, sb4, sb5, ↓reduceIte, Nat.reduceAdd, Nat.reduceMul, Nat.reduceDiv, Nat.reduceEqDiff, Nat.reduceLT, Nat.reduceLeDiff, reduceCtorEq, Int.reduceEq, Int.reduceNe, Int.reduceLT, Int.reduceLE, Int.reduceAdd, Int.reduceSub, Int.reduceMul, Int.reduceNeg, Int.reduceToNat, Int.cast_ofNat_Int, Int.natCast_zero, Int.natCast_one, Int.toNat_natCast, Nat.reduceBEq]
  refine CallK.pure ⟨rfl, rfl⟩ rfl (two a b M) ?_
  simp only [shs, zts, sos, sls, zss, eqs, sx, sb1, sb2, sb3, sb4, sb5, ↓reduceIte, Nat.reduceAdd, Nat.reduceMul, Nat.reduceDiv, Nat.reduceEqDiff, Nat.reduceLT, Nat.reduceLeDiff, reduceCtorEq, Int.reduceEq, Int.reduceNe, Int.reduceLT, Int.reduceLE, Int.reduceAdd, Int.reduceSub, Int.reduceMul, Int.reduceNeg, Int.reduceToNat, Int.cast_ofNat_Int, Int.natCast_zero, Int.natCast_one, Int.toNat_natCast, Nat.reduceBEq, er2_ok ha hb]
  refine CallK.pure ⟨rfl, rfl⟩ rfl (check m M) ?_
  simp only [shs, zts, sos, sls, zss, eqs, sx, sb1, sb2, sb3, sb4, sb5, ↓reduceIte, Nat.reduceAdd, Nat.reduceMul, Nat.reduceDiv, Nat.reduceEqDiff, Nat.reduceLT, Nat.reduceLeDiff, reduceCtorEq, Int.reduceEq, Int.reduceNe, Int.reduceLT, Int.reduceLE, Int.reduceAdd, Int.reduceSub, Int.reduceMul, Int.reduceNeg, Int.reduceToNat, Int.cast_ofNat_Int, Int.natCast_zero, Int.natCast_one, Int.toNat_natCast, Nat.reduceBEq, er_ok (show ¬ ((m : Int) < 0 ∨ 2147483647 < (m : Int)) by omega)]
  refine ⟨fun h => (h0 (by omega)).elim, fun _ => ?_⟩
  refine CallK.pure ⟨rfl, rfl⟩ rfl (times a b M ha hb) ?_
  simp only [shs, zts, sos, sls, zss, eqs, sx, sb1, sb2, sb3, sb4, sb5, ↓reduceIte, Nat.reduceAdd, Nat.reduceMul, Nat.reduceDiv, Nat.reduceEqDiff, Nat.reduceLT, Nat.reduceLeDiff, reduceCtorEq, Int.reduceEq, Int.reduceNe, Int.reduceLT, Int.reduceLE, Int.reduceAdd, Int.reduceSub, Int.reduceMul, Int.reduceNeg, Int.reduceToNat, Int.cast_ofNat_Int, Int.natCast_zero, Int.natCast_one, Int.toNat_natCast, Nat.reduceBEq]
  refine CallK.pure ⟨rfl, rfl⟩ rfl (over (mulp a b) m M (by omega) hm h0) ?_
  simp only [shs, zts, sos, sls, zss, eqs, sx, sb1, sb2, sb3, sb4, sb5, ↓reduceIte, Nat.reduceAdd, Nat.reduceMul, Nat.reduceDiv, Nat.reduceEqDiff, Nat.reduceLT, Nat.reduceLeDiff, reduceCtorEq, Int.reduceEq, Int.reduceNe, Int.reduceLT, Int.reduceLE, Int.reduceAdd, Int.reduceSub, Int.reduceMul, Int.reduceNeg, Int.reduceToNat, Int.cast_ofNat_Int, Int.natCast_zero, Int.natCast_one, Int.toNat_natCast, Nat.reduceBEq, iw (show pmod (mulp a b) m < 9223372036854775808 by omega)]
  exact fun h => by cases h

theorem powp_odd {x a n m : Nat} (hm : m ≠ 0) (h : n % 2 = 1) : pmod (mulp (pmod (mulp x a) m) (powp (pmod (mulp a a) m) (n / 2))) m = pmod (mulp x (powp a n)) m := by
  rw [powp_mod hm, pmod_mul_left hm, powp_sq, mulp_assoc]
  conv => rhs; rw [show n = 1 + (n / 2 + n / 2) by omega, powp_add, powp_one]
theorem powp_even {x a n m : Nat} (hm : m ≠ 0) (h : n % 2 = 0) : pmod (mulp x (powp (pmod (mulp a a) m) (n / 2))) m = pmod (mulp x (powp a n)) m := by
  rw [powp_mod hm, powp_sq]
  conv => rhs; rw [show n = n / 2 + n / 2 by omega]

theorem modpow (a n m : Nat) (M : Mem) (ha : a ≤ 2147483647) (hn : n ≤ 9223372036854775807) (hm : m ≤ 2147483647) (h0 : m ≠ 0) :
    Meets Proofs.Try.prog 45 [.v (.int .i64 (a : Int)), .v (.int .i64 (n : Int)), .v (.int .i64 (m : Int))] M fun r _ _ => r = .tup [.v (.int .i64 ((pmod (powp a n) m : Nat) : Int)), .v (.int .i64 0)] := by
  refine Meets.of_body [0,1,2,6,7,8,10,11,16,19,21,30,35] Proofs.Try.func45 rfl (by kernel_rfl) rfl fun w => ?_
  have hp1 := pmod_le (a := 1) h0 hm
  simp only [Proofs.Try.f45, shs, zts, sos, sls, zss, eqs, sx, sb1, sb2, sb3, sb4, sb5, ↓reduceIte, Nat.reduceAdd, Nat.reduceMul, Nat.reduceDiv, Nat.reduceEqDiff, Nat.reduceLT, Nat.reduceLeDiff, reduceCtorEq, Int.reduceEq, Int.reduceNe, Int.reduceLT, Int.reduceLE, Int.reduceAdd, Int.reduceSub, Int.reduceMul, Int.reduceNeg, Int.reduceToNat, Int.cast_ofNat_Int, Int.natCast_zero, Int.natCast_one, Int.toNat_natCast, Nat.reduceBEq]
  refine CallK.pure ⟨rfl, rfl⟩ rfl (two a m M) ?_
  simp only [shs, zts, sos, sls, zss, eqs, sx, sb1, sb2, sb3, sb4, sb5, ↓reduceIte, Nat.reduceAdd, Nat.reduceMul, Nat.reduceDiv, Nat.reduceEqDiff, Nat.reduceLT, Nat.reduceLeDiff, reduceCtorEq, Int.reduceEq, Int.reduceNe, Int.reduceLT, Int.reduceLE, Int.reduceAdd, Int.reduceSub, Int.reduceMul, Int.reduceNeg, Int.reduceToNat, Int.cast_ofNat_Int, Int.natCast_zero, Int.natCast_one, Int.toNat_natCast, Nat.reduceBEq, er2_ok ha hm]
  refine ⟨fun h => by omega, fun _ => ⟨fun h => (h0 (by omega)).elim, fun _ => ?_⟩⟩
  refine CallK.pure ⟨rfl, rfl⟩ rfl (over 1 m M (by omega) hm h0) ?_
  simp only [shs, zts, sos, sls, zss, eqs, sx, sb1, sb2, sb3, sb4, sb5, ↓reduceIte, Nat.reduceAdd, Nat.reduceMul, Nat.reduceDiv, Nat.reduceEqDiff, Nat.reduceLT, Nat.reduceLeDiff, reduceCtorEq, Int.reduceEq, Int.reduceNe, Int.reduceLT, Int.reduceLE, Int.reduceAdd, Int.reduceSub, Int.reduceMul, Int.reduceNeg, Int.reduceToNat, Int.cast_ofNat_Int, Int.natCast_zero, Int.natCast_one, Int.toNat_natCast, Nat.reduceBEq, iw (show pmod 1 m < 9223372036854775808 by omega)]
  refine ⟨(fun h => by cases h), ?_⟩
  generalize hc : pmod (powp a n) m = c
  refine LoopK.go (X := Nat × Nat × Nat) (fun p => ([(0, true, .v (.int .i64 (p.2.1 : Int))), (1, true, .v (.int .i64 (p.2.2 : Int))), (2, true, .v (.int .i64 m)), (11, true, .v (.int .i64 (p.1 : Int)))], [], M))
    (fun p => ((sz p.1 < sz m ∧ p.2.1 ≤ 2147483647) ∧ p.2.2 ≤ 9223372036854775807) ∧ pmod (mulp p.1 (powp p.2.1 p.2.2)) m = c) (fun p => p.2.2) (pmod 1 m, a, n)
    ⟨⟨⟨(divmod h0).2, ha⟩, hn⟩, by simp only; rw [pmod_mul_left h0, mulp_one]; exact hc⟩ (Ent.of ?_) ?_
  · simp only [sx, sb1, sb2, sb3, sb4, sb5, ↓reduceIte, Nat.reduceAdd, Nat.reduceMul, Nat.reduceDiv, Nat.reduceEqDiff, Nat.reduceLT, Nat.reduceLeDiff, reduceCtorEq, Int.reduceEq, Int.reduceNe, Int.reduceLT, Int.reduceLE, Int.reduceAdd, Int.reduceSub, Int.reduceMul, Int.reduceNeg, Int.reduceToNat, Int.cast_ofNat_Int, Int.natCast_zero, Int.natCast_one, Int.toNat_natCast, Nat.reduceBEq]
  rintro ⟨x, y, k⟩ ⟨⟨⟨h1, h2⟩, h3⟩, h4⟩
  simp only at h1 h2 h3 h4
  have hx : x ≤ 2147483647 := by
    have := sz31 hm
    have h5 : x < 2 ^ 31 := sz_le.1 (by omega)
    omega
  have hk : (k : Int) / 2 ^ 1 = ((k / 2 : Nat) : Int) := by omega
  simp only [shs, zts, sos, sls, zss, eqs, sx, sb1, sb2, sb3, sb4, sb5, ↓reduceIte, Nat.reduceAdd, Nat.reduceMul, Nat.reduceDiv, Nat.reduceEqDiff, Nat.reduceLT, Nat.reduceLeDiff, reduceCtorEq, Int.reduceEq, Int.reduceNe, Int.reduceLT, Int.reduceLE, Int.reduceAdd, Int.reduceSub, Int.reduceMul, Int.reduceNeg, Int.reduceToNat, Int.cast_ofNat_Int, Int.natCast_zero, Int.natCast_one, Int.toNat_natCast, Nat.reduceBEq, inK, lo, hi, b64, b64u, Nat.and_one_is_mod, hk]
  refine ⟨fun h => ?_, fun h => ?_⟩
  · refine ⟨by omega, fun h5 => ?_, fun h5 => ?_⟩
    · refine CallK.pure ⟨rfl, rfl⟩ rfl (modmul x y m M hx h2 hm h0) ?_
      simp only [shs, zts, sos, sls, zss, eqs, sx, sb1, sb2, sb3, sb4, sb5, ↓reduceIte, Nat.reduceAdd, Nat.reduceMul, Nat.reduceDiv, Nat.reduceEqDiff, Nat.reduceLT, Nat.reduceLeDiff, reduceCtorEq, Int.reduceEq, Int.reduceNe, Int.reduceLT, Int.reduceLE, Int.reduceAdd, Int.reduceSub, Int.reduceMul, Int.reduceNeg, Int.reduceToNat, Int.cast_ofNat_Int, Int.natCast_zero, Int.natCast_one, Int.toNat_natCast, Nat.reduceBEq]
      refine CallK.pure ⟨rfl, rfl⟩ rfl (modmul y y m M h2 h2 hm h0) ?_
      simp only [shs, zts, sos, sls, zss, eqs, sx, sb1, sb2, sb3, sb4, sb5, ↓reduceIte, Nat.reduceAdd, Nat.reduceMul, Nat.reduceDiv, Nat.reduceEqDiff, Nat.reduceLT, Nat.reduceLeDiff, reduceCtorEq, Int.reduceEq, Int.reduceNe, Int.reduceLT, Int.reduceLE, Int.reduceAdd, Int.reduceSub, Int.reduceMul, Int.reduceNeg, Int.reduceToNat, Int.cast_ofNat_Int, Int.natCast_zero, Int.natCast_one, Int.toNat_natCast, Nat.reduceBEq, hk, b64, inK, lo, hi]
      refine ⟨(pmod (mulp x y) m, pmod (mulp y y) m, k / 2), ⟨⟨⟨⟨(divmod h0).2, pmod_le h0 hm⟩, by simp only; omega⟩, ?_⟩, by simp only; omega⟩, Ent.of ?_⟩
      · simp only
        rw [powp_odd h0 (by omega)]
        exact h4
      · simp only [sx, sb1, sb2, sb3, sb4, sb5, ↓reduceIte, Nat.reduceAdd, Nat.reduceMul, Nat.reduceDiv, Nat.reduceEqDiff, Nat.reduceLT, Nat.reduceLeDiff, reduceCtorEq, Int.reduceEq, Int.reduceNe, Int.reduceLT, Int.reduceLE, Int.reduceAdd, Int.reduceSub, Int.reduceMul, Int.reduceNeg, Int.reduceToNat, Int.cast_ofNat_Int, Int.natCast_zero, Int.natCast_one, Int.toNat_natCast, Nat.reduceBEq]
    · refine CallK.pure ⟨rfl, rfl⟩ rfl (modmul y y m M h2 h2 hm h0) ?_
      simp only [shs, zts, sos, sls, zss, eqs, sx, sb1, sb2, sb3, sb4, sb5, ↓reduceIte, Nat.reduceAdd, Nat.reduceMul, Nat.reduceDiv, Nat.reduceEqDiff, Nat.reduceLT, Nat.reduceLeDiff, reduceCtorEq, Int.reduceEq, Int.reduceNe, Int.reduceLT, Int.reduceLE, Int.reduceAdd, Int.reduceSub, Int.reduceMul, Int.reduceNeg, Int.reduceToNat, Int.cast_ofNat_Int, Int.natCast_zero, Int.natCast_one, Int.toNat_natCast, Nat.reduceBEq, hk, b64, inK, lo, hi]
      refine ⟨(x, pmod (mulp y y) m, k / 2), ⟨⟨⟨⟨h1, pmod_le h0 hm⟩, by simp only; omega⟩, ?_⟩, by simp only; omega⟩, Ent.of ?_⟩
      · simp only
        rw [powp_even h0 (by omega)]
        exact h4
      · simp only [sx, sb1, sb2, sb3, sb4, sb5, ↓reduceIte, Nat.reduceAdd, Nat.reduceMul, Nat.reduceDiv, Nat.reduceEqDiff, Nat.reduceLT, Nat.reduceLeDiff, reduceCtorEq, Int.reduceEq, Int.reduceNe, Int.reduceLT, Int.reduceLE, Int.reduceAdd, Int.reduceSub, Int.reduceMul, Int.reduceNeg, Int.reduceToNat, Int.cast_ofNat_Int, Int.natCast_zero, Int.natCast_one, Int.toNat_natCast, Nat.reduceBEq]
  · have hk0 : k = 0 := by omega
    subst hk0
    rw [powp, mulp_one_right, pmod_small h1] at h4
    rw [h4]

theorem rmodmul (a b m : Nat) (M : Mem) (ha : a ≤ 2147483647) (hb : b ≤ 2147483647) (hm : m ≤ 2147483647) (h0 : m ≠ 0) :
    Meets Proofs.Try.prog 46 [.v (.int .i64 (a : Int)), .v (.int .i64 (b : Int)), .v (.int .i64 (m : Int))] M fun r _ _ => r = .v (.int .i64 ((pmod (mulp a b) m : Nat) : Int)) := by
  refine Meets.of_body [0,1,2,6,8] Proofs.Try.func46 rfl (by kernel_rfl) rfl fun w => ?_
  have hd := (divmod (a := mulp a b) h0).2
  have h62 := mulp_62 ha hb
  have hz : sz (mulp a b) ≤ 62 := sz_le.2 (by omega)
  have hm31 := sz31 hm
  simp only [Proofs.Try.f46, shs, zts, sos, sls, zss, eqs, sx, sb1, sb2, sb3, sb4, sb5, ↓reduceIte, Nat.reduceAdd, Nat.reduceMul, Nat.reduceDiv, Nat.reduceEqDiff, Nat.reduceLT, Nat.reduceLeDiff, reduceCtorEq, Int.reduceEq, Int.reduceNe, Int.reduceLT, Int.reduceLE, Int.reduceAdd, Int.reduceSub, Int.reduceMul, Int.reduceNeg, Int.reduceToNat, Int.cast_ofNat_Int, Int.natCast_zero, Int.natCast_one, Int.toNat_natCast, Nat.reduceBEq]
  refine CallK.row Ctx.id rfl rfl (coef a M (by omega)) fun v1 M1 hM1 hv1 => ?_
  simp only [shs, zts, sos, sls, zss, eqs, sx, sb1, sb2, sb3, sb4, sb5, ↓reduceIte, Nat.reduceAdd, Nat.reduceMul, Nat.reduceDiv, Nat.reduceEqDiff, Nat.reduceLT, Nat.reduceLeDiff, reduceCtorEq, Int.reduceEq, Int.reduceNe, Int.reduceLT, Int.reduceLE, Int.reduceAdd, Int.reduceSub, Int.reduceMul, Int.reduceNeg, Int.reduceToNat, Int.cast_ofNat_Int, Int.natCast_zero, Int.natCast_one, Int.toNat_natCast, Nat.reduceBEq]
  refine CallK.row Ctx.id rfl rfl (coef b M1 (by omega)) fun v2 M2 hM2 hv2 => ?_
  simp only [shs, zts, sos, sls, zss, eqs, sx, sb1, sb2, sb3, sb4, sb5, ↓reduceIte, Nat.reduceAdd, Nat.reduceMul, Nat.reduceDiv, Nat.reduceEqDiff, Nat.reduceLT, Nat.reduceLeDiff, reduceCtorEq, Int.reduceEq, Int.reduceNe, Int.reduceLT, Int.reduceLE, Int.reduceAdd, Int.reduceSub, Int.reduceMul, Int.reduceNeg, Int.reduceToNat, Int.cast_ofNat_Int, Int.natCast_zero, Int.natCast_one, Int.toNat_natCast, Nat.reduceBEq]
  refine CallK.row Ctx.id rfl rfl (prod v1 v2 _ _ a b M2 (hv1.le hM2) hv2 (lt_two_sz a) (lt_two_sz b) (Nat.le_trans (sz31 ha) (by omega)) (Nat.le_trans (sz31 hb) (by omega))) fun v3 M3 hM3 hv3 => ?_
  simp only [shs, zts, sos, sls, zss, eqs, sx, sb1, sb2, sb3, sb4, sb5, ↓reduceIte, Nat.reduceAdd, Nat.reduceMul, Nat.reduceDiv, Nat.reduceEqDiff, Nat.reduceLT, Nat.reduceLeDiff, reduceCtorEq, Int.reduceEq, Int.reduceNe, Int.reduceLT, Int.reduceLE, Int.reduceAdd, Int.reduceSub, Int.reduceMul, Int.reduceNeg, Int.reduceToNat, Int.cast_ofNat_Int, Int.natCast_zero, Int.natCast_one, Int.toNat_natCast, Nat.reduceBEq]
  refine CallK.row Ctx.id rfl rfl (coef m M3 (by omega)) fun v4 M4 hM4 hv4 => ?_
  simp only [shs, zts, sos, sls, zss, eqs, sx, sb1, sb2, sb3, sb4, sb5, ↓reduceIte, Nat.reduceAdd, Nat.reduceMul, Nat.reduceDiv, Nat.reduceEqDiff, Nat.reduceLT, Nat.reduceLeDiff, reduceCtorEq, Int.reduceEq, Int.reduceNe, Int.reduceLT, Int.reduceLE, Int.reduceAdd, Int.reduceSub, Int.reduceMul, Int.reduceNeg, Int.reduceToNat, Int.cast_ofNat_Int, Int.natCast_zero, Int.natCast_one, Int.toNat_natCast, Nat.reduceBEq]
  refine CallK.row2 rfl rfl (left v3 v4 _ _ m M4 (hv3.le hM4) hv4 (lt_two_sz _) h0 (by omega)) fun v5 v6 M5 hM5 hv5 hv6 => ?_
  simp only [shs, zts, sos, sls, zss, eqs, sx, sb1, sb2, sb3, sb4, sb5, ↓reduceIte, Nat.reduceAdd, Nat.reduceMul, Nat.reduceDiv, Nat.reduceEqDiff, Nat.reduceLT, Nat.reduceLeDiff, reduceCtorEq, Int.reduceEq, Int.reduceNe, Int.reduceLT, Int.reduceLE, Int.reduceAdd, Int.reduceSub, Int.reduceMul, Int.reduceNeg, Int.reduceToNat, Int.cast_ofNat_Int, Int.natCast_zero, Int.natCast_one, Int.toNat_natCast, Nat.reduceBEq]
  refine CallK.pure ⟨rfl, rfl⟩ rfl (num v6 _ (pmod (mulp a b) m) M5 hv6 (by omega) (lt_two_sz _)) ?_
  simp only [shs, zts, sos, sls, zss, eqs, sx, sb1, sb2, sb3, sb4, sb5, ↓reduceIte, Nat.reduceAdd, Nat.reduceMul, Nat.reduceDiv, Nat.reduceEqDiff, Nat.reduceLT, Nat.reduceLeDiff, reduceCtorEq, Int.reduceEq, Int.reduceNe, Int.reduceLT, Int.reduceLE, Int.reduceAdd, Int.reduceSub, Int.reduceMul, Int.reduceNeg, Int.reduceToNat, Int.cast_ofNat_Int, Int.natCast_zero, Int.natCast_one, Int.toNat_natCast, Nat.reduceBEq]

theorem rmodpow : ∀ (N a n m : Nat) (M : Mem), n ≤ N → n ≤ 9223372036854775807 → a ≤ 2147483647 → m ≤ 2147483647 → m ≠ 0 →
    Meets Proofs.Try.prog 47 [.v (.int .i64 (a : Int)), .v (.int .i64 (n : Int)), .v (.int .i64 (m : Int))] M fun r _ _ => r = .v (.int .i64 ((pmod (powp a n) m : Nat) : Int))
  | N, a, n, m, M, hN, hn, ha, hm, h0 => by
    refine Meets.of_body [0,1,2,6,7,9,23] Proofs.Try.func47 rfl (by kernel_rfl) rfl fun w => ?_
    simp only [Proofs.Try.f47, shs, zts, sos, sls, zss, eqs, sx, sb1, sb2, sb3, sb4, sb5, ↓reduceIte, Nat.reduceAdd, Nat.reduceMul, Nat.reduceDiv, Nat.reduceEqDiff, Nat.reduceLT, Nat.reduceLeDiff, reduceCtorEq, Int.reduceEq, Int.reduceNe, Int.reduceLT, Int.reduceLE, Int.reduceAdd, Int.reduceSub, Int.reduceMul, Int.reduceNeg, Int.reduceToNat, Int.cast_ofNat_Int, Int.natCast_zero, Int.natCast_one, Int.toNat_natCast, Nat.reduceBEq, td2, tm2, inK, lo, hi]
    refine ⟨fun h => ?_, fun h => ?_⟩
    · have hn : n = 0 := by omega
      subst hn
      refine CallK.pure ⟨rfl, rfl⟩ rfl (rmodmul 1 1 m M (by omega) (by omega) hm h0) ?_
      simp only [shs, zts, sos, sls, zss, eqs, sx, sb1, sb2, sb3, sb4, sb5, ↓reduceIte, Nat.reduceAdd, Nat.reduceMul, Nat.reduceDiv, Nat.reduceEqDiff, Nat.reduceLT, Nat.reduceLeDiff, reduceCtorEq, Int.reduceEq, Int.reduceNe, Int.reduceLT, Int.reduceLE, Int.reduceAdd, Int.reduceSub, Int.reduceMul, Int.reduceNeg, Int.reduceToNat, Int.cast_ofNat_Int, Int.natCast_zero, Int.natCast_one, Int.toNat_natCast, Nat.reduceBEq, powp, mulp_one]
    · obtain ⟨N, rfl⟩ : ∃ K, N = K + 1 := ⟨N - 1, by omega⟩
      refine ⟨i64N (by omega), ?_⟩
      refine CallK.pure ⟨rfl, rfl⟩ rfl (rmodpow N a (n / 2) m M (by omega) (by omega) ha hm h0) ?_
      have hp := pmod_le (a := powp a (n / 2)) h0 hm
      simp only [shs, zts, sos, sls, zss, eqs, sx, sb1, sb2, sb3, sb4, sb5, ↓reduceIte, Nat.reduceAdd, Nat.reduceMul, Nat.reduceDiv, Nat.reduceEqDiff, Nat.reduceLT, Nat.reduceLeDiff, reduceCtorEq, Int.reduceEq, Int.reduceNe, Int.reduceLT, Int.reduceLE, Int.reduceAdd, Int.reduceSub, Int.reduceMul, Int.reduceNeg, Int.reduceToNat, Int.cast_ofNat_Int, Int.natCast_zero, Int.natCast_one, Int.toNat_natCast, Nat.reduceBEq]
      refine CallK.pure ⟨rfl, rfl⟩ rfl (rmodmul _ _ m M hp hp hm h0) ?_
      have hq := pmod_le (a := mulp (pmod (powp a (n / 2)) m) (pmod (powp a (n / 2)) m)) h0 hm
      have e : pmod (mulp (pmod (powp a (n / 2)) m) (pmod (powp a (n / 2)) m)) m = pmod (powp a (n / 2 + n / 2)) m := by
        rw [pmod_mul_left h0, pmod_mul_right h0, ← powp_add]
      rw [e] at hq
      simp only [shs, zts, sos, sls, zss, eqs, sx, sb1, sb2, sb3, sb4, sb5, ↓reduceIte, Nat.reduceAdd, Nat.reduceMul, Nat.reduceDiv, Nat.reduceEqDiff, Nat.reduceLT, Nat.reduceLeDiff, reduceCtorEq, Int.reduceEq, Int.reduceNe, Int.reduceLT, Int.reduceLE, Int.reduceAdd, Int.reduceSub, Int.reduceMul, Int.reduceNeg, Int.reduceToNat, Int.cast_ofNat_Int, Int.natCast_zero, Int.natCast_one, Int.toNat_natCast, Nat.reduceBEq, tm2, e]
      refine ⟨fun h5 => ?_, fun h5 => ?_⟩
      · refine CallK.pure ⟨rfl, rfl⟩ rfl (rmodmul _ a m M hq ha hm h0) ?_
        simp only [shs, zts, sos, sls, zss, eqs, sx, sb1, sb2, sb3, sb4, sb5, ↓reduceIte, Nat.reduceAdd, Nat.reduceMul, Nat.reduceDiv, Nat.reduceEqDiff, Nat.reduceLT, Nat.reduceLeDiff, reduceCtorEq, Int.reduceEq, Int.reduceNe, Int.reduceLT, Int.reduceLE, Int.reduceAdd, Int.reduceSub, Int.reduceMul, Int.reduceNeg, Int.reduceToNat, Int.cast_ofNat_Int, Int.natCast_zero, Int.natCast_one, Int.toNat_natCast, Nat.reduceBEq]
        rw [pmod_mul_left h0, show mulp (powp a (n / 2 + n / 2)) a = powp a (n / 2 + n / 2 + 1) from rfl, show n / 2 + n / 2 + 1 = n by omega]
      · rw [show n / 2 + n / 2 = n by omega]

/-- the errors of ModMul and ModPow, in their order -/
def mmE (a b m : Int) : Int := if a < 0 ∨ 2147483647 < a then 1 else if b < 0 ∨ 2147483647 < b then 1 else if m < 0 ∨ 2147483647 < m then 1 else if m = 0 then 10 else 0
theorem modmul_bad (a b m : Int) (M : Mem) (h : mmE a b m ≠ 0) :
    Meets Proofs.Try.prog 44 [.v (.int .i64 a), .v (.int .i64 b), .v (.int .i64 m)] M fun r _ _ => r = .tup [.v (.int .i64 0), .v (.int .i64 (mmE a b m))] := by
  refine Meets.of_body [0,1,2,6,7,8,9,11,16,21,24] Proofs.Try.func44 rfl (by kernel_rfl) rfl fun w => ?_
  generalize hc : mmE a b m = c at h
  simp only [Proofs.Try.f44, shs, zts, sos, sls, zss, eqs, sx, sb1, sb2, sb3, sb4, sb5, ↓reduceIte, Nat.reduceAdd, Nat.reduceMul, Nat.reduceDiv, Nat.reduceEqDiff, Nat.reduceLT, Nat.reduceLeDiff, reduceCtorEq, Int.reduceEq, Int.reduceNe, Int.reduceLT, Int.reduceLE, Int.reduceAdd, Int.reduceSub, Int.reduceMul, Int.reduceNeg, Int.reduceToNat, Int.cast_ofNat_Int, Int.natCast_zero, Int.natCast_one, Int.toNat_natCast, Nat.reduceBEq]
  refine CallK.pure ⟨rfl, rfl⟩ rfl (two a b M) ?_
  simp only [shs, zts, sos, sls, zss, eqs, sx, sb1, sb2, sb3, sb4, sb5, ↓reduceIte, Nat.reduceAdd, Nat.reduceMul, Nat.reduceDiv, Nat.reduceEqDiff, Nat.reduceLT, Nat.reduceLeDiff, reduceCtorEq, Int.reduceEq, Int.reduceNe, Int.reduceLT, Int.reduceLE, Int.reduceAdd, Int.reduceSub, Int.reduceMul, Int.reduceNeg, Int.reduceToNat, Int.cast_ofNat_Int, Int.natCast_zero, Int.natCast_one, Int.toNat_natCast, Nat.reduceBEq]
  by_cases h1 : (a < 0 ∨ 2147483647 < a) ∨ (b < 0 ∨ 2147483647 < b)
  · have : c = 1 := by
      rw [← hc, mmE]
      split
      · rfl
      · rw [if_pos (by omega)]
    simp only [er2_bad h1, this, sx, sb1, sb2, sb3, sb4, sb5, ↓reduceIte, Nat.reduceAdd, Nat.reduceMul, Nat.reduceDiv, Nat.reduceEqDiff, Nat.reduceLT, Nat.reduceLeDiff, reduceCtorEq, Int.reduceEq, Int.reduceNe, Int.reduceLT, Int.reduceLE, Int.reduceAdd, Int.reduceSub, Int.reduceMul, Int.reduceNeg, Int.reduceToNat, Int.cast_ofNat_Int, Int.natCast_zero, Int.natCast_one, Int.toNat_natCast, Nat.reduceBEq]
  · have h2 : er2 a b = 0 := by unfold er2; rw [if_neg (by omega), er_ok (by omega)]
    simp only [h2, sx, sb1, sb2, sb3, sb4, sb5, ↓reduceIte, Nat.reduceAdd, Nat.reduceMul, Nat.reduceDiv, Nat.reduceEqDiff, Nat.reduceLT, Nat.reduceLeDiff, reduceCtorEq, Int.reduceEq, Int.reduceNe, Int.reduceLT, Int.reduceLE, Int.reduceAdd, Int.reduceSub, Int.reduceMul, Int.reduceNeg, Int.reduceToNat, Int.cast_ofNat_Int, Int.natCast_zero, Int.natCast_one, Int.toNat_natCast, Nat.reduceBEq]
    rw [mmE, if_neg (by omega), if_neg (by omega)] at hc
    refine CallK.pure ⟨rfl, rfl⟩ rfl (check m M) ?_
    simp only [shs, zts, sos, sls, zss, eqs, sx, sb1, sb2, sb3, sb4, sb5, ↓reduceIte, Nat.reduceAdd, Nat.reduceMul, Nat.reduceDiv, Nat.reduceEqDiff, Nat.reduceLT, Nat.reduceLeDiff, reduceCtorEq, Int.reduceEq, Int.reduceNe, Int.reduceLT, Int.reduceLE, Int.reduceAdd, Int.reduceSub, Int.reduceMul, Int.reduceNeg, Int.reduceToNat, Int.cast_ofNat_Int, Int.natCast_zero, Int.natCast_one, Int.toNat_natCast, Nat.reduceBEq]
    by_cases h3 : m < 0 ∨ 2147483647 < m
    · rw [if_pos h3] at hc
      simp only [er_bad h3, ← hc, sx, sb1, sb2, sb3, sb4, sb5, ↓reduceIte, Nat.reduceAdd, Nat.reduceMul, Nat.reduceDiv, Nat.reduceEqDiff, Nat.reduceLT, Nat.reduceLeDiff, reduceCtorEq, Int.reduceEq, Int.reduceNe, Int.reduceLT, Int.reduceLE, Int.reduceAdd, Int.reduceSub, Int.reduceMul, Int.reduceNeg, Int.reduceToNat, Int.cast_ofNat_Int, Int.natCast_zero, Int.natCast_one, Int.toNat_natCast, Nat.reduceBEq]
    · rw [if_neg h3] at hc
      simp only [er_ok h3, sx, sb1, sb2, sb3, sb4, sb5, ↓reduceIte, Nat.reduceAdd, Nat.reduceMul, Nat.reduceDiv, Nat.reduceEqDiff, Nat.reduceLT, Nat.reduceLeDiff, reduceCtorEq, Int.reduceEq, Int.reduceNe, Int.reduceLT, Int.reduceLE, Int.reduceAdd, Int.reduceSub, Int.reduceMul, Int.reduceNeg, Int.reduceToNat, Int.cast_ofNat_Int, Int.natCast_zero, Int.natCast_one, Int.toNat_natCast, Nat.reduceBEq]
      refine ⟨fun h4 => ?_, fun h4 => ?_⟩
      · rw [if_pos (by omega)] at hc
        rw [hc]
      · rw [if_neg (by omega)] at hc
        exact (h hc.symm).elim
def mpE (a n m : Int) : Int := if a < 0 ∨ 2147483647 < a then 1 else if m < 0 ∨ 2147483647 < m then 1 else if n < 0 then 1 else if m = 0 then 10 else 0
theorem modpow_bad (a n m : Int) (M : Mem) (h : mpE a n m ≠ 0) :
    Meets Proofs.Try.prog 45 [.v (.int .i64 a), .v (.int .i64 n), .v (.int .i64 m)] M fun r _ _ => r = .tup [.v (.int .i64 0), .v (.int .i64 (mpE a n m))] := by
  refine Meets.of_body [0,1,2,6,7,8,10,11,16,19,21,30,35] Proofs.Try.func45 rfl (by kernel_rfl) rfl fun w => ?_
  generalize hc : mpE a n m = c at h
  simp only [Proofs.Try.f45, shs, zts, sos, sls, zss, eqs, sx, sb1, sb2, sb3, sb4, sb5, ↓reduceIte, Nat.reduceAdd, Nat.reduceMul, Nat.reduceDiv, Nat.reduceEqDiff, Nat.reduceLT, Nat.reduceLeDiff, reduceCtorEq, Int.reduceEq, Int.reduceNe, Int.reduceLT, Int.reduceLE, Int.reduceAdd, Int.reduceSub, Int.reduceMul, Int.reduceNeg, Int.reduceToNat, Int.cast_ofNat_Int, Int.natCast_zero, Int.natCast_one, Int.toNat_natCast, Nat.reduceBEq]
  refine CallK.pure ⟨rfl, rfl⟩ rfl (two a m M) ?_
  simp only [shs, zts, sos, sls, zss, eqs, sx, sb1, sb2, sb3, sb4, sb5, ↓reduceIte, Nat.reduceAdd, Nat.reduceMul, Nat.reduceDiv, Nat.reduceEqDiff, Nat.reduceLT, Nat.reduceLeDiff, reduceCtorEq, Int.reduceEq, Int.reduceNe, Int.reduceLT, Int.reduceLE, Int.reduceAdd, Int.reduceSub, Int.reduceMul, Int.reduceNeg, Int.reduceToNat, Int.cast_ofNat_Int, Int.natCast_zero, Int.natCast_one, Int.toNat_natCast, Nat.reduceBEq]
  by_cases h1 : (a < 0 ∨ 2147483647 < a) ∨ (m < 0 ∨ 2147483647 < m)
  · have : c = 1 := by
      rw [← hc, mpE]
      split
      · rfl
      · rw [if_pos (by omega)]
    simp only [er2_bad h1, this, sx, sb1, sb2, sb3, sb4, sb5, ↓reduceIte, Nat.reduceAdd, Nat.reduceMul, Nat.reduceDiv, Nat.reduceEqDiff, Nat.reduceLT, Nat.reduceLeDiff, reduceCtorEq, Int.reduceEq, Int.reduceNe, Int.reduceLT, Int.reduceLE, Int.reduceAdd, Int.reduceSub, Int.reduceMul, Int.reduceNeg, Int.reduceToNat, Int.cast_ofNat_Int, Int.natCast_zero, Int.natCast_one, Int.toNat_natCast, Nat.reduceBEq]
  · have h2 : er2 a m = 0 := by unfold er2; rw [if_neg (by omega), er_ok (by omega)]
    simp only [h2, sx, sb1, sb2, sb3, sb4, sb5, ↓reduceIte, Nat.reduceAdd, Nat.reduceMul, Nat.reduceDiv, Nat.reduceEqDiff, Nat.reduceLT, Nat.reduceLeDiff, reduceCtorEq, Int.reduceEq, Int.reduceNe, Int.reduceLT, Int.reduceLE, Int.reduceAdd, Int.reduceSub, Int.reduceMul, Int.reduceNeg, Int.reduceToNat, Int.cast_ofNat_Int, Int.natCast_zero, Int.natCast_one, Int.toNat_natCast, Nat.reduceBEq]
    rw [mpE, if_neg (by omega), if_neg (by omega)] at hc
    refine ⟨fun h3 => ?_, fun h3 => ⟨fun h4 => ?_, fun h4 => ?_⟩⟩
    · rw [if_pos (by omega)] at hc
      rw [hc]
    · rw [if_neg (by omega), if_pos (by omega)] at hc
      rw [hc]
    · rw [if_neg (by omega), if_neg (by omega)] at hc
      exact (h hc.symm).elim

end Go.X.Md
