/- The functions of package poly, and what woolref says of polynomials: what each returns. Conditions: none. -/
import Derived.Test.YtbnbimncladflaaFwC
import Derived.Test.YtbnbimncladflaaPol
set_option linter.unusedSimpArgs false
set_option linter.unusedVariables false
set_option maxHeartbeats 4000000
set_option maxRecDepth 20000
namespace Go.X.Pl
open Go Go.X Go.X.Pol

theorem sz_shift {x k : Nat} (h : 2 ^ k ≤ x) : sz x = k + sz (x / 2 ^ k) := by
  have h0 := Nat.two_pow_pos k
  have h1 : x / 2 ^ k ≠ 0 := Nat.ne_of_gt (Nat.div_pos h h0)
  obtain ⟨h2, h3, h4⟩ := sz_rng h1
  have h5 := Nat.div_mul_le_self x (2 ^ k)
  have h6 : 2 ^ (sz (x / 2 ^ k) - 1) * 2 ^ k ≤ x := Nat.le_trans (Nat.mul_le_mul_right _ h2) h5
  have h7 : x < 2 ^ sz (x / 2 ^ k) * 2 ^ k := (Nat.div_lt_iff_lt_mul h0).1 h3
  rw [← Nat.pow_add] at h6 h7
  rw [sz_eq (k := sz (x / 2 ^ k) - 1 + k) h6 (by rw [show sz (x / 2 ^ k) - 1 + k + 1 = sz (x / 2 ^ k) + k by omega]; exact h7)]
  omega

def tabB (T : List UInt8) : Bool := T.length == 256 && (List.range 256).all fun i => strIx T (i : Int) == (sz i : Int)
theorem tab (T : List UInt8) (hT : tabB T = true) (c y : Int) (n x : Nat) (hy : y = (n : Int)) (hn : n < 256) (hx : (sz x : Int) = c + sz n) (hc : 0 ≤ c ∧ c ≤ 56) :
    Shp.int IntKind.u64 ≠ Shp.bad ∧ (0 ≤ IntKind.u8.wrap y ∧ IntKind.u8.wrap y < (T.length : Int)) ∧ Shp.int IntKind.u8 ≠ Shp.bad ∧ inK IntKind.i64 (c + IntKind.i64.wrap (strIx T (IntKind.u8.wrap y))) ∧
      SV.v (Value.int IntKind.i64 (c + IntKind.i64.wrap (strIx T (IntKind.u8.wrap y)))) = SV.v (Value.int IntKind.i64 ((sz x : Nat) : Int)) := by
  simp only [tabB, Bool.and_eq_true, beq_iff_eq, List.all_eq_true, List.mem_range] at hT
  obtain ⟨h1, h2⟩ := hT
  have h3 := h2 n hn
  have h4 : IntKind.u8.wrap y = (n : Int) := by rw [hy]; exact wrap_in (k := .u8) ⟨by simp only [lo]; omega, by simp only [hi]; omega⟩
  have h5 : sz n ≤ 8 := sz_le.2 (by omega)
  rw [h4, h3, h1, wrap_in (k := .i64) (n := ((sz n : Nat) : Int)) ⟨by simp only [lo]; omega, by simp only [hi]; omega⟩, hx]
  exact ⟨(fun h => by cases h), ⟨by omega, by omega⟩, (fun h => by cases h), ⟨by simp only [lo]; omega, by simp only [hi]; omega⟩, rfl⟩
theorem tab0 (T : List UInt8) (hT : tabB T = true) (y : Int) (n x : Nat) (hy : y = (n : Int)) (hn : n < 256) (hx : (sz x : Int) = sz n) :
    Shp.int IntKind.u64 ≠ Shp.bad ∧ (0 ≤ IntKind.u8.wrap y ∧ IntKind.u8.wrap y < (T.length : Int)) ∧ Shp.int IntKind.u8 ≠ Shp.bad ∧ inK IntKind.i64 (0 + IntKind.i64.wrap (strIx T (IntKind.u8.wrap y))) ∧
      SV.v (Value.int IntKind.i64 (0 + IntKind.i64.wrap (strIx T (IntKind.u8.wrap y)))) = SV.v (Value.int IntKind.i64 ((sz x : Nat) : Int)) := tab T hT 0 y n x hy hn (by omega) (by omega)

theorem len64 (x : Nat) (M : Mem) (hx : x < 18446744073709551616) :
    Meets Proofs.Try.prog 128 [.v (.int .u64 (x : Int))] M fun r _ _ => r = .v (.int .i64 ((sz x : Nat) : Int)) := by
  refine Meets.of_body [0,2,4,8,14] Proofs.Try.func128 rfl (by kernel_rfl) rfl fun w => ?_
  simp only [Proofs.Try.f128, shs, zts, sos, sls, zss, eqs, sx, sb1, sb2, sb3, sb4, sb5, sb6, sb7, ↓reduceIte, Nat.reduceAdd, Nat.reduceMul, Nat.reduceDiv, Nat.reduceEqDiff, Nat.reduceLT, Nat.reduceLeDiff, reduceCtorEq, Int.reduceEq, Int.reduceNe, Int.reduceLT, Int.reduceLE, Int.reduceAdd, Int.reduceSub, Int.reduceMul, Int.reduceNeg, Int.reduceToNat, Int.cast_ofNat_Int, Int.natCast_zero, Int.natCast_one, Int.toNat_natCast, Nat.reduceBEq, inK, lo, hi]
  rw [show ((IntKind.u64.bits : Nat) : Int) = 64 from rfl]
  have e1 : 4294967296 ≤ x → sz x = 32 + sz (x / 4294967296) := fun h => sz_shift (k := 32) h
  have e2 : ∀ y, 65536 ≤ y → sz y = 16 + sz (y / 65536) := fun y h => sz_shift (k := 16) h
  have e3 : ∀ y, 256 ≤ y → sz y = 8 + sz (y / 256) := fun y h => sz_shift (k := 8) h
  have tx := e2 x
  have ty := e2 (x / 4294967296)
  have t1 := e3 x
  have t2 := e3 (x / 4294967296)
  have t3 := e3 (x / 65536)
  have t4 := e3 (x / 4294967296 / 65536)
  refine ⟨fun h1 => ⟨by omega, fun h2 => ⟨by omega, fun h3 => ⟨by omega, ?_⟩, fun h3 => ?_⟩, fun h2 => ⟨fun h3 => ⟨by omega, ?_⟩, fun h3 => ?_⟩⟩,
    fun h1 => ⟨fun h2 => ⟨by omega, fun h3 => ⟨by omega, ?_⟩, fun h3 => ?_⟩, fun h2 => ⟨fun h3 => ⟨by omega, ?_⟩, fun h3 => ?_⟩⟩⟩
  · exact tab _ (by kernel_rfl) _ _ (x / 4294967296 / 65536 / 256) x (by omega) (by omega) (by omega) (by omega)
  · exact tab _ (by kernel_rfl) _ _ (x / 4294967296 / 65536) x (by omega) (by omega) (by omega) (by omega)
  · exact tab _ (by kernel_rfl) _ _ (x / 4294967296 / 256) x (by omega) (by omega) (by omega) (by omega)
  · exact tab _ (by kernel_rfl) _ _ (x / 4294967296) x (by omega) (by omega) (by omega) (by omega)
  · exact tab _ (by kernel_rfl) _ _ (x / 65536 / 256) x (by omega) (by omega) (by omega) (by omega)
  · exact tab _ (by kernel_rfl) _ _ (x / 65536) x (by omega) (by omega) (by omega) (by omega)
  · exact tab _ (by kernel_rfl) _ _ (x / 256) x (by omega) (by omega) (by omega) (by omega)
  · exact tab0 _ (by kernel_rfl) _ x x (by omega) (by omega) (by omega)

theorem deg (x : Nat) (M : Mem) (hx : x < 18446744073709551616) :
    Meets Proofs.Try.prog 116 [.v (.int .u64 (x : Int))] M fun r _ _ => r = .v (.int .i64 ((sz x : Nat) - 1 : Int)) := by
  refine Meets.of_body [0,2] Proofs.Try.func116 rfl (by kernel_rfl) rfl fun w => ?_
  simp only [Proofs.Try.f116, shs, zts, sos, sls, zss, eqs, sx, sb1, sb2, sb3, sb4, sb5, sb6, sb7, ↓reduceIte, Nat.reduceAdd, Nat.reduceMul, Nat.reduceDiv, Nat.reduceEqDiff, Nat.reduceLT, Nat.reduceLeDiff, reduceCtorEq, Int.reduceEq, Int.reduceNe, Int.reduceLT, Int.reduceLE, Int.reduceAdd, Int.reduceSub, Int.reduceMul, Int.reduceNeg, Int.reduceToNat, Int.cast_ofNat_Int, Int.natCast_zero, Int.natCast_one, Int.toNat_natCast, Nat.reduceBEq, inK, lo, hi]
  refine CallK.pure ⟨rfl, rfl⟩ rfl (len64 x M hx) ?_
  have : sz x ≤ 64 := sz_le.2 hx
  simp only [shs, zts, sos, sls, zss, eqs, sx, sb1, sb2, sb3, sb4, sb5, sb6, sb7, ↓reduceIte, Nat.reduceAdd, Nat.reduceMul, Nat.reduceDiv, Nat.reduceEqDiff, Nat.reduceLT, Nat.reduceLeDiff, reduceCtorEq, Int.reduceEq, Int.reduceNe, Int.reduceLT, Int.reduceLE, Int.reduceAdd, Int.reduceSub, Int.reduceMul, Int.reduceNeg, Int.reduceToNat, Int.cast_ofNat_Int, Int.natCast_zero, Int.natCast_one, Int.toNat_natCast, Nat.reduceBEq, inK, lo, hi]
  omega

theorem pw (s : Nat) : (2 : Int) ^ s = ((2 ^ s : Nat) : Int) := by simp
theorem mw (a s : Nat) : (a : Int) * 2 ^ s = ((a * 2 ^ s : Nat) : Int) := by simp
theorem ow (s : Nat) : (1 : Int) * 2 ^ s = ((2 ^ s : Nat) : Int) := by simp
theorem dw (a s : Nat) : (a : Int) / 2 ^ s = ((a / 2 ^ s : Nat) : Int) := by simp
theorem mwc (a s : Nat) : (a : Int) * ((2 ^ s : Nat) : Int) = ((a * 2 ^ s : Nat) : Int) := by simp
theorem dwc (a s : Nat) : (a : Int) / ((2 ^ s : Nat) : Int) = ((a / 2 ^ s : Nat) : Int) := by simp
theorem b64 : ((IntKind.i64.bits : Nat) : Int) = 64 := rfl
theorem b64u : ((IntKind.u64.bits : Nat) : Int) = 64 := rfl
theorem uw {a : Nat} (h : a < 18446744073709551616) : IntKind.u64.wrap (a : Int) = (a : Int) := wrap_in (k := .u64) ⟨by simp only [lo]; omega, by simp only [hi]; omega⟩
theorem iw {a : Nat} (h : a < 9223372036854775808) : IntKind.i64.wrap (a : Int) = (a : Int) := wrap_in (k := .i64) ⟨by simp only [lo]; omega, by simp only [hi]; omega⟩
theorem orw {x y : Nat} (hx : x < 18446744073709551616) (hy : y < 18446744073709551616) : orV .u64 (x : Int) (y : Int) = ((x ||| y : Nat) : Int) := by
  show IntKind.u64.wrap ((BitVec.ofInt 64 (x : Int) ||| BitVec.ofInt 64 (y : Int)).toNat : Int) = _
  have hl := Nat.or_lt_two_pow (n := 64) hx hy
  rw [BitVec.toNat_or, toNat_ofInt _ _ (by omega) (by omega), toNat_ofInt _ _ (by omega) (by omega), Int.toNat_natCast, Int.toNat_natCast]
  exact uw hl
theorem sz31 {a : Nat} (h : a ≤ 2147483647) : sz a ≤ 31 := sz_le.2 (by omega)
theorem p31 {i : Nat} (h : i ≤ 31) : 2 ^ i ≤ 2147483648 := Nat.pow_le_pow_right (n := 2) (by omega) h
theorem sz_mulp_le {a b n m : Nat} (h1 : sz a ≤ n) (h2 : sz b ≤ m) : sz (mulp a b) ≤ n + m := by
  by_cases ha : a = 0
  · subst ha; rw [mulp_zero]; simp [sz_zero]
  by_cases hb : b = 0
  · subst hb; rw [mulp_zero_right]; simp [sz_zero]
  have := sz_mulp ha hb
  omega
theorem mulp_step (a b i : Nat) : mulp (b % 2 ^ (i + 1)) a = mulp (b % 2 ^ i) a ^^^ (if b / 2 ^ i % 2 = 1 then a * 2 ^ i else 0) := by
  rw [mod_succ, mulp_xor, Nat.testBit_eq_decide_div_mod_eq]
  by_cases h : b / 2 ^ i % 2 = 1
  · simp only [h, decide_true, if_true, mulp_pow1]
  · simp only [h, decide_false, Bool.false_eq_true, if_false, mulp_zero]
theorem sz_mod (b i : Nat) : sz (b % 2 ^ i) ≤ i := sz_le.2 (Nat.mod_lt _ (Nat.two_pow_pos i))

theorem times (a b : Nat) (M : Mem) (ha : a ≤ 2147483647) (hb : b ≤ 2147483647) :
    Meets Proofs.Try.prog 75 [.v (.int .i64 (a : Int)), .v (.int .i64 (b : Int))] M fun r _ _ => r = .v (.int .u64 ((mulp a b : Nat) : Int)) := by
  refine Meets.of_body [0,1,4,5,6,10,17] Proofs.Try.func75 rfl (by kernel_rfl) rfl fun w => ?_
  simp only [Proofs.Try.f75, shs, zts, sos, sls, zss, eqs, sx, sb1, sb2, sb3, sb4, sb5, sb6, sb7, ↓reduceIte, Nat.reduceAdd, Nat.reduceMul, Nat.reduceDiv, Nat.reduceEqDiff, Nat.reduceLT, Nat.reduceLeDiff, reduceCtorEq, Int.reduceEq, Int.reduceNe, Int.reduceLT, Int.reduceLE, Int.reduceAdd, Int.reduceSub, Int.reduceMul, Int.reduceNeg, Int.reduceToNat, Int.cast_ofNat_Int, Int.natCast_zero, Int.natCast_one, Int.toNat_natCast, Nat.reduceBEq]
  refine LoopK.go (X := Nat) (fun i => ([(0, true, .v (.int .i64 a)), (1, true, .v (.int .i64 b)), (5, true, .v (.int .u64 ((mulp (b % 2 ^ i) a : Nat) : Int))), (6, true, .v (.int .i64 i))], [], M))
    (fun i => i ≤ sz b) (fun i => sz b - i) 0 (Nat.zero_le _) (Ent.of ?_) ?_
  · simp only [sx, sb1, sb2, sb3, sb4, sb5, sb6, sb7, ↓reduceIte, Nat.reduceAdd, Nat.reduceMul, Nat.reduceDiv, Nat.reduceEqDiff, Nat.reduceLT, Nat.reduceLeDiff, reduceCtorEq, Int.reduceEq, Int.reduceNe, Int.reduceLT, Int.reduceLE, Int.reduceAdd, Int.reduceSub, Int.reduceMul, Int.reduceNeg, Int.reduceToNat, Int.cast_ofNat_Int, Int.natCast_zero, Int.natCast_one, Int.toNat_natCast, Nat.reduceBEq, Nat.pow_zero, Nat.mod_one, mulp_zero]
  intro i hi'
  have hs := sz31 hb
  have h1 : mulp (b % 2 ^ i) a < 2 ^ 62 := sz_le.1 (Nat.le_trans (sz_mulp_le (sz_mod b i) (sz31 ha)) (by omega))
  have h2 : a * 2 ^ i ≤ 2147483647 * 2147483648 := Nat.mul_le_mul ha (p31 (by omega))
  have h3 : b / 2 ^ i ≤ b := Nat.div_le_self _ _
  have h4 := mulp_step a b i
  simp only [shs, zts, sos, sls, zss, eqs, sx, sb1, sb2, sb3, sb4, sb5, sb6, sb7, ↓reduceIte, Nat.reduceAdd, Nat.reduceMul, Nat.reduceDiv, Nat.reduceEqDiff, Nat.reduceLT, Nat.reduceLeDiff, reduceCtorEq, Int.reduceEq, Int.reduceNe, Int.reduceLT, Int.reduceLE, Int.reduceAdd, Int.reduceSub, Int.reduceMul, Int.reduceNeg, Int.reduceToNat, Int.cast_ofNat_Int, Int.natCast_zero, Int.natCast_one, Int.toNat_natCast, Nat.reduceBEq, inK, lo, hi, b64, b64u, uw (show a < 18446744073709551616 by omega), mw, dw, Nat.and_one_is_mod]
  refine ⟨by omega, fun h5 => ?_, fun h5 => ?_⟩
  · have h6 : i < sz b := lt_sz.2 (by
      rcases Nat.lt_or_ge b (2 ^ i) with h | h
      · rw [Nat.div_eq_of_lt h] at h5; omega
      · exact h)
    refine ⟨by omega, by omega, fun h7 => ⟨(fun h => by cases h), by omega, by omega, by omega, i + 1, ⟨by omega, by omega⟩, Ent.of ?_⟩, fun h7 => ⟨by omega, i + 1, ⟨by omega, by omega⟩, Ent.of ?_⟩⟩
    · rw [if_pos (by omega)] at h4
      simp only [sx, sb1, sb2, sb3, sb4, sb5, sb6, sb7, ↓reduceIte, Nat.reduceAdd, Nat.reduceMul, Nat.reduceDiv, Nat.reduceEqDiff, Nat.reduceLT, Nat.reduceLeDiff, reduceCtorEq, Int.reduceEq, Int.reduceNe, Int.reduceLT, Int.reduceLE, Int.reduceAdd, Int.reduceSub, Int.reduceMul, Int.reduceNeg, Int.reduceToNat, Int.cast_ofNat_Int, Int.natCast_zero, Int.natCast_one, Int.toNat_natCast, Nat.reduceBEq, h4, Int.natCast_add]
    · rw [if_neg (by omega), Nat.xor_zero] at h4
      simp only [sx, sb1, sb2, sb3, sb4, sb5, sb6, sb7, ↓reduceIte, Nat.reduceAdd, Nat.reduceMul, Nat.reduceDiv, Nat.reduceEqDiff, Nat.reduceLT, Nat.reduceLeDiff, reduceCtorEq, Int.reduceEq, Int.reduceNe, Int.reduceLT, Int.reduceLE, Int.reduceAdd, Int.reduceSub, Int.reduceMul, Int.reduceNeg, Int.reduceToNat, Int.cast_ofNat_Int, Int.natCast_zero, Int.natCast_one, Int.toNat_natCast, Nat.reduceBEq, h4, Int.natCast_add]
  · have h6 : b < 2 ^ i := by
      rcases Nat.lt_or_ge b (2 ^ i) with h | h
      · exact h
      · have := Nat.div_pos h (Nat.two_pow_pos i)
        omega
    rw [Nat.mod_eq_of_lt h6, mulp_comm]

theorem over (a b : Nat) (M : Mem) (ha : a < 18446744073709551616) (hb : b ≤ 2147483647) (hb0 : b ≠ 0) :
    Meets Proofs.Try.prog 95 [.v (.int .u64 (a : Int)), .v (.int .i64 (b : Int))] M fun r _ _ => r = .tup [.v (.int .u64 ((pdiv a b : Nat) : Int)), .v (.int .u64 ((pmod a b : Nat) : Int))] := by
  refine Meets.of_body [0,1,4,5,6,7,8,15] Proofs.Try.func95 rfl (by kernel_rfl) rfl fun w => ?_
  have hb' : b < 18446744073709551616 := by omega
  have hsb := sz_pos.2 hb0
  simp only [Proofs.Try.f95, shs, zts, sos, sls, zss, eqs, sx, sb1, sb2, sb3, sb4, sb5, sb6, sb7, ↓reduceIte, Nat.reduceAdd, Nat.reduceMul, Nat.reduceDiv, Nat.reduceEqDiff, Nat.reduceLT, Nat.reduceLeDiff, reduceCtorEq, Int.reduceEq, Int.reduceNe, Int.reduceLT, Int.reduceLE, Int.reduceAdd, Int.reduceSub, Int.reduceMul, Int.reduceNeg, Int.reduceToNat, Int.cast_ofNat_Int, Int.natCast_zero, Int.natCast_one, Int.toNat_natCast, Nat.reduceBEq, uw hb']
  refine ⟨(fun h => by cases h), ?_⟩
  refine CallK.pure ⟨rfl, rfl⟩ rfl (deg b M hb') ?_
  simp only [shs, zts, sos, sls, zss, eqs, sx, sb1, sb2, sb3, sb4, sb5, sb6, sb7, ↓reduceIte, Nat.reduceAdd, Nat.reduceMul, Nat.reduceDiv, Nat.reduceEqDiff, Nat.reduceLT, Nat.reduceLeDiff, reduceCtorEq, Int.reduceEq, Int.reduceNe, Int.reduceLT, Int.reduceLE, Int.reduceAdd, Int.reduceSub, Int.reduceMul, Int.reduceNeg, Int.reduceToNat, Int.cast_ofNat_Int, Int.natCast_zero, Int.natCast_one, Int.toNat_natCast, Nat.reduceBEq]
  refine LoopK.go (X := Nat × Nat) (fun p => ([(0, true, .v (.int .u64 (p.2 : Int))), (1, true, .v (.int .i64 b)), (6, true, .v (.int .u64 (p.1 : Int))), (7, true, .v (.int .i64 ((sz b : Nat) - 1 : Int)))], [], M))
    (fun p => ((a = mulp p.1 b ^^^ p.2 ∧ ∀ j, j + sz b ≤ sz p.2 → p.1.testBit j = false) ∧ p.2 < 2 ^ 64) ∧ p.1 < 2 ^ 64) (fun p => sz p.2) (0, a) ⟨⟨⟨by rw [mulp_zero, Nat.zero_xor], fun j _ => Nat.zero_testBit j⟩, ha⟩, Nat.two_pow_pos 64⟩ (Ent.of ?_) ?_
  · simp only [sx, sb1, sb2, sb3, sb4, sb5, sb6, sb7, ↓reduceIte, Nat.reduceAdd, Nat.reduceMul, Nat.reduceDiv, Nat.reduceEqDiff, Nat.reduceLT, Nat.reduceLeDiff, reduceCtorEq, Int.reduceEq, Int.reduceNe, Int.reduceLT, Int.reduceLE, Int.reduceAdd, Int.reduceSub, Int.reduceMul, Int.reduceNeg, Int.reduceToNat, Int.cast_ofNat_Int, Int.natCast_zero, Int.natCast_one, Int.toNat_natCast, Nat.reduceBEq]
  rintro ⟨q, x⟩ ⟨⟨⟨h1, h2⟩, h3⟩, h4⟩
  simp only at h1 h2 h3 h4
  have h3' : x < 18446744073709551616 := h3
  have h4' : q < 18446744073709551616 := h4
  have hsx : sz x ≤ 64 := sz_le.2 h3
  simp only [shs, zts, sos, sls, zss, eqs, sx, sb1, sb2, sb3, sb4, sb5, sb6, sb7, ↓reduceIte, Nat.reduceAdd, Nat.reduceMul, Nat.reduceDiv, Nat.reduceEqDiff, Nat.reduceLT, Nat.reduceLeDiff, reduceCtorEq, Int.reduceEq, Int.reduceNe, Int.reduceLT, Int.reduceLE, Int.reduceAdd, Int.reduceSub, Int.reduceMul, Int.reduceNeg, Int.reduceToNat, Int.cast_ofNat_Int, Int.natCast_zero, Int.natCast_one, Int.toNat_natCast, Nat.reduceBEq]
  refine CallK.pure ⟨rfl, rfl⟩ rfl (deg x M h3') ?_
  simp only [shs, zts, sos, sls, zss, eqs, sx, sb1, sb2, sb3, sb4, sb5, sb6, sb7, ↓reduceIte, Nat.reduceAdd, Nat.reduceMul, Nat.reduceDiv, Nat.reduceEqDiff, Nat.reduceLT, Nat.reduceLeDiff, reduceCtorEq, Int.reduceEq, Int.reduceNe, Int.reduceLT, Int.reduceLE, Int.reduceAdd, Int.reduceSub, Int.reduceMul, Int.reduceNeg, Int.reduceToNat, Int.cast_ofNat_Int, Int.natCast_zero, Int.natCast_one, Int.toNat_natCast, Nat.reduceBEq]
  refine ⟨fun h5 => ?_, fun h5 => ?_⟩
  · refine CallK.pure ⟨rfl, rfl⟩ rfl (deg x M h3') ?_
    have hs : (sz x : Int) - 1 - ((sz b : Int) - 1) = ((sz x - sz b : Nat) : Int) := by omega
    have h6 : 2 ^ (sz x - sz b) < 2 ^ 64 := Nat.pow_lt_pow_right (by omega) (by omega)
    have h6' : 2 ^ (sz x - sz b) < 18446744073709551616 := h6
    have h7 : sz (b * 2 ^ (sz x - sz b)) = sz x := by rw [sz_mul_pow hb0]; omega
    have h8 : b * 2 ^ (sz x - sz b) < 2 ^ 64 := sz_le.1 (by omega)
    have h9 := sz_step hb0 (show sz b ≤ sz x by omega)
    have h10 := h2 (sz x - sz b) (by omega)
    have h11 : (0 : Int) ≤ ((2 ^ (sz x - sz b) : Nat) : Int) ∧ ((2 ^ (sz x - sz b) : Nat) : Int) ≤ 18446744073709551615 := by
      clear h10 h9 h8 h7 h6 hs
      generalize 2 ^ (sz x - sz b) = P at h6' ⊢
      omega
    simp only [shs, zts, sos, sls, zss, eqs, sx, sb1, sb2, sb3, sb4, sb5, sb6, sb7, ↓reduceIte, Nat.reduceAdd, Nat.reduceMul, Nat.reduceDiv, Nat.reduceEqDiff, Nat.reduceLT, Nat.reduceLeDiff, reduceCtorEq, Int.reduceEq, Int.reduceNe, Int.reduceLT, Int.reduceLE, Int.reduceAdd, Int.reduceSub, Int.reduceMul, Int.reduceNeg, Int.reduceToNat, Int.cast_ofNat_Int, Int.natCast_zero, Int.natCast_one, Int.toNat_natCast, Nat.reduceBEq, inK, lo, hi, hs, pw, mwc, Int.one_mul, b64, b64u, uw hb', orw h4' h6', or_pow h10]
    refine ⟨by omega, ⟨by omega, h11⟩, (fun h => by cases h), by omega, by omega, (q ^^^ 2 ^ (sz x - sz b), x ^^^ b * 2 ^ (sz x - sz b)), ⟨⟨⟨⟨?_, fun j hj => ?_⟩, Nat.xor_lt_two_pow h3 h8⟩, Nat.xor_lt_two_pow h4 h6⟩, h9⟩, Ent.of ?_⟩
    · simp only
      rw [mulp_xor, mulp_pow1]
      conv => lhs; rw [h1]
      rw [show mulp q b ^^^ b * 2 ^ (sz x - sz b) ^^^ (x ^^^ b * 2 ^ (sz x - sz b)) = (mulp q b ^^^ x) ^^^ (b * 2 ^ (sz x - sz b) ^^^ b * 2 ^ (sz x - sz b)) by ac_rfl, Nat.xor_self, Nat.xor_zero]
    · simp only at hj ⊢
      rw [testBit_flip, if_neg (by omega)]
      exact h2 j (by omega)
    · simp only [sx, sb1, sb2, sb3, sb4, sb5, sb6, sb7, ↓reduceIte, Nat.reduceAdd, Nat.reduceMul, Nat.reduceDiv, Nat.reduceEqDiff, Nat.reduceLT, Nat.reduceLeDiff, reduceCtorEq, Int.reduceEq, Int.reduceNe, Int.reduceLT, Int.reduceLE, Int.reduceAdd, Int.reduceSub, Int.reduceMul, Int.reduceNeg, Int.reduceToNat, Int.cast_ofNat_Int, Int.natCast_zero, Int.natCast_one, Int.toNat_natCast, Nat.reduceBEq]
  · obtain ⟨e1, e2⟩ := divmod_uniq h1 (show sz x < sz b by omega)
    rw [e1, e2]

/-! ### the exported functions -/
def bad (a : Int) : Prop := a < 0 ∨ 2147483647 < a
instance (a : Int) : Decidable (bad a) := inferInstanceAs (Decidable (_ ∨ _))
def er (a : Int) : Int := if a < 0 ∨ 2147483647 < a then 1 else 0
theorem er_bad {a : Int} (h : a < 0 ∨ 2147483647 < a) : er a = 1 := if_pos h
theorem er_ok {a : Int} (h : ¬ (a < 0 ∨ 2147483647 < a)) : er a = 0 := if_neg h
theorem check (a : Int) (M : Mem) : Meets Proofs.Try.prog 105 [.v (.int .i64 a)] M fun r _ _ => r = .v (.int .i64 (er a)) := by
  refine Meets.of_body [0,2,8] Proofs.Try.func105 rfl (by kernel_rfl) rfl fun w => ?_
  simp only [Proofs.Try.f105, shs, zts, sos, sls, zss, eqs, sx, sb1, sb2, sb3, sb4, sb5, sb6, sb7, ↓reduceIte, Nat.reduceAdd, Nat.reduceMul, Nat.reduceDiv, Nat.reduceEqDiff, Nat.reduceLT, Nat.reduceLeDiff, reduceCtorEq, Int.reduceEq, Int.reduceNe, Int.reduceLT, Int.reduceLE, Int.reduceAdd, Int.reduceSub, Int.reduceMul, Int.reduceNeg, Int.reduceToNat, Int.cast_ofNat_Int, Int.natCast_zero, Int.natCast_one, Int.toNat_natCast, Nat.reduceBEq]
  refine ⟨fun h => ?_, fun h => ?_⟩
  · rw [er_bad (by omega)]
  · rw [er_ok (by omega)]
def er2 (a b : Int) : Int := if a < 0 ∨ 2147483647 < a then 1 else er b
theorem two (a b : Int) (M : Mem) : Meets Proofs.Try.prog 74 [.v (.int .i64 a), .v (.int .i64 b)] M fun r _ _ => r = .v (.int .i64 (er2 a b)) := by
  refine Meets.of_body [0,1,4,5,9] Proofs.Try.func74 rfl (by kernel_rfl) rfl fun w => ?_
  simp only [Proofs.Try.f74, shs, zts, sos, sls, zss, eqs, sx, sb1, sb2, sb3, sb4, sb5, sb6, sb7, ↓reduceIte, Nat.reduceAdd, Nat.reduceMul, Nat.reduceDiv, Nat.reduceEqDiff, Nat.reduceLT, Nat.reduceLeDiff, reduceCtorEq, Int.reduceEq, Int.reduceNe, Int.reduceLT, Int.reduceLE, Int.reduceAdd, Int.reduceSub, Int.reduceMul, Int.reduceNeg, Int.reduceToNat, Int.cast_ofNat_Int, Int.natCast_zero, Int.natCast_one, Int.toNat_natCast, Nat.reduceBEq]
  refine CallK.pure ⟨rfl, rfl⟩ rfl (check a M) ?_
  simp only [shs, zts, sos, sls, zss, eqs, sx, sb1, sb2, sb3, sb4, sb5, sb6, sb7, ↓reduceIte, Nat.reduceAdd, Nat.reduceMul, Nat.reduceDiv, Nat.reduceEqDiff, Nat.reduceLT, Nat.reduceLeDiff, reduceCtorEq, Int.reduceEq, Int.reduceNe, Int.reduceLT, Int.reduceLE, Int.reduceAdd, Int.reduceSub, Int.reduceMul, Int.reduceNeg, Int.reduceToNat, Int.cast_ofNat_Int, Int.natCast_zero, Int.natCast_one, Int.toNat_natCast, Nat.reduceBEq, er2]
  by_cases h : a < 0 ∨ 2147483647 < a
  · simp only [er_bad h, if_pos h, sx, sb1, sb2, sb3, sb4, sb5, sb6, sb7, ↓reduceIte, Nat.reduceAdd, Nat.reduceMul, Nat.reduceDiv, Nat.reduceEqDiff, Nat.reduceLT, Nat.reduceLeDiff, reduceCtorEq, Int.reduceEq, Int.reduceNe, Int.reduceLT, Int.reduceLE, Int.reduceAdd, Int.reduceSub, Int.reduceMul, Int.reduceNeg, Int.reduceToNat, Int.cast_ofNat_Int, Int.natCast_zero, Int.natCast_one, Int.toNat_natCast, Nat.reduceBEq]
  · simp only [er_ok h, if_neg h, sx, sb1, sb2, sb3, sb4, sb5, sb6, sb7, ↓reduceIte, Nat.reduceAdd, Nat.reduceMul, Nat.reduceDiv, Nat.reduceEqDiff, Nat.reduceLT, Nat.reduceLeDiff, reduceCtorEq, Int.reduceEq, Int.reduceNe, Int.reduceLT, Int.reduceLE, Int.reduceAdd, Int.reduceSub, Int.reduceMul, Int.reduceNeg, Int.reduceToNat, Int.cast_ofNat_Int, Int.natCast_zero, Int.natCast_one, Int.toNat_natCast, Nat.reduceBEq]
    refine CallK.pure ⟨rfl, rfl⟩ rfl (check b M) ?_
    simp only [shs, zts, sos, sls, zss, eqs, sx, sb1, sb2, sb3, sb4, sb5, sb6, sb7, ↓reduceIte, Nat.reduceAdd, Nat.reduceMul, Nat.reduceDiv, Nat.reduceEqDiff, Nat.reduceLT, Nat.reduceLeDiff, reduceCtorEq, Int.reduceEq, Int.reduceNe, Int.reduceLT, Int.reduceLE, Int.reduceAdd, Int.reduceSub, Int.reduceMul, Int.reduceNeg, Int.reduceToNat, Int.cast_ofNat_Int, Int.natCast_zero, Int.natCast_one, Int.toNat_natCast, Nat.reduceBEq]
theorem er2_ok {a b : Nat} (ha : a ≤ 2147483647) (hb : b ≤ 2147483647) : er2 a b = 0 := by
  unfold er2; rw [if_neg (by omega), er_ok (by omega)]
theorem er2_bad {a b : Int} (h : (a < 0 ∨ 2147483647 < a) ∨ (b < 0 ∨ 2147483647 < b)) : er2 a b = 1 := by
  unfold er2; split
  · rfl
  · exact er_bad (by omega)

/-- what Mul returns -/
def mulV (a b : Nat) : SV := if mulp a b ≤ 2147483647 then .tup [.v (.int .i64 ((mulp a b : Nat) : Int)), .v (.int .i64 0)] else .tup [.v (.int .i64 0), .v (.int .i64 2)]
theorem mulp_62 {a b : Nat} (ha : a ≤ 2147483647) (hb : b ≤ 2147483647) : mulp a b < 4611686018427387904 := sz_le.1 (Nat.le_trans (sz_mulp_le (sz31 ha) (sz31 hb)) (show 31 + 31 ≤ 62 by omega))
theorem Mul (a b : Nat) (M : Mem) (ha : a ≤ 2147483647) (hb : b ≤ 2147483647) : Meets Proofs.Try.prog 33 [.v (.int .i64 (a : Int)), .v (.int .i64 (b : Int))] M fun r _ _ => r = mulV a b := by
  refine Meets.of_body [0,1,4,5,6,7,12,18] Proofs.Try.func33 rfl (by kernel_rfl) rfl fun w => ?_
  have hm := mulp_62 ha hb
  simp only [Proofs.Try.f33, shs, zts, sos, sls, zss, eqs, sx, sb1, sb2, sb3, sb4, sb5, sb6, sb7, ↓reduceIte, Nat.reduceAdd, Nat.reduceMul, Nat.reduceDiv, Nat.reduceEqDiff, Nat.reduceLT, Nat.reduceLeDiff, reduceCtorEq, Int.reduceEq, Int.reduceNe, Int.reduceLT, Int.reduceLE, Int.reduceAdd, Int.reduceSub, Int.reduceMul, Int.reduceNeg, Int.reduceToNat, Int.cast_ofNat_Int, Int.natCast_zero, Int.natCast_one, Int.toNat_natCast, Nat.reduceBEq]
  refine CallK.pure ⟨rfl, rfl⟩ rfl (two a b M) ?_
  simp only [shs, zts, sos, sls, zss, eqs, sx, sb1, sb2, sb3, sb4, sb5, sb6, sb7, ↓reduceIte, Nat.reduceAdd, Nat.reduceMul, Nat.reduceDiv, Nat.reduceEqDiff, Nat.reduceLT, Nat.reduceLeDiff, reduceCtorEq, Int.reduceEq, Int.reduceNe, Int.reduceLT, Int.reduceLE, Int.reduceAdd, Int.reduceSub, Int.reduceMul, Int.reduceNeg, Int.reduceToNat, Int.cast_ofNat_Int, Int.natCast_zero, Int.natCast_one, Int.toNat_natCast, Nat.reduceBEq, er2_ok ha hb]
  refine CallK.pure ⟨rfl, rfl⟩ rfl (times a b M ha hb) ?_
  simp only [shs, zts, sos, sls, zss, eqs, sx, sb1, sb2, sb3, sb4, sb5, sb6, sb7, ↓reduceIte, Nat.reduceAdd, Nat.reduceMul, Nat.reduceDiv, Nat.reduceEqDiff, Nat.reduceLT, Nat.reduceLeDiff, reduceCtorEq, Int.reduceEq, Int.reduceNe, Int.reduceLT, Int.reduceLE, Int.reduceAdd, Int.reduceSub, Int.reduceMul, Int.reduceNeg, Int.reduceToNat, Int.cast_ofNat_Int, Int.natCast_zero, Int.natCast_one, Int.toNat_natCast, Nat.reduceBEq, iw (show mulp a b < 9223372036854775808 by omega), mulV]
  refine ⟨fun h => ?_, fun h => ⟨(fun h => by cases h), ?_⟩⟩
  · rw [if_neg (by omega)]
  · rw [if_pos (by omega)]
theorem Mul_bad (a b : Int) (M : Mem) (h : (a < 0 ∨ 2147483647 < a) ∨ (b < 0 ∨ 2147483647 < b)) : Meets Proofs.Try.prog 33 [.v (.int .i64 a), .v (.int .i64 b)] M fun r _ _ => r = .tup [.v (.int .i64 0), .v (.int .i64 1)] := by
  refine Meets.of_body [0,1,4,5,6,7,12,18] Proofs.Try.func33 rfl (by kernel_rfl) rfl fun w => ?_
  simp only [Proofs.Try.f33, shs, zts, sos, sls, zss, eqs, sx, sb1, sb2, sb3, sb4, sb5, sb6, sb7, ↓reduceIte, Nat.reduceAdd, Nat.reduceMul, Nat.reduceDiv, Nat.reduceEqDiff, Nat.reduceLT, Nat.reduceLeDiff, reduceCtorEq, Int.reduceEq, Int.reduceNe, Int.reduceLT, Int.reduceLE, Int.reduceAdd, Int.reduceSub, Int.reduceMul, Int.reduceNeg, Int.reduceToNat, Int.cast_ofNat_Int, Int.natCast_zero, Int.natCast_one, Int.toNat_natCast, Nat.reduceBEq]
  refine CallK.pure ⟨rfl, rfl⟩ rfl (two a b M) ?_
  simp only [shs, zts, sos, sls, zss, eqs, sx, sb1, sb2, sb3, sb4, sb5, sb6, sb7, ↓reduceIte, Nat.reduceAdd, Nat.reduceMul, Nat.reduceDiv, Nat.reduceEqDiff, Nat.reduceLT, Nat.reduceLeDiff, reduceCtorEq, Int.reduceEq, Int.reduceNe, Int.reduceLT, Int.reduceLE, Int.reduceAdd, Int.reduceSub, Int.reduceMul, Int.reduceNeg, Int.reduceToNat, Int.cast_ofNat_Int, Int.natCast_zero, Int.natCast_one, Int.toNat_natCast, Nat.reduceBEq, er2_bad h]

theorem pdiv_62 {a b : Nat} (ha : a ≤ 2147483647) (hb0 : b ≠ 0) : pdiv a b < 2 ^ 62 := by
  obtain ⟨h1, h2⟩ := divmod (a := a) hb0
  refine sz_le.1 ?_
  by_cases hq : pdiv a b = 0
  · rw [hq]; simp [sz_zero]
  · have h5 := sz_mulp hq hb0
    have h6 : mulp (pdiv a b) b = a ^^^ pmod a b := xor_cancel h1.symm
    have h8 := sz31 ha
    have h7 := sz_xor (n := max 31 (sz b)) (a := a) (b := pmod a b) (by omega) (by omega)
    rw [h6] at h5
    have := sz_pos.2 hb0
    omega
/-! ### greatest common divisors -/
def gcdp : Nat → Nat → Nat → Nat
  | 0, a, _ => a
  | f + 1, a, b => if b = 0 then a else gcdp f b (pmod a b)
theorem pmod_le {a b : Nat} (hb : b ≠ 0) (h : b ≤ 2147483647) : pmod a b ≤ 2147483647 := by
  have h1 := (divmod (a := a) hb).2
  have h2 := sz31 h
  have h3 : pmod a b < 2 ^ 31 := sz_le.1 (by omega)
  omega
end Go.X.Pl
