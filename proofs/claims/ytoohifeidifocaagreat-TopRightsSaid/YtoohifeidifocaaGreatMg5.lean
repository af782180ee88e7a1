/- Contracts of functions and the logic that they are proved in (4 texts in one). Conditions: none. -/
import Derived.Test.YtoohifeidifocaaGreatMg4
import Derived.StillTail
open Nat renaming reduceAdd → zqa, reduceMul → zqb, reduceDiv → zqc, reduceEqDiff → zqd, reduceLT → zqe, reduceLeDiff → zqf, reduceBEq → zqg
open Int renaming reduceEq → zra, reduceNe → zrb, reduceLT → zrc, reduceLE → zrd, reduceAdd → zre, reduceSub → zrf, reduceMul → zrg, reduceNeg → zrh, reduceToNat → zri, cast_ofNat_Int → zrj, natCast_zero → zrk, natCast_one → zrl, toNat_natCast → zrm
namespace Go.X.Pol
end Go.X.Pol
namespace Go.X.Pl
end Go.X.Pl
namespace Go.X.Rp
end Go.X.Rp
namespace Go.X.Pd
end Go.X.Pd
namespace Go.X.Md
end Go.X.Md
set_option linter.unusedSimpArgs false
set_option linter.unusedVariables false
set_option maxHeartbeats 4000000
set_option maxRecDepth 20000
namespace Go.X.Pl
open Go Go.X Go.X.Pol

theorem sz_shift {x k : Nat} (h : 2 ^ k ≤ x) : sz x = k + sz (x / 2 ^ k) := by
  have h0 := Nat.two_pow_pos k
  have h1 : x / 2 ^ k ≠ 0 := Nat.ne_of_gt (Nat.div_pos h h0)
  obtain ⟨h2, h3, h4⟩ := sz_rng h1
  have h5 := Nat.div_mul_le_self x (2 ^ k)
  have h6 : 2 ^ (sz (x / 2 ^ k) - 1) * 2 ^ k ≤ x := Nat.le_trans (Nat.mul_le_mul_right _ h2) h5
  have h7 : x < 2 ^ sz (x / 2 ^ k) * 2 ^ k := (Nat.div_lt_iff_lt_mul h0).1 h3
  rw [← Nat.pow_add] at h6 h7
  rw [sz_eq (k := sz (x / 2 ^ k) - 1 + k) h6 (by rw [show sz (x / 2 ^ k) - 1 + k + 1 = sz (x / 2 ^ k) + k by omega]; exact h7)]
  omega

def tabB (T : List UInt8) : Bool := T.length == 256 && (List.range 256).all fun i => strIx T (i : Int) == (sz i : Int)
theorem tab (T : List UInt8) (hT : tabB T = true) (c y : Int) (n x : Nat) (hy : y = (n : Int)) (hn : n < 256) (hx : (sz x : Int) = c + sz n) (hc : 0 ≤ c ∧ c ≤ 56) :
    Shp.int IntKind.u64 ≠ Shp.bad ∧ (0 ≤ IntKind.u8.wrap y ∧ IntKind.u8.wrap y < (T.length : Int)) ∧ Shp.int IntKind.u8 ≠ Shp.bad ∧ inK IntKind.i64 (c + IntKind.i64.wrap (strIx T (IntKind.u8.wrap y))) ∧
      SV.v (Value.int IntKind.i64 (c + IntKind.i64.wrap (strIx T (IntKind.u8.wrap y)))) = SV.v (Value.int IntKind.i64 ((sz x : Nat) : Int)) := by
  simp only [tabB, Bool.and_eq_true, beq_iff_eq, List.all_eq_true, List.mem_range] at hT
  obtain ⟨h1, h2⟩ := hT
  have h3 := h2 n hn
  have h4 : IntKind.u8.wrap y = (n : Int) := by rw [hy]; exact wrap_in (k := .u8) ⟨by simp only [lo]; omega, by simp only [hi]; omega⟩
  have h5 : sz n ≤ 8 := sz_le.2 (by omega)
  rw [h4, h3, h1, wrap_in (k := .i64) (n := ((sz n : Nat) : Int)) ⟨by simp only [lo]; omega, by simp only [hi]; omega⟩, hx]
  exact ⟨(fun h => by cases h), ⟨by omega, by omega⟩, (fun h => by cases h), ⟨by simp only [lo]; omega, by simp only [hi]; omega⟩, rfl⟩
theorem tab0 (T : List UInt8) (hT : tabB T = true) (y : Int) (n x : Nat) (hy : y = (n : Int)) (hn : n < 256) (hx : (sz x : Int) = sz n) :
    Shp.int IntKind.u64 ≠ Shp.bad ∧ (0 ≤ IntKind.u8.wrap y ∧ IntKind.u8.wrap y < (T.length : Int)) ∧ Shp.int IntKind.u8 ≠ Shp.bad ∧ inK IntKind.i64 (0 + IntKind.i64.wrap (strIx T (IntKind.u8.wrap y))) ∧
      SV.v (Value.int IntKind.i64 (0 + IntKind.i64.wrap (strIx T (IntKind.u8.wrap y)))) = SV.v (Value.int IntKind.i64 ((sz x : Nat) : Int)) := tab T hT 0 y n x hy hn (by omega) (by omega)

theorem len64 (x : Nat) (M : Mem) (hx : x < 18446744073709551616) :
    Meets Proofs.Tryz.prog 104 [.v (.int .u64 (x : Int))] M fun r _ _ => r = .v (.int .i64 ((sz x : Nat) : Int)) := by
  refine Meets.of_body [0,2,4,8,14] Proofs.Tryz.func104 rfl (by kernel_rfl) rfl fun w => ?_
  simp only [Proofs.Tryz.f104, shs, zts, sos, sls, zss, eqs, sx, sb1, sb2, sb3, sb4, sb5, sb6, sb7, ↓reduceIte, zqa, zqb, zqc, zqd, zqe, zqf, reduceCtorEq, zra, zrb, zrc, zrd, zre, zrf, zrg, zrh, zri, zrj, zrk, zrl, zrm, zqg, inK, lo, hi]
  rw [show ((IntKind.u64.bits : Nat) : Int) = 64 from rfl]
  have e1 : 4294967296 ≤ x → sz x = 32 + sz (x / 4294967296) := fun h => sz_shift (k := 32) h
  have e2 : ∀ y, 65536 ≤ y → sz y = 16 + sz (y / 65536) := fun y h => sz_shift (k := 16) h
  have e3 : ∀ y, 256 ≤ y → sz y = 8 + sz (y / 256) := fun y h => sz_shift (k := 8) h
  have tx := e2 x
  have ty := e2 (x / 4294967296)
  have t1 := e3 x
  have t2 := e3 (x / 4294967296)
  have t3 := e3 (x / 65536)
  have t4 := e3 (x / 4294967296 / 65536)
  refine ⟨fun h1 => ⟨by omega, fun h2 => ⟨by omega, fun h3 => ⟨by omega, ?_⟩, fun h3 => ?_⟩, fun h2 => ⟨fun h3 => ⟨by omega, ?_⟩, fun h3 => ?_⟩⟩,
    fun h1 => ⟨fun h2 => ⟨by omega, fun h3 => ⟨by omega, ?_⟩, fun h3 => ?_⟩, fun h2 => ⟨fun h3 => ⟨by omega, ?_⟩, fun h3 => ?_⟩⟩⟩
  · exact tab _ (by kernel_rfl) _ _ (x / 4294967296 / 65536 / 256) x (by omega) (by omega) (by omega) (by omega)
  · exact tab _ (by kernel_rfl) _ _ (x / 4294967296 / 65536) x (by omega) (by omega) (by omega) (by omega)
  · exact tab _ (by kernel_rfl) _ _ (x / 4294967296 / 256) x (by omega) (by omega) (by omega) (by omega)
  · exact tab _ (by kernel_rfl) _ _ (x / 4294967296) x (by omega) (by omega) (by omega) (by omega)
  · exact tab _ (by kernel_rfl) _ _ (x / 65536 / 256) x (by omega) (by omega) (by omega) (by omega)
  · exact tab _ (by kernel_rfl) _ _ (x / 65536) x (by omega) (by omega) (by omega) (by omega)
  · exact tab _ (by kernel_rfl) _ _ (x / 256) x (by omega) (by omega) (by omega) (by omega)
  · exact tab0 _ (by kernel_rfl) _ x x (by omega) (by omega) (by omega)

theorem deg (x : Nat) (M : Mem) (hx : x < 18446744073709551616) :
    Meets Proofs.Tryz.prog 99 [.v (.int .u64 (x : Int))] M fun r _ _ => r = .v (.int .i64 ((sz x : Nat) - 1 : Int)) := by
  refine Meets.of_body [0,2] Proofs.Tryz.func99 rfl (by kernel_rfl) rfl fun w => ?_
  simp only [Proofs.Tryz.f99, shs, zts, sos, sls, zss, eqs, sx, sb1, sb2, sb3, sb4, sb5, sb6, sb7, ↓reduceIte, zqa, zqb, zqc, zqd, zqe, zqf, reduceCtorEq, zra, zrb, zrc, zrd, zre, zrf, zrg, zrh, zri, zrj, zrk, zrl, zrm, zqg, inK, lo, hi]
  refine CallK.pure ⟨rfl, rfl⟩ rfl (len64 x M hx) ?_
  have : sz x ≤ 64 := sz_le.2 hx
  simp only [shs, zts, sos, sls, zss, eqs, sx, sb1, sb2, sb3, sb4, sb5, sb6, sb7, ↓reduceIte, zqa, zqb, zqc, zqd, zqe, zqf, reduceCtorEq, zra, zrb, zrc, zrd, zre, zrf, zrg, zrh, zri, zrj, zrk, zrl, zrm, zqg, inK, lo, hi]
  omega

theorem pw (s : Nat) : (2 : Int) ^ s = ((2 ^ s : Nat) : Int) := by simp
theorem mw (a s : Nat) : (a : Int) * 2 ^ s = ((a * 2 ^ s : Nat) : Int) := by simp
theorem dw (a s : Nat) : (a : Int) / 2 ^ s = ((a / 2 ^ s : Nat) : Int) := by simp
theorem mwc (a s : Nat) : (a : Int) * ((2 ^ s : Nat) : Int) = ((a * 2 ^ s : Nat) : Int) := by simp
theorem b64 : ((IntKind.i64.bits : Nat) : Int) = 64 := rfl
theorem b64u : ((IntKind.u64.bits : Nat) : Int) = 64 := rfl
theorem uw {a : Nat} (h : a < 18446744073709551616) : IntKind.u64.wrap (a : Int) = (a : Int) := wrap_in (k := .u64) ⟨by simp only [lo]; omega, by simp only [hi]; omega⟩
theorem iw {a : Nat} (h : a < 9223372036854775808) : IntKind.i64.wrap (a : Int) = (a : Int) := wrap_in (k := .i64) ⟨by simp only [lo]; omega, by simp only [hi]; omega⟩
theorem orw {x y : Nat} (hx : x < 18446744073709551616) (hy : y < 18446744073709551616) : orV .u64 (x : Int) (y : Int) = ((x ||| y : Nat) : Int) := by
  show IntKind.u64.wrap ((BitVec.ofInt 64 (x : Int) ||| BitVec.ofInt 64 (y : Int)).toNat : Int) = _
  have hl := Nat.or_lt_two_pow (n := 64) hx hy
  rw [BitVec.toNat_or, toNat_ofInt _ _ (by omega) (by omega), toNat_ofInt _ _ (by omega) (by omega), zrm, zrm]
  exact uw hl
theorem sz31 {a : Nat} (h : a ≤ 2147483647) : sz a ≤ 31 := sz_le.2 (by omega)
theorem p31 {i : Nat} (h : i ≤ 31) : 2 ^ i ≤ 2147483648 := Nat.pow_le_pow_right (n := 2) (by omega) h
theorem sz_mulp_le {a b n m : Nat} (h1 : sz a ≤ n) (h2 : sz b ≤ m) : sz (mulp a b) ≤ n + m := by
  by_cases ha : a = 0
  · subst ha; rw [mulp_zero]; simp [sz_zero]
  by_cases hb : b = 0
  · subst hb; rw [mulp_zero_right]; simp [sz_zero]
  have := sz_mulp ha hb
  omega
theorem mulp_step (a b i : Nat) : mulp (b % 2 ^ (i + 1)) a = mulp (b % 2 ^ i) a ^^^ (if b / 2 ^ i % 2 = 1 then a * 2 ^ i else 0) := by
  rw [mod_succ, mulp_xor, Nat.testBit_eq_decide_div_mod_eq]
  by_cases h : b / 2 ^ i % 2 = 1
  · simp only [h, decide_true, if_true, mulp_pow1]
  · simp only [h, decide_false, Bool.false_eq_true, if_false, mulp_zero]
theorem sz_mod (b i : Nat) : sz (b % 2 ^ i) ≤ i := sz_le.2 (Nat.mod_lt _ (Nat.two_pow_pos i))

theorem times (a b : Nat) (M : Mem) (ha : a ≤ 2147483647) (hb : b ≤ 2147483647) :
    Meets Proofs.Tryz.prog 30 [.v (.int .i64 (a : Int)), .v (.int .i64 (b : Int))] M fun r _ _ => r = .v (.int .u64 ((mulp a b : Nat) : Int)) := by
  refine Meets.of_body [0,1,4,5,6,10,17] Proofs.Tryz.func30 rfl (by kernel_rfl) rfl fun w => ?_
  simp only [Proofs.Tryz.f30, shs, zts, sos, sls, zss, eqs, sx, sb1, sb2, sb3, sb4, sb5, sb6, sb7, ↓reduceIte, zqa, zqb, zqc, zqd, zqe, zqf, reduceCtorEq, zra, zrb, zrc, zrd, zre, zrf, zrg, zrh, zri, zrj, zrk, zrl, zrm, zqg]
  refine LoopK.go (X := Nat) (fun i => ([(0, true, .v (.int .i64 a)), (1, true, .v (.int .i64 b)), (5, true, .v (.int .u64 ((mulp (b % 2 ^ i) a : Nat) : Int))), (6, true, .v (.int .i64 i))], [], M))
    (fun i => i ≤ sz b) (fun i => sz b - i) 0 (Nat.zero_le _) (Ent.of ?_) ?_
  · simp only [sx, sb1, sb2, sb3, sb4, sb5, sb6, sb7, ↓reduceIte, zqa, zqb, zqc, zqd, zqe, zqf, reduceCtorEq, zra, zrb, zrc, zrd, zre, zrf, zrg, zrh, zri, zrj, zrk, zrl, zrm, zqg, Nat.pow_zero, Nat.mod_one, mulp_zero]
  intro i hi'
  have hs := sz31 hb
  have h1 : mulp (b % 2 ^ i) a < 2 ^ 62 := sz_le.1 (Nat.le_trans (sz_mulp_le (sz_mod b i) (sz31 ha)) (by omega))
  have h2 : a * 2 ^ i ≤ 2147483647 * 2147483648 := Nat.mul_le_mul ha (p31 (by omega))
  have h3 : b / 2 ^ i ≤ b := Nat.div_le_self _ _
  have h4 := mulp_step a b i
  simp only [shs, zts, sos, sls, zss, eqs, sx, sb1, sb2, sb3, sb4, sb5, sb6, sb7, ↓reduceIte, zqa, zqb, zqc, zqd, zqe, zqf, reduceCtorEq, zra, zrb, zrc, zrd, zre, zrf, zrg, zrh, zri, zrj, zrk, zrl, zrm, zqg, inK, lo, hi, b64, b64u, uw (show a < 18446744073709551616 by omega), mw, dw, Nat.and_one_is_mod]
  refine ⟨by omega, fun h5 => ?_, fun h5 => ?_⟩
  · have h6 : i < sz b := lt_sz.2 (by
      rcases Nat.lt_or_ge b (2 ^ i) with h | h
      · rw [Nat.div_eq_of_lt h] at h5; omega
      · exact h)
    refine ⟨by omega, by omega, fun h7 => ⟨(fun h => by cases h), by omega, by omega, by omega, i + 1, ⟨by omega, by omega⟩, Ent.of ?_⟩, fun h7 => ⟨by omega, i + 1, ⟨by omega, by omega⟩, Ent.of ?_⟩⟩
    · rw [if_pos (by omega)] at h4
      simp only [sx, sb1, sb2, sb3, sb4, sb5, sb6, sb7, ↓reduceIte, zqa, zqb, zqc, zqd, zqe, zqf, reduceCtorEq, zra, zrb, zrc, zrd, zre, zrf, zrg, zrh, zri, zrj, zrk, zrl, zrm, zqg, h4, Int.natCast_add]
    · rw [if_neg (by omega), Nat.xor_zero] at h4
      simp only [sx, sb1, sb2, sb3, sb4, sb5, sb6, sb7, ↓reduceIte, zqa, zqb, zqc, zqd, zqe, zqf, reduceCtorEq, zra, zrb, zrc, zrd, zre, zrf, zrg, zrh, zri, zrj, zrk, zrl, zrm, zqg, h4, Int.natCast_add]
  · have h6 : b < 2 ^ i := by
      rcases Nat.lt_or_ge b (2 ^ i) with h | h
      · exact h
      · have := Nat.div_pos h (Nat.two_pow_pos i)
        omega
    rw [Nat.mod_eq_of_lt h6, mulp_comm]

theorem over (a b : Nat) (M : Mem) (ha : a < 18446744073709551616) (hb : b ≤ 2147483647) (hb0 : b ≠ 0) :
    Meets Proofs.Tryz.prog 88 [.v (.int .u64 (a : Int)), .v (.int .i64 (b : Int))] M fun r _ _ => r = .tup [.v (.int .u64 ((pdiv a b : Nat) : Int)), .v (.int .u64 ((pmod a b : Nat) : Int))] := by
  refine Meets.of_body [0,1,4,5,6,7,8,15] Proofs.Tryz.func88 rfl (by kernel_rfl) rfl fun w => ?_
  have hb' : b < 18446744073709551616 := by omega
  have hsb := sz_pos.2 hb0
  simp only [Proofs.Tryz.f88, shs, zts, sos, sls, zss, eqs, sx, sb1, sb2, sb3, sb4, sb5, sb6, sb7, ↓reduceIte, zqa, zqb, zqc, zqd, zqe, zqf, reduceCtorEq, zra, zrb, zrc, zrd, zre, zrf, zrg, zrh, zri, zrj, zrk, zrl, zrm, zqg, uw hb']
  refine ⟨(fun h => by cases h), ?_⟩
  refine CallK.pure ⟨rfl, rfl⟩ rfl (deg b M hb') ?_
  simp only [shs, zts, sos, sls, zss, eqs, sx, sb1, sb2, sb3, sb4, sb5, sb6, sb7, ↓reduceIte, zqa, zqb, zqc, zqd, zqe, zqf, reduceCtorEq, zra, zrb, zrc, zrd, zre, zrf, zrg, zrh, zri, zrj, zrk, zrl, zrm, zqg]
  refine LoopK.go (X := Nat × Nat) (fun p => ([(0, true, .v (.int .u64 (p.2 : Int))), (1, true, .v (.int .i64 b)), (6, true, .v (.int .u64 (p.1 : Int))), (7, true, .v (.int .i64 ((sz b : Nat) - 1 : Int)))], [], M))
    (fun p => ((a = mulp p.1 b ^^^ p.2 ∧ ∀ j, j + sz b ≤ sz p.2 → p.1.testBit j = false) ∧ p.2 < 2 ^ 64) ∧ p.1 < 2 ^ 64) (fun p => sz p.2) (0, a) ⟨⟨⟨by rw [mulp_zero, Nat.zero_xor], fun j _ => Nat.zero_testBit j⟩, ha⟩, Nat.two_pow_pos 64⟩ (Ent.of ?_) ?_
  · simp only [sx, sb1, sb2, sb3, sb4, sb5, sb6, sb7, ↓reduceIte, zqa, zqb, zqc, zqd, zqe, zqf, reduceCtorEq, zra, zrb, zrc, zrd, zre, zrf, zrg, zrh, zri, zrj, zrk, zrl, zrm, zqg]
  rintro ⟨q, x⟩ ⟨⟨⟨h1, h2⟩, h3⟩, h4⟩
  simp only at h1 h2 h3 h4
  have h3' : x < 18446744073709551616 := h3
  have h4' : q < 18446744073709551616 := h4
  have hsx : sz x ≤ 64 := sz_le.2 h3
  simp only [shs, zts, sos, sls, zss, eqs, sx, sb1, sb2, sb3, sb4, sb5, sb6, sb7, ↓reduceIte, zqa, zqb, zqc, zqd, zqe, zqf, reduceCtorEq, zra, zrb, zrc, zrd, zre, zrf, zrg, zrh, zri, zrj, zrk, zrl, zrm, zqg]
  refine CallK.pure ⟨rfl, rfl⟩ rfl (deg x M h3') ?_
  simp only [shs, zts, sos, sls, zss, eqs, sx, sb1, sb2, sb3, sb4, sb5, sb6, sb7, ↓reduceIte, zqa, zqb, zqc, zqd, zqe, zqf, reduceCtorEq, zra, zrb, zrc, zrd, zre, zrf, zrg, zrh, zri, zrj, zrk, zrl, zrm, zqg]
  refine ⟨fun h5 => ?_, fun h5 => ?_⟩
  · refine CallK.pure ⟨rfl, rfl⟩ rfl (deg x M h3') ?_
    have hs : (sz x : Int) - 1 - ((sz b : Int) - 1) = ((sz x - sz b : Nat) : Int) := by omega
    have h6 : 2 ^ (sz x - sz b) < 2 ^ 64 := Nat.pow_lt_pow_right (by omega) (by omega)
    have h6' : 2 ^ (sz x - sz b) < 18446744073709551616 := h6
    have h7 : sz (b * 2 ^ (sz x - sz b)) = sz x := by rw [sz_mul_pow hb0]; omega
    have h8 : b * 2 ^ (sz x - sz b) < 2 ^ 64 := sz_le.1 (by omega)
    have h9 := sz_step hb0 (show sz b ≤ sz x by omega)
    have h10 := h2 (sz x - sz b) (by omega)
    have h11 : (0 : Int) ≤ ((2 ^ (sz x - sz b) : Nat) : Int) ∧ ((2 ^ (sz x - sz b) : Nat) : Int) ≤ 18446744073709551615 := by
      clear h10 h9 h8 h7 h6 hs
      generalize 2 ^ (sz x - sz b) = P at h6' ⊢
      omega
    simp only [shs, zts, sos, sls, zss, eqs, sx, sb1, sb2, sb3, sb4, sb5, sb6, sb7, ↓reduceIte, zqa, zqb, zqc, zqd, zqe, zqf, reduceCtorEq, zra, zrb, zrc, zrd, zre, zrf, zrg, zrh, zri, zrj, zrk, zrl, zrm, zqg, inK, lo, hi, hs, pw, mwc, Int.one_mul, b64, b64u, uw hb', orw h4' h6', or_pow h10]
    refine ⟨by omega, ⟨by omega, h11⟩, (fun h => by cases h), by omega, by omega, (q ^^^ 2 ^ (sz x - sz b), x ^^^ b * 2 ^ (sz x - sz b)), ⟨⟨⟨⟨?_, fun j hj => ?_⟩, Nat.xor_lt_two_pow h3 h8⟩, Nat.xor_lt_two_pow h4 h6⟩, h9⟩, Ent.of ?_⟩
    · simp only
      rw [mulp_xor, mulp_pow1]
      conv => lhs; rw [h1]
      rw [show mulp q b ^^^ b * 2 ^ (sz x - sz b) ^^^ (x ^^^ b * 2 ^ (sz x - sz b)) = (mulp q b ^^^ x) ^^^ (b * 2 ^ (sz x - sz b) ^^^ b * 2 ^ (sz x - sz b)) by ac_rfl, Nat.xor_self, Nat.xor_zero]
    · simp only at hj ⊢
      rw [testBit_flip, if_neg (by omega)]
      exact h2 j (by omega)
    · simp only [sx, sb1, sb2, sb3, sb4, sb5, sb6, sb7, ↓reduceIte, zqa, zqb, zqc, zqd, zqe, zqf, reduceCtorEq, zra, zrb, zrc, zrd, zre, zrf, zrg, zrh, zri, zrj, zrk, zrl, zrm, zqg]
  · obtain ⟨e1, e2⟩ := divmod_uniq h1 (show sz x < sz b by omega)
    rw [e1, e2]

/-! ### the exported functions -/
def bad (a : Int) : Prop := a < 0 ∨ 2147483647 < a
instance (a : Int) : Decidable (bad a) := inferInstanceAs (Decidable (_ ∨ _))
def er (a : Int) : Int := if a < 0 ∨ 2147483647 < a then 1 else 0
theorem er_bad {a : Int} (h : a < 0 ∨ 2147483647 < a) : er a = 1 := if_pos h
theorem er_ok {a : Int} (h : ¬ (a < 0 ∨ 2147483647 < a)) : er a = 0 := if_neg h
theorem check (a : Int) (M : Mem) : Meets Proofs.Tryz.prog 54 [.v (.int .i64 a)] M fun r _ _ => r = .v (.int .i64 (er a)) := by
  refine Meets.of_body [0,2,8] Proofs.Tryz.func54 rfl (by kernel_rfl) rfl fun w => ?_
  simp only [Proofs.Tryz.f54, shs, zts, sos, sls, zss, eqs, sx, sb1, sb2, sb3, sb4, sb5, sb6, sb7, ↓reduceIte, zqa, zqb, zqc, zqd, zqe, zqf, reduceCtorEq, zra, zrb, zrc, zrd, zre, zrf, zrg, zrh, zri, zrj, zrk, zrl, zrm, zqg]
  refine ⟨fun h => ?_, fun h => ?_⟩
  · rw [er_bad (by omega)]
  · rw [er_ok (by omega)]
def er2 (a b : Int) : Int := if a < 0 ∨ 2147483647 < a then 1 else er b
theorem two (a b : Int) (M : Mem) : Meets Proofs.Tryz.prog 29 [.v (.int .i64 a), .v (.int .i64 b)] M fun r _ _ => r = .v (.int .i64 (er2 a b)) := by
  refine Meets.of_body [0,1,4,5,9] Proofs.Tryz.func29 rfl (by kernel_rfl) rfl fun w => ?_
  simp only [Proofs.Tryz.f29, shs, zts, sos, sls, zss, eqs, sx, sb1, sb2, sb3, sb4, sb5, sb6, sb7, ↓reduceIte, zqa, zqb, zqc, zqd, zqe, zqf, reduceCtorEq, zra, zrb, zrc, zrd, zre, zrf, zrg, zrh, zri, zrj, zrk, zrl, zrm, zqg]
  refine CallK.pure ⟨rfl, rfl⟩ rfl (check a M) ?_
  simp only [shs, zts, sos, sls, zss, eqs, sx, sb1, sb2, sb3, sb4, sb5, sb6, sb7, ↓reduceIte, zqa, zqb, zqc, zqd, zqe, zqf, reduceCtorEq, zra, zrb, zrc, zrd, zre, zrf, zrg, zrh, zri, zrj, zrk, zrl, zrm, zqg, er2]
  by_cases h : a < 0 ∨ 2147483647 < a
  · simp only [er_bad h, if_pos h, sx, sb1, sb2, sb3, sb4, sb5, sb6, sb7, ↓reduceIte, zqa, zqb, zqc, zqd, zqe, zqf, reduceCtorEq, zra, zrb, zrc, zrd, zre, zrf, zrg, zrh, zri, zrj, zrk, zrl, zrm, zqg]
  · simp only [er_ok h, if_neg h, sx, sb1, sb2, sb3, sb4, sb5, sb6, sb7, ↓reduceIte, zqa, zqb, zqc, zqd, zqe, zqf, reduceCtorEq, zra, zrb, zrc, zrd, zre, zrf, zrg, zrh, zri, zrj, zrk, zrl, zrm, zqg]
    refine CallK.pure ⟨rfl, rfl⟩ rfl (check b M) ?_
    simp only [shs, zts, sos, sls, zss, eqs, sx, sb1, sb2, sb3, sb4, sb5, sb6, sb7, ↓reduceIte, zqa, zqb, zqc, zqd, zqe, zqf, reduceCtorEq, zra, zrb, zrc, zrd, zre, zrf, zrg, zrh, zri, zrj, zrk, zrl, zrm, zqg]
theorem er2_ok {a b : Nat} (ha : a ≤ 2147483647) (hb : b ≤ 2147483647) : er2 a b = 0 := by
  unfold er2; rw [if_neg (by omega), er_ok (by omega)]
/-- what Mul returns -/
def mulV (a b : Nat) : SV := if mulp a b ≤ 2147483647 then .tup [.v (.int .i64 ((mulp a b : Nat) : Int)), .v (.int .i64 0)] else .tup [.v (.int .i64 0), .v (.int .i64 2)]
theorem mulp_62 {a b : Nat} (ha : a ≤ 2147483647) (hb : b ≤ 2147483647) : mulp a b < 4611686018427387904 := sz_le.1 (Nat.le_trans (sz_mulp_le (sz31 ha) (sz31 hb)) (show 31 + 31 ≤ 62 by omega))
theorem Mul (a b : Nat) (M : Mem) (ha : a ≤ 2147483647) (hb : b ≤ 2147483647) : Meets Proofs.Tryz.prog 15 [.v (.int .i64 (a : Int)), .v (.int .i64 (b : Int))] M fun r _ _ => r = mulV a b := by
  refine Meets.of_body [0,1,4,5,6,7,12,18] Proofs.Tryz.func15 rfl (by kernel_rfl) rfl fun w => ?_
  have hm := mulp_62 ha hb
  simp only [Proofs.Tryz.f15, shs, zts, sos, sls, zss, eqs, sx, sb1, sb2, sb3, sb4, sb5, sb6, sb7, ↓reduceIte, zqa, zqb, zqc, zqd, zqe, zqf, reduceCtorEq, zra, zrb, zrc, zrd, zre, zrf, zrg, zrh, zri, zrj, zrk, zrl, zrm, zqg]
  refine CallK.pure ⟨rfl, rfl⟩ rfl (two a b M) ?_
  simp only [shs, zts, sos, sls, zss, eqs, sx, sb1, sb2, sb3, sb4, sb5, sb6, sb7, ↓reduceIte, zqa, zqb, zqc, zqd, zqe, zqf, reduceCtorEq, zra, zrb, zrc, zrd, zre, zrf, zrg, zrh, zri, zrj, zrk, zrl, zrm, zqg, er2_ok ha hb]
  refine CallK.pure ⟨rfl, rfl⟩ rfl (times a b M ha hb) ?_
  simp only [shs, zts, sos, sls, zss, eqs, sx, sb1, sb2, sb3, sb4, sb5, sb6, sb7, ↓reduceIte, zqa, zqb, zqc, zqd, zqe, zqf, reduceCtorEq, zra, zrb, zrc, zrd, zre, zrf, zrg, zrh, zri, zrj, zrk, zrl, zrm, zqg, iw (show mulp a b < 9223372036854775808 by omega), mulV]
  refine ⟨fun h => ?_, fun h => ⟨(fun h => by cases h), ?_⟩⟩
  · rw [if_neg (by omega)]
  · rw [if_pos (by omega)]
/-! ### greatest common divisors -/
end Go.X.Pl

namespace Go.X.Rp
open Go Go.X Go.X.Pol Go.X.Pl

theorem drop_at {α : Type} {l : List α} {i : Nat} (h : i < l.length) : ∃ x, l[i]? = some x ∧ l.drop i = x :: l.drop (i + 1) :=
  ⟨_, List.getElem?_eq_getElem h, List.drop_eq_getElem_cons h⟩

/-! ### greatest common divisors -/
end Go.X.Rp

namespace Go.X.Mv
open Go Go.X Go.X.Pol Go.X.Pl Go.X.Rp Go.X.Pd Go.X.Md

theorem p30 {m : Nat} (hm : m ≤ 2147483647) : 2 ^ (sz m - 1) ≤ 1073741824 := Nat.pow_le_pow_right (n := 2) (j := 30) (by omega) (by have := sz31 hm; omega)
theorem red_lt {m x : Nat} (h0 : m ≠ 0) : pmod x m < 2 ^ (sz m - 1) := sz_le.1 (by have := (divmod (a := x) h0).2; omega)
theorem red_le {m x : Nat} (h0 : m ≠ 0) (hm : m ≤ 2147483647) : pmod x m ≤ 1073741824 := Nat.le_trans (Nat.le_of_lt (red_lt h0)) (p30 hm)
end Go.X.Mv

namespace Go.X
open Go Go.RowKit

section
variable {P : Program} {ops : Array Oper} {md : Region.Mode} {C : World → Prop}

/-- whatever order the head comes up in -/
def headQ (P : Program) (md : Region.Mode) (ops : Array Oper) (C : World → Prop) (n : Nat) (L : Array Bool → Act → Prop) : Nat → Array Bool → Act → Prop
  | 0, listed, a => L listed a
  | f + 1, listed, a => Region.ready md ops listed ≠ [] ∧ ∀ i ∈ Region.ready md ops listed, i < n ∧ qOp P ops C i (headQ P md ops C n L f (listed.setIfInBounds i true)) a

theorem headQ_any {n g : Nat} {L : Array Bool → Act → Prop} {Q : Exit → Act → World → Prop} (hL : ∀ listed a w, C w → L listed a → wpAny P md ops Q g listed a w) :
    ∀ (f : Nat) (listed : Array Bool) (a : Act) (w : World), C w → headQ P md ops C n L f listed a → wpAny P md ops Q (f + g) listed a w
  | 0, listed, a, w, hw, h => by rw [Nat.zero_add]; exact hL _ _ _ hw h
  | f + 1, listed, a, w, hw, h => by
    rw [show f + 1 + g = (f + g) + 1 by omega]
    exact ⟨fun h0 => absurd h0 h.1, fun i hi => wpOp_of_qOp hw (fun a' w' hw' h' => headQ_any hL f _ a' w' hw' h') (h.2 i hi).2⟩

theorem headQ_first {n i : Nat} {oi : Oper} {v : Value} {L : Array Bool → Act → Prop} (hi : ops[i]? = some oi) (hsel : ∀ (j : Nat) (o : Oper) cs b, ops[j]? = some o → o.op ≠ .select cs b)
    (hs : Region.sinkB md ops n = true) (hc : Region.chainB md ops n = true) (hn : n < ops.size) (hin : i < n)
    (hdone : ∀ listed a, L listed a → ∀ j ∈ Region.ready md ops listed, n ≤ j) :
    ∀ (f : Nat) (listed : Array Bool) (a : Act), HeadInv md ops n listed →
      (∀ j oj, ops[j]? = some oj → j ≠ i → listed.getD j true = false → (∀ e ∈ oj.after, Region.binds md e = true → e.on ≠ i) → oi.apart ops oj = true) →
      i ∈ Region.ready md ops listed → YieldsIn P ops C oi v a →
      headQ P md ops C n L f (listed.setIfInBounds i true) (a.put oi.dst v) → headQ P md ops C n L (f + 1) listed a := by
  intro f
  induction f with
  | zero =>
    intro listed a inv _ hr hy K
    have hun := (mem_ready.1 hr).1
    refine ⟨fun h => (by rw [h] at hr; cases hr), fun j hj => ?_⟩
    have hjn : j < n := by
      rcases Nat.lt_or_ge j n with h | h
      · exact h
      · exact absurd hj (tail_waits hs hc hn inv _ i rfl hin hun j h)
    refine ⟨hjn, ?_⟩
    by_cases hji : j = i
    · subst hji; exact hy.qOp hi K
    · have := hdone _ _ K j (ready_mono hj hji)
      omega
  | succ f ih =>
    intro listed a inv hfree hr hy K
    have hun := (mem_ready.1 hr).1
    refine ⟨fun h => (by rw [h] at hr; cases hr), fun j hj => ?_⟩
    have hjn : j < n := by
      rcases Nat.lt_or_ge j n with h | h
      · exact h
      · exact absurd hj (tail_waits hs hc hn inv _ i rfl hin hun j h)
    refine ⟨hjn, ?_⟩
    by_cases hji : j = i
    · subst hji; exact hy.qOp hi K
    · have h1 := (K.2 j (ready_mono hj hji)).2
      obtain ⟨hjun, oj, hoj, hall⟩ := mem_ready.1 hj
      have hnot : ∀ e ∈ oj.after, Region.binds md e = true → e.on ≠ i := fun e he hb heq => by
        have h1 := hall e he hb
        rw [heq, getD_both hun] at h1
        cases h1
      have h2 := qOp_put hoj (hfree j oj hoj hji hjun hnot) (fun cs b => hsel i oi cs b hi) (fun cs b => hsel j oj cs b hoj) hy h1
      have hfree' : ∀ k ok, ops[k]? = some ok → k ≠ i → (listed.setIfInBounds j true).getD k true = false →
          (∀ e ∈ ok.after, Region.binds md e = true → e.on ≠ i) → oi.apart ops ok = true := fun k ok hk hki hun hno => by
        refine hfree k ok hk hki ?_ hno
        by_cases hjk : j = k
        · subst hjk; exact hjun
        · rw [getD_set_ne true hjk] at hun; exact hun
      refine qOp_mono (fun a' h3 => ih (listed.setIfInBounds j true) a' (inv.set hj hjn) hfree' (ready_mono hr (Ne.symm hji)) h3.1 ?_) h2
      rw [Array.setIfInBounds_comm _ _ hji]
      exact h3.2

theorem headQ_lex {n g : Nat} {Lq : Act → Prop} (hsel : Region.noSelect ops = true) (hs : Region.sinkB md ops n = true) (hc : Region.chainB md ops n = true) (hn : n < ops.size) :
    ∀ (l : List Oper) (k : Nat) (listed : Array Bool) (a : Act), (∀ j, j < l.length → l[j]? = ops[k + j]?) → k + l.length = n → HeadInv md ops n listed →
    Region.lexHead md ops g l.length k listed = true → wpQuiet P ops C Lq l a →
    headQ P md ops C n (fun listed' a' => Region.seqB md ops g n listed' = true ∧ Lq a') l.length listed a
  | [], k, listed, a, _, hk, _, hB, h => by
    have : k = n := by simpa using hk
    subst this
    exact ⟨by simpa [Region.lexHead] using hB, h⟩
  | o :: l, k, listed, a, hl, hk, inv, hB, h => by
    have h0 : ops[k]? = some o := by simpa using (hl 0 (by simp)).symm
    simp only [List.length_cons, Region.lexHead, Bool.and_eq_true] at hB
    obtain ⟨⟨hr, hf⟩, hB'⟩ := hB
    have hkn : k < n := by simp only [List.length_cons] at hk; omega
    have hr' : k ∈ Region.ready md ops listed := by simpa using hr
    have hst : qOp P ops C k (wpQuiet P ops C Lq l) a := by unfold qOp; simp only [h0]; exact h
    obtain ⟨v, hy, hK⟩ := yieldsIn_of_qOp h0 hst
    exact headQ_first h0 (Region.noSelect_spec hsel) hs hc hn hkn (fun listed' a' hL => seqB_ready hL.1) l.length listed a inv (Region.free_spec h0 hf) hr' hy
      (headQ_lex hsel hs hc hn l (k + 1) _ _ (fun j hj => by have := hl (j + 1) (by simp; omega); simpa [Nat.add_assoc, Nat.add_comm 1 j] using this) (by simp only [List.length_cons] at hk; omega) (inv.set hr' hkn) hB' hK)

theorem wp_region_tail {id : Nat} {Q : Exit → Act → World → Prop} {a : Act} {w : World} (n : Nat) (hm : P.follows .mixedOrders = true) (hB : Region.lexTailB .any ops n = true) (hC : C { w with drawn := w.drawn + 1 })
    (h : wpQuiet P ops C (fun a' => ∀ w', C w' → wpList P ops Q (ops.toList.drop n) a' w') (ops.toList.take n) a) : (Code.region id ops true).wp P Q a w := by
  simp only [Region.lexTailB, Bool.and_eq_true, decide_eq_true_eq] at hB
  obtain ⟨⟨⟨⟨hsel, hn⟩, hs⟩, hc⟩, hlex⟩ := hB
  have hn' : n < ops.toList.length := by simpa using hn
  have htl : (ops.toList.take n).length = n := by rw [List.length_take]; omega
  have hdl : (ops.toList.drop n).length = ops.size - n := by simp
  have inv0 : HeadInv .any ops n (Array.replicate ops.size false) :=
    ⟨by simp, fun j oj _ hl => (by rw [getD_replicate_false] at hl; cases hl), fun t _ ht => getD_in (by simpa using ht) (getD_replicate_false _ _)⟩
  have K := headQ_lex (md := .any) (C := C) (g := ops.size - n) hsel hs hc hn (ops.toList.take n) 0 _ a (fun j hj => by
    have hj' : j < n := by rw [htl] at hj; exact hj
    rw [List.getElem?_take, if_pos hj', Nat.zero_add, Array.getElem?_toList]) (by simpa using htl) inv0 (by rw [htl]; exact hlex) h
  refine wp_region_any hm ?_
  have := headQ_any (C := C) (Q := Q) (g := ops.size - n) (fun listed a' w' hw' hL => by
    have := wpAny_of_seq (md := .any) (Q' := Q) (ops.toList.drop n) n listed a' w' (fun j => by rw [List.getElem?_drop, Array.getElem?_toList]) (by rw [hdl]; exact hL.1) (hL.2 w' hw')
    rwa [hdl] at this) _ _ _ _ hC K
  rw [htl, show n + (ops.size - n) = ops.size by omega] at this
  exact this
end

section
variable {E : Env} {σ : Sig} {H : HS} {M : Mem}
/-- .. the first n operations are quiet, the others follow in their order -/
theorem DrawK.tail {id : Nat} {ops : Array Oper} {K : KP} (n : Nat) (hm : E.P.follows .mixedOrders = true) (hB : Region.lexTailB .any ops n = true)
    (h : wpQ E ops.toList (wpR E ops.toList K (ops.toList.drop n)) (ops.toList.take n) σ H M) : DrawK E id ops K σ H M := by
  rintro a w ⟨ν, hs, hh⟩
  refine wp_region_tail (C := fun w' => Heap E ν H M w') n hm hB (hh.grow ((Below.refl _ _).drew)) ?_
  have := wpQ_sound (E := E) (ops := ops.toList) (K := wpR E ops.toList K (ops.toList.drop n)) (Nx := fun a' => ∀ w', Heap E ν H M w' → wpList E.P ops (fun e a w => e = Exit.normal ∧ ∃ σ H M, Rep E σ H M a w ∧ K σ H M) (ops.toList.drop n) a' w')
    (fun σ a hs hk w' hw' => by
      have := wpR_sound (E := E) (ops := ops.toList) (K := K) (Q := fun e a w => e = Exit.normal ∧ ∃ σ H M, Rep E σ H M a w ∧ K σ H M) (fun σ H M a w hr hk => ⟨rfl, σ, H, M, hr, hk⟩) (ops.toList.drop n) σ H M a w' ⟨ν, hs, hw'⟩ hk
      simpa using this) (fun w' => Heap E ν H M w') (fun _ h => h) (fun w w' h hb => h.grow hb) w hh (ops.toList.take n) σ a hs h
  simpa using this

/-! ### closures over boxes of the call's own -/
def tieH (xs : Nat → Value) : HS → HS
  | [] => []
  | (k, .box cs _) :: H => (k, .box cs (some (xs k))) :: tieH xs H
  | (k, .row sz es) :: H => (k, .row sz es) :: tieH xs H
  | (k, .tab sz es) :: H => (k, .tab sz es) :: tieH xs H
  | (k, .mp es) :: H => (k, .mp es) :: tieH xs H
def untieH : HS → HS
  | [] => []
  | (k, .box cs _) :: H => (k, .box cs none) :: untieH H
  | (k, .row sz es) :: H => (k, .row sz es) :: untieH H
  | (k, .tab sz es) :: H => (k, .tab sz es) :: untieH H
  | (k, .mp es) :: H => (k, .mp es) :: untieH H
def allBox : HS → Bool
  | [] => true
  | (_, .box _ _) :: H => allBox H
  | (_, .row _ _) :: _ => false
  | (_, .tab _ _) :: _ => false
  | (_, .mp _) :: _ => false
def tiedH (xs : Nat → Value) : HS → Prop
  | [] => True
  | (k, .box cs t) :: H => (t = some (xs k) ∧ SV.concs cs = true) ∧ tiedH xs H
  | (_, .row _ _) :: _ => False
  | (_, .tab _ _) :: _ => False
  | (_, .mp _) :: _ => False

theorem tieH_mem {xs : Nat → Value} : ∀ {H : HS} {q : Nat × PO}, allBox H = true → q ∈ tieH xs H → ∃ cs t, (q.1, PO.box cs t) ∈ H ∧ q.2 = .box cs (some (xs q.1))
  | [], q, _, h => by simp [tieH] at h
  | (k, .box cs t) :: H, q, hb, h => by
    simp only [tieH] at h
    rcases List.mem_cons.1 h with rfl | h
    · exact ⟨cs, t, List.mem_cons_self, rfl⟩
    · obtain ⟨cs', t', h1, h2⟩ := tieH_mem (H := H) hb h
      exact ⟨cs', t', List.mem_cons_of_mem _ h1, h2⟩
  | (k, .row _ _) :: H, q, hb, h => by cases hb
  | (k, .tab _ _) :: H, q, hb, h => by cases hb
  | (k, .mp _) :: H, q, hb, h => by cases hb
theorem tieH_fp (ν : Nat → Value) (xs : Nat → Value) : ∀ H : HS, fp ν (tieH xs H) = fp ν H
  | [] => rfl
  | (k, .box cs t) :: H => by
    have := tieH_fp ν xs H
    simp only [tieH, fp, List.filterMap_cons] at this ⊢
    rw [this]
  | (k, .row _ _) :: H => by
    have := tieH_fp ν xs H
    simp only [tieH, fp, List.filterMap_cons] at this ⊢
    rw [this]
  | (k, .tab _ _) :: H => by
    have := tieH_fp ν xs H
    simp only [tieH, fp, List.filterMap_cons] at this ⊢
    rw [this]
  | (k, .mp _) :: H => by
    have := tieH_fp ν xs H
    simp only [tieH, fp, List.filterMap_cons] at this ⊢
    rw [this]
theorem untieH_mem {xs : Nat → Value} : ∀ {H : HS} {q : Nat × PO}, tiedH xs H → q ∈ untieH H → ∃ cs, (q.1, PO.box cs (some (xs q.1))) ∈ H ∧ q.2 = .box cs none ∧ SV.concs cs = true
  | [], q, _, h => by simp [untieH] at h
  | (k, .box cs t) :: H, q, hb, h => by
    simp only [untieH] at h
    obtain ⟨⟨rfl, hc⟩, hb⟩ := hb
    rcases List.mem_cons.1 h with rfl | h
    · exact ⟨cs, List.mem_cons_self, rfl, hc⟩
    · obtain ⟨cs', h1, h2⟩ := untieH_mem (H := H) hb h
      exact ⟨cs', List.mem_cons_of_mem _ h1, h2⟩
  | (k, .row _ _) :: H, q, hb, h => hb.elim
  | (k, .tab _ _) :: H, q, hb, h => hb.elim
  | (k, .mp _) :: H, q, hb, h => hb.elim
theorem untieH_fp {ν ν' : Nat → Value} : ∀ {H : HS}, (∀ q ∈ H, ν q.1 = ν' q.1) → fp ν (untieH H) = fp ν' H
  | [], _ => rfl
  | (k, .box cs t) :: H, h => by
    have := untieH_fp (H := H) (fun q hq => h q (List.mem_cons_of_mem _ hq))
    have h0 := h _ List.mem_cons_self
    simp only [untieH, fp, List.filterMap_cons] at this h0 ⊢
    rw [this, h0]
  | (k, .row _ _) :: H, h => by
    have := untieH_fp (H := H) (fun q hq => h q (List.mem_cons_of_mem _ hq))
    have h0 := h _ List.mem_cons_self
    simp only [untieH, fp, List.filterMap_cons] at this h0 ⊢
    rw [this, h0]
  | (k, .tab _ _) :: H, h => by
    have := untieH_fp (H := H) (fun q hq => h q (List.mem_cons_of_mem _ hq))
    have h0 := h _ List.mem_cons_self
    simp only [untieH, fp, List.filterMap_cons] at this h0 ⊢
    rw [this, h0]
  | (k, .mp _) :: H, h => by
    have := untieH_fp (H := H) (fun q hq => h q (List.mem_cons_of_mem _ hq))
    have h0 := h _ List.mem_cons_self
    simp only [untieH, fp, List.filterMap_cons] at this h0 ⊢
    rw [this, h0]
theorem tiedH_mem {xs : Nat → Value} : ∀ {H : HS} {q : Nat × PO}, tiedH xs H → q ∈ H → ∃ cs, q.2 = .box cs (some (xs q.1))
  | (k, .box cs t) :: H, q, hb, h => by
    obtain ⟨⟨rfl, hc⟩, hb⟩ := hb
    rcases List.mem_cons.1 h with rfl | h
    · exact ⟨cs, rfl⟩
    · exact tiedH_mem hb h
  | (k, .row _ _) :: H, q, hb, h => hb.elim
  | (k, .tab _ _) :: H, q, hb, h => hb.elim
  | (k, .mp _) :: H, q, hb, h => hb.elim
  | [], q, _, h => by simp at h

/-- a call of a closure that reads and writes boxes of the caller's own: its body is walked in the caller's private heap -/
theorem CallK.boxes {f d : Nat} {fn : Func} {c : Code} {l : List SV} {K : KP} (live : List Nat) (hf : E.P.funcs[f]? = some fn) (hb : fn.body = some c) (hn : okFn fn l.length = true) (hd : decide (d < E.N) = true) (hH : allBox H = true)
    (h : ∀ xs : Nat → Value, wpC ⟨E.P, fn.ntmps, E.w0, E.M0⟩ live c (RetK E.P fn.results.toList (fun s H' M' => (s.conc = true ∧ tiedH xs H') ∧ K ((d, true, s) :: σ) (untieH H') M')) (params fn.ntmps 0 l) (tieH xs H) M) :
    CallK E f l d K σ H M := by
  intro ν a w hs hh
  simp only [okFn, Bool.and_eq_true, Bool.not_eq_true', decide_eq_true_eq] at hn
  refine .inl ⟨⟨fn, hf, hn.1.1, hn.1.2⟩, ?_⟩
  refine calls_of_wp hf hb ?_
  have hlen : (SV.vals ν l).length = l.length := by rw [SV.vals_map]; simp
  have hheap : Heap ⟨E.P, fn.ntmps, E.w0, E.M0⟩ ν (tieH ν H) M w := by
    refine ⟨fun q hq => ?_, by rw [tieH_fp]; exact hh.nodup, by rw [tieH_fp]; exact hh.apart, hh.mem, hh.below, hh.le0, hh.fresh, hh.one⟩
    obtain ⟨cs, t, h1, h2⟩ := tieH_mem hH hq
    have := hh.holds _ h1
    rw [h2]
    obtain ⟨h3, _⟩ := this
    exact ⟨h3, fun v hv => by cases hv; rfl⟩
  refine Code.wp_mono ?_ (wpC_sound c _ _ _ _ (h ν) _ w ⟨ν, ⟨?_, rfl, ?_⟩, hheap⟩)
  · rintro e a' w' ⟨σ', H', M', ⟨ν', hs', hh'⟩, hq⟩
    have key : (match rsvs E.P σ' H' M' fn.results.toList with | some (ss, C) => C ∧ ((one? ss).conc = true ∧ tiedH ν H') ∧ K ((d, true, one? ss) :: σ) (untieH H') M' | none => False) →
        a'.defers = [] ∧ ∃ v, (results fn a'.tmps).run E.P w' = .ok v w' ∧ ∃ v', Ending.returned v = .returned v' ∧ ∃ σ'' H'' M'', Rep E σ'' H'' M'' (a.put (some d) v') w' ∧ K σ'' H'' M'' := by
      intro hq
      split at hq
      · rename_i ss C hr
        obtain ⟨hC, ⟨hc, ht⟩, hK⟩ := hq
        refine ⟨hs'.2.1, _, results_sound hs' hh' hr hC, _, rfl, _, _, _, ⟨ν, ?_, ?_⟩, hK⟩
        · exact hs.put (of_decide_eq_true hd) (by rw [SV.conc_val (ν := ν') (ν' := ν) _ hc]; rfl)
        · have heq : ∀ q ∈ H', ν q.1 = ν' q.1 := fun q hq => by
            obtain ⟨cs, h2⟩ := tiedH_mem ht hq
            have h3 := hh'.holds q hq
            rw [h2] at h3
            exact (h3.2 _ rfl).symm
          refine ⟨fun q hq => ?_, by rw [untieH_fp heq]; exact hh'.nodup, by rw [untieH_fp heq]; exact hh'.apart, hh'.mem, hh'.below, hh'.le0, hh'.fresh, hh.one⟩
          obtain ⟨cs, h1, h2, h3⟩ := untieH_mem ht hq
          obtain ⟨⟨b, T, e1, e2⟩, e3⟩ := hh'.holds _ h1
          rw [h2]
          refine ⟨⟨b, T, ?_, ?_⟩, fun _ h => by cases h⟩
          · rw [heq _ h1]; exact e1
          · rw [SV.concs_vals (ν := ν') (ν' := ν) cs h3]; exact e2
      · exact hq.elim
    cases e with
    | normal => exact key hq
    | ret => exact key hq
    | _ => exact hq.elim
  · simp only [Array.size_append, List.size_toArray, Array.size_replicate, hlen]; omega
  · intro k g s hk
    obtain ⟨i, rfl, hg, hi⟩ := lk_params hk
    simp only at hg hi
    subst hg
    have hlt : i < l.length := (List.getElem?_eq_some_iff.1 hi).1
    rw [Array.getElem?_append_left (by simp only [List.size_toArray, hlen]; omega), List.getElem?_toArray, SV.vals_map, List.getElem?_map, Nat.zero_add, hi]
    rfl

/-! ### the same, the boxes under other keys: the callee may lay boxes and rows of its own -/
mutual
def SV.sh (B : Nat) : SV → SV
  | .v x => .v x
  | .own k => .own (k + B)
  | .ptr k sz i off => .ptr (k + B) sz i off
  | .ea x a b c => .ea x a b c
  | .agg l => .agg (SV.shs B l)
  | .tup l => .tup (SV.shs B l)
  | .fn f l => .fn f (SV.shs B l)
def SV.shs (B : Nat) : List SV → List SV
  | [] => []
  | s :: l => SV.sh B s :: SV.shs B l
end
def shN (B : Nat) (ν : Nat → Value) : Nat → Value := fun j => if B ≤ j then ν (j - B) else ν j
theorem shN_at (B : Nat) (ν : Nat → Value) (k : Nat) : shN B ν (k + B) = ν k := by
  unfold shN
  rw [if_pos (by omega), Nat.add_sub_cancel]
mutual
theorem SV.sh_val {B : Nat} {ν : Nat → Value} : ∀ s : SV, (s.sh B).val (shN B ν) = s.val ν
  | .v _ => rfl
  | .own k => by simp only [SV.sh, SV.val, shN_at]
  | .ptr k sz i off => by simp only [SV.sh, SV.val, shN_at]
  | .ea _ _ _ _ => rfl
  | .agg l => by simp only [SV.sh, SV.val, SV.shs_vals l]
  | .tup l => by simp only [SV.sh, SV.val, SV.shs_vals l]
  | .fn f l => by simp only [SV.sh, SV.val, SV.shs_vals l]
theorem SV.shs_vals {B : Nat} {ν : Nat → Value} : ∀ l : List SV, SV.vals (shN B ν) (SV.shs B l) = SV.vals ν l
  | [] => rfl
  | s :: l => by simp only [SV.shs, SV.vals, SV.sh_val s, SV.shs_vals l]
end
theorem SV.shs_len (B : Nat) : ∀ l : List SV, (SV.shs B l).length = l.length
  | [] => rfl
  | s :: l => by simp only [SV.shs, List.length_cons, SV.shs_len B l]

def lentH (B : Nat) (xs : Nat → Value) : HS → HS
  | [] => []
  | (k, .box cs _) :: H => (k + B, .box cs (some (xs k))) :: lentH B xs H
  | (_, .row _ _) :: H => lentH B xs H
  | (_, .tab _ _) :: H => lentH B xs H
  | (_, .mp _) :: H => lentH B xs H
def lentB : HS → Bool
  | [] => true
  | (_, .box cs _) :: H => SV.concs cs && lentB H
  | (_, .row _ _) :: _ => false
  | (_, .tab _ _) :: _ => false
  | (_, .mp _) :: _ => false
/-- what comes back -/
def backC (xs : Nat → Value) (k : Nat) (t : Option Value) (r : HS × Prop) : Option PO → HS × Prop
  | some (.box cs t') => ((k, .box cs t) :: r.1, (t' = some (xs k) ∧ SV.concs cs = true) ∧ r.2)
  | _ => ([], False)
def backH (B : Nat) (xs : Nat → Value) (H' : HS) : HS → HS × Prop
  | [] => ([], True)
  | (k, .box _ t) :: H => backC xs k t (backH B xs H' H) (hget H' (k + B))
  | (_, .row _ _) :: _ => ([], False)
  | (_, .tab _ _) :: _ => ([], False)
  | (_, .mp _) :: _ => ([], False)

theorem lentH_mem {B : Nat} {xs : Nat → Value} : ∀ {H : HS} {q : Nat × PO}, lentB H = true → q ∈ lentH B xs H → ∃ k cs t, (k, PO.box cs t) ∈ H ∧ q = (k + B, .box cs (some (xs k))) ∧ SV.concs cs = true
  | [], q, _, h => by simp [lentH] at h
  | (k, .box cs t) :: H, q, hb, h => by
    simp only [lentB, Bool.and_eq_true] at hb
    simp only [lentH] at h
    rcases List.mem_cons.1 h with rfl | h
    · exact ⟨k, cs, t, List.mem_cons_self, rfl, hb.1⟩
    · obtain ⟨k', cs', t', h1, h2⟩ := lentH_mem (H := H) hb.2 h
      exact ⟨k', cs', t', List.mem_cons_of_mem _ h1, h2⟩
  | (k, .row _ _) :: H, q, hb, h => by cases hb
  | (k, .tab _ _) :: H, q, hb, h => by cases hb
  | (k, .mp _) :: H, q, hb, h => by cases hb
theorem lentH_fp (B : Nat) (ν : Nat → Value) (xs : Nat → Value) : ∀ H : HS, lentB H = true → fp (shN B ν) (lentH B xs H) = fp ν H
  | [], _ => rfl
  | (k, .box cs t) :: H, hb => by
    simp only [lentB, Bool.and_eq_true] at hb
    have := lentH_fp B ν xs H hb.2
    simp only [lentH, fp, List.filterMap_cons, shN_at] at this ⊢
    rw [this]
  | (k, .row _ _) :: H, hb => by cases hb
  | (k, .tab _ _) :: H, hb => by cases hb
  | (k, .mp _) :: H, hb => by cases hb
theorem backH_mem {B : Nat} {xs : Nat → Value} {H' : HS} : ∀ {H : HS} {q : Nat × PO}, (backH B xs H' H).2 → q ∈ (backH B xs H' H).1 → ∃ cs t, q.2 = .box cs t ∧ (q.1 + B, PO.box cs (some (xs q.1))) ∈ H' ∧ SV.concs cs = true ∧ ∃ cs0, (q.1, PO.box cs0 t) ∈ H
  | [], q, _, h => by simp [backH] at h
  | (k, .box cs0 t) :: H, q, hb, h => by
    simp only [backH] at hb h
    cases hg : hget H' (k + B) with
    | none => rw [hg] at hb; exact hb.elim
    | some p =>
      rw [hg] at hb h
      cases p with
      | row _ _ => exact hb.elim
      | tab _ _ => exact hb.elim
      | mp _ => exact hb.elim
      | box cs t' =>
        simp only [backC] at hb h
        obtain ⟨⟨rfl, hc⟩, hb⟩ := hb
        rcases List.mem_cons.1 h with rfl | h
        · exact ⟨cs, t, rfl, hget_mem hg, hc, cs0, List.mem_cons_self⟩
        · obtain ⟨cs', t2, h1, h2, h3, cs1, h4⟩ := backH_mem (H := H) hb h
          exact ⟨cs', t2, h1, h2, h3, cs1, List.mem_cons_of_mem _ h4⟩
  | (k, .row _ _) :: H, q, hb, h => hb.elim
  | (k, .tab _ _) :: H, q, hb, h => hb.elim
  | (k, .mp _) :: H, q, hb, h => hb.elim
theorem backH_fp {B : Nat} {xs : Nat → Value} {H' : HS} (ν : Nat → Value) : ∀ {H : HS}, (backH B xs H' H).2 → fp ν (backH B xs H' H).1 = fp ν H
  | [], _ => rfl
  | (k, .box cs0 t) :: H, hb => by
    simp only [backH] at hb ⊢
    cases hg : hget H' (k + B) with
    | none => rw [hg] at hb; exact hb.elim
    | some p =>
      rw [hg] at hb
      cases p with
      | row _ _ => exact hb.elim
      | tab _ _ => exact hb.elim
      | mp _ => exact hb.elim
      | box cs t' =>
        simp only [backC] at hb ⊢
        have := backH_fp ν (H := H) hb.2
        simp only [fp, List.filterMap_cons] at this ⊢
        rw [this]
  | (k, .row _ _) :: H, hb => hb.elim
  | (k, .tab _ _) :: H, hb => hb.elim
  | (k, .mp _) :: H, hb => hb.elim

theorem CallK.lendB (B : Nat) {f d : Nat} {fn : Func} {c : Code} {l : List SV} {K : KP} (live : List Nat) (hf : E.P.funcs[f]? = some fn) (hb : fn.body = some c) (hn : okFn fn l.length = true) (hd : decide (d < E.N) = true) (hH : lentB H = true)
    (h : ∀ xs : Nat → Value, wpC ⟨E.P, fn.ntmps, E.w0, E.M0⟩ live c (RetK E.P fn.results.toList (fun s H' M' => (s.conc = true ∧ (backH B xs H' H).2) ∧ K ((d, true, s) :: σ) (backH B xs H' H).1 M')) (params fn.ntmps 0 (SV.shs B l)) (lentH B xs H) M) :
    CallK E f l d K σ H M := by
  intro ν a w hs hh
  simp only [okFn, Bool.and_eq_true, Bool.not_eq_true', decide_eq_true_eq] at hn
  refine .inl ⟨⟨fn, hf, hn.1.1, hn.1.2⟩, ?_⟩
  refine calls_of_wp hf hb ?_
  rw [← SV.shs_vals (B := B) (ν := ν) l]
  have hlen : (SV.vals (shN B ν) (SV.shs B l)).length = l.length := by rw [SV.vals_map, List.length_map, SV.shs_len]
  have hheap : Heap ⟨E.P, fn.ntmps, E.w0, E.M0⟩ (shN B ν) (lentH B ν H) M w := by
    refine ⟨fun q hq => ?_, by rw [lentH_fp B ν ν H hH]; exact hh.nodup, by rw [lentH_fp B ν ν H hH]; exact hh.apart, hh.mem, hh.below, hh.le0, hh.fresh, fun j => ?_⟩
    · obtain ⟨k, cs, t, h1, rfl, hc⟩ := lentH_mem hH hq
      obtain ⟨⟨b, T, e1, e2⟩, _⟩ := hh.holds _ h1
      refine ⟨⟨b, T, by rw [shN_at]; exact e1, by rw [SV.concs_vals (ν := ν) (ν' := shN B ν) cs hc]; exact e2⟩, fun v hv => ?_⟩
      cases hv
      exact shN_at B ν k
    · unfold shN
      split
      · exact hh.one _
      · exact hh.one _
  refine Code.wp_mono ?_ (wpC_sound c _ _ _ _ (h ν) _ w ⟨shN B ν, ⟨?_, rfl, ?_⟩, hheap⟩)
  · rintro e a' w' ⟨σ', H', M', ⟨ν', hs', hh'⟩, hq⟩
    have key : (match rsvs E.P σ' H' M' fn.results.toList with | some (ss, C) => C ∧ ((one? ss).conc = true ∧ (backH B ν H' H).2) ∧ K ((d, true, one? ss) :: σ) (backH B ν H' H).1 M' | none => False) →
        a'.defers = [] ∧ ∃ v, (results fn a'.tmps).run E.P w' = .ok v w' ∧ ∃ v', Ending.returned v = .returned v' ∧ ∃ σ'' H'' M'', Rep E σ'' H'' M'' (a.put (some d) v') w' ∧ K σ'' H'' M'' := by
      intro hq
      split at hq
      · rename_i ss C hr
        obtain ⟨hC, ⟨hc, ht⟩, hK⟩ := hq
        refine ⟨hs'.2.1, _, results_sound hs' hh' hr hC, _, rfl, _, _, _, ⟨ν, ?_, ?_⟩, hK⟩
        · exact hs.put (of_decide_eq_true hd) (by rw [SV.conc_val (ν := ν') (ν' := ν) _ hc]; rfl)
        · refine ⟨fun q hq => ?_, by rw [backH_fp ν ht]; exact hh.nodup, fun b hb => ?_, hh'.mem, hh'.below, hh'.le0, hh'.fresh, hh.one⟩
          · obtain ⟨cs, t, h1, h2, h3, cs0, h4⟩ := backH_mem ht hq
            obtain ⟨⟨b, T, e1, e2⟩, e3⟩ := hh'.holds _ h2
            have e4 := e3 _ rfl
            rw [h1]
            refine ⟨⟨b, T, ?_, ?_⟩, (hh.holds _ h4).2⟩
            · rw [← e4]; exact e1
            · rw [SV.concs_vals (ν := ν') (ν' := ν) cs h3]; exact e2
          · obtain ⟨q, hq, hqb⟩ := List.mem_filterMap.1 hb
            obtain ⟨cs, t, h1, h2, h3, cs0, h4⟩ := backH_mem ht hq
            obtain ⟨_, e3⟩ := hh'.holds _ h2
            have e4 := e3 _ rfl
            exact hh'.apart b (List.mem_filterMap.2 ⟨_, h2, by rw [e4]; exact hqb⟩)
      · exact hq.elim
    cases e with
    | normal => exact key hq
    | ret => exact key hq
    | _ => exact hq.elim
  · simp only [Array.size_append, List.size_toArray, Array.size_replicate, hlen]; omega
  · intro k g s hk
    obtain ⟨i, rfl, hg, hi⟩ := lk_params hk
    simp only at hg hi
    subst hg
    have hlt : i < (SV.shs B l).length := (List.getElem?_eq_some_iff.1 hi).1
    rw [Array.getElem?_append_left (by simp only [List.size_toArray, hlen]; rw [SV.shs_len] at hlt; omega), List.getElem?_toArray, SV.vals_map, List.getElem?_map, Nat.zero_add, hi]
    rfl

/-- a closure as a value -/
theorem OpK.mkFn {o : Oper} {K : KP} {f d : Nat} {caps : Array Operand} {l : List SV} (ho : o.op = .makeFunc (.func f) #[] caps) (hd : o.dst = some d) (hl : argsO σ caps.toList = some (true, l)) (hN : decide (d < E.N) = true)
    (hK : K ((d, true, .fn f l) :: σ) H M) : OpK E o K σ H M := by
  refine opK_of fun ν a w hs hh => ?_
  have e := argsO_spec hs hl rfl
  have e3 : caps.map a.eval = (SV.vals ν l).toArray := by apply Array.ext'; simp [← e]
  refine ⟨.func (.func f) #[] (SV.vals ν l).toArray, w, ?_, _, _, _, ⟨ν, ?_, hh⟩, hK⟩
  · simp [execOp, ho, Instr.makeFunc, e3]
  · rw [hd]
    exact hs.put (of_decide_eq_true hN) rfl
theorem stepK.mkFn {K : KP} {f d : Nat} {caps : Array Operand} {l : List SV} {ty : TypeId} {pos : String} {aft : Array Edge} {gd : Option (Nat × Bool)} (hl : argsO σ caps.toList = some (true, l)) (hN : decide (d < E.N) = true)
    (hK : K ((d, true, .fn f l) :: σ) H M) : stepK E ⟨some d, .makeFunc (.func f) #[] caps, ty, pos, aft, gd⟩ true K σ H M := by
  show true = true ∧ OpK E _ K σ H M
  exact ⟨rfl, OpK.mkFn rfl rfl hl hN hK⟩
end
theorem sd2 : type_of% (And.intro (And.intro (And.intro @lentH.eq_1 @lentH.eq_2) (And.intro @backH.eq_1 @backH.eq_2)) (And.intro (And.intro @backC.eq_1 @lentB.eq_1) (And.intro @lentB.eq_2 (And.intro @SV.shs.eq_1 @SV.shs.eq_2)))) := And.intro (And.intro (And.intro @lentH.eq_1 @lentH.eq_2) (And.intro @backH.eq_1 @backH.eq_2)) (And.intro (And.intro @backC.eq_1 @lentB.eq_1) (And.intro @lentB.eq_2 (And.intro @SV.shs.eq_1 @SV.shs.eq_2)))
theorem sd3 : type_of% (And.intro (And.intro (And.intro @SV.sh.eq_1 @SV.sh.eq_2) (And.intro @SV.sh.eq_3 @SV.sh.eq_4)) (And.intro @SV.sh.eq_5 (And.intro @SV.sh.eq_6 @SV.sh.eq_7))) := And.intro (And.intro (And.intro @SV.sh.eq_1 @SV.sh.eq_2) (And.intro @SV.sh.eq_3 @SV.sh.eq_4)) (And.intro @SV.sh.eq_5 (And.intro @SV.sh.eq_6 @SV.sh.eq_7))
end Go.X

