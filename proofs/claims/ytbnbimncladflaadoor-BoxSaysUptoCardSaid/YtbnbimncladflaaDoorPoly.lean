/- The functions of package poly, and what woolref says of polynomials: what each returns. Conditions: none. -/
import Derived.Test.YtbnbimncladflaaDoorFwC
import Derived.Test.YtbnbimncladflaaDoorPol
set_option linter.unusedSimpArgs false
set_option linter.unusedVariables false
set_option maxHeartbeats 4000000
set_option maxRecDepth 20000
namespace Go.X.Pl
open Go Go.X Go.X.Pol

theorem sz_shift {x k : Nat} (h : 2 ^ k ≤ x) : sz x = k + sz (x / 2 ^ k) := by
  have h0 := Nat.two_pow_pos k
  have h1 : x / 2 ^ k ≠ 0 := Nat.ne_of_gt (Nat.div_pos h h0)
  obtain ⟨h2, h3, h4⟩ := sz_rng h1
  have h5 := Nat.div_mul_le_self x (2 ^ k)
  have h6 : 2 ^ (sz (x / 2 ^ k) - 1) * 2 ^ k ≤ x := Nat.le_trans (Nat.mul_le_mul_right _ h2) h5
  have h7 : x < 2 ^ sz (x / 2 ^ k) * 2 ^ k := (Nat.div_lt_iff_lt_mul h0).1 h3
  rw [← Nat.pow_add] at h6 h7
  rw [sz_eq (k := sz (x / 2 ^ k) - 1 + k) h6 (by rw [show sz (x / 2 ^ k) - 1 + k + 1 = sz (x / 2 ^ k) + k by omega]; exact h7)]
  omega

def tabB (T : List UInt8) : Bool := T.length == 256 && (List.range 256).all fun i => strIx T (i : Int) == (sz i : Int)
theorem tab (T : List UInt8) (hT : tabB T = true) (c y : Int) (n x : Nat) (hy : y = (n : Int)) (hn : n < 256) (hx : (sz x : Int) = c + sz n) (hc : 0 ≤ c ∧ c ≤ 56) :
    Shp.int IntKind.u64 ≠ Shp.bad ∧ (0 ≤ IntKind.u8.wrap y ∧ IntKind.u8.wrap y < (T.length : Int)) ∧ Shp.int IntKind.u8 ≠ Shp.bad ∧ inK IntKind.i64 (c + IntKind.i64.wrap (strIx T (IntKind.u8.wrap y))) ∧
      SV.v (Value.int IntKind.i64 (c + IntKind.i64.wrap (strIx T (IntKind.u8.wrap y)))) = SV.v (Value.int IntKind.i64 ((sz x : Nat) : Int)) := by
  simp only [tabB, Bool.and_eq_true, beq_iff_eq, List.all_eq_true, List.mem_range] at hT
  obtain ⟨h1, h2⟩ := hT
  have h3 := h2 n hn
  have h4 : IntKind.u8.wrap y = (n : Int) := by rw [hy]; exact wrap_in (k := .u8) ⟨by simp only [lo]; omega, by simp only [hi]; omega⟩
  have h5 : sz n ≤ 8 := sz_le.2 (by omega)
  rw [h4, h3, h1, wrap_in (k := .i64) (n := ((sz n : Nat) : Int)) ⟨by simp only [lo]; omega, by simp only [hi]; omega⟩, hx]
  exact ⟨(fun h => by cases h), ⟨by omega, by omega⟩, (fun h => by cases h), ⟨by simp only [lo]; omega, by simp only [hi]; omega⟩, rfl⟩
theorem tab0 (T : List UInt8) (hT : tabB T = true) (y : Int) (n x : Nat) (hy : y = (n : Int)) (hn : n < 256) (hx : (sz x : Int) = sz n) :
    Shp.int IntKind.u64 ≠ Shp.bad ∧ (0 ≤ IntKind.u8.wrap y ∧ IntKind.u8.wrap y < (T.length : Int)) ∧ Shp.int IntKind.u8 ≠ Shp.bad ∧ inK IntKind.i64 (0 + IntKind.i64.wrap (strIx T (IntKind.u8.wrap y))) ∧
      SV.v (Value.int IntKind.i64 (0 + IntKind.i64.wrap (strIx T (IntKind.u8.wrap y)))) = SV.v (Value.int IntKind.i64 ((sz x : Nat) : Int)) := tab T hT 0 y n x hy hn (by omega) (by omega)

theorem len64 (x : Nat) (M : Mem) (hx : x < 18446744073709551616) :
    Meets Proofs.Tryd.prog 72 [.v (.int .u64 (x : Int))] M fun r _ _ => r = .v (.int .i64 ((sz x : Nat) : Int)) := by
  refine Meets.of_body [0,2,4,8,14] Proofs.Tryd.func72 rfl (by kernel_rfl) rfl fun w => ?_
  simp only [Proofs.Tryd.f72, shs, zts, sos, sls, zss, eqs, sx, sb1, sb2, sb3, sb4, sb5, sb6, sb7, ↓reduceIte, Nat.reduceAdd, Nat.reduceMul, Nat.reduceDiv, Nat.reduceEqDiff, Nat.reduceLT, Nat.reduceLeDiff, reduceCtorEq, Int.reduceEq, Int.reduceNe, Int.reduceLT, Int.reduceLE, Int.reduceAdd, Int.reduceSub, Int.reduceMul, Int.reduceNeg, Int.reduceToNat, Int.cast_ofNat_Int, Int.natCast_zero, Int.natCast_one, Int.toNat_natCast, Nat.reduceBEq, inK, lo, hi]
  rw [show ((IntKind.u64.bits : Nat) : Int) = 64 from rfl]
  have e1 : 4294967296 ≤ x → sz x = 32 + sz (x / 4294967296) := fun h => sz_shift (k := 32) h
  have e2 : ∀ y, 65536 ≤ y → sz y = 16 + sz (y / 65536) := fun y h => sz_shift (k := 16) h
  have e3 : ∀ y, 256 ≤ y → sz y = 8 + sz (y / 256) := fun y h => sz_shift (k := 8) h
  have tx := e2 x
  have ty := e2 (x / 4294967296)
  have t1 := e3 x
  have t2 := e3 (x / 4294967296)
  have t3 := e3 (x / 65536)
  have t4 := e3 (x / 4294967296 / 65536)
  refine ⟨fun h1 => ⟨by omega, fun h2 => ⟨by omega, fun h3 => ⟨by omega, ?_⟩, fun h3 => ?_⟩, fun h2 => ⟨fun h3 => ⟨by omega, ?_⟩, fun h3 => ?_⟩⟩,
    fun h1 => ⟨fun h2 => ⟨by omega, fun h3 => ⟨by omega, ?_⟩, fun h3 => ?_⟩, fun h2 => ⟨fun h3 => ⟨by omega, ?_⟩, fun h3 => ?_⟩⟩⟩
  · exact tab _ (by kernel_rfl) _ _ (x / 4294967296 / 65536 / 256) x (by omega) (by omega) (by omega) (by omega)
  · exact tab _ (by kernel_rfl) _ _ (x / 4294967296 / 65536) x (by omega) (by omega) (by omega) (by omega)
  · exact tab _ (by kernel_rfl) _ _ (x / 4294967296 / 256) x (by omega) (by omega) (by omega) (by omega)
  · exact tab _ (by kernel_rfl) _ _ (x / 4294967296) x (by omega) (by omega) (by omega) (by omega)
  · exact tab _ (by kernel_rfl) _ _ (x / 65536 / 256) x (by omega) (by omega) (by omega) (by omega)
  · exact tab _ (by kernel_rfl) _ _ (x / 65536) x (by omega) (by omega) (by omega) (by omega)
  · exact tab _ (by kernel_rfl) _ _ (x / 256) x (by omega) (by omega) (by omega) (by omega)
  · exact tab0 _ (by kernel_rfl) _ x x (by omega) (by omega) (by omega)

theorem pw (s : Nat) : (2 : Int) ^ s = ((2 ^ s : Nat) : Int) := by simp
theorem mw (a s : Nat) : (a : Int) * 2 ^ s = ((a * 2 ^ s : Nat) : Int) := by simp
theorem ow (s : Nat) : (1 : Int) * 2 ^ s = ((2 ^ s : Nat) : Int) := by simp
theorem dw (a s : Nat) : (a : Int) / 2 ^ s = ((a / 2 ^ s : Nat) : Int) := by simp
theorem mwc (a s : Nat) : (a : Int) * ((2 ^ s : Nat) : Int) = ((a * 2 ^ s : Nat) : Int) := by simp
theorem dwc (a s : Nat) : (a : Int) / ((2 ^ s : Nat) : Int) = ((a / 2 ^ s : Nat) : Int) := by simp
theorem b64 : ((IntKind.i64.bits : Nat) : Int) = 64 := rfl
theorem b64u : ((IntKind.u64.bits : Nat) : Int) = 64 := rfl
theorem uw {a : Nat} (h : a < 18446744073709551616) : IntKind.u64.wrap (a : Int) = (a : Int) := wrap_in (k := .u64) ⟨by simp only [lo]; omega, by simp only [hi]; omega⟩
theorem iw {a : Nat} (h : a < 9223372036854775808) : IntKind.i64.wrap (a : Int) = (a : Int) := wrap_in (k := .i64) ⟨by simp only [lo]; omega, by simp only [hi]; omega⟩
theorem orw {x y : Nat} (hx : x < 18446744073709551616) (hy : y < 18446744073709551616) : orV .u64 (x : Int) (y : Int) = ((x ||| y : Nat) : Int) := by
  show IntKind.u64.wrap ((BitVec.ofInt 64 (x : Int) ||| BitVec.ofInt 64 (y : Int)).toNat : Int) = _
  have hl := Nat.or_lt_two_pow (n := 64) hx hy
  rw [BitVec.toNat_or, toNat_ofInt _ _ (by omega) (by omega), toNat_ofInt _ _ (by omega) (by omega), Int.toNat_natCast, Int.toNat_natCast]
  exact uw hl
theorem sz31 {a : Nat} (h : a ≤ 2147483647) : sz a ≤ 31 := sz_le.2 (by omega)
theorem p31 {i : Nat} (h : i ≤ 31) : 2 ^ i ≤ 2147483648 := Nat.pow_le_pow_right (n := 2) (by omega) h
theorem sz_mulp_le {a b n m : Nat} (h1 : sz a ≤ n) (h2 : sz b ≤ m) : sz (mulp a b) ≤ n + m := by
  by_cases ha : a = 0
  · subst ha; rw [mulp_zero]; simp [sz_zero]
  by_cases hb : b = 0
  · subst hb; rw [mulp_zero_right]; simp [sz_zero]
  have := sz_mulp ha hb
  omega
theorem mulp_step (a b i : Nat) : mulp (b % 2 ^ (i + 1)) a = mulp (b % 2 ^ i) a ^^^ (if b / 2 ^ i % 2 = 1 then a * 2 ^ i else 0) := by
  rw [mod_succ, mulp_xor, Nat.testBit_eq_decide_div_mod_eq]
  by_cases h : b / 2 ^ i % 2 = 1
  · simp only [h, decide_true, if_true, mulp_pow1]
  · simp only [h, decide_false, Bool.false_eq_true, if_false, mulp_zero]
theorem sz_mod (b i : Nat) : sz (b % 2 ^ i) ≤ i := sz_le.2 (Nat.mod_lt _ (Nat.two_pow_pos i))

/-! ### the exported functions -/
def bad (a : Int) : Prop := a < 0 ∨ 2147483647 < a
instance (a : Int) : Decidable (bad a) := inferInstanceAs (Decidable (_ ∨ _))
def er (a : Int) : Int := if a < 0 ∨ 2147483647 < a then 1 else 0
theorem er_bad {a : Int} (h : a < 0 ∨ 2147483647 < a) : er a = 1 := if_pos h
theorem er_ok {a : Int} (h : ¬ (a < 0 ∨ 2147483647 < a)) : er a = 0 := if_neg h
def er2 (a b : Int) : Int := if a < 0 ∨ 2147483647 < a then 1 else er b
theorem er2_ok {a b : Nat} (ha : a ≤ 2147483647) (hb : b ≤ 2147483647) : er2 a b = 0 := by
  unfold er2; rw [if_neg (by omega), er_ok (by omega)]
theorem er2_bad {a b : Int} (h : (a < 0 ∨ 2147483647 < a) ∨ (b < 0 ∨ 2147483647 < b)) : er2 a b = 1 := by
  unfold er2; split
  · rfl
  · exact er_bad (by omega)

/-- what Mul returns -/
def mulV (a b : Nat) : SV := if mulp a b ≤ 2147483647 then .tup [.v (.int .i64 ((mulp a b : Nat) : Int)), .v (.int .i64 0)] else .tup [.v (.int .i64 0), .v (.int .i64 2)]
theorem mulp_62 {a b : Nat} (ha : a ≤ 2147483647) (hb : b ≤ 2147483647) : mulp a b < 4611686018427387904 := sz_le.1 (Nat.le_trans (sz_mulp_le (sz31 ha) (sz31 hb)) (show 31 + 31 ≤ 62 by omega))
theorem pdiv_62 {a b : Nat} (ha : a ≤ 2147483647) (hb0 : b ≠ 0) : pdiv a b < 2 ^ 62 := by
  obtain ⟨h1, h2⟩ := divmod (a := a) hb0
  refine sz_le.1 ?_
  by_cases hq : pdiv a b = 0
  · rw [hq]; simp [sz_zero]
  · have h5 := sz_mulp hq hb0
    have h6 : mulp (pdiv a b) b = a ^^^ pmod a b := xor_cancel h1.symm
    have h8 := sz31 ha
    have h7 := sz_xor (n := max 31 (sz b)) (a := a) (b := pmod a b) (by omega) (by omega)
    rw [h6] at h5
    have := sz_pos.2 hb0
    omega
/-! ### greatest common divisors -/
def gcdp : Nat → Nat → Nat → Nat
  | 0, a, _ => a
  | f + 1, a, b => if b = 0 then a else gcdp f b (pmod a b)
theorem pmod_le {a b : Nat} (hb : b ≠ 0) (h : b ≤ 2147483647) : pmod a b ≤ 2147483647 := by
  have h1 := (divmod (a := a) hb).2
  have h2 := sz31 h
  have h3 : pmod a b < 2 ^ 31 := sz_le.1 (by omega)
  omega
end Go.X.Pl
