/- Contracts of functions and the logic that they are proved in (5 texts in one). Conditions: none. -/
import Derived.Test.YteebcojoghnlnaaGreatDoorMg4
import Derived.StillTail
open Nat renaming reduceAdd → zqa, reduceMul → zqb, reduceDiv → zqc, reduceEqDiff → zqd, reduceLT → zqe, reduceLeDiff → zqf, reduceBEq → zqg
open Int renaming reduceEq → zra, reduceNe → zrb, reduceLT → zrc, reduceLE → zrd, reduceAdd → zre, reduceSub → zrf, reduceMul → zrg, reduceNeg → zrh, reduceToNat → zri, cast_ofNat_Int → zrj, natCast_zero → zrk, natCast_one → zrl, toNat_natCast → zrm
namespace Go.X.Pol
end Go.X.Pol
namespace Go.X.Pl
end Go.X.Pl
namespace Go.X.Rp
end Go.X.Rp
namespace Go.X.Pd
end Go.X.Pd
namespace Go.X.Md
end Go.X.Md
namespace Go.X.Mv
end Go.X.Mv
set_option linter.unusedSimpArgs false
set_option linter.unusedVariables false
set_option maxHeartbeats 4000000
set_option maxRecDepth 20000
namespace Go.X.Pl
open Go Go.X Go.X.Pol

theorem sz_shift {x k : Nat} (h : 2 ^ k ≤ x) : sz x = k + sz (x / 2 ^ k) := by
  have h0 := Nat.two_pow_pos k
  have h1 : x / 2 ^ k ≠ 0 := Nat.ne_of_gt (Nat.div_pos h h0)
  obtain ⟨h2, h3, h4⟩ := sz_rng h1
  have h5 := Nat.div_mul_le_self x (2 ^ k)
  have h6 : 2 ^ (sz (x / 2 ^ k) - 1) * 2 ^ k ≤ x := Nat.le_trans (Nat.mul_le_mul_right _ h2) h5
  have h7 : x < 2 ^ sz (x / 2 ^ k) * 2 ^ k := (Nat.div_lt_iff_lt_mul h0).1 h3
  rw [← Nat.pow_add] at h6 h7
  rw [sz_eq (k := sz (x / 2 ^ k) - 1 + k) h6 (by rw [show sz (x / 2 ^ k) - 1 + k + 1 = sz (x / 2 ^ k) + k by omega]; exact h7)]
  omega

def tabB (T : List UInt8) : Bool := T.length == 256 && (List.range 256).all fun i => strIx T (i : Int) == (sz i : Int)
theorem tab (T : List UInt8) (hT : tabB T = true) (c y : Int) (n x : Nat) (hy : y = (n : Int)) (hn : n < 256) (hx : (sz x : Int) = c + sz n) (hc : 0 ≤ c ∧ c ≤ 56) :
    Shp.int IntKind.u64 ≠ Shp.bad ∧ (0 ≤ IntKind.u8.wrap y ∧ IntKind.u8.wrap y < (T.length : Int)) ∧ Shp.int IntKind.u8 ≠ Shp.bad ∧ inK IntKind.i64 (c + IntKind.i64.wrap (strIx T (IntKind.u8.wrap y))) ∧
      SV.v (Value.int IntKind.i64 (c + IntKind.i64.wrap (strIx T (IntKind.u8.wrap y)))) = SV.v (Value.int IntKind.i64 ((sz x : Nat) : Int)) := by
  simp only [tabB, Bool.and_eq_true, beq_iff_eq, List.all_eq_true, List.mem_range] at hT
  obtain ⟨h1, h2⟩ := hT
  have h3 := h2 n hn
  have h4 : IntKind.u8.wrap y = (n : Int) := by rw [hy]; exact wrap_in (k := .u8) ⟨by simp only [lo]; omega, by simp only [hi]; omega⟩
  have h5 : sz n ≤ 8 := sz_le.2 (by omega)
  rw [h4, h3, h1, wrap_in (k := .i64) (n := ((sz n : Nat) : Int)) ⟨by simp only [lo]; omega, by simp only [hi]; omega⟩, hx]
  exact ⟨(fun h => by cases h), ⟨by omega, by omega⟩, (fun h => by cases h), ⟨by simp only [lo]; omega, by simp only [hi]; omega⟩, rfl⟩
theorem tab0 (T : List UInt8) (hT : tabB T = true) (y : Int) (n x : Nat) (hy : y = (n : Int)) (hn : n < 256) (hx : (sz x : Int) = sz n) :
    Shp.int IntKind.u64 ≠ Shp.bad ∧ (0 ≤ IntKind.u8.wrap y ∧ IntKind.u8.wrap y < (T.length : Int)) ∧ Shp.int IntKind.u8 ≠ Shp.bad ∧ inK IntKind.i64 (0 + IntKind.i64.wrap (strIx T (IntKind.u8.wrap y))) ∧
      SV.v (Value.int IntKind.i64 (0 + IntKind.i64.wrap (strIx T (IntKind.u8.wrap y)))) = SV.v (Value.int IntKind.i64 ((sz x : Nat) : Int)) := tab T hT 0 y n x hy hn (by omega) (by omega)

theorem len64 (x : Nat) (M : Mem) (hx : x < 18446744073709551616) :
    Meets Proofs.Tryz.prog 194 [.v (.int .u64 (x : Int))] M fun r _ _ => r = .v (.int .i64 ((sz x : Nat) : Int)) := by
  refine Meets.of_body [0,2,4,8,14] Proofs.Tryz.func194 rfl (by kernel_rfl) rfl fun w => ?_
  simp only [Proofs.Tryz.f194, shs, zts, sos, sls, zss, eqs, sx, sb1, sb2, sb3, sb4, sb5, sb6, sb7, ↓reduceIte, zqa, zqb, zqc, zqd, zqe, zqf, reduceCtorEq, zra, zrb, zrc, zrd, zre, zrf, zrg, zrh, zri, zrj, zrk, zrl, zrm, zqg, inK, lo, hi]
  rw [show ((IntKind.u64.bits : Nat) : Int) = 64 from rfl]
  have e1 : 4294967296 ≤ x → sz x = 32 + sz (x / 4294967296) := fun h => sz_shift (k := 32) h
  have e2 : ∀ y, 65536 ≤ y → sz y = 16 + sz (y / 65536) := fun y h => sz_shift (k := 16) h
  have e3 : ∀ y, 256 ≤ y → sz y = 8 + sz (y / 256) := fun y h => sz_shift (k := 8) h
  have tx := e2 x
  have ty := e2 (x / 4294967296)
  have t1 := e3 x
  have t2 := e3 (x / 4294967296)
  have t3 := e3 (x / 65536)
  have t4 := e3 (x / 4294967296 / 65536)
  refine ⟨fun h1 => ⟨by omega, fun h2 => ⟨by omega, fun h3 => ⟨by omega, ?_⟩, fun h3 => ?_⟩, fun h2 => ⟨fun h3 => ⟨by omega, ?_⟩, fun h3 => ?_⟩⟩,
    fun h1 => ⟨fun h2 => ⟨by omega, fun h3 => ⟨by omega, ?_⟩, fun h3 => ?_⟩, fun h2 => ⟨fun h3 => ⟨by omega, ?_⟩, fun h3 => ?_⟩⟩⟩
  · exact tab _ (by kernel_rfl) _ _ (x / 4294967296 / 65536 / 256) x (by omega) (by omega) (by omega) (by omega)
  · exact tab _ (by kernel_rfl) _ _ (x / 4294967296 / 65536) x (by omega) (by omega) (by omega) (by omega)
  · exact tab _ (by kernel_rfl) _ _ (x / 4294967296 / 256) x (by omega) (by omega) (by omega) (by omega)
  · exact tab _ (by kernel_rfl) _ _ (x / 4294967296) x (by omega) (by omega) (by omega) (by omega)
  · exact tab _ (by kernel_rfl) _ _ (x / 65536 / 256) x (by omega) (by omega) (by omega) (by omega)
  · exact tab _ (by kernel_rfl) _ _ (x / 65536) x (by omega) (by omega) (by omega) (by omega)
  · exact tab _ (by kernel_rfl) _ _ (x / 256) x (by omega) (by omega) (by omega) (by omega)
  · exact tab0 _ (by kernel_rfl) _ x x (by omega) (by omega) (by omega)

theorem deg (x : Nat) (M : Mem) (hx : x < 18446744073709551616) :
    Meets Proofs.Tryz.prog 182 [.v (.int .u64 (x : Int))] M fun r _ _ => r = .v (.int .i64 ((sz x : Nat) - 1 : Int)) := by
  refine Meets.of_body [0,2] Proofs.Tryz.func182 rfl (by kernel_rfl) rfl fun w => ?_
  simp only [Proofs.Tryz.f182, shs, zts, sos, sls, zss, eqs, sx, sb1, sb2, sb3, sb4, sb5, sb6, sb7, ↓reduceIte, zqa, zqb, zqc, zqd, zqe, zqf, reduceCtorEq, zra, zrb, zrc, zrd, zre, zrf, zrg, zrh, zri, zrj, zrk, zrl, zrm, zqg, inK, lo, hi]
  refine CallK.pure ⟨rfl, rfl⟩ rfl (len64 x M hx) ?_
  have : sz x ≤ 64 := sz_le.2 hx
  simp only [shs, zts, sos, sls, zss, eqs, sx, sb1, sb2, sb3, sb4, sb5, sb6, sb7, ↓reduceIte, zqa, zqb, zqc, zqd, zqe, zqf, reduceCtorEq, zra, zrb, zrc, zrd, zre, zrf, zrg, zrh, zri, zrj, zrk, zrl, zrm, zqg, inK, lo, hi]
  omega

theorem pw (s : Nat) : (2 : Int) ^ s = ((2 ^ s : Nat) : Int) := by simp
theorem mw (a s : Nat) : (a : Int) * 2 ^ s = ((a * 2 ^ s : Nat) : Int) := by simp
theorem dw (a s : Nat) : (a : Int) / 2 ^ s = ((a / 2 ^ s : Nat) : Int) := by simp
theorem mwc (a s : Nat) : (a : Int) * ((2 ^ s : Nat) : Int) = ((a * 2 ^ s : Nat) : Int) := by simp
theorem b64 : ((IntKind.i64.bits : Nat) : Int) = 64 := rfl
theorem b64u : ((IntKind.u64.bits : Nat) : Int) = 64 := rfl
theorem uw {a : Nat} (h : a < 18446744073709551616) : IntKind.u64.wrap (a : Int) = (a : Int) := wrap_in (k := .u64) ⟨by simp only [lo]; omega, by simp only [hi]; omega⟩
theorem iw {a : Nat} (h : a < 9223372036854775808) : IntKind.i64.wrap (a : Int) = (a : Int) := wrap_in (k := .i64) ⟨by simp only [lo]; omega, by simp only [hi]; omega⟩
theorem orw {x y : Nat} (hx : x < 18446744073709551616) (hy : y < 18446744073709551616) : orV .u64 (x : Int) (y : Int) = ((x ||| y : Nat) : Int) := by
  show IntKind.u64.wrap ((BitVec.ofInt 64 (x : Int) ||| BitVec.ofInt 64 (y : Int)).toNat : Int) = _
  have hl := Nat.or_lt_two_pow (n := 64) hx hy
  rw [BitVec.toNat_or, toNat_ofInt _ _ (by omega) (by omega), toNat_ofInt _ _ (by omega) (by omega), zrm, zrm]
  exact uw hl
theorem sz31 {a : Nat} (h : a ≤ 2147483647) : sz a ≤ 31 := sz_le.2 (by omega)
theorem over (a b : Nat) (M : Mem) (ha : a < 18446744073709551616) (hb : b ≤ 2147483647) (hb0 : b ≠ 0) :
    Meets Proofs.Tryz.prog 152 [.v (.int .u64 (a : Int)), .v (.int .i64 (b : Int))] M fun r _ _ => r = .tup [.v (.int .u64 ((pdiv a b : Nat) : Int)), .v (.int .u64 ((pmod a b : Nat) : Int))] := by
  refine Meets.of_body [0,1,4,5,6,7,8,15] Proofs.Tryz.func152 rfl (by kernel_rfl) rfl fun w => ?_
  have hb' : b < 18446744073709551616 := by omega
  have hsb := sz_pos.2 hb0
  simp only [Proofs.Tryz.f152, shs, zts, sos, sls, zss, eqs, sx, sb1, sb2, sb3, sb4, sb5, sb6, sb7, ↓reduceIte, zqa, zqb, zqc, zqd, zqe, zqf, reduceCtorEq, zra, zrb, zrc, zrd, zre, zrf, zrg, zrh, zri, zrj, zrk, zrl, zrm, zqg, uw hb']
  refine ⟨(fun h => by cases h), ?_⟩
  refine CallK.pure ⟨rfl, rfl⟩ rfl (deg b M hb') ?_
  simp only [shs, zts, sos, sls, zss, eqs, sx, sb1, sb2, sb3, sb4, sb5, sb6, sb7, ↓reduceIte, zqa, zqb, zqc, zqd, zqe, zqf, reduceCtorEq, zra, zrb, zrc, zrd, zre, zrf, zrg, zrh, zri, zrj, zrk, zrl, zrm, zqg]
  refine LoopK.go (X := Nat × Nat) (fun p => ([(0, true, .v (.int .u64 (p.2 : Int))), (1, true, .v (.int .i64 b)), (6, true, .v (.int .u64 (p.1 : Int))), (7, true, .v (.int .i64 ((sz b : Nat) - 1 : Int)))], [], M))
    (fun p => ((a = mulp p.1 b ^^^ p.2 ∧ ∀ j, j + sz b ≤ sz p.2 → p.1.testBit j = false) ∧ p.2 < 2 ^ 64) ∧ p.1 < 2 ^ 64) (fun p => sz p.2) (0, a) ⟨⟨⟨by rw [mulp_zero, Nat.zero_xor], fun j _ => Nat.zero_testBit j⟩, ha⟩, Nat.two_pow_pos 64⟩ (Ent.of ?_) ?_
  · simp only [sx, sb1, sb2, sb3, sb4, sb5, sb6, sb7, ↓reduceIte, zqa, zqb, zqc, zqd, zqe, zqf, reduceCtorEq, zra, zrb, zrc, zrd, zre, zrf, zrg, zrh, zri, zrj, zrk, zrl, zrm, zqg]
  rintro ⟨q, x⟩ ⟨⟨⟨h1, h2⟩, h3⟩, h4⟩
  simp only at h1 h2 h3 h4
  have h3' : x < 18446744073709551616 := h3
  have h4' : q < 18446744073709551616 := h4
  have hsx : sz x ≤ 64 := sz_le.2 h3
  simp only [shs, zts, sos, sls, zss, eqs, sx, sb1, sb2, sb3, sb4, sb5, sb6, sb7, ↓reduceIte, zqa, zqb, zqc, zqd, zqe, zqf, reduceCtorEq, zra, zrb, zrc, zrd, zre, zrf, zrg, zrh, zri, zrj, zrk, zrl, zrm, zqg]
  refine CallK.pure ⟨rfl, rfl⟩ rfl (deg x M h3') ?_
  simp only [shs, zts, sos, sls, zss, eqs, sx, sb1, sb2, sb3, sb4, sb5, sb6, sb7, ↓reduceIte, zqa, zqb, zqc, zqd, zqe, zqf, reduceCtorEq, zra, zrb, zrc, zrd, zre, zrf, zrg, zrh, zri, zrj, zrk, zrl, zrm, zqg]
  refine ⟨fun h5 => ?_, fun h5 => ?_⟩
  · refine CallK.pure ⟨rfl, rfl⟩ rfl (deg x M h3') ?_
    have hs : (sz x : Int) - 1 - ((sz b : Int) - 1) = ((sz x - sz b : Nat) : Int) := by omega
    have h6 : 2 ^ (sz x - sz b) < 2 ^ 64 := Nat.pow_lt_pow_right (by omega) (by omega)
    have h6' : 2 ^ (sz x - sz b) < 18446744073709551616 := h6
    have h7 : sz (b * 2 ^ (sz x - sz b)) = sz x := by rw [sz_mul_pow hb0]; omega
    have h8 : b * 2 ^ (sz x - sz b) < 2 ^ 64 := sz_le.1 (by omega)
    have h9 := sz_step hb0 (show sz b ≤ sz x by omega)
    have h10 := h2 (sz x - sz b) (by omega)
    have h11 : (0 : Int) ≤ ((2 ^ (sz x - sz b) : Nat) : Int) ∧ ((2 ^ (sz x - sz b) : Nat) : Int) ≤ 18446744073709551615 := by
      clear h10 h9 h8 h7 h6 hs
      generalize 2 ^ (sz x - sz b) = P at h6' ⊢
      omega
    simp only [shs, zts, sos, sls, zss, eqs, sx, sb1, sb2, sb3, sb4, sb5, sb6, sb7, ↓reduceIte, zqa, zqb, zqc, zqd, zqe, zqf, reduceCtorEq, zra, zrb, zrc, zrd, zre, zrf, zrg, zrh, zri, zrj, zrk, zrl, zrm, zqg, inK, lo, hi, hs, pw, mwc, Int.one_mul, b64, b64u, uw hb', orw h4' h6', or_pow h10]
    refine ⟨by omega, ⟨by omega, h11⟩, (fun h => by cases h), by omega, by omega, (q ^^^ 2 ^ (sz x - sz b), x ^^^ b * 2 ^ (sz x - sz b)), ⟨⟨⟨⟨?_, fun j hj => ?_⟩, Nat.xor_lt_two_pow h3 h8⟩, Nat.xor_lt_two_pow h4 h6⟩, h9⟩, Ent.of ?_⟩
    · simp only
      rw [mulp_xor, mulp_pow1]
      conv => lhs; rw [h1]
      rw [show mulp q b ^^^ b * 2 ^ (sz x - sz b) ^^^ (x ^^^ b * 2 ^ (sz x - sz b)) = (mulp q b ^^^ x) ^^^ (b * 2 ^ (sz x - sz b) ^^^ b * 2 ^ (sz x - sz b)) by ac_rfl, Nat.xor_self, Nat.xor_zero]
    · simp only at hj ⊢
      rw [testBit_flip, if_neg (by omega)]
      exact h2 j (by omega)
    · simp only [sx, sb1, sb2, sb3, sb4, sb5, sb6, sb7, ↓reduceIte, zqa, zqb, zqc, zqd, zqe, zqf, reduceCtorEq, zra, zrb, zrc, zrd, zre, zrf, zrg, zrh, zri, zrj, zrk, zrl, zrm, zqg]
  · obtain ⟨e1, e2⟩ := divmod_uniq h1 (show sz x < sz b by omega)
    rw [e1, e2]

/-! ### the exported functions -/
def bad (a : Int) : Prop := a < 0 ∨ 2147483647 < a
instance (a : Int) : Decidable (bad a) := inferInstanceAs (Decidable (_ ∨ _))
def er (a : Int) : Int := if a < 0 ∨ 2147483647 < a then 1 else 0
def er2 (a b : Int) : Int := if a < 0 ∨ 2147483647 < a then 1 else er b
/-! ### greatest common divisors -/
end Go.X.Pl

namespace Go.X.Rp
open Go Go.X Go.X.Pol Go.X.Pl

theorem within (x a b : Int) (M : Mem) : Meets Proofs.Tryz.prog 52 [.v (.int .i64 x), .v (.int .i64 a), .v (.int .i64 b)] M fun r _ _ => r = .v (.bool (decide (a ≤ x ∧ x ≤ b))) := by
  refine Meets.of_body [0,1,2,6] Proofs.Tryz.func52 rfl (by kernel_rfl) rfl fun w => ?_
  simp only [Proofs.Tryz.f52, shs, zts, sos, sls, zss, eqs, sx, sb1, sb2, sb3, sb4, sb5, sb6, sb7, ↓reduceIte, zqa, zqb, zqc, zqd, zqe, zqf, reduceCtorEq, zra, zrb, zrc, zrd, zre, zrf, zrg, zrh, zri, zrj, zrk, zrl, zrm, zqg]
  by_cases h : a ≤ x <;> by_cases h' : x ≤ b <;> simp [h, h']

def pe : List Int → Int
  | [] => 0
  | a :: l => if a < 0 ∨ 2147483647 < a then 1 else pe l

theorem drop_at {α : Type} {l : List α} {i : Nat} (h : i < l.length) : ∃ x, l[i]? = some x ∧ l.drop i = x :: l.drop (i + 1) :=
  ⟨_, List.getElem?_eq_getElem h, List.drop_eq_getElem_cons h⟩

theorem tm2 (x : Nat) : (x : Int).tmod 2 = ((x % 2 : Nat) : Int) := (Int.ofNat_tmod x 2).symm
theorem td2 (x : Nat) : (x : Int).tdiv 2 = ((x / 2 : Nat) : Int) := (Int.ofNat_tdiv x 2).symm
theorem pm2 (a k : Nat) : a / 2 ^ k / 2 = a / 2 ^ (k + 1) := by rw [Nat.div_div_eq_div_mul, Nat.pow_succ]

theorem i64N {x : Nat} (h : x ≤ 9223372036854775807) : (-9223372036854775808 : Int) ≤ (x : Int) ∧ (x : Int) ≤ 9223372036854775807 := by omega

theorem pre {M : Mem} {v : Value} {sz k : Nat} {es : List (List Value)} (h : RowM M v sz es) (hk : k ≤ es.length) : RowM M (subV v sz 0 k) sz (es.take k) := by
  have := h.sub (Nat.zero_le k) hk
  simpa using this
/-! ### greatest common divisors -/
end Go.X.Rp

namespace Go.X.Mv
open Go Go.X Go.X.Pol Go.X.Pl Go.X.Rp Go.X.Pd Go.X.Md

theorem p30 {m : Nat} (hm : m ≤ 2147483647) : 2 ^ (sz m - 1) ≤ 1073741824 := Nat.pow_le_pow_right (n := 2) (j := 30) (by omega) (by have := sz31 hm; omega)
theorem red_lt {m x : Nat} (h0 : m ≠ 0) : pmod x m < 2 ^ (sz m - 1) := sz_le.1 (by have := (divmod (a := x) h0).2; omega)
theorem red_le {m x : Nat} (h0 : m ≠ 0) (hm : m ≤ 2147483647) : pmod x m ≤ 1073741824 := Nat.le_trans (Nat.le_of_lt (red_lt h0)) (p30 hm)
end Go.X.Mv

namespace Go.X
open Go Go.RowKit

section
variable {P : Program} {ops : Array Oper} {md : Region.Mode} {C : World → Prop}

/-- whatever order the head comes up in -/
def headQ (P : Program) (md : Region.Mode) (ops : Array Oper) (C : World → Prop) (n : Nat) (L : Array Bool → Act → Prop) : Nat → Array Bool → Act → Prop
  | 0, listed, a => L listed a
  | f + 1, listed, a => Region.ready md ops listed ≠ [] ∧ ∀ i ∈ Region.ready md ops listed, i < n ∧ qOp P ops C i (headQ P md ops C n L f (listed.setIfInBounds i true)) a

theorem headQ_any {n g : Nat} {L : Array Bool → Act → Prop} {Q : Exit → Act → World → Prop} (hL : ∀ listed a w, C w → L listed a → wpAny P md ops Q g listed a w) :
    ∀ (f : Nat) (listed : Array Bool) (a : Act) (w : World), C w → headQ P md ops C n L f listed a → wpAny P md ops Q (f + g) listed a w
  | 0, listed, a, w, hw, h => by rw [Nat.zero_add]; exact hL _ _ _ hw h
  | f + 1, listed, a, w, hw, h => by
    rw [show f + 1 + g = (f + g) + 1 by omega]
    exact ⟨fun h0 => absurd h0 h.1, fun i hi => wpOp_of_qOp hw (fun a' w' hw' h' => headQ_any hL f _ a' w' hw' h') (h.2 i hi).2⟩

theorem headQ_first {n i : Nat} {oi : Oper} {v : Value} {L : Array Bool → Act → Prop} (hi : ops[i]? = some oi) (hsel : ∀ (j : Nat) (o : Oper) cs b, ops[j]? = some o → o.op ≠ .select cs b)
    (hs : Region.sinkB md ops n = true) (hc : Region.chainB md ops n = true) (hn : n < ops.size) (hin : i < n)
    (hdone : ∀ listed a, L listed a → ∀ j ∈ Region.ready md ops listed, n ≤ j) :
    ∀ (f : Nat) (listed : Array Bool) (a : Act), HeadInv md ops n listed →
      (∀ j oj, ops[j]? = some oj → j ≠ i → listed.getD j true = false → (∀ e ∈ oj.after, Region.binds md e = true → e.on ≠ i) → oi.apart ops oj = true) →
      i ∈ Region.ready md ops listed → YieldsIn P ops C oi v a →
      headQ P md ops C n L f (listed.setIfInBounds i true) (a.put oi.dst v) → headQ P md ops C n L (f + 1) listed a := by
  intro f
  induction f with
  | zero =>
    intro listed a inv _ hr hy K
    have hun := (mem_ready.1 hr).1
    refine ⟨fun h => (by rw [h] at hr; cases hr), fun j hj => ?_⟩
    have hjn : j < n := by
      rcases Nat.lt_or_ge j n with h | h
      · exact h
      · exact absurd hj (tail_waits hs hc hn inv _ i rfl hin hun j h)
    refine ⟨hjn, ?_⟩
    by_cases hji : j = i
    · subst hji; exact hy.qOp hi K
    · have := hdone _ _ K j (ready_mono hj hji)
      omega
  | succ f ih =>
    intro listed a inv hfree hr hy K
    have hun := (mem_ready.1 hr).1
    refine ⟨fun h => (by rw [h] at hr; cases hr), fun j hj => ?_⟩
    have hjn : j < n := by
      rcases Nat.lt_or_ge j n with h | h
      · exact h
      · exact absurd hj (tail_waits hs hc hn inv _ i rfl hin hun j h)
    refine ⟨hjn, ?_⟩
    by_cases hji : j = i
    · subst hji; exact hy.qOp hi K
    · have h1 := (K.2 j (ready_mono hj hji)).2
      obtain ⟨hjun, oj, hoj, hall⟩ := mem_ready.1 hj
      have hnot : ∀ e ∈ oj.after, Region.binds md e = true → e.on ≠ i := fun e he hb heq => by
        have h1 := hall e he hb
        rw [heq, getD_both hun] at h1
        cases h1
      have h2 := qOp_put hoj (hfree j oj hoj hji hjun hnot) (fun cs b => hsel i oi cs b hi) (fun cs b => hsel j oj cs b hoj) hy h1
      have hfree' : ∀ k ok, ops[k]? = some ok → k ≠ i → (listed.setIfInBounds j true).getD k true = false →
          (∀ e ∈ ok.after, Region.binds md e = true → e.on ≠ i) → oi.apart ops ok = true := fun k ok hk hki hun hno => by
        refine hfree k ok hk hki ?_ hno
        by_cases hjk : j = k
        · subst hjk; exact hjun
        · rw [getD_set_ne true hjk] at hun; exact hun
      refine qOp_mono (fun a' h3 => ih (listed.setIfInBounds j true) a' (inv.set hj hjn) hfree' (ready_mono hr (Ne.symm hji)) h3.1 ?_) h2
      rw [Array.setIfInBounds_comm _ _ hji]
      exact h3.2

theorem headQ_lex {n g : Nat} {Lq : Act → Prop} (hsel : Region.noSelect ops = true) (hs : Region.sinkB md ops n = true) (hc : Region.chainB md ops n = true) (hn : n < ops.size) :
    ∀ (l : List Oper) (k : Nat) (listed : Array Bool) (a : Act), (∀ j, j < l.length → l[j]? = ops[k + j]?) → k + l.length = n → HeadInv md ops n listed →
    Region.lexHead md ops g l.length k listed = true → wpQuiet P ops C Lq l a →
    headQ P md ops C n (fun listed' a' => Region.seqB md ops g n listed' = true ∧ Lq a') l.length listed a
  | [], k, listed, a, _, hk, _, hB, h => by
    have : k = n := by simpa using hk
    subst this
    exact ⟨by simpa [Region.lexHead] using hB, h⟩
  | o :: l, k, listed, a, hl, hk, inv, hB, h => by
    have h0 : ops[k]? = some o := by simpa using (hl 0 (by simp)).symm
    simp only [List.length_cons, Region.lexHead, Bool.and_eq_true] at hB
    obtain ⟨⟨hr, hf⟩, hB'⟩ := hB
    have hkn : k < n := by simp only [List.length_cons] at hk; omega
    have hr' : k ∈ Region.ready md ops listed := by simpa using hr
    have hst : qOp P ops C k (wpQuiet P ops C Lq l) a := by unfold qOp; simp only [h0]; exact h
    obtain ⟨v, hy, hK⟩ := yieldsIn_of_qOp h0 hst
    exact headQ_first h0 (Region.noSelect_spec hsel) hs hc hn hkn (fun listed' a' hL => seqB_ready hL.1) l.length listed a inv (Region.free_spec h0 hf) hr' hy
      (headQ_lex hsel hs hc hn l (k + 1) _ _ (fun j hj => by have := hl (j + 1) (by simp; omega); simpa [Nat.add_assoc, Nat.add_comm 1 j] using this) (by simp only [List.length_cons] at hk; omega) (inv.set hr' hkn) hB' hK)

theorem wp_region_tail {id : Nat} {Q : Exit → Act → World → Prop} {a : Act} {w : World} (n : Nat) (hm : P.follows .mixedOrders = true) (hB : Region.lexTailB .any ops n = true) (hC : C { w with drawn := w.drawn + 1 })
    (h : wpQuiet P ops C (fun a' => ∀ w', C w' → wpList P ops Q (ops.toList.drop n) a' w') (ops.toList.take n) a) : (Code.region id ops true).wp P Q a w := by
  simp only [Region.lexTailB, Bool.and_eq_true, decide_eq_true_eq] at hB
  obtain ⟨⟨⟨⟨hsel, hn⟩, hs⟩, hc⟩, hlex⟩ := hB
  have hn' : n < ops.toList.length := by simpa using hn
  have htl : (ops.toList.take n).length = n := by rw [List.length_take]; omega
  have hdl : (ops.toList.drop n).length = ops.size - n := by simp
  have inv0 : HeadInv .any ops n (Array.replicate ops.size false) :=
    ⟨by simp, fun j oj _ hl => (by rw [getD_replicate_false] at hl; cases hl), fun t _ ht => getD_in (by simpa using ht) (getD_replicate_false _ _)⟩
  have K := headQ_lex (md := .any) (C := C) (g := ops.size - n) hsel hs hc hn (ops.toList.take n) 0 _ a (fun j hj => by
    have hj' : j < n := by rw [htl] at hj; exact hj
    rw [List.getElem?_take, if_pos hj', Nat.zero_add, Array.getElem?_toList]) (by simpa using htl) inv0 (by rw [htl]; exact hlex) h
  refine wp_region_any hm ?_
  have := headQ_any (C := C) (Q := Q) (g := ops.size - n) (fun listed a' w' hw' hL => by
    have := wpAny_of_seq (md := .any) (Q' := Q) (ops.toList.drop n) n listed a' w' (fun j => by rw [List.getElem?_drop, Array.getElem?_toList]) (by rw [hdl]; exact hL.1) (hL.2 w' hw')
    rwa [hdl] at this) _ _ _ _ hC K
  rw [htl, show n + (ops.size - n) = ops.size by omega] at this
  exact this
end

section
variable {E : Env} {σ : Sig} {H : HS} {M : Mem}
/-- .. the first n operations are quiet, the others follow in their order -/
theorem DrawK.tail {id : Nat} {ops : Array Oper} {K : KP} (n : Nat) (hm : E.P.follows .mixedOrders = true) (hB : Region.lexTailB .any ops n = true)
    (h : wpQ E ops.toList (wpR E ops.toList K (ops.toList.drop n)) (ops.toList.take n) σ H M) : DrawK E id ops K σ H M := by
  rintro a w ⟨ν, hs, hh⟩
  refine wp_region_tail (C := fun w' => Heap E ν H M w') n hm hB (hh.grow ((Below.refl _ _).drew)) ?_
  have := wpQ_sound (E := E) (ops := ops.toList) (K := wpR E ops.toList K (ops.toList.drop n)) (Nx := fun a' => ∀ w', Heap E ν H M w' → wpList E.P ops (fun e a w => e = Exit.normal ∧ ∃ σ H M, Rep E σ H M a w ∧ K σ H M) (ops.toList.drop n) a' w')
    (fun σ a hs hk w' hw' => by
      have := wpR_sound (E := E) (ops := ops.toList) (K := K) (Q := fun e a w => e = Exit.normal ∧ ∃ σ H M, Rep E σ H M a w ∧ K σ H M) (fun σ H M a w hr hk => ⟨rfl, σ, H, M, hr, hk⟩) (ops.toList.drop n) σ H M a w' ⟨ν, hs, hw'⟩ hk
      simpa using this) (fun w' => Heap E ν H M w') (fun _ h => h) (fun w w' h hb => h.grow hb) w hh (ops.toList.take n) σ a hs h
  simpa using this

/-! ### closures over boxes of the call's own -/
def tieH (xs : Nat → Value) : HS → HS
  | [] => []
  | (k, .box cs _) :: H => (k, .box cs (some (xs k))) :: tieH xs H
  | (k, .row sz es) :: H => (k, .row sz es) :: tieH xs H
  | (k, .tab sz es) :: H => (k, .tab sz es) :: tieH xs H
  | (k, .mp es) :: H => (k, .mp es) :: tieH xs H
def untieH : HS → HS
  | [] => []
  | (k, .box cs _) :: H => (k, .box cs none) :: untieH H
  | (k, .row sz es) :: H => (k, .row sz es) :: untieH H
  | (k, .tab sz es) :: H => (k, .tab sz es) :: untieH H
  | (k, .mp es) :: H => (k, .mp es) :: untieH H
def allBox : HS → Bool
  | [] => true
  | (_, .box _ _) :: H => allBox H
  | (_, .row _ _) :: _ => false
  | (_, .tab _ _) :: _ => false
  | (_, .mp _) :: _ => false
def tiedH (xs : Nat → Value) : HS → Prop
  | [] => True
  | (k, .box cs t) :: H => (t = some (xs k) ∧ SV.concs cs = true) ∧ tiedH xs H
  | (_, .row _ _) :: _ => False
  | (_, .tab _ _) :: _ => False
  | (_, .mp _) :: _ => False

theorem tieH_mem {xs : Nat → Value} : ∀ {H : HS} {q : Nat × PO}, allBox H = true → q ∈ tieH xs H → ∃ cs t, (q.1, PO.box cs t) ∈ H ∧ q.2 = .box cs (some (xs q.1))
  | [], q, _, h => by simp [tieH] at h
  | (k, .box cs t) :: H, q, hb, h => by
    simp only [tieH] at h
    rcases List.mem_cons.1 h with rfl | h
    · exact ⟨cs, t, List.mem_cons_self, rfl⟩
    · obtain ⟨cs', t', h1, h2⟩ := tieH_mem (H := H) hb h
      exact ⟨cs', t', List.mem_cons_of_mem _ h1, h2⟩
  | (k, .row _ _) :: H, q, hb, h => by cases hb
  | (k, .tab _ _) :: H, q, hb, h => by cases hb
  | (k, .mp _) :: H, q, hb, h => by cases hb
theorem tieH_fp (ν : Nat → Value) (xs : Nat → Value) : ∀ H : HS, fp ν (tieH xs H) = fp ν H
  | [] => rfl
  | (k, .box cs t) :: H => by
    have := tieH_fp ν xs H
    simp only [tieH, fp, List.filterMap_cons] at this ⊢
    rw [this]
  | (k, .row _ _) :: H => by
    have := tieH_fp ν xs H
    simp only [tieH, fp, List.filterMap_cons] at this ⊢
    rw [this]
  | (k, .tab _ _) :: H => by
    have := tieH_fp ν xs H
    simp only [tieH, fp, List.filterMap_cons] at this ⊢
    rw [this]
  | (k, .mp _) :: H => by
    have := tieH_fp ν xs H
    simp only [tieH, fp, List.filterMap_cons] at this ⊢
    rw [this]
theorem untieH_mem {xs : Nat → Value} : ∀ {H : HS} {q : Nat × PO}, tiedH xs H → q ∈ untieH H → ∃ cs, (q.1, PO.box cs (some (xs q.1))) ∈ H ∧ q.2 = .box cs none ∧ SV.concs cs = true
  | [], q, _, h => by simp [untieH] at h
  | (k, .box cs t) :: H, q, hb, h => by
    simp only [untieH] at h
    obtain ⟨⟨rfl, hc⟩, hb⟩ := hb
    rcases List.mem_cons.1 h with rfl | h
    · exact ⟨cs, List.mem_cons_self, rfl, hc⟩
    · obtain ⟨cs', h1, h2⟩ := untieH_mem (H := H) hb h
      exact ⟨cs', List.mem_cons_of_mem _ h1, h2⟩
  | (k, .row _ _) :: H, q, hb, h => hb.elim
  | (k, .tab _ _) :: H, q, hb, h => hb.elim
  | (k, .mp _) :: H, q, hb, h => hb.elim
theorem untieH_fp {ν ν' : Nat → Value} : ∀ {H : HS}, (∀ q ∈ H, ν q.1 = ν' q.1) → fp ν (untieH H) = fp ν' H
  | [], _ => rfl
  | (k, .box cs t) :: H, h => by
    have := untieH_fp (H := H) (fun q hq => h q (List.mem_cons_of_mem _ hq))
    have h0 := h _ List.mem_cons_self
    simp only [untieH, fp, List.filterMap_cons] at this h0 ⊢
    rw [this, h0]
  | (k, .row _ _) :: H, h => by
    have := untieH_fp (H := H) (fun q hq => h q (List.mem_cons_of_mem _ hq))
    have h0 := h _ List.mem_cons_self
    simp only [untieH, fp, List.filterMap_cons] at this h0 ⊢
    rw [this, h0]
  | (k, .tab _ _) :: H, h => by
    have := untieH_fp (H := H) (fun q hq => h q (List.mem_cons_of_mem _ hq))
    have h0 := h _ List.mem_cons_self
    simp only [untieH, fp, List.filterMap_cons] at this h0 ⊢
    rw [this, h0]
  | (k, .mp _) :: H, h => by
    have := untieH_fp (H := H) (fun q hq => h q (List.mem_cons_of_mem _ hq))
    have h0 := h _ List.mem_cons_self
    simp only [untieH, fp, List.filterMap_cons] at this h0 ⊢
    rw [this, h0]
theorem tiedH_mem {xs : Nat → Value} : ∀ {H : HS} {q : Nat × PO}, tiedH xs H → q ∈ H → ∃ cs, q.2 = .box cs (some (xs q.1))
  | (k, .box cs t) :: H, q, hb, h => by
    obtain ⟨⟨rfl, hc⟩, hb⟩ := hb
    rcases List.mem_cons.1 h with rfl | h
    · exact ⟨cs, rfl⟩
    · exact tiedH_mem hb h
  | (k, .row _ _) :: H, q, hb, h => hb.elim
  | (k, .tab _ _) :: H, q, hb, h => hb.elim
  | (k, .mp _) :: H, q, hb, h => hb.elim
  | [], q, _, h => by simp at h

/-- a call of a closure that reads and writes boxes of the caller's own: its body is walked in the caller's private heap -/
theorem CallK.boxes {f d : Nat} {fn : Func} {c : Code} {l : List SV} {K : KP} (live : List Nat) (hf : E.P.funcs[f]? = some fn) (hb : fn.body = some c) (hn : okFn fn l.length = true) (hd : decide (d < E.N) = true) (hH : allBox H = true)
    (h : ∀ xs : Nat → Value, wpC ⟨E.P, fn.ntmps, E.w0, E.M0⟩ live c (RetK E.P fn.results.toList (fun s H' M' => (s.conc = true ∧ tiedH xs H') ∧ K ((d, true, s) :: σ) (untieH H') M')) (params fn.ntmps 0 l) (tieH xs H) M) :
    CallK E f l d K σ H M := by
  intro ν a w hs hh
  simp only [okFn, Bool.and_eq_true, Bool.not_eq_true', decide_eq_true_eq] at hn
  refine .inl ⟨⟨fn, hf, hn.1.1, hn.1.2⟩, ?_⟩
  refine calls_of_wp hf hb ?_
  have hlen : (SV.vals ν l).length = l.length := by rw [SV.vals_map]; simp
  have hheap : Heap ⟨E.P, fn.ntmps, E.w0, E.M0⟩ ν (tieH ν H) M w := by
    refine ⟨fun q hq => ?_, by rw [tieH_fp]; exact hh.nodup, by rw [tieH_fp]; exact hh.apart, hh.mem, hh.below, hh.le0, hh.fresh, hh.one⟩
    obtain ⟨cs, t, h1, h2⟩ := tieH_mem hH hq
    have := hh.holds _ h1
    rw [h2]
    obtain ⟨h3, _⟩ := this
    exact ⟨h3, fun v hv => by cases hv; rfl⟩
  refine Code.wp_mono ?_ (wpC_sound c _ _ _ _ (h ν) _ w ⟨ν, ⟨?_, rfl, ?_⟩, hheap⟩)
  · rintro e a' w' ⟨σ', H', M', ⟨ν', hs', hh'⟩, hq⟩
    have key : (match rsvs E.P σ' H' M' fn.results.toList with | some (ss, C) => C ∧ ((one? ss).conc = true ∧ tiedH ν H') ∧ K ((d, true, one? ss) :: σ) (untieH H') M' | none => False) →
        a'.defers = [] ∧ ∃ v, (results fn a'.tmps).run E.P w' = .ok v w' ∧ ∃ v', Ending.returned v = .returned v' ∧ ∃ σ'' H'' M'', Rep E σ'' H'' M'' (a.put (some d) v') w' ∧ K σ'' H'' M'' := by
      intro hq
      split at hq
      · rename_i ss C hr
        obtain ⟨hC, ⟨hc, ht⟩, hK⟩ := hq
        refine ⟨hs'.2.1, _, results_sound hs' hh' hr hC, _, rfl, _, _, _, ⟨ν, ?_, ?_⟩, hK⟩
        · exact hs.put (of_decide_eq_true hd) (by rw [SV.conc_val (ν := ν') (ν' := ν) _ hc]; rfl)
        · have heq : ∀ q ∈ H', ν q.1 = ν' q.1 := fun q hq => by
            obtain ⟨cs, h2⟩ := tiedH_mem ht hq
            have h3 := hh'.holds q hq
            rw [h2] at h3
            exact (h3.2 _ rfl).symm
          refine ⟨fun q hq => ?_, by rw [untieH_fp heq]; exact hh'.nodup, by rw [untieH_fp heq]; exact hh'.apart, hh'.mem, hh'.below, hh'.le0, hh'.fresh, hh.one⟩
          obtain ⟨cs, h1, h2, h3⟩ := untieH_mem ht hq
          obtain ⟨⟨b, T, e1, e2⟩, e3⟩ := hh'.holds _ h1
          rw [h2]
          refine ⟨⟨b, T, ?_, ?_⟩, fun _ h => by cases h⟩
          · rw [heq _ h1]; exact e1
          · rw [SV.concs_vals (ν := ν') (ν' := ν) cs h3]; exact e2
      · exact hq.elim
    cases e with
    | normal => exact key hq
    | ret => exact key hq
    | _ => exact hq.elim
  · simp only [Array.size_append, List.size_toArray, Array.size_replicate, hlen]; omega
  · intro k g s hk
    obtain ⟨i, rfl, hg, hi⟩ := lk_params hk
    simp only at hg hi
    subst hg
    have hlt : i < l.length := (List.getElem?_eq_some_iff.1 hi).1
    rw [Array.getElem?_append_left (by simp only [List.size_toArray, hlen]; omega), List.getElem?_toArray, SV.vals_map, List.getElem?_map, Nat.zero_add, hi]
    rfl

/-! ### the same, the boxes under other keys: the callee may lay boxes and rows of its own -/
mutual
def SV.sh (B : Nat) : SV → SV
  | .v x => .v x
  | .own k => .own (k + B)
  | .ptr k sz i off => .ptr (k + B) sz i off
  | .ea x a b c => .ea x a b c
  | .agg l => .agg (SV.shs B l)
  | .tup l => .tup (SV.shs B l)
  | .fn f l => .fn f (SV.shs B l)
def SV.shs (B : Nat) : List SV → List SV
  | [] => []
  | s :: l => SV.sh B s :: SV.shs B l
end
/-- a closure as a value -/
theorem OpK.mkFn {o : Oper} {K : KP} {f d : Nat} {caps : Array Operand} {l : List SV} (ho : o.op = .makeFunc (.func f) #[] caps) (hd : o.dst = some d) (hl : argsO σ caps.toList = some (true, l)) (hN : decide (d < E.N) = true)
    (hK : K ((d, true, .fn f l) :: σ) H M) : OpK E o K σ H M := by
  refine opK_of fun ν a w hs hh => ?_
  have e := argsO_spec hs hl rfl
  have e3 : caps.map a.eval = (SV.vals ν l).toArray := by apply Array.ext'; simp [← e]
  refine ⟨.func (.func f) #[] (SV.vals ν l).toArray, w, ?_, _, _, _, ⟨ν, ?_, hh⟩, hK⟩
  · simp [execOp, ho, Instr.makeFunc, e3]
  · rw [hd]
    exact hs.put (of_decide_eq_true hN) rfl
theorem stepK.mkFn {K : KP} {f d : Nat} {caps : Array Operand} {l : List SV} {ty : TypeId} {pos : String} {aft : Array Edge} {gd : Option (Nat × Bool)} (hl : argsO σ caps.toList = some (true, l)) (hN : decide (d < E.N) = true)
    (hK : K ((d, true, .fn f l) :: σ) H M) : stepK E ⟨some d, .makeFunc (.func f) #[] caps, ty, pos, aft, gd⟩ true K σ H M := by
  show true = true ∧ OpK E _ K σ H M
  exact ⟨rfl, OpK.mkFn rfl rfl hl hN hK⟩
end
theorem sd1 : type_of% (And.intro (And.intro (And.intro @tieH.eq_1 @tieH.eq_2) (And.intro @untieH.eq_1 @untieH.eq_2)) (And.intro @tiedH.eq_1 (And.intro @tiedH.eq_2 (And.intro @allBox.eq_1 @allBox.eq_2)))) := And.intro (And.intro (And.intro @tieH.eq_1 @tieH.eq_2) (And.intro @untieH.eq_1 @untieH.eq_2)) (And.intro @tiedH.eq_1 (And.intro @tiedH.eq_2 (And.intro @allBox.eq_1 @allBox.eq_2)))
end Go.X

namespace Go.X.Pt
open Go Go.X Go.X.Pol Go.X.Pl Go.X.Rp Go.X.Pd Go.X.Md Go.X.Mv

/-- one byte more -/
def stp (m p c : Nat) : Nat := pmod (p * 2 ^ 8 + c) m
def prf (m : Nat) (s : List UInt8) (p : Nat) : Nat := s.foldl (fun p c => stp m p c.toNat) p

theorem double {m x e : Nat} (hm : m ≠ 0) (he : e < 2) : pmod (2 * pmod x m + e) m = pmod (2 * x + e) m := by
  have h1 : ∀ y, 2 * y + e = 2 * y ^^^ e := fun y => by rw [Nat.xor_comm, bit_xor he, Nat.add_comm]
  have h2 : ∀ y, 2 * y = mulp y 2 := fun y => by
    have := mulp_pow1 y 1
    rw [Nat.pow_one] at this
    rw [mulp_comm, this, Nat.mul_comm]
  rw [h1, h1, pmod_xor hm, pmod_xor hm, h2, h2, pmod_mul_left hm]
theorem and_top {q k : Nat} (h : q < 2 ^ (k + 1)) : (0 < q &&& 2 ^ k) ↔ 2 ^ k ≤ q := by
  rcases Nat.lt_or_ge q (2 ^ k) with h1 | h1
  · have : q &&& 2 ^ k = 0 := by
      apply Nat.eq_of_testBit_eq
      intro j
      rw [Nat.testBit_and, Nat.testBit_two_pow, Nat.zero_testBit]
      by_cases hj : k = j
      · subst hj; rw [Nat.testBit_lt_two_pow h1]; rfl
      · simp [hj]
    rw [this]
    omega
  · refine ⟨fun _ => h1, fun _ => Nat.pos_of_ne_zero fun e => ?_⟩
    have h0 := Nat.two_pow_pos k
    have h2 : (q &&& 2 ^ k).testBit k = true := by
      rw [Nat.pow_succ] at h
      rw [Nat.testBit_and, Nat.testBit_two_pow, Nat.testBit_eq_decide_div_mod_eq]
      have : q / 2 ^ k = 1 := Nat.div_eq_of_lt_le (by omega) (by omega)
      rw [this]
      simp
    rw [e, Nat.zero_testBit] at h2
    cases h2
theorem red_bit {m q : Nat} (hm : m ≠ 0) (h : q < 2 ^ (sz m)) : pmod q m = if 2 ^ (sz m - 1) ≤ q then q ^^^ m else q := by
  obtain ⟨g1, g2, g3⟩ := sz_rng hm
  have hs := sz_pos.2 hm
  split
  · rename_i h1
    rw [g3] at h g2
    have h2 := xor_drop h1 h g1 g2
    exact (divmod_uniq (q := 1) (r := q ^^^ m) (by rw [mulp_one, Nat.xor_comm m, Nat.xor_assoc, Nat.xor_self, Nat.xor_zero]) (by have := sz_le.2 h2; omega)).2
  · rename_i h1
    exact pmod_small (by have := sz_le.2 (show q < 2 ^ (sz m - 1) by omega); omega)

theorem strIx_at {s : List UInt8} {i : Nat} {b : UInt8} (h : s[i]? = some b) : strIx s (i : Int) = ((b.toNat : Nat) : Int) := by
  unfold strIx
  rw [zrm, List.getD_eq_getElem?_getD, h]
  rfl
theorem push (p m : Nat) (s : List UInt8) (M : Mem) (h2 : 2 ≤ m) (hm : m ≤ 2147483647) (hp : p ≤ 2147483647) (hs : s.length ≤ maxLen) :
    Meets Proofs.Tryz.prog 153 [.v (.int .i64 (p : Int)), .v (.string ⟨s.toArray⟩), .v (.int .i64 (m : Int))] M fun r _ _ => r = .v (.int .i64 ((prf m s p : Nat) : Int)) := by
  refine Meets.of_body [0,1,2,6,7,9,11,12,13] Proofs.Tryz.func153 rfl (by kernel_rfl) rfl fun w => ?_
  have h0 : m ≠ 0 := by omega
  generalize hc : prf m s p = c
  simp only [maxLen] at hs
  simp only [Proofs.Tryz.f153, shs, zts, sos, sls, zss, eqs, sx, sb1, sb2, sb3, sb4, sb5, sb6, sb7, ↓reduceIte, zqa, zqb, zqc, zqd, zqe, zqf, reduceCtorEq, zra, zrb, zrc, zrd, zre, zrf, zrg, zrh, zri, zrj, zrk, zrl, zrm, zqg]
  refine LoopK.go (X := Nat × Nat × Nat) (fun x => ([(0, true, .v (.int .i64 (x.2.2 : Int))), (1, true, .v (.string ⟨s.toArray⟩)), (2, true, .v (.int .i64 m)), (11, true, .v (.int .i64 s.length)), (12, true, .v (.int .i64 x.2.1))], [], M))
    (fun x => (x.1 + x.2.1 = s.length ∧ x.2.2 ≤ 2147483647) ∧ prf m (s.drop x.2.1) x.2.2 = c) (fun x => x.1) (s.length, 0, p) ⟨⟨rfl, hp⟩, hc⟩ (Ent.of ?_) ?_
  · simp only [sx, sb1, sb2, sb3, sb4, sb5, sb6, sb7, ↓reduceIte, zqa, zqb, zqc, zqd, zqe, zqf, reduceCtorEq, zra, zrb, zrc, zrd, zre, zrf, zrg, zrh, zri, zrj, zrk, zrl, zrm, zqg]
  rintro ⟨f, i, q⟩ ⟨⟨h3, h4⟩, h5⟩
  simp only at h3 h4 h5
  simp only [shs, zts, sos, sls, zss, eqs, sx, sb1, sb2, sb3, sb4, sb5, sb6, sb7, ↓reduceIte, zqa, zqb, zqc, zqd, zqe, zqf, reduceCtorEq, zra, zrb, zrc, zrd, zre, zrf, zrg, zrh, zri, zrj, zrk, zrl, zrm, zqg, inK, lo, hi, uw (show q < 18446744073709551616 by omega), mw, b64u]
  refine ⟨fun h6 => ?_, fun h6 => ?_⟩
  · obtain ⟨b, hb, hd⟩ := drop_at (l := s) (i := i) (by omega)
    have e1 := strIx_at hb
    have hb2 : b.toNat < 256 := UInt8.toNat_lt b
    rw [hd] at h5
    simp only [prf, List.foldl_cons] at h5
    have hz := red_le (x := q * 2 ^ 8 + b.toNat) h0 hm
    refine ⟨(fun h => by cases h), by omega, by omega, (fun h => by cases h), ?_⟩
    rw [e1, uw (show b.toNat < 18446744073709551616 by omega), orw (show q * 2 ^ 8 < 18446744073709551616 by omega) (show b.toNat < 18446744073709551616 by omega), or_low (k := 8) (by omega)]
    refine CallK.pure ⟨rfl, rfl⟩ rfl (over _ m M (by omega) hm h0) ?_
    simp only [shs, zts, sos, sls, zss, eqs, sx, sb1, sb2, sb3, sb4, sb5, sb6, sb7, ↓reduceIte, zqa, zqb, zqc, zqd, zqe, zqf, reduceCtorEq, zra, zrb, zrc, zrd, zre, zrf, zrg, zrh, zri, zrj, zrk, zrl, zrm, zqg, inK, lo, hi, iw (show pmod (q * 2 ^ 8 + b.toNat) m < 9223372036854775808 by omega)]
    refine ⟨(fun h => by cases h), by omega, (f - 1, i + 1, pmod (q * 2 ^ 8 + b.toNat) m), ⟨⟨⟨by simp only; omega, by simp only; omega⟩, h5⟩, by simp only; omega⟩, Ent.of ?_⟩
    simp only [sx, sb1, sb2, sb3, sb4, sb5, sb6, sb7, ↓reduceIte, zqa, zqb, zqc, zqd, zqe, zqf, reduceCtorEq, zra, zrb, zrc, zrd, zre, zrf, zrg, zrh, zri, zrj, zrk, zrl, zrm, zqg, Int.natCast_add]
  · have hd : s.drop i = [] := List.drop_eq_nil_of_le (by omega)
    rw [hd] at h5
    simp only [prf, List.foldl_nil] at h5
    rw [h5]

theorem plain (m : Nat) (s : List UInt8) (M : Mem) (h2 : 2 ≤ m) (hm : m ≤ 2147483647) (hs : s.length ≤ maxLen) :
    Meets Proofs.Tryz.prog 104 [.v (.int .i64 (m : Int)), .v (.string ⟨s.toArray⟩)] M fun r _ _ => r = .v (.int .i64 ((prf m s 1 : Nat) : Int)) := by
  refine Meets.of_body [0,1,4,6] Proofs.Tryz.func104 rfl (by kernel_rfl) rfl fun w => ?_
  have h0 : m ≠ 0 := by omega
  have h1 : pmod 1 m = 1 := pmod_small (by
    have h3 : sz 1 = 1 := rfl
    have h4 := lt_sz.2 (show 2 ^ 1 ≤ m by omega)
    omega)
  simp only [Proofs.Tryz.f104, shs, zts, sos, sls, zss, eqs, sx, sb1, sb2, sb3, sb4, sb5, sb6, sb7, ↓reduceIte, zqa, zqb, zqc, zqd, zqe, zqf, reduceCtorEq, zra, zrb, zrc, zrd, zre, zrf, zrg, zrh, zri, zrj, zrk, zrl, zrm, zqg]
  refine CallK.pure ⟨rfl, rfl⟩ rfl (over 1 m M (by omega) hm h0) ?_
  rw [h1]
  simp only [shs, zts, sos, sls, zss, eqs, sx, sb1, sb2, sb3, sb4, sb5, sb6, sb7, ↓reduceIte, zqa, zqb, zqc, zqd, zqe, zqf, reduceCtorEq, zra, zrb, zrc, zrd, zre, zrf, zrg, zrh, zri, zrj, zrk, zrl, zrm, zqg, iw (show 1 < 9223372036854775808 by omega)]
  refine ⟨(fun h => by cases h), CallK.pure ⟨rfl, rfl⟩ rfl (push 1 m s M h2 hm (by omega) hs) ?_⟩
  simp only [shs, zts, sos, sls, zss, eqs, sx, sb1, sb2, sb3, sb4, sb5, sb6, sb7, ↓reduceIte, zqa, zqb, zqc, zqd, zqe, zqf, reduceCtorEq, zra, zrb, zrc, zrd, zre, zrf, zrg, zrh, zri, zrj, zrk, zrl, zrm, zqg]

theorem tdN (a b : Nat) : (a : Int).tdiv (b : Int) = ((a / b : Nat) : Int) := (Int.ofNat_tdiv a b).symm
theorem rprint (m : Nat) (s : List UInt8) (M : Mem) (h2 : 2 ≤ m) (hm : m ≤ 2147483647) (hs : s.length ≤ maxLen) :
    Meets Proofs.Tryz.prog 79 [.v (.int .i64 (m : Int)), .v (.string ⟨s.toArray⟩)] M fun r _ _ => r = .v (.int .i64 ((prf m s 1 : Nat) : Int)) := by
  refine Meets.of_body [0,1,2,4,5,6,7,8,9,13,18,19,20,23] Proofs.Tryz.func79 rfl (by kernel_rfl) rfl fun w => ?_
  have h0 : m ≠ 0 := by omega
  generalize hc : prf m s 1 = c
  simp only [maxLen] at hs
  have hsm := sz31 hm
  have hsm0 := sz_pos.2 h0
  obtain ⟨g1, g2, g3⟩ := sz_rng h0
  simp only [Proofs.Tryz.f79, shs, zts, sos, sls, zss, eqs, sx, sb1, sb2, sb3, sb4, sb5, sb6, sb7, ↓reduceIte, zqa, zqb, zqc, zqd, zqe, zqf, reduceCtorEq, zra, zrb, zrc, zrd, zre, zrf, zrg, zrh, zri, zrj, zrk, zrl, zrm, zqg]
  refine ⟨fun _ => trivial, ?_⟩
  refine LoopK.go (X := Nat) (fun i => ([(1, true, .v (.string ⟨s.toArray⟩)), (2, true, .ptr 16 0 0 0), (5, true, .ptr 40 0 0 0)], [(40, .box [.v (.int .i64 ((2 ^ i : Nat) : Int))] none), (16, .box [.v (.int .i64 (m : Int))] none)], M))
    (fun i => i ≤ sz m - 1) (fun i => sz m - i) 0 (Nat.zero_le _) (Ent.of ?_) ?_
  · simp only [sx, sb1, sb2, sb3, sb4, sb5, sb6, sb7, ↓reduceIte, zqa, zqb, zqc, zqd, zqe, zqf, reduceCtorEq, zra, zrb, zrc, zrd, zre, zrf, zrg, zrh, zri, zrj, zrk, zrl, zrm, zqg, Nat.pow_zero]
  intro i hi'
  have hp2 : 2 ^ (i + 1) = 2 * 2 ^ i := by rw [Nat.pow_succ, Nat.mul_comm]
  have hpi : 2 ^ i ≤ 1073741824 := Nat.pow_le_pow_right (n := 2) (j := 30) (by omega) (by omega)
  simp only [shs, zts, sos, sls, zss, eqs, sx, sb1, sb2, sb3, sb4, sb5, sb6, sb7, ↓reduceIte, zqa, zqb, zqc, zqd, zqe, zqf, reduceCtorEq, zra, zrb, zrc, zrd, zre, zrf, zrg, zrh, zri, zrj, zrk, zrl, zrm, zqg, inK, lo, hi]
  refine ⟨by omega, fun h3 => ⟨by omega, fun _ => trivial, i + 1, ⟨?_, by omega⟩, Ent.of ?_⟩, fun h3 => ⟨fun _ => trivial, ?_⟩⟩
  · have : i + 1 < sz m := lt_sz.2 (by omega)
    omega
  · have e : ((2 ^ (i + 1) : Nat) : Int) = ((2 ^ i : Nat) : Int) * 2 := by rw [hp2]; generalize 2 ^ i = z; omega
    simp only [sx, sb1, sb2, sb3, sb4, sb5, sb6, sb7, ↓reduceIte, zqa, zqb, zqc, zqd, zqe, zqf, reduceCtorEq, zra, zrb, zrc, zrd, zre, zrf, zrg, zrh, zri, zrj, zrk, zrl, zrm, zqg, e]
  have hik : i = sz m - 1 := by
    have : sz m ≤ i + 1 := sz_le.2 (by omega)
    omega
  subst hik
  clear hi' h3 hp2
  generalize hT : 2 ^ (sz m - 1) = T at *
  refine stepK.mkFn rfl rfl ?_
  simp only [shs, zts, sos, sls, zss, eqs, sx, sb1, sb2, sb3, sb4, sb5, sb6, sb7, ↓reduceIte, zqa, zqb, zqc, zqd, zqe, zqf, reduceCtorEq, zra, zrb, zrc, zrd, zre, zrf, zrg, zrh, zri, zrj, zrk, zrl, zrm, zqg]
  refine LoopK.go (X := Nat × Nat × Nat) (fun x => ([(1, true, .v (.string ⟨s.toArray⟩)), (6, true, .ptr 48 0 0 0), (7, true, .fn 130 [.ptr 48 0 0 0, .ptr 40 0 0 0, .ptr 16 0 0 0]), (18, true, .v (.int .i64 s.length)), (19, true, .v (.int .i64 x.2.1))],
      [(48, .box [.v (.int .i64 (x.2.2 : Int))] none), (40, .box [.v (.int .i64 (T : Int))] none), (16, .box [.v (.int .i64 (m : Int))] none)], M))
    (fun x => (x.1 + x.2.1 = s.length ∧ x.2.2 < T) ∧ prf m (s.drop x.2.1) x.2.2 = c) (fun x => x.1) (s.length, 0, 1) ⟨⟨rfl, ?_⟩, hc⟩ (Ent.of ?_) ?_
  · simp only
    have := @lt_sz m 1
    rw [← hT]
    have : 2 ^ 1 ≤ 2 ^ (sz m - 1) := Nat.pow_le_pow_right (by omega) (by omega)
    omega
  · simp only [sx, sb1, sb2, sb3, sb4, sb5, sb6, sb7, ↓reduceIte, zqa, zqb, zqc, zqd, zqe, zqf, reduceCtorEq, zra, zrb, zrc, zrd, zre, zrf, zrg, zrh, zri, zrj, zrk, zrl, zrm, zqg]
  rintro ⟨f, i, q⟩ ⟨⟨h3, h4⟩, h5⟩
  simp only at h3 h4 h5
  simp only [shs, zts, sos, sls, zss, eqs, sx, sb1, sb2, sb3, sb4, sb5, sb6, sb7, ↓reduceIte, zqa, zqb, zqc, zqd, zqe, zqf, reduceCtorEq, zra, zrb, zrc, zrd, zre, zrf, zrg, zrh, zri, zrj, zrk, zrl, zrm, zqg, inK, lo, hi]
  refine ⟨fun h6 => ?_, fun h6 => ?_⟩
  · obtain ⟨b, hb, hd⟩ := drop_at (l := s) (i := i) (by omega)
    have e1 := strIx_at hb
    have hb2 : b.toNat < 256 := UInt8.toNat_lt b
    rw [hd] at h5
    simp only [prf, List.foldl_cons] at h5
    generalize hB : b.toNat = B at *
    refine LoopK.go (X := Nat) (fun j => ([(1, true, .v (.string ⟨s.toArray⟩)), (6, true, .ptr 48 0 0 0), (7, true, .fn 130 [.ptr 48 0 0 0, .ptr 40 0 0 0, .ptr 16 0 0 0]), (8, true, .v (.int .i64 i)), (9, true, .v (.int .i64 ((128 / 2 ^ j : Nat) : Int))), (18, true, .v (.int .i64 s.length)), (19, true, .v (.int .i64 i))],
        [(48, .box [.v (.int .i64 ((pmod (q * 2 ^ j + B / 2 ^ (8 - j)) m : Nat) : Int))] none), (40, .box [.v (.int .i64 (T : Int))] none), (16, .box [.v (.int .i64 (m : Int))] none)], M))
      (fun j => j ≤ 8) (fun j => 8 - j) 0 (Nat.zero_le _) (Ent.of ?_) ?_
    · have hq : pmod (q * 2 ^ 0 + B / 2 ^ (8 - 0)) m = q := by
        rw [Nat.pow_zero, Nat.mul_one, Nat.div_eq_of_lt (show B < 2 ^ (8 - 0) by omega), Nat.add_zero]
        exact pmod_small (by have := sz_le.2 (show q < 2 ^ (sz m - 1) by omega); omega)
      simp only [sx, sb1, sb2, sb3, sb4, sb5, sb6, sb7, ↓reduceIte, zqa, zqb, zqc, zqd, zqe, zqf, reduceCtorEq, zra, zrb, zrc, zrd, zre, zrf, zrg, zrh, zri, zrj, zrk, zrl, zrm, zqg, hq, Nat.pow_zero, Nat.div_one]
    intro j hj
    have hV : 128 / 2 ^ j ≤ 128 := Nat.div_le_self _ _
    have hV2 : j ≤ 7 → 128 / 2 ^ j = 2 ^ (7 - j) := fun h => by
      have : j = 0 ∨ j = 1 ∨ j = 2 ∨ j = 3 ∨ j = 4 ∨ j = 5 ∨ j = 6 ∨ j = 7 := by omega
      rcases this with rfl | rfl | rfl | rfl | rfl | rfl | rfl | rfl <;> rfl
    have hBV : B / (128 / 2 ^ j) ≤ B := Nat.div_le_self _ _
    have hP := red_lt (x := q * 2 ^ j + B / 2 ^ (8 - j)) h0
    rw [hT] at hP
    have hstep : j ≤ 7 → pmod (2 * pmod (q * 2 ^ j + B / 2 ^ (8 - j)) m + B / (128 / 2 ^ j) % 2) m = pmod (q * 2 ^ (j + 1) + B / 2 ^ (8 - (j + 1))) m := fun h => by
      rw [double h0 (Nat.mod_lt _ (by omega)), hV2 h]
      congr 1
      rw [show 8 - j = (7 - j) + 1 by omega, show 8 - (j + 1) = 7 - j by omega, Nat.pow_succ, Nat.pow_succ, ← Nat.div_div_eq_div_mul, Nat.mul_add, Nat.mul_left_comm, Nat.mul_comm 2 (2 ^ j)]
      omega
    have hV3 := pm2 128 j
    have hV8 : ¬ 0 < 128 / 2 ^ j → j = 8 := fun h => by
      rcases Nat.lt_or_ge j 8 with h8 | h8
      · rw [hV2 (by omega)] at h
        exact (h (Nat.two_pow_pos _)).elim
      · omega
    generalize hPe : pmod (q * 2 ^ j + B / 2 ^ (8 - j)) m = P at *
    simp only [shs, zts, sos, sls, zss, eqs, sx, sb1, sb2, sb3, sb4, sb5, sb6, sb7, ↓reduceIte, zqa, zqb, zqc, zqd, zqe, zqf, reduceCtorEq, zra, zrb, zrc, zrd, zre, zrf, zrg, zrh, zri, zrj, zrk, zrl, zrm, zqg, inK, lo, hi, e1, tm2, td2, iw (show B < 9223372036854775808 by omega), tdN]
    refine ⟨fun h7 => ?_, fun h7 => ?_⟩
    · have hj7 : j ≤ 7 := by
        rcases Nat.lt_or_ge j 8 with h | h
        · omega
        · have : j = 8 := by omega
          subst this
          simp at h7
      replace hstep := hstep hj7
      refine ⟨by omega, (fun h => by cases h), ⟨by omega, i64N (by omega)⟩, ?_⟩
      generalize 128 / 2 ^ j = V at *
      have hE : B / V % 2 < 2 := Nat.mod_lt _ (by omega)
      generalize B / V % 2 = e at *
      have hQ : 2 * P + e < 2 ^ (sz m) := by rw [g3, Nat.pow_succ, hT]; omega
      have hr := red_bit h0 hQ
      have ha := and_top (q := 2 * P + e) (k := sz m - 1) (by rw [← g3]; exact hQ)
      rw [hT] at hr ha
      refine CallK.boxes [0,1,2,3,12] Proofs.Tryz.func130 rfl (by kernel_rfl) rfl rfl fun xs => ?_
      have eS : 2 * (P : Int) + (e : Int) = ((2 * P + e : Nat) : Int) := by omega
      simp only [Proofs.Tryz.f130, sd1, shs, zts, sos, sls, zss, eqs, sx, sb1, sb2, sb3, sb4, sb5, sb6, sb7, ↓reduceIte, zqa, zqb, zqc, zqd, zqe, zqf, reduceCtorEq, zra, zrb, zrc, zrd, zre, zrf, zrg, zrh, zri, zrj, zrk, zrl, zrm, zqg, inK, lo, hi, eS, td2, hV3]
      refine ⟨by omega, by omega, fun _ => trivial, by omega, fun h9 => ?_, fun h9 => ?_⟩
      · rw [if_pos (ha.1 (by omega)), hstep] at hr
        refine ⟨by omega, fun _ => trivial, i64N (by rw [← hV3]; omega), j + 1, ⟨by omega, by omega⟩, Ent.of ?_⟩
        simp only [sx, sb1, sb2, sb3, sb4, sb5, sb6, sb7, ↓reduceIte, zqa, zqb, zqc, zqd, zqe, zqf, reduceCtorEq, zra, zrb, zrc, zrd, zre, zrf, zrg, zrh, zri, zrj, zrk, zrl, zrm, zqg, hr]
      · rw [if_neg (fun h => by have := ha.2 h; omega), hstep] at hr
        refine ⟨i64N (by rw [← hV3]; omega), j + 1, ⟨by omega, by omega⟩, Ent.of ?_⟩
        simp only [sx, sb1, sb2, sb3, sb4, sb5, sb6, sb7, ↓reduceIte, zqa, zqb, zqc, zqd, zqe, zqf, reduceCtorEq, zra, zrb, zrc, zrd, zre, zrf, zrg, zrh, zri, zrj, zrk, zrl, zrm, zqg, hr]
    · have hj8 : j = 8 := hV8 (by omega)
      have hP8 : stp m q B = P := by rw [← hPe, hj8, stp, Nat.sub_self, Nat.pow_zero, Nat.div_one]
      rw [hP8] at h5
      refine ⟨by omega, (f - 1, i + 1, P), ⟨⟨⟨by simp only; omega, hP⟩, h5⟩, by simp only; omega⟩, Ent.of ?_⟩
      simp only [sx, sb1, sb2, sb3, sb4, sb5, sb6, sb7, ↓reduceIte, zqa, zqb, zqc, zqd, zqe, zqf, reduceCtorEq, zra, zrb, zrc, zrd, zre, zrf, zrg, zrh, zri, zrj, zrk, zrl, zrm, zqg, Int.natCast_add]
  · have hd : s.drop i = [] := List.drop_eq_nil_of_le (by omega)
    rw [hd] at h5
    simp only [prf, List.foldl_nil] at h5
    rw [h5]
end Go.X.Pt

