/- Contracts of functions and the logic that they are proved in (7 texts in one). Conditions: none. -/
import Derived.Test.YtoohifeidifocaaMg8
import Derived.Test.YtoohifeidifocaaMg4
import Derived.Test.YtoohifeidifocaaMg7
import Derived.MapKept
import Derived.Laws.Externs
import Derived.Lib.Overlaps
namespace Go.X.Pol
end Go.X.Pol
namespace Go.X.Pl
end Go.X.Pl
namespace Go.X.Rp
end Go.X.Rp
namespace Go.X.Pd
end Go.X.Pd
namespace Go.X.Md
end Go.X.Md
namespace Go.X.Mv
end Go.X.Mv
set_option linter.unusedSimpArgs false
set_option linter.unusedVariables false
set_option maxHeartbeats 4000000
set_option maxRecDepth 20000
namespace Go.X.Rp
open Go Go.X Go.X.Pol Go.X.Pl

theorem drop_at {α : Type} {l : List α} {i : Nat} (h : i < l.length) : ∃ x, l[i]? = some x ∧ l.drop i = x :: l.drop (i + 1) :=
  ⟨_, List.getElem?_eq_getElem h, List.drop_eq_getElem_cons h⟩

theorem tm2 (x : Nat) : (x : Int).tmod 2 = ((x % 2 : Nat) : Int) := (Int.ofNat_tmod x 2).symm
theorem td2 (x : Nat) : (x : Int).tdiv 2 = ((x / 2 : Nat) : Int) := (Int.ofNat_tdiv x 2).symm
theorem pm2 (a k : Nat) : a / 2 ^ k / 2 = a / 2 ^ (k + 1) := by rw [Nat.div_div_eq_div_mul, Nat.pow_succ]

theorem i64N {x : Nat} (h : x ≤ 9223372036854775807) : (-9223372036854775808 : Int) ≤ (x : Int) ∧ (x : Int) ≤ 9223372036854775807 := by omega

/-! ### greatest common divisors -/
end Go.X.Rp

namespace Go.X.Mv
open Go Go.X Go.X.Pol Go.X.Pl Go.X.Rp Go.X.Pd Go.X.Md

theorem p30 {m : Nat} (hm : m ≤ 2147483647) : 2 ^ (sz m - 1) ≤ 1073741824 := Nat.pow_le_pow_right (n := 2) (j := 30) (by omega) (by have := sz31 hm; omega)
theorem red_lt {m x : Nat} (h0 : m ≠ 0) : pmod x m < 2 ^ (sz m - 1) := sz_le.1 (by have := (divmod (a := x) h0).2; omega)
theorem red_le {m x : Nat} (h0 : m ≠ 0) (hm : m ≤ 2147483647) : pmod x m ≤ 1073741824 := Nat.le_trans (Nat.le_of_lt (red_lt h0)) (p30 hm)
end Go.X.Mv

namespace Go.X.Pt
open Go Go.X Go.X.Pol Go.X.Pl Go.X.Rp Go.X.Pd Go.X.Md Go.X.Mv

/-- one byte more -/
def stp (m p c : Nat) : Nat := pmod (p * 2 ^ 8 + c) m
def prf (m : Nat) (s : List UInt8) (p : Nat) : Nat := s.foldl (fun p c => stp m p c.toNat) p

theorem double {m x e : Nat} (hm : m ≠ 0) (he : e < 2) : pmod (2 * pmod x m + e) m = pmod (2 * x + e) m := by
  have h1 : ∀ y, 2 * y + e = 2 * y ^^^ e := fun y => by rw [Nat.xor_comm, bit_xor he, Nat.add_comm]
  have h2 : ∀ y, 2 * y = mulp y 2 := fun y => by
    have := mulp_pow1 y 1
    rw [Nat.pow_one] at this
    rw [mulp_comm, this, Nat.mul_comm]
  rw [h1, h1, pmod_xor hm, pmod_xor hm, h2, h2, pmod_mul_left hm]
theorem and_top {q k : Nat} (h : q < 2 ^ (k + 1)) : (0 < q &&& 2 ^ k) ↔ 2 ^ k ≤ q := by
  rcases Nat.lt_or_ge q (2 ^ k) with h1 | h1
  · have : q &&& 2 ^ k = 0 := by
      apply Nat.eq_of_testBit_eq
      intro j
      rw [Nat.testBit_and, Nat.testBit_two_pow, Nat.zero_testBit]
      by_cases hj : k = j
      · subst hj; rw [Nat.testBit_lt_two_pow h1]; rfl
      · simp [hj]
    rw [this]
    omega
  · refine ⟨fun _ => h1, fun _ => Nat.pos_of_ne_zero fun e => ?_⟩
    have h0 := Nat.two_pow_pos k
    have h2 : (q &&& 2 ^ k).testBit k = true := by
      rw [Nat.pow_succ] at h
      rw [Nat.testBit_and, Nat.testBit_two_pow, Nat.testBit_eq_decide_div_mod_eq]
      have : q / 2 ^ k = 1 := Nat.div_eq_of_lt_le (by omega) (by omega)
      rw [this]
      simp
    rw [e, Nat.zero_testBit] at h2
    cases h2
theorem red_bit {m q : Nat} (hm : m ≠ 0) (h : q < 2 ^ (sz m)) : pmod q m = if 2 ^ (sz m - 1) ≤ q then q ^^^ m else q := by
  obtain ⟨g1, g2, g3⟩ := sz_rng hm
  have hs := sz_pos.2 hm
  split
  · rename_i h1
    rw [g3] at h g2
    have h2 := xor_drop h1 h g1 g2
    exact (divmod_uniq (q := 1) (r := q ^^^ m) (by rw [mulp_one, Nat.xor_comm m, Nat.xor_assoc, Nat.xor_self, Nat.xor_zero]) (by have := sz_le.2 h2; omega)).2
  · rename_i h1
    exact pmod_small (by have := sz_le.2 (show q < 2 ^ (sz m - 1) by omega); omega)

theorem strIx_at {s : List UInt8} {i : Nat} {b : UInt8} (h : s[i]? = some b) : strIx s (i : Int) = ((b.toNat : Nat) : Int) := by
  unfold strIx
  rw [Int.toNat_natCast, List.getD_eq_getElem?_getD, h]
  rfl
theorem push (p m : Nat) (s : List UInt8) (M : Mem) (h2 : 2 ≤ m) (hm : m ≤ 2147483647) (hp : p ≤ 2147483647) (hs : s.length ≤ maxLen) :
    Meets Proofs.Try.prog 46 [.v (.int .i64 (p : Int)), .v (.string ⟨s.toArray⟩), .v (.int .i64 (m : Int))] M fun r _ _ => r = .v (.int .i64 ((prf m s p : Nat) : Int)) := by
  refine Meets.of_body [0,1,2,6,7,9,11,12,13] Proofs.Try.func46 rfl (by kernel_rfl) rfl fun w => ?_
  have h0 : m ≠ 0 := by omega
  generalize hc : prf m s p = c
  simp only [maxLen] at hs
  simp only [Proofs.Try.f46, shs, zts, sos, sls, zss, eqs, sx, sb1, sb2, sb3, sb4, sb5, sb6, sb7, ↓reduceIte, Nat.reduceAdd, Nat.reduceMul, Nat.reduceDiv, Nat.reduceEqDiff, Nat.reduceLT, Nat.reduceLeDiff, reduceCtorEq, Int.reduceEq, Int.reduceNe, Int.reduceLT, Int.reduceLE, Int.reduceAdd, Int.reduceSub, Int.reduceMul, Int.reduceNeg, Int.reduceToNat, Int.cast_ofNat_Int, Int.natCast_zero, Int.natCast_one, Int.toNat_natCast, Nat.reduceBEq]
  refine LoopK.go (X := Nat × Nat × Nat) (fun x => ([(0, true, .v (.int .i64 (x.2.2 : Int))), (1, true, .v (.string ⟨s.toArray⟩)), (2, true, .v (.int .i64 m)), (11, true, .v (.int .i64 s.length)), (12, true, .v (.int .i64 x.2.1))], [], M))
    (fun x => (x.1 + x.2.1 = s.length ∧ x.2.2 ≤ 2147483647) ∧ prf m (s.drop x.2.1) x.2.2 = c) (fun x => x.1) (s.length, 0, p) ⟨⟨rfl, hp⟩, hc⟩ (Ent.of ?_) ?_
  · simp only [sx, sb1, sb2, sb3, sb4, sb5, sb6, sb7, ↓reduceIte, Nat.reduceAdd, Nat.reduceMul, Nat.reduceDiv, Nat.reduceEqDiff, Nat.reduceLT, Nat.reduceLeDiff, reduceCtorEq, Int.reduceEq, Int.reduceNe, Int.reduceLT, Int.reduceLE, Int.reduceAdd, Int.reduceSub, Int.reduceMul, Int.reduceNeg, Int.reduceToNat, Int.cast_ofNat_Int, Int.natCast_zero, Int.natCast_one, Int.toNat_natCast, Nat.reduceBEq]
  rintro ⟨f, i, q⟩ ⟨⟨h3, h4⟩, h5⟩
  simp only at h3 h4 h5
  simp only [shs, zts, sos, sls, zss, eqs, sx, sb1, sb2, sb3, sb4, sb5, sb6, sb7, ↓reduceIte, Nat.reduceAdd, Nat.reduceMul, Nat.reduceDiv, Nat.reduceEqDiff, Nat.reduceLT, Nat.reduceLeDiff, reduceCtorEq, Int.reduceEq, Int.reduceNe, Int.reduceLT, Int.reduceLE, Int.reduceAdd, Int.reduceSub, Int.reduceMul, Int.reduceNeg, Int.reduceToNat, Int.cast_ofNat_Int, Int.natCast_zero, Int.natCast_one, Int.toNat_natCast, Nat.reduceBEq, inK, lo, hi, uw (show q < 18446744073709551616 by omega), mw, b64u]
  refine ⟨fun h6 => ?_, fun h6 => ?_⟩
  · obtain ⟨b, hb, hd⟩ := drop_at (l := s) (i := i) (by omega)
    have e1 := strIx_at hb
    have hb2 : b.toNat < 256 := UInt8.toNat_lt b
    rw [hd] at h5
    simp only [prf, List.foldl_cons] at h5
    have hz := red_le (x := q * 2 ^ 8 + b.toNat) h0 hm
    refine ⟨(fun h => by cases h), by omega, by omega, (fun h => by cases h), ?_⟩
    rw [e1, uw (show b.toNat < 18446744073709551616 by omega), orw (show q * 2 ^ 8 < 18446744073709551616 by omega) (show b.toNat < 18446744073709551616 by omega), or_low (k := 8) (by omega)]
    refine CallK.pure ⟨rfl, rfl⟩ rfl (over _ m M (by omega) hm h0) ?_
    simp only [shs, zts, sos, sls, zss, eqs, sx, sb1, sb2, sb3, sb4, sb5, sb6, sb7, ↓reduceIte, Nat.reduceAdd, Nat.reduceMul, Nat.reduceDiv, Nat.reduceEqDiff, Nat.reduceLT, Nat.reduceLeDiff, reduceCtorEq, Int.reduceEq, Int.reduceNe, Int.reduceLT, Int.reduceLE, Int.reduceAdd, Int.reduceSub, Int.reduceMul, Int.reduceNeg, Int.reduceToNat, Int.cast_ofNat_Int, Int.natCast_zero, Int.natCast_one, Int.toNat_natCast, Nat.reduceBEq, inK, lo, hi, iw (show pmod (q * 2 ^ 8 + b.toNat) m < 9223372036854775808 by omega)]
    refine ⟨(fun h => by cases h), by omega, (f - 1, i + 1, pmod (q * 2 ^ 8 + b.toNat) m), ⟨⟨⟨by simp only; omega, by simp only; omega⟩, h5⟩, by simp only; omega⟩, Ent.of ?_⟩
    simp only [sx, sb1, sb2, sb3, sb4, sb5, sb6, sb7, ↓reduceIte, Nat.reduceAdd, Nat.reduceMul, Nat.reduceDiv, Nat.reduceEqDiff, Nat.reduceLT, Nat.reduceLeDiff, reduceCtorEq, Int.reduceEq, Int.reduceNe, Int.reduceLT, Int.reduceLE, Int.reduceAdd, Int.reduceSub, Int.reduceMul, Int.reduceNeg, Int.reduceToNat, Int.cast_ofNat_Int, Int.natCast_zero, Int.natCast_one, Int.toNat_natCast, Nat.reduceBEq, Int.natCast_add]
  · have hd : s.drop i = [] := List.drop_eq_nil_of_le (by omega)
    rw [hd] at h5
    simp only [prf, List.foldl_nil] at h5
    rw [h5]

theorem plain (m : Nat) (s : List UInt8) (M : Mem) (h2 : 2 ≤ m) (hm : m ≤ 2147483647) (hs : s.length ≤ maxLen) :
    Meets Proofs.Try.prog 44 [.v (.int .i64 (m : Int)), .v (.string ⟨s.toArray⟩)] M fun r _ _ => r = .v (.int .i64 ((prf m s 1 : Nat) : Int)) := by
  refine Meets.of_body [0,1,4,6] Proofs.Try.func44 rfl (by kernel_rfl) rfl fun w => ?_
  have h0 : m ≠ 0 := by omega
  have h1 : pmod 1 m = 1 := pmod_small (by
    have h3 : sz 1 = 1 := rfl
    have h4 := lt_sz.2 (show 2 ^ 1 ≤ m by omega)
    omega)
  simp only [Proofs.Try.f44, shs, zts, sos, sls, zss, eqs, sx, sb1, sb2, sb3, sb4, sb5, sb6, sb7, ↓reduceIte, Nat.reduceAdd, Nat.reduceMul, Nat.reduceDiv, Nat.reduceEqDiff, Nat.reduceLT, Nat.reduceLeDiff, reduceCtorEq, Int.reduceEq, Int.reduceNe, Int.reduceLT, Int.reduceLE, Int.reduceAdd, Int.reduceSub, Int.reduceMul, Int.reduceNeg, Int.reduceToNat, Int.cast_ofNat_Int, Int.natCast_zero, Int.natCast_one, Int.toNat_natCast, Nat.reduceBEq]
  refine CallK.pure ⟨rfl, rfl⟩ rfl (over 1 m M (by omega) hm h0) ?_
  rw [h1]
  simp only [shs, zts, sos, sls, zss, eqs, sx, sb1, sb2, sb3, sb4, sb5, sb6, sb7, ↓reduceIte, Nat.reduceAdd, Nat.reduceMul, Nat.reduceDiv, Nat.reduceEqDiff, Nat.reduceLT, Nat.reduceLeDiff, reduceCtorEq, Int.reduceEq, Int.reduceNe, Int.reduceLT, Int.reduceLE, Int.reduceAdd, Int.reduceSub, Int.reduceMul, Int.reduceNeg, Int.reduceToNat, Int.cast_ofNat_Int, Int.natCast_zero, Int.natCast_one, Int.toNat_natCast, Nat.reduceBEq, iw (show 1 < 9223372036854775808 by omega)]
  refine ⟨(fun h => by cases h), CallK.pure ⟨rfl, rfl⟩ rfl (push 1 m s M h2 hm (by omega) hs) ?_⟩
  simp only [shs, zts, sos, sls, zss, eqs, sx, sb1, sb2, sb3, sb4, sb5, sb6, sb7, ↓reduceIte, Nat.reduceAdd, Nat.reduceMul, Nat.reduceDiv, Nat.reduceEqDiff, Nat.reduceLT, Nat.reduceLeDiff, reduceCtorEq, Int.reduceEq, Int.reduceNe, Int.reduceLT, Int.reduceLE, Int.reduceAdd, Int.reduceSub, Int.reduceMul, Int.reduceNeg, Int.reduceToNat, Int.cast_ofNat_Int, Int.natCast_zero, Int.natCast_one, Int.toNat_natCast, Nat.reduceBEq]

theorem tdN (a b : Nat) : (a : Int).tdiv (b : Int) = ((a / b : Nat) : Int) := (Int.ofNat_tdiv a b).symm
theorem rprint (m : Nat) (s : List UInt8) (M : Mem) (h2 : 2 ≤ m) (hm : m ≤ 2147483647) (hs : s.length ≤ maxLen) :
    Meets Proofs.Try.prog 21 [.v (.int .i64 (m : Int)), .v (.string ⟨s.toArray⟩)] M fun r _ _ => r = .v (.int .i64 ((prf m s 1 : Nat) : Int)) := by
  refine Meets.of_body [0,1,2,4,5,6,7,8,9,13,18,19,20,23] Proofs.Try.func21 rfl (by kernel_rfl) rfl fun w => ?_
  have h0 : m ≠ 0 := by omega
  generalize hc : prf m s 1 = c
  simp only [maxLen] at hs
  have hsm := sz31 hm
  have hsm0 := sz_pos.2 h0
  obtain ⟨g1, g2, g3⟩ := sz_rng h0
  simp only [Proofs.Try.f21, shs, zts, sos, sls, zss, eqs, sx, sb1, sb2, sb3, sb4, sb5, sb6, sb7, ↓reduceIte, Nat.reduceAdd, Nat.reduceMul, Nat.reduceDiv, Nat.reduceEqDiff, Nat.reduceLT, Nat.reduceLeDiff, reduceCtorEq, Int.reduceEq, Int.reduceNe, Int.reduceLT, Int.reduceLE, Int.reduceAdd, Int.reduceSub, Int.reduceMul, Int.reduceNeg, Int.reduceToNat, Int.cast_ofNat_Int, Int.natCast_zero, Int.natCast_one, Int.toNat_natCast, Nat.reduceBEq]
  refine ⟨fun _ => trivial, ?_⟩
  refine LoopK.go (X := Nat) (fun i => ([(1, true, .v (.string ⟨s.toArray⟩)), (2, true, .ptr 16 0 0 0), (5, true, .ptr 40 0 0 0)], [(40, .box [.v (.int .i64 ((2 ^ i : Nat) : Int))] none), (16, .box [.v (.int .i64 (m : Int))] none)], M))
    (fun i => i ≤ sz m - 1) (fun i => sz m - i) 0 (Nat.zero_le _) (Ent.of ?_) ?_
  · simp only [sx, sb1, sb2, sb3, sb4, sb5, sb6, sb7, ↓reduceIte, Nat.reduceAdd, Nat.reduceMul, Nat.reduceDiv, Nat.reduceEqDiff, Nat.reduceLT, Nat.reduceLeDiff, reduceCtorEq, Int.reduceEq, Int.reduceNe, Int.reduceLT, Int.reduceLE, Int.reduceAdd, Int.reduceSub, Int.reduceMul, Int.reduceNeg, Int.reduceToNat, Int.cast_ofNat_Int, Int.natCast_zero, Int.natCast_one, Int.toNat_natCast, Nat.reduceBEq, Nat.pow_zero]
  intro i hi'
  have hp2 : 2 ^ (i + 1) = 2 * 2 ^ i := by rw [Nat.pow_succ, Nat.mul_comm]
  have hpi : 2 ^ i ≤ 1073741824 := Nat.pow_le_pow_right (n := 2) (j := 30) (by omega) (by omega)
  simp only [shs, zts, sos, sls, zss, eqs, sx, sb1, sb2, sb3, sb4, sb5, sb6, sb7, ↓reduceIte, Nat.reduceAdd, Nat.reduceMul, Nat.reduceDiv, Nat.reduceEqDiff, Nat.reduceLT, Nat.reduceLeDiff, reduceCtorEq, Int.reduceEq, Int.reduceNe, Int.reduceLT, Int.reduceLE, Int.reduceAdd, Int.reduceSub, Int.reduceMul, Int.reduceNeg, Int.reduceToNat, Int.cast_ofNat_Int, Int.natCast_zero, Int.natCast_one, Int.toNat_natCast, Nat.reduceBEq, inK, lo, hi]
  refine ⟨by omega, fun h3 => ⟨by omega, fun _ => trivial, i + 1, ⟨?_, by omega⟩, Ent.of ?_⟩, fun h3 => ⟨fun _ => trivial, ?_⟩⟩
  · have : i + 1 < sz m := lt_sz.2 (by omega)
    omega
  · have e : ((2 ^ (i + 1) : Nat) : Int) = ((2 ^ i : Nat) : Int) * 2 := by rw [hp2]; generalize 2 ^ i = z; omega
    simp only [sx, sb1, sb2, sb3, sb4, sb5, sb6, sb7, ↓reduceIte, Nat.reduceAdd, Nat.reduceMul, Nat.reduceDiv, Nat.reduceEqDiff, Nat.reduceLT, Nat.reduceLeDiff, reduceCtorEq, Int.reduceEq, Int.reduceNe, Int.reduceLT, Int.reduceLE, Int.reduceAdd, Int.reduceSub, Int.reduceMul, Int.reduceNeg, Int.reduceToNat, Int.cast_ofNat_Int, Int.natCast_zero, Int.natCast_one, Int.toNat_natCast, Nat.reduceBEq, e]
  have hik : i = sz m - 1 := by
    have : sz m ≤ i + 1 := sz_le.2 (by omega)
    omega
  subst hik
  clear hi' h3 hp2
  generalize hT : 2 ^ (sz m - 1) = T at *
  refine stepK.mkFn rfl rfl ?_
  simp only [shs, zts, sos, sls, zss, eqs, sx, sb1, sb2, sb3, sb4, sb5, sb6, sb7, ↓reduceIte, Nat.reduceAdd, Nat.reduceMul, Nat.reduceDiv, Nat.reduceEqDiff, Nat.reduceLT, Nat.reduceLeDiff, reduceCtorEq, Int.reduceEq, Int.reduceNe, Int.reduceLT, Int.reduceLE, Int.reduceAdd, Int.reduceSub, Int.reduceMul, Int.reduceNeg, Int.reduceToNat, Int.cast_ofNat_Int, Int.natCast_zero, Int.natCast_one, Int.toNat_natCast, Nat.reduceBEq]
  refine LoopK.go (X := Nat × Nat × Nat) (fun x => ([(1, true, .v (.string ⟨s.toArray⟩)), (6, true, .ptr 48 0 0 0), (7, true, .fn 36 [.ptr 48 0 0 0, .ptr 40 0 0 0, .ptr 16 0 0 0]), (18, true, .v (.int .i64 s.length)), (19, true, .v (.int .i64 x.2.1))],
      [(48, .box [.v (.int .i64 (x.2.2 : Int))] none), (40, .box [.v (.int .i64 (T : Int))] none), (16, .box [.v (.int .i64 (m : Int))] none)], M))
    (fun x => (x.1 + x.2.1 = s.length ∧ x.2.2 < T) ∧ prf m (s.drop x.2.1) x.2.2 = c) (fun x => x.1) (s.length, 0, 1) ⟨⟨rfl, ?_⟩, hc⟩ (Ent.of ?_) ?_
  · simp only
    have := @lt_sz m 1
    rw [← hT]
    have : 2 ^ 1 ≤ 2 ^ (sz m - 1) := Nat.pow_le_pow_right (by omega) (by omega)
    omega
  · simp only [sx, sb1, sb2, sb3, sb4, sb5, sb6, sb7, ↓reduceIte, Nat.reduceAdd, Nat.reduceMul, Nat.reduceDiv, Nat.reduceEqDiff, Nat.reduceLT, Nat.reduceLeDiff, reduceCtorEq, Int.reduceEq, Int.reduceNe, Int.reduceLT, Int.reduceLE, Int.reduceAdd, Int.reduceSub, Int.reduceMul, Int.reduceNeg, Int.reduceToNat, Int.cast_ofNat_Int, Int.natCast_zero, Int.natCast_one, Int.toNat_natCast, Nat.reduceBEq]
  rintro ⟨f, i, q⟩ ⟨⟨h3, h4⟩, h5⟩
  simp only at h3 h4 h5
  simp only [shs, zts, sos, sls, zss, eqs, sx, sb1, sb2, sb3, sb4, sb5, sb6, sb7, ↓reduceIte, Nat.reduceAdd, Nat.reduceMul, Nat.reduceDiv, Nat.reduceEqDiff, Nat.reduceLT, Nat.reduceLeDiff, reduceCtorEq, Int.reduceEq, Int.reduceNe, Int.reduceLT, Int.reduceLE, Int.reduceAdd, Int.reduceSub, Int.reduceMul, Int.reduceNeg, Int.reduceToNat, Int.cast_ofNat_Int, Int.natCast_zero, Int.natCast_one, Int.toNat_natCast, Nat.reduceBEq, inK, lo, hi]
  refine ⟨fun h6 => ?_, fun h6 => ?_⟩
  · obtain ⟨b, hb, hd⟩ := drop_at (l := s) (i := i) (by omega)
    have e1 := strIx_at hb
    have hb2 : b.toNat < 256 := UInt8.toNat_lt b
    rw [hd] at h5
    simp only [prf, List.foldl_cons] at h5
    generalize hB : b.toNat = B at *
    refine LoopK.go (X := Nat) (fun j => ([(1, true, .v (.string ⟨s.toArray⟩)), (6, true, .ptr 48 0 0 0), (7, true, .fn 36 [.ptr 48 0 0 0, .ptr 40 0 0 0, .ptr 16 0 0 0]), (8, true, .v (.int .i64 i)), (9, true, .v (.int .i64 ((128 / 2 ^ j : Nat) : Int))), (18, true, .v (.int .i64 s.length)), (19, true, .v (.int .i64 i))],
        [(48, .box [.v (.int .i64 ((pmod (q * 2 ^ j + B / 2 ^ (8 - j)) m : Nat) : Int))] none), (40, .box [.v (.int .i64 (T : Int))] none), (16, .box [.v (.int .i64 (m : Int))] none)], M))
      (fun j => j ≤ 8) (fun j => 8 - j) 0 (Nat.zero_le _) (Ent.of ?_) ?_
    · have hq : pmod (q * 2 ^ 0 + B / 2 ^ (8 - 0)) m = q := by
        rw [Nat.pow_zero, Nat.mul_one, Nat.div_eq_of_lt (show B < 2 ^ (8 - 0) by omega), Nat.add_zero]
        exact pmod_small (by have := sz_le.2 (show q < 2 ^ (sz m - 1) by omega); omega)
      simp only [sx, sb1, sb2, sb3, sb4, sb5, sb6, sb7, ↓reduceIte, Nat.reduceAdd, Nat.reduceMul, Nat.reduceDiv, Nat.reduceEqDiff, Nat.reduceLT, Nat.reduceLeDiff, reduceCtorEq, Int.reduceEq, Int.reduceNe, Int.reduceLT, Int.reduceLE, Int.reduceAdd, Int.reduceSub, Int.reduceMul, Int.reduceNeg, Int.reduceToNat, Int.cast_ofNat_Int, Int.natCast_zero, Int.natCast_one, Int.toNat_natCast, Nat.reduceBEq, hq, Nat.pow_zero, Nat.div_one]
    intro j hj
    have hV : 128 / 2 ^ j ≤ 128 := Nat.div_le_self _ _
    have hV2 : j ≤ 7 → 128 / 2 ^ j = 2 ^ (7 - j) := fun h => by
      have : j = 0 ∨ j = 1 ∨ j = 2 ∨ j = 3 ∨ j = 4 ∨ j = 5 ∨ j = 6 ∨ j = 7 := by omega
      rcases this with rfl | rfl | rfl | rfl | rfl | rfl | rfl | rfl <;> rfl
    have hBV : B / (128 / 2 ^ j) ≤ B := Nat.div_le_self _ _
    have hP := red_lt (x := q * 2 ^ j + B / 2 ^ (8 - j)) h0
    rw [hT] at hP
    have hstep : j ≤ 7 → pmod (2 * pmod (q * 2 ^ j + B / 2 ^ (8 - j)) m + B / (128 / 2 ^ j) % 2) m = pmod (q * 2 ^ (j + 1) + B / 2 ^ (8 - (j + 1))) m := fun h => by
      rw [double h0 (Nat.mod_lt _ (by omega)), hV2 h]
      congr 1
      rw [show 8 - j = (7 - j) + 1 by omega, show 8 - (j + 1) = 7 - j by omega, Nat.pow_succ, Nat.pow_succ, ← Nat.div_div_eq_div_mul, Nat.mul_add, Nat.mul_left_comm, Nat.mul_comm 2 (2 ^ j)]
      omega
    have hV3 := pm2 128 j
    have hV8 : ¬ 0 < 128 / 2 ^ j → j = 8 := fun h => by
      rcases Nat.lt_or_ge j 8 with h8 | h8
      · rw [hV2 (by omega)] at h
        exact (h (Nat.two_pow_pos _)).elim
      · omega
    generalize hPe : pmod (q * 2 ^ j + B / 2 ^ (8 - j)) m = P at *
    simp only [shs, zts, sos, sls, zss, eqs, sx, sb1, sb2, sb3, sb4, sb5, sb6, sb7, ↓reduceIte, Nat.reduceAdd, Nat.reduceMul, Nat.reduceDiv, Nat.reduceEqDiff, Nat.reduceLT, Nat.reduceLeDiff, reduceCtorEq, Int.reduceEq, Int.reduceNe, Int.reduceLT, Int.reduceLE, Int.reduceAdd, Int.reduceSub, Int.reduceMul, Int.reduceNeg, Int.reduceToNat, Int.cast_ofNat_Int, Int.natCast_zero, Int.natCast_one, Int.toNat_natCast, Nat.reduceBEq, inK, lo, hi, e1, tm2, td2, iw (show B < 9223372036854775808 by omega), tdN]
    refine ⟨fun h7 => ?_, fun h7 => ?_⟩
    · have hj7 : j ≤ 7 := by
        rcases Nat.lt_or_ge j 8 with h | h
        · omega
        · have : j = 8 := by omega
          subst this
          simp at h7
      replace hstep := hstep hj7
      refine ⟨by omega, (fun h => by cases h), ⟨by omega, i64N (by omega)⟩, ?_⟩
      generalize 128 / 2 ^ j = V at *
      have hE : B / V % 2 < 2 := Nat.mod_lt _ (by omega)
      generalize B / V % 2 = e at *
      have hQ : 2 * P + e < 2 ^ (sz m) := by rw [g3, Nat.pow_succ, hT]; omega
      have hr := red_bit h0 hQ
      have ha := and_top (q := 2 * P + e) (k := sz m - 1) (by rw [← g3]; exact hQ)
      rw [hT] at hr ha
      refine CallK.boxes [0,1,2,3,12] Proofs.Try.func36 rfl (by kernel_rfl) rfl rfl fun xs => ?_
      have eS : 2 * (P : Int) + (e : Int) = ((2 * P + e : Nat) : Int) := by omega
      simp only [Proofs.Try.f36, sd1, shs, zts, sos, sls, zss, eqs, sx, sb1, sb2, sb3, sb4, sb5, sb6, sb7, ↓reduceIte, Nat.reduceAdd, Nat.reduceMul, Nat.reduceDiv, Nat.reduceEqDiff, Nat.reduceLT, Nat.reduceLeDiff, reduceCtorEq, Int.reduceEq, Int.reduceNe, Int.reduceLT, Int.reduceLE, Int.reduceAdd, Int.reduceSub, Int.reduceMul, Int.reduceNeg, Int.reduceToNat, Int.cast_ofNat_Int, Int.natCast_zero, Int.natCast_one, Int.toNat_natCast, Nat.reduceBEq, inK, lo, hi, eS, td2, hV3]
      refine ⟨by omega, by omega, fun _ => trivial, by omega, fun h9 => ?_, fun h9 => ?_⟩
      · rw [if_pos (ha.1 (by omega)), hstep] at hr
        refine ⟨by omega, fun _ => trivial, i64N (by rw [← hV3]; omega), j + 1, ⟨by omega, by omega⟩, Ent.of ?_⟩
        simp only [sx, sb1, sb2, sb3, sb4, sb5, sb6, sb7, ↓reduceIte, Nat.reduceAdd, Nat.reduceMul, Nat.reduceDiv, Nat.reduceEqDiff, Nat.reduceLT, Nat.reduceLeDiff, reduceCtorEq, Int.reduceEq, Int.reduceNe, Int.reduceLT, Int.reduceLE, Int.reduceAdd, Int.reduceSub, Int.reduceMul, Int.reduceNeg, Int.reduceToNat, Int.cast_ofNat_Int, Int.natCast_zero, Int.natCast_one, Int.toNat_natCast, Nat.reduceBEq, hr]
      · rw [if_neg (fun h => by have := ha.2 h; omega), hstep] at hr
        refine ⟨i64N (by rw [← hV3]; omega), j + 1, ⟨by omega, by omega⟩, Ent.of ?_⟩
        simp only [sx, sb1, sb2, sb3, sb4, sb5, sb6, sb7, ↓reduceIte, Nat.reduceAdd, Nat.reduceMul, Nat.reduceDiv, Nat.reduceEqDiff, Nat.reduceLT, Nat.reduceLeDiff, reduceCtorEq, Int.reduceEq, Int.reduceNe, Int.reduceLT, Int.reduceLE, Int.reduceAdd, Int.reduceSub, Int.reduceMul, Int.reduceNeg, Int.reduceToNat, Int.cast_ofNat_Int, Int.natCast_zero, Int.natCast_one, Int.toNat_natCast, Nat.reduceBEq, hr]
    · have hj8 : j = 8 := hV8 (by omega)
      have hP8 : stp m q B = P := by rw [← hPe, hj8, stp, Nat.sub_self, Nat.pow_zero, Nat.div_one]
      rw [hP8] at h5
      refine ⟨by omega, (f - 1, i + 1, P), ⟨⟨⟨by simp only; omega, hP⟩, h5⟩, by simp only; omega⟩, Ent.of ?_⟩
      simp only [sx, sb1, sb2, sb3, sb4, sb5, sb6, sb7, ↓reduceIte, Nat.reduceAdd, Nat.reduceMul, Nat.reduceDiv, Nat.reduceEqDiff, Nat.reduceLT, Nat.reduceLeDiff, reduceCtorEq, Int.reduceEq, Int.reduceNe, Int.reduceLT, Int.reduceLE, Int.reduceAdd, Int.reduceSub, Int.reduceMul, Int.reduceNeg, Int.reduceToNat, Int.cast_ofNat_Int, Int.natCast_zero, Int.natCast_one, Int.toNat_natCast, Nat.reduceBEq, Int.natCast_add]
  · have hd : s.drop i = [] := List.drop_eq_nil_of_le (by omega)
    rw [hd] at h5
    simp only [prf, List.foldl_nil] at h5
    rw [h5]
end Go.X.Pt

namespace Go.X
open Go Go.RowKit

section
variable {E : Env} {σ : Sig} {H : HS} {M : Mem} {a : Act} {w : World} {ν : Nat → Value} {K : KP} {o : Oper}

theorem Heap.setPO {k : Nat} {p q : PO} (hh : Heap E ν H M w) (hk : hget H k = some p) (h : p.holds ν w (ν k) → q.holds ν w (ν k)) : Heap E ν (hset k q H) M w := by
  refine ⟨fun r hr => ?_, by rw [hset_fp]; exact hh.nodup, fun b hb => hh.apart b (by rw [hset_fp] at hb; exact hb), hh.mem, hh.below, hh.le0, hh.fresh, hh.one⟩
  rcases hset_mem hr with rfl | hr
  · exact h (hh.holds _ (hget_mem hk))
  · exact hh.holds _ hr
abbrev ptrV (b : Nat) : Value := .pointer (some ⟨b, 0, none⟩)
end
theorem BoxM.at' {M : Mem} {b : Nat} {cs : List Value} (h : BoxM M b cs) {j : Nat} {c : Value} (hc : cs[j]? = some c) : elP M ((⟨b, 0, none⟩ : Addr).add j) 0 = c ∧ okP M ((⟨b, 0, none⟩ : Addr).add j) 0 := by
  have := h.at hc
  unfold elP okP at this ⊢
  rw [Addr.add_add, Nat.add_zero]
  exact this
end Go.X

namespace Go.X
open Go Go.RowKit

/-- the first entry of a key -/
def fnd {α : Type} [DecidableEq α] (a : α) : List (α × Value) → Nat → Option (Nat × Value)
  | [], _ => none
  | p :: l, i => if a = p.1 then some (i, p.2) else fnd a l (i + 1)
def encL {α : Type} (enc : α → Value) (l : List (α × Value)) : List (Value × Value) := l.map fun p => (enc p.1, p.2)
/-- what the machine asks of a key's type -/
structure KeyT (P : Program) (kt : TypeId) {α : Type} [DecidableEq α] (enc : α → Value) : Prop where
  known : ∃ d, P.underlying kt = some d
  check : ∀ e w a, (Instr.checkKey e 10000 kt (enc a)).run P w = .ok () w
  eq : ∀ w a b, (Op.equal kt (enc a) (enc b)).run P w = .ok (decide (a = b)) w
  now : ∀ d a b, P.underlying kt = some d → Instr.sameNow d (enc a) (enc b) = some (decide (a = b)) ∨ Instr.sameNow d (enc a) (enc b) = none
  same : ∀ a, Instr.sameBits 10000 (enc a) (enc a) = true

section
variable {P : Program} {kt : TypeId} {α : Type} [DecidableEq α] {enc : α → Value}
theorem KeyT.findAsking (K : KeyT P kt enc) (w : World) (a : α) : ∀ (l : List (α × Value)) (es : List MapEntry) (i : Nat), es.map (fun e => (e.key, e.val)) = encL enc l → (Instr.findAsking kt (enc a) es i).run P w = .ok (fnd a l i) w
  | [], [], i, _ => by simp [Instr.findAsking, fnd]
  | [], _ :: _, i, h => by simp [encL] at h
  | _ :: _, [], i, h => by simp [encL] at h
  | p :: l, e :: es, i, h => by
    simp only [encL, List.map_cons, List.cons.injEq, Prod.mk.injEq] at h
    obtain ⟨⟨h1, h2⟩, h3⟩ := h
    have ih := KeyT.findAsking K w a l es (i + 1) h3
    simp only [Instr.findAsking, Sem.run_bind, h1, K.eq, Result.andThen_ok, fnd]
    by_cases hp : a = p.1
    · simp [hp, h2]
    · simp only [hp, decide_false, Bool.false_eq_true, if_false]
      exact ih
theorem KeyT.findNow (K : KeyT P kt enc) {d : TypeDesc} (hd : P.underlying kt = some d) (a : α) : ∀ (l : List (α × Value)) (es : List MapEntry) (i : Nat), es.map (fun e => (e.key, e.val)) = encL enc l → Instr.findNow d (enc a) es i = some (fnd a l i) ∨ Instr.findNow d (enc a) es i = none
  | [], [], i, _ => .inl rfl
  | [], _ :: _, i, h => by simp [encL] at h
  | _ :: _, [], i, h => by simp [encL] at h
  | p :: l, e :: es, i, h => by
    simp only [encL, List.map_cons, List.cons.injEq, Prod.mk.injEq] at h
    obtain ⟨⟨h1, h2⟩, h3⟩ := h
    have ih := KeyT.findNow K hd a l es (i + 1) h3
    simp only [Instr.findNow, h1, fnd]
    rcases K.now d a p.1 hd with h | h
    · rw [h]
      by_cases hp : a = p.1
      · simp [hp, h2]
      · simp only [hp, decide_false, if_false]
        exact ih
    · rw [h]
      exact .inr rfl
theorem KeyT.findKey (K : KeyT P kt enc) (w : World) (a : α) {l : List (α × Value)} {es : List MapEntry} (h : es.map (fun e => (e.key, e.val)) = encL enc l) : (Instr.findKey kt (enc a) es).run P w = .ok (fnd a l 0) w := by
  obtain ⟨d, hd⟩ := K.known
  simp only [Instr.findKey, Sem.run_bind, run_underlying hd, Result.andThen_ok]
  rcases K.findNow hd a l es 0 h with h1 | h1
  · rw [h1]; rfl
  · rw [h1]
    exact K.findAsking w a l es 0 h
theorem fnd_spec (a : α) : ∀ (l : List (α × Value)) (i : Nat), (fnd a l i = none ∧ ∀ p ∈ l, p.1 ≠ a) ∨ ∃ j v, fnd a l i = some (i + j, v) ∧ l[j]? = some (a, v)
  | [], i => .inl ⟨rfl, fun p hp => by cases hp⟩
  | p :: l, i => by
    simp only [fnd]
    by_cases hp : a = p.1
    · rw [if_pos hp]
      exact .inr ⟨0, p.2, rfl, by rw [hp]; rfl⟩
    · rw [if_neg hp]
      rcases fnd_spec a l (i + 1) with ⟨h1, h2⟩ | ⟨j, v, h1, h2⟩
      · refine .inl ⟨h1, fun q hq => ?_⟩
        rcases List.mem_cons.1 hq with rfl | hq
        · exact fun e => hp e.symm
        · exact h2 q hq
      · exact .inr ⟨j + 1, v, by rw [h1]; congr 2; omega, by simpa using h2⟩
/-- the map after a store -/
def upd (a : α) (v : Value) (l : List (α × Value)) : List (α × Value) := match fnd a l 0 with
  | some (i, _) => l.set i (a, v)
  | none => l ++ [(a, v)]
end

theorem stamp_push {m : Array MapEntry} {c : Nat} {k v : Value} (h : m.size = c ∧ ∀ (j : Nat) (e : MapEntry), m[j]? = some e → e.born = j) : (m.push { key := k, val := v, born := c }).size = c + 1 ∧ ∀ (j : Nat) (e : MapEntry), (m.push { key := k, val := v, born := c })[j]? = some e → e.born = j := by
  refine ⟨by simp [h.1], fun j e hj => ?_⟩
  rw [Array.getElem?_push] at hj
  split at hj
  · rename_i e1
    cases hj
    show c = j
    rw [e1]; exact h.1.symm
  · exact h.2 j e hj
theorem stamp_mod {m : Array MapEntry} {c i : Nat} {f : MapEntry → MapEntry} (h : m.size = c ∧ ∀ (j : Nat) (e : MapEntry), m[j]? = some e → e.born = j) (hf : ∀ e, (f e).born = e.born) : (m.modify i f).size = c ∧ ∀ (j : Nat) (e : MapEntry), (m.modify i f)[j]? = some e → e.born = j := by
  refine ⟨by rw [Array.size_modify]; exact h.1, fun j e hj => ?_⟩
  rw [Array.getElem?_modify] at hj
  split at hj
  · rw [Option.map_eq_some_iff] at hj
    obtain ⟨x, hx, rfl⟩ := hj
    rw [hf]
    exact h.2 j x hx
  · exact h.2 j e hj
/-- where a key's entry stands, or would -/
def kix {α : Type} [DecidableEq α] (a : α) (l : List (α × Value)) : Nat := match fnd a l 0 with
  | some (i, _) => i
  | none => l.length
/-- the map with an entry for a key -/
def ens {α : Type} [DecidableEq α] (a : α) (z : Value) (l : List (α × Value)) : List (α × Value) := match fnd a l 0 with
  | some _ => l
  | none => l ++ [(a, z)]
section
variable {E : Env} {σ : Sig} {H : HS} {M : Mem} {a : Act} {w : World} {ν : Nat → Value} {K : KP} {o : Oper}

theorem OpK.makeMap {t d : Nat} (ho : o.op = .makeMap t none) (hd : o.dst = some d) (hN : decide (d < E.N) = true) (hn : hNoKey d (hdel d H) = true)
    (hK : K ((d, true, .own (8 * d)) :: sigDrop d σ) ((8 * d, .mp []) :: hdel d H) M) : OpK E o K σ H M := by
  refine opK_of fun ν a w hs hh => ?_
  refine ⟨.map (some w.heap.size), w.alloc (.map #[] 0), ?_, _, _, _, ?_, hK⟩
  · simp [execOp, ho, Instr.makeMap]
  · rw [hd]
    refine Rep.fresh hs hh (of_decide_eq_true hN) (hdel_sub d H) hn (below_alloc w _) rfl (fun ν' hν' => ?_) (fun b hb => by simp only [blk?, Option.some.injEq] at hb; omega) (fun ν' h => h)
    exact ⟨w.heap.size, #[], 0, rfl, heap_alloc_at w _, rfl, rfl, fun j e h => by simp at h⟩
theorem Heap.mapAt (hh : Heap E ν H M w) {k : Nat} {es : List (Value × Value)} (hk : hget H k = some (.mp es)) : ∃ b m c, ν k = .map (some b) ∧ w.heap[b]? = some (.map m c) ∧ m.toList.map (fun e => (e.key, e.val)) = es ∧ (m.size = c ∧ ∀ (j : Nat) (e : MapEntry), m[j]? = some e → e.born = j) := hh.holds _ (hget_mem hk)
theorem OpK.lookup {t d kt et k : Nat} {x y : Operand} {α : Type} [DecidableEq α] {enc : α → Value} {key : α} {l : List (α × Value)} {s : SV} {z : Value} (KT : KeyT E.P kt enc) (ho : o.op = .lookup t x y false) (hd : o.dst = some d) (hN : decide (d < E.N) = true)
    (ht : E.P.underlying t = some (.map kt et)) (hz : ∀ w, (zeroValue et).run E.P w = .ok z w) (hx : opv σ x = some (true, .own k)) (hy : opv σ y = some (true, s)) (hs' : ∀ ν, s.val ν = enc key) (hk : hget H k = some (.mp (encL enc l)))
    (hK : K ((d, true, .v (((fnd key l 0).map (·.2)).getD z)) :: σ) H M) : OpK E o K σ H M := by
  refine opK_of fun ν a w hs hh => ?_
  obtain ⟨b, m, c, hν, hb, he, hst⟩ := hh.mapAt hk
  have ex : a.eval x = .map (some b) := by rw [hs.opv hx rfl]; exact hν
  have ey : a.eval y = enc key := by rw [hs.opv hy rfl]; exact hs' ν
  refine ⟨((fnd key l 0).map (·.2)).getD z, w, ?_, _, _, _, ⟨ν, ?_, hh⟩, hK⟩
  · simp only [execOp, ho, ex, ey, Instr.lookup, Sem.run_bind, run_underlying ht, Result.andThen_ok, MapKept.run_getObj_map hb, Sem.run_pure, KT.check, KT.findKey w key he]
    cases hf : fnd key l 0 with
    | none => simp [hz]
    | some p => simp
  · rw [hd]
    exact hs.put (of_decide_eq_true hN) rfl
theorem OpK.mapUpd {t kt et k : Nat} {x y v : Operand} {α : Type} [DecidableEq α] {enc : α → Value} {key : α} {l : List (α × Value)} {s : SV} {u : Value} (KT : KeyT E.P kt enc) (ho : o.op = .mapUpdate t x y v) (hd : o.dst = none)
    (ht : E.P.underlying t = some (.map kt et)) (hx : opv σ x = some (true, .own k)) (hy : opv σ y = some (true, s)) (hs' : ∀ ν, s.val ν = enc key) (hv : opv σ v = some (true, .v u)) (hk : hget H k = some (.mp (encL enc l)))
    (hK : K σ (hset k (.mp (encL enc (upd key u l))) H) M) : OpK E o K σ H M := by
  rintro a w ⟨ν, hs, hh⟩
  obtain ⟨b, m, c, hν, hb, he, hst⟩ := hh.mapAt hk
  have ex : a.eval x = .map (some b) := by rw [hs.opv hx rfl]; exact hν
  have ey : a.eval y = enc key := by rw [hs.opv hy rfl]; exact hs' ν
  have ev : a.eval v = u := hs.opv hv rfl
  have hbl : b < w.heap.size := (Array.getElem?_eq_some_iff.1 hb).1
  obtain ⟨m', c', hrun, he', hst'⟩ : ∃ m' c', (execOp a.eval o).run E.P w = .ok .skip { w with heap := w.heap.setIfInBounds b (.map m' c') } ∧ m'.toList.map (fun e => (e.key, e.val)) = encL enc (upd key u l) ∧ (m'.size = c' ∧ ∀ (j : Nat) (e : MapEntry), m'[j]? = some e → e.born = j) := by
    have hlen : m.toList.length = l.length := by
      have := congrArg List.length he
      simpa [encL] using this
    rcases fnd_spec key l 0 with ⟨h1, h2⟩ | ⟨j, v0, h1, h2⟩
    · refine ⟨m.push { key := enc key, val := u, born := c }, c + 1, ?_, ?_, stamp_push hst⟩
      · simp only [execOp, ho, ex, ey, ev, Instr.mapUpdate, Sem.run_bind, run_underlying ht, Result.andThen_ok, MapKept.run_getObj_map hb, KT.check, KT.findKey w key he, h1, MapKept.run_setObj_map _ hb, Sem.run_pure]
      · simp only [upd, h1, Array.toList_push, List.map_append, he, encL, List.map_cons, List.map_nil]
    · have hjm : m[j]? = some (m[j]'(by rw [← Array.length_toList, hlen]; exact (List.getElem?_eq_some_iff.1 h2).1)) := Array.getElem?_eq_getElem _
      have hkey : (m[j]'(by rw [← Array.length_toList, hlen]; exact (List.getElem?_eq_some_iff.1 h2).1)).key = enc key := by
        have h3 : (m.toList.map (fun e => (e.key, e.val)))[j]? = (encL enc l)[j]? := by rw [he]
        rw [encL, List.getElem?_map, List.getElem?_map, h2, Array.getElem?_toList, hjm] at h3
        simp only [Option.map_some, Option.some.injEq, Prod.mk.injEq] at h3
        exact h3.1
      rw [Nat.zero_add] at h1
      refine ⟨m.modify j fun e => { e with key := enc key, val := u }, c, ?_, ?_, stamp_mod hst (fun _ => rfl)⟩
      · simp only [execOp, ho, ex, ey, ev, Instr.mapUpdate, Sem.run_bind, run_underlying ht, Result.andThen_ok, MapKept.run_getObj_map hb, KT.check, KT.findKey w key he, h1, hjm, Option.map_some, Option.getD_some, hkey, Instr.keyThatStays, KT.same, if_true, MapKept.run_setObj_map _ hb, Sem.run_pure]
      · apply List.ext_getElem?
        intro i
        have h3 : (m.toList.map (fun e => (e.key, e.val)))[i]? = (encL enc l)[i]? := by rw [he]
        simp only [upd, h1, encL, List.getElem?_map, Array.getElem?_toList, Array.getElem?_modify, List.getElem?_set] at h3 ⊢
        by_cases hij : j = i
        · subst hij
          have hjl : j < l.length := (List.getElem?_eq_some_iff.1 h2).1
          simp [hjm, hjl]
        · simp only [hij, if_false]
          exact h3
  obtain ⟨g1, g2⟩ := MapKept.heap_set (o' := .map m' c') hb
  unfold Oper.wp
  rw [hrun]
  simp only [Oper.upon]
  rw [hd]
  exact ⟨_, _, _, ⟨ν, hs, hh.upd hk (p := .mp (encL enc (upd key u l))) (b := b) (by rw [hν]; rfl) g2 (by simp) ⟨rfl, rfl, rfl⟩ ⟨b, m', c', hν, g1, he', hst'⟩⟩, hK⟩
theorem OpK.mapEntry {t d kt et k : Nat} {x y : Operand} {α : Type} [DecidableEq α] {enc : α → Value} {key : α} {l : List (α × Value)} {s : SV} {z : Value} (KT : KeyT E.P kt enc) (ho : o.op = .mapEntry t x y) (hd : o.dst = some d) (hN : decide (d < E.N) = true)
    (ht : E.P.underlying t = some (.map kt et)) (hz : ∀ w, (zeroValue et).run E.P w = .ok z w) (hx : opv σ x = some (true, .own k)) (hy : opv σ y = some (true, s)) (hs' : ∀ ν, s.val ν = enc key) (hk : hget H k = some (.mp (encL enc l)))
    (hK : K ((d, true, .tup [.v (((fnd key l 0).map (·.2)).getD z), .v (.int .i64 ((kix key l : Nat) : Int))]) :: σ) (hset k (.mp (encL enc (ens key z l))) H) M) : OpK E o K σ H M := by
  refine opK_of fun ν a w hs hh => ?_
  obtain ⟨b, m, c, hν, hb, he, hst⟩ := hh.mapAt hk
  have ex : a.eval x = .map (some b) := by rw [hs.opv hx rfl]; exact hν
  have ey : a.eval y = enc key := by rw [hs.opv hy rfl]; exact hs' ν
  have hlen : m.toList.length = l.length := by
    have := congrArg List.length he
    simpa [encL] using this
  have hms : m.size = l.length := by rw [← Array.length_toList]; exact hlen
  rcases fnd_spec key l 0 with ⟨h1, h2⟩ | ⟨j, v0, h1, h2⟩
  · obtain ⟨g1, g2⟩ := MapKept.heap_set (o' := .map (m.push { key := enc key, val := z, born := c }) (c + 1)) hb
    have e1 : kix key l = c := by unfold kix; rw [h1]; exact hms.symm.trans hst.1
    have e2 : ens key z l = l ++ [(key, z)] := by unfold ens; rw [h1]
    rw [h1, e1, e2] at hK
    refine ⟨.tuple #[z, .int .i64 (c : Int)], { w with heap := w.heap.setIfInBounds b (.map (m.push { key := enc key, val := z, born := c }) (c + 1)) }, ?_, _, _, _, ⟨ν, ?_, ?_⟩, hK⟩
    · simp only [execOp, ho, ex, ey, Instr.mapEntry, Sem.run_bind, run_underlying ht, Result.andThen_ok, MapKept.run_getObj_map hb, KT.check, KT.findKey w key he, h1, hz, MapKept.run_setObj_map _ hb, Sem.run_pure, goInt]
    · rw [hd]
      exact hs.put (of_decide_eq_true hN) rfl
    · exact hh.upd hk (p := .mp (encL enc (l ++ [(key, z)]))) (b := b) (by rw [hν]; rfl) g2 (by simp) ⟨rfl, rfl, rfl⟩ ⟨b, _, c + 1, hν, g1, by simp only [Array.toList_push, List.map_append, he, encL, List.map_cons, List.map_nil], stamp_push hst⟩
  · rw [Nat.zero_add] at h1
    have hjl : j < l.length := (List.getElem?_eq_some_iff.1 h2).1
    have hjm : m[j]? = some (m[j]'(by omega)) := Array.getElem?_eq_getElem _
    have hkv : (m[j]'(by omega)).key = enc key := by
      have h3 : (m.toList.map (fun e => (e.key, e.val)))[j]? = (encL enc l)[j]? := by rw [he]
      rw [encL, List.getElem?_map, List.getElem?_map, h2, Array.getElem?_toList, hjm] at h3
      simp only [Option.map_some, Option.some.injEq, Prod.mk.injEq] at h3
      exact h3.1
    have hbn := hst.2 j _ hjm
    obtain ⟨g1, g2⟩ := MapKept.heap_set (o' := .map (m.modify j fun e => { e with key := enc key }) c) hb
    have e1 : kix key l = j := by unfold kix; rw [h1]
    have e2 : ens key z l = l := by unfold ens; rw [h1]
    rw [h1, e1, e2] at hK
    refine ⟨.tuple #[v0, .int .i64 (j : Int)], { w with heap := w.heap.setIfInBounds b (.map (m.modify j fun e => { e with key := enc key }) c) }, ?_, _, _, _, ⟨ν, ?_, ?_⟩, hK⟩
    · simp only [execOp, ho, ex, ey, Instr.mapEntry, Sem.run_bind, run_underlying ht, Result.andThen_ok, MapKept.run_getObj_map hb, KT.check, KT.findKey w key he, h1, hjm, Option.map_some, Option.getD_some, hkv, hbn, Instr.keyThatStays, KT.same, if_true, MapKept.run_setObj_map _ hb, Sem.run_pure, goInt]
    · rw [hd]
      exact hs.put (of_decide_eq_true hN) rfl
    · refine hh.upd hk (p := .mp (encL enc l)) (b := b) (by rw [hν]; rfl) g2 (by simp) ⟨rfl, rfl, rfl⟩ ⟨b, _, c, hν, g1, ?_, stamp_mod hst (fun _ => rfl)⟩
      apply List.ext_getElem?
      intro i
      have h3 : (m.toList.map (fun e => (e.key, e.val)))[i]? = (encL enc l)[i]? := by rw [he]
      rw [← h3]
      simp only [List.getElem?_map, Array.getElem?_toList, Array.getElem?_modify]
      by_cases hij : j = i
      · subst hij
        rw [if_pos rfl, hjm]
        simp only [Option.map_some, hkv]
      · rw [if_neg hij]
theorem OpK.entryStore {t k j : Nat} {x y v : Operand} {α : Type} {enc : α → Value} {key : α} {l : List (α × Value)} {u v0 : Value} (ho : o.op = .entryStore t x y v) (hd : o.dst = none)
    (hx : opv σ x = some (true, .own k)) (hy : opv σ y = some (true, .v (.int .i64 ((j : Nat) : Int)))) (hv : opv σ v = some (true, .v u)) (hk : hget H k = some (.mp (encL enc l))) (hj : l[j]? = some (key, v0))
    (hK : K σ (hset k (.mp (encL enc (l.set j (key, u)))) H) M) : OpK E o K σ H M := by
  rintro a w ⟨ν, hs, hh⟩
  obtain ⟨b, m, c, hν, hb, he, hst⟩ := hh.mapAt hk
  have ex : a.eval x = .map (some b) := by rw [hs.opv hx rfl]; exact hν
  have ey : a.eval y = .int .i64 ((j : Nat) : Int) := hs.opv hy rfl
  have ev : a.eval v = u := hs.opv hv rfl
  have hlen : m.toList.length = l.length := by
    have := congrArg List.length he
    simpa [encL] using this
  have hms : m.size = l.length := by rw [← Array.length_toList]; exact hlen
  have hjl : j < l.length := (List.getElem?_eq_some_iff.1 hj).1
  have hf : m.findIdx? (fun e => (e.born : Int) == (j : Int)) = some j := by
    rw [Array.findIdx?_eq_some_iff_getElem]
    refine ⟨by omega, ?_, fun i hi => ?_⟩
    · have := hst.2 j _ (Array.getElem?_eq_getElem (by omega))
      simp [this]
    · have := hst.2 i _ (Array.getElem?_eq_getElem (by omega))
      simp only [this, beq_iff_eq]
      omega
  obtain ⟨g1, g2⟩ := MapKept.heap_set (o' := .map (m.modify j fun e => { e with val := u }) c) hb
  have hrun : (execOp a.eval o).run E.P w = .ok .skip { w with heap := w.heap.setIfInBounds b (.map (m.modify j fun e => { e with val := u }) c) } := by
    simp only [execOp, ho, ex, ey, ev, Instr.entryStore, Sem.run_bind, Result.andThen_ok, MapKept.run_getObj_map hb, asInt, asIntOf, Sem.run_pure, hf, MapKept.run_setObj_map _ hb]
  unfold Oper.wp
  rw [hrun]
  simp only [Oper.upon]
  rw [hd]
  refine ⟨_, _, _, ⟨ν, hs, hh.upd hk (p := .mp (encL enc (l.set j (key, u)))) (b := b) (by rw [hν]; rfl) g2 (by simp) ⟨rfl, rfl, rfl⟩ ⟨b, _, c, hν, g1, ?_, stamp_mod hst (fun _ => rfl)⟩⟩, hK⟩
  apply List.ext_getElem?
  intro i
  have h3 : (m.toList.map (fun e => (e.key, e.val)))[i]? = (encL enc l)[i]? := by rw [he]
  simp only [encL, List.getElem?_map, Array.getElem?_toList, Array.getElem?_modify, List.getElem?_set] at h3 ⊢
  by_cases hij : j = i
  · subst hij
    rw [hj, Array.getElem?_eq_getElem (show j < m.size by omega)] at h3
    simp only [Option.map_some, Option.some.injEq, Prod.mk.injEq] at h3
    rw [if_pos rfl, if_pos rfl, if_pos hjl, Array.getElem?_eq_getElem (show j < m.size by omega)]
    simp only [Option.map_some, h3.1]
  · rw [if_neg hij, if_neg hij]
    exact h3
end
/-- keys that are integers -/
def encK (n : Int) : Value := .int .i64 n
theorem KeyT.int {P : Program} {kt : TypeId} (hd : P.underlying kt = some (.int .i64)) : KeyT P kt encK where
  known := ⟨_, hd⟩
  check := fun e w a => MapKept.run_checkKey hd (show MapKept.IsKey (.int .i64) (.int .i64 a) from rfl) e 9999
  eq := fun w a b => by
    show (Op.equalIn (9999 + 1) kt (.int .i64 a) (.int .i64 b)).run P w = _
    rw [run_equalIn_int w 9999 kt _ _ _ _ hd]
    congr 1
  now := fun d a b h => by
    rw [hd] at h
    cases h
    left
    show (if IntKind.i64 = IntKind.i64 then some (a == b) else none) = _
    rw [if_pos rfl]
    rfl
  same := fun a => by
    show (decide (IntKind.i64 = IntKind.i64) && _) = true
    simp
/-- a set of keys, as a map to bool -/
def setL {α : Type} (l : List α) : List (α × Value) := l.map fun a => (a, .bool true)
theorem fnd_set {α : Type} [DecidableEq α] (a : α) : ∀ (l : List α) (i : Nat), ((fnd a (setL l) i).map (·.2)).getD (.bool false) = .bool (decide (a ∈ l))
  | [], i => by simp [fnd, setL]
  | x :: l, i => by
    have ih := fnd_set a l (i + 1)
    simp only [setL, List.map_cons, fnd] at ih ⊢
    by_cases h : a = x
    · simp [h]
    · rw [if_neg h, ih]
      simp [h]
theorem upd_set {α : Type} [DecidableEq α] {a : α} {l : List α} (h : a ∉ l) : upd a (.bool true) (setL l) = setL (l ++ [a]) := by
  unfold upd
  rcases fnd_spec a (setL l) 0 with ⟨h1, _⟩ | ⟨j, v, _, h2⟩
  · rw [h1]
    simp only [setL, List.map_append, List.map_cons, List.map_nil]
  · rw [setL, List.getElem?_map, Option.map_eq_some_iff] at h2
    obtain ⟨x, hx, e⟩ := h2
    cases e
    exact (h (List.mem_of_getElem? hx)).elim
end Go.X

namespace Go.X
open Go Go.RowKit
section
variable {E : Env} {σ : Sig} {H : HS} {M : Mem} {a : Act} {w : World} {ν : Nat → Value} {K : KP} {o : Oper}

/-! ### rows laid open -/
def opn (l : List Value) : List SV := l.map .v
theorem opn_vals (ν : Nat → Value) (l : List Value) : SV.vals ν (opn l) = l := vals_v ν l
/-- what is handed back lies open -/
def OpenR (T : SV → SV) (sz : Nat) (es : List (List Value)) : RP := fun r H _ => ∃ b k cap sp, r = T (.v (.slice (some ⟨b, 0, none⟩) es.length cap)) ∧ hget H k = some (.box (opn (es.flatten ++ sp)) (some (ptrV b))) ∧ es.length ≤ cap ∧ cap ≤ maxLen ∧ List.length sp = (cap - es.length) * sz
theorem MeetsH.closeR {P : Program} {f : FuncId} {args : List SV} {T : SV → SV} {sz : Nat} {es : List (List Value)} (hT : Ctx T) (hes : ∀ e ∈ es, e.length = sz ∧ ∀ c ∈ e, c.oneCell' = true)
    (h : MeetsH P f args H M (fun r H' M' => OpenR T sz es r H' M' ∨ (r = T (.v (.slice none 0 0)) ∧ es = []) ∨ OwnR T sz es r H' M')) : MeetsH P f args H M (OwnR T sz es) := by
  refine ⟨h.1, fun w0 M0 ν w hh => (h.2 w0 M0 ν w hh).mono ?_⟩
  rintro e w' ⟨s, H', M', ν', rfl, hh', ⟨b, k, cap, sp, rfl, hk, h1, h2, h3⟩ | ⟨rfl, rfl⟩ | hO⟩
  · obtain ⟨⟨b', T', e1, e2⟩, e3⟩ := hh'.holds _ (hget_mem hk)
    have e4 := e3 _ rfl
    simp only at e1 e4
    rw [e4] at e1
    cases e1
    rw [opn_vals] at e2
    refine ⟨T (.own 0), [(0, .row sz es)], M', fun _ => .slice (some ⟨b, 0, none⟩) es.length cap, by rw [hT (.v _) (.own 0) ν' (fun _ => .slice (some ⟨b, 0, none⟩) es.length cap) rfl], ⟨fun p hp => ?_, by simp [fp, blk?], fun c hc => ?_, hh'.mem, hh'.below, hh'.le0, hh'.fresh, fun _ => rfl⟩, 0, rfl, rfl⟩
    · simp only [List.mem_singleton] at hp
      subst hp
      exact ⟨hes, .inr ⟨b, cap, T', sp, rfl, h1, h2, h3, e2⟩⟩
    · simp only [fp, List.filterMap_cons, List.filterMap_nil, blk?, List.mem_singleton] at hc
      subst hc
      exact hh'.apart c (List.mem_filterMap.2 ⟨_, hget_mem hk, by rw [e4]; rfl⟩)
  · refine ⟨T (.own 0), [(0, .row sz [])], M', fun _ => .slice none 0 0, by rw [hT (.v _) (.own 0) ν' (fun _ => .slice none 0 0) rfl], ⟨fun p hp => ?_, by simp [fp, blk?], fun c hc => by simp [fp, blk?] at hc, hh'.mem, hh'.below, hh'.le0, hh'.fresh, fun _ => rfl⟩, 0, rfl, rfl⟩
    simp only [List.mem_singleton] at hp
    subst hp
    exact ⟨hes, .inl ⟨rfl, rfl⟩⟩
  · exact ⟨s, H', M', ν', rfl, hh', hO⟩
theorem Meets.ofH {P : Program} {f : FuncId} {args : List SV} {R : RP} (hc : SV.concs args = true) (h : MeetsH P f args [] M R) : Meets P f args M R := by
  refine ⟨h.1, fun w hw => ?_⟩
  have := h.2 w M ν0 w ⟨fun p hp => (by cases hp), by simp [fp], fun b hb => (by simp [fp] at hb), hw, Below.refl _ w, Mem.le.refl M, fun b hb => .inl hb, fun _ => rfl⟩
  exact this

/-! operations on what lies open -/
theorem OpK.cap {x : Operand} {t d e : Nat} {y : Value} (ho : o.op = .call ⟨.builtin .cap, #[x], #[t]⟩) (hd : o.dst = some d) (hN : decide (d < E.N) = true) (ht : E.P.underlying t = some (.slice e)) (hx : opv σ x = some (true, .v y)) (hy : isSl y = true)
    (hK : K ((d, true, .v (.int .i64 (capV y))) :: σ) H M) : OpK E o K σ H M := by
  refine opK_of fun ν a w hs hh => ?_
  have ex := hs.opv hx rfl
  simp only [SV.val] at ex
  refine ⟨.int .i64 (capV y), w, ?_, _, _, _, ⟨ν, ?_, hh⟩, hK⟩
  · cases y <;> simp only [isSl] at hy <;> first | cases hy | skip
    simp [execOp, ho, resolve, invoke, builtin, ex, Builtin.cap_, run_underlying ht, capV, goInt]
  · rw [hd]
    exact hs.put (of_decide_eq_true hN) rfl

/-- what stands at a slice's place: in what lies open, or in known memory -/
def Reads (H : HS) (M : Mem) (ad : Addr) (news : List Value) : Prop :=
  (∃ k cs, hget H k = some (.box (opn cs) (some (ptrV ad.block))) ∧ ad.spot = none ∧ ∀ j u, news[j]? = some u → cs[ad.off + j]? = some u) ∨ ∀ j u, news[j]? = some u → cellM M (ad.add j) = some u
theorem Reads.cells {ad : Addr} {news : List Value} (hr : Reads H M ad news) (hh : Heap E ν H M w) (w'' : World) (hw : w''.heap = w.heap) : ∀ j u, news[j]? = some u → w''.cell? (ad.add j) = some u := by
  intro j u hj
  have hcell : ∀ x : Addr, w''.cell? x = w.cell? x := fun x => by unfold World.cell?; rw [hw]
  rw [hcell]
  rcases hr with ⟨k, cs, hk, hsp, h⟩ | h
  · obtain ⟨⟨b', T, e1, e2⟩, e3⟩ := hh.holds _ (hget_mem hk)
    have e4 := e3 _ rfl
    simp only at e1 e4
    rw [e4] at e1
    obtain ⟨bl', off, spot⟩ := ad
    simp only at hsp h e4
    subst hsp
    cases e1
    rw [opn_vals] at e2
    have hadd : (⟨bl', off, none⟩ : Addr).add j = ⟨bl', off + j, none⟩ := Addr.add_lit ..
    rw [hadd, cell_of_heap e2]
    exact h j u hj
  · exact cellM_on hh.mem (h j u hj)

/-- append of made elements: a new row, laid open -/
theorem OpK.appMake {s x : Operand} {t tx d e sz bt c n : Nat} {m : Nat} {base : Option Addr} {zs olds : List Value} {kn k2 : IntKind} (ho : o.op = .call ⟨.builtin .append, #[s, x], #[t, tx]⟩) (hd : o.dst = some d) (hN : decide (d < E.N) = true)
    (hsl : slT E.P t = some (e, sz, bt, zs)) (htx : E.P.underlying tx = some (.int kn)) (hs0 : opv σ s = some (true, .v (.slice base n c))) (hx0 : opv σ x = some (true, .v (.int k2 m)))
    (hold : base = none ∧ n = 0 ∧ olds = [] ∨ ∃ ad, base = some ad ∧ olds.length = n * sz ∧ Reads H M ad olds) (hroom : c < n + m) (hbt : bt ≤ 4096) (hsz : zs.length = sz) (hbig : (n + m) * bt ≤ 70368744177664) (hbig2 : n + m ≤ 70368744177664)
    (hn : hNoKey d (hdel d H) = true)
    (hK : ∀ b cap sp, n + m ≤ cap → cap ≤ maxLen → List.length sp = (cap - (n + m)) * sz → K ((d, true, .v (.slice (some ⟨b, 0, none⟩) (n + m) cap)) :: sigDrop d σ) ((8 * d, .box (opn (olds ++ (List.replicate m zs).flatten ++ sp)) (some (ptrV b))) :: hdel d H) M) : OpK E o K σ H M := by
  obtain ⟨i, z, hu, hi, hz, hisz, hib, rfl⟩ := slT_spec hsl
  refine opK_of fun ν a w hs hh => ?_
  have es := hs.opv hs0 rfl
  have ex := hs.opv hx0 rfl
  simp only [SV.val] at es ex
  have hwr : IntKind.i64.wrap (m : Int) = m := by rw [IntKind.wrap_i64]; omega
  have hcaple := nextslicecap_le hroom
  have hge := grownCap_ge w (n + m) c e
  have hle := grownCap_le_maxLen w (n + m) c e (by simp only [maxLen]; omega)
  have h48 : ¬ (281474976710656 < Builtin.nextslicecap (n + m) c * i.bytes) := by
    have := Nat.mul_le_mul_right i.bytes hcaple
    rw [hib] at this ⊢
    rw [Nat.mul_assoc] at this
    omega
  have h48i : ¬ (281474976710656 < (m : Int) * (i.bytes : Int)) := by
    rw [← Int.natCast_mul, hib]
    have : m * bt ≤ (n + m) * bt := Nat.mul_le_mul_right _ (by omega)
    omega
  have hneg : ¬ ((m : Int) < 0) := by omega
  have hnr : ¬ (n + m ≤ c) := by omega
  have h63 : ¬ (9223372036854775807 < ((n : Int) + (m : Int))) := by omega
  have hfc : ∀ w'' : World, w''.heap = w.heap → (Builtin.firstCells i.size n (.slice base n c)).run E.P w'' = .ok olds.toArray w'' := by
    intro w'' hw
    rcases hold with ⟨rfl, rfl, rfl⟩ | ⟨ad, rfl, hol, hr⟩
    · exact run_firstCells_none w'' i.size 0 0 c
    · exact run_firstCells_some w'' i.size n ad n c olds (by rw [hisz]; exact hol) (hr.cells hh w'' hw)
  have hzcl : ∀ q, (Builtin.zeroCells z.cells q).toList = (List.replicate q z.cells.toList).flatten := fun q => by
    rw [← made_flat z.cells q]
    simp [Builtin.zeroCells, madeCells]
  have hap : (if m * i.size = 0 then (pure #[] : Sem (Array Value)) else do pure (Builtin.zeroCells (← zeroValue e).cells m)).run E.P w.drew = .ok (Builtin.zeroCells z.cells m) w.drew := by
    by_cases h0 : m * i.size = 0
    · rw [if_pos h0]
      have : Builtin.zeroCells z.cells m = #[] := by
        apply Array.ext'
        rw [hzcl]
        rcases Nat.mul_eq_zero.1 h0 with h | h
        · simp [h]
        · rw [hisz] at h
          subst h
          simp [List.length_eq_zero_iff.1 hsz]
      rw [this]; rfl
    · rw [if_neg h0]
      simp [zeroValue, typeInfo, hi, hz]
  have hrun : (Builtin.append_ #[t, tx] o.type #[.slice base n c, .int k2 m]).run E.P w = .ok (.slice (some ⟨w.heap.size, 0, none⟩) (n + m) (grownCap w (n + m) c e)) (w.drew.alloc (.cells (olds.toArray ++ Builtin.zeroCells z.cells m ++ Builtin.zeroCells z.cells (grownCap w (n + m) c e - (n + m))) e)) := by
    have hf := hfc w.drew rfl
    by_cases h0 : m * i.size = 0
    · have hap' := hap
      rw [if_pos h0] at hap'
      simp only [Sem.run_pure] at hap'
      have : Builtin.zeroCells z.cells m = #[] := by injection hap' with h _; exact h.symm
      rw [this]
      simp [Builtin.append_, run_underlying hu, run_underlying htx, sizeOf, typeInfo, zeroValue, hi, hz, asInt, asIntOf, hwr, hneg, h0, hnr, h63, h48, h48i, Question.forced, hf, newRow, grownCap]
    · simp [Builtin.append_, run_underlying hu, run_underlying htx, sizeOf, typeInfo, zeroValue, hi, hz, asInt, asIntOf, hwr, hneg, h0, hnr, h63, h48, h48i, Question.forced, hf, newRow, grownCap]
  have hex : (execOp a.eval o).run E.P w = .ok (.value (.slice (some ⟨w.heap.size, 0, none⟩) (n + m) (grownCap w (n + m) c e))) (w.drew.alloc (.cells (olds.toArray ++ Builtin.zeroCells z.cells m ++ Builtin.zeroCells z.cells (grownCap w (n + m) c e - (n + m))) e)) := by simp [execOp, ho, resolve, invoke, builtin, es, ex, hrun]
  refine ⟨_, _, hex, _, _, _, ?_, hK w.heap.size (grownCap w (n + m) c e) (Builtin.zeroCells z.cells (grownCap w (n + m) c e - (n + m))).toList hge hle (by rw [hzcl, List.length_flatten]; simp [hsz])⟩
  rw [hd]
  let v : Value := .slice (some ⟨w.heap.size, 0, none⟩) (n + m) (grownCap w (n + m) c e)
  let ν' : Nat → Value := fun j => if j / 8 = d then ptrV w.heap.size else ν j
  have hν' : ∀ j, j / 8 ≠ d → ν' j = ν j := fun j hj => by simp [ν', hj]
  have hν8 : ν' (8 * d) = ptrV w.heap.size := by simp [ν', show (8 * d) / 8 = d by omega]
  have hsub := hdel_sub d H
  have hgr : Heap E ν (hdel d H) M (w.drew.alloc (.cells (olds.toArray ++ Builtin.zeroCells z.cells m ++ Builtin.zeroCells z.cells (grownCap w (n + m) c e - (n + m))) e)) :=
    (hh.sublist hsub).grow ((Below.refl _ w).drew.alloc (Nat.le_refl _) _)
  refine ⟨ν', (hs.drop hν').put (of_decide_eq_true hN) rfl, hgr.add hn hν' (fun j => ?_) ?_ (fun b hb => ?_)⟩
  · by_cases hj : j / 8 = d
    · simp [ν', hj, Value.oneCell']
    · simp only [ν', hj, if_false]; exact hh.one j
  · rw [hν8]
    refine ⟨⟨w.heap.size, e, rfl, ?_⟩, fun v hv => ?_⟩
    · rw [opn_vals]
      have := heap_alloc_at w.drew (.cells (olds.toArray ++ Builtin.zeroCells z.cells m ++ Builtin.zeroCells z.cells (grownCap w (n + m) c e - (n + m))) e (0, 0))
      rw [show w.drew.heap.size = w.heap.size from rfl] at this
      rw [this]
      congr 2
      apply Array.ext'
      simp [hzcl]
    · cases hv
      rfl
  · rw [hν8] at hb
    simp only [ptrV, blk?, Option.some.injEq] at hb
    subst hb
    have hnf : w.heap.size ∉ fp ν (hdel d H) := fun h => Nat.lt_irrefl _ ((hh.sublist hsub).fp_lt h)
    refine ⟨hnf, ?_, hh.below.size⟩
    cases hM : M w.heap.size with
    | none => rfl
    | some ob => exact absurd (Array.getElem?_eq_some_iff.1 (hh.mem _ _ hM)).1 (Nat.lt_irrefl _)
theorem subV_open (b n cap sz lo hi : Nat) : subV (.slice (some ⟨b, 0, none⟩) n cap) sz lo hi = .slice (some ⟨b, if cap = lo then 0 else lo * sz, none⟩) (hi - lo) (cap - lo) := by
  unfold subV
  by_cases h : cap = lo
  · simp [h]
  · simp [h, Addr.add_lit]
/-- a slice of what lies open, as the operations want it -/
theorem Reads.sub {k b : Nat} {cs news : List Value} (hk : hget H k = some (.box (opn cs) (some (ptrV b)))) {off : Nat} (h : ∀ j u, news[j]? = some u → cs[off + j]? = some u) : Reads H M ⟨b, off, none⟩ news := .inl ⟨k, cs, hk, rfl, h⟩
theorem Reads.row {v : Value} {sz : Nat} {es : List (List Value)} (h : RowM M v sz es) {ad : Addr} {n c : Nat} (hv : v = .slice (some ad) n c) : Reads H M ad es.flatten := .inr fun j u hj => by
  subst hv
  have hl : ∀ e ∈ es, e.length = sz := fun e he => by
    obtain ⟨i, hi⟩ := List.mem_iff_getElem?.1 he
    exact (h.2.2 i e hi).1
  have hjl : j < es.flatten.length := (List.getElem?_eq_some_iff.1 hj).1
  rw [flatten_len hl] at hjl
  have hsz : 0 < sz := by
    rcases Nat.eq_zero_or_pos sz with h0 | h0
    · subst h0; simp at hjl
    · exact h0
  have hdiv : j / sz < es.length := (Nat.div_lt_iff_lt_mul hsz).2 hjl
  have hmod : j % sz < sz := Nat.mod_lt _ hsz
  have hej : es[j / sz]? = some es[j / sz] := List.getElem?_eq_getElem hdiv
  have hfl := flatten_get (sp := []) hl hej hmod
  rw [List.append_nil, Nat.mul_comm, Nat.div_add_mod] at hfl
  rw [hfl] at hj
  have := ((h.2.2 _ _ hej).2 _ _ hj).1
  rw [Nat.mul_comm, Nat.div_add_mod] at this
  exact this
end
end Go.X

namespace Go.X
open Go Go.RowKit
section
variable {E : Env} {σ : Sig} {H : HS} {M : Mem} {a : Act} {w : World} {ν : Nat → Value} {K : KP} {o : Oper}

theorem CodeK.ofW {live : List Nat} {c : Code} {Q : QP} (h : wpC E live c Q σ H M) : CodeK E c Q σ H M := fun a w hr => wpC_sound c Q σ H M h a w hr
/-- a loop, whose round is told by its meaning -/
theorem LoopK.goS {live : List Nat} {body : Code} {Q : QP} {X : Type} (S : X → Sig × HS × Mem) (I : X → Prop) (m : X → Nat) (x0 : X) (h0 : I x0) (hent : Ent E σ H M (S x0))
    (hr : ∀ x, I x → CodeK E body (rndQ E S I m x Q) (S x).1 (S x).2.1 (S x).2.2) : LoopK E live body Q σ H M := by
  intro a w hrep b k cs
  have key : ∀ n x, m x = n → I x → ∀ a w, Rep E (S x).1 (S x).2.1 (S x).2.2 a w →
      ∃ e a' w', Lift E Q e a' w' ∧ Arrives E.P (lone (b.at a (.code body :: .inLoop body :: k)) cs w) b k cs e a' w' := by
    intro n
    induction n using Nat.strongRecOn with
    | _ n ih =>
      intro x hm hI a w hrep
      obtain ⟨e, a₁, w₁, ⟨σ', H', M', hrep', hq⟩, harr⟩ := hr x hI a w hrep b (.inLoop body :: k) cs
      cases e with
      | normal =>
        obtain ⟨x', ⟨hI', hlt⟩, hent'⟩ := hq
        obtain ⟨e₂, a₂, w₂, hq₂, harr₂⟩ := ih (m x') (hm ▸ hlt) x' rfl hI' a₁ w₁ (hent' _ _ hrep')
        exact ⟨e₂, a₂, w₂, hq₂, .of_steps (Steps.trans harr (.one step_inLoop)) harr₂⟩
      | exit id => exact ⟨_, a₁, w₁, ⟨σ', H', M', hrep', hq⟩, .pass (x := .inLoop body) rfl (fun _ _ => .inl (by simp)) harr⟩
      | goto l => exact ⟨_, a₁, w₁, ⟨σ', H', M', hrep', hq⟩, .pass (x := .inLoop body) rfl (fun _ _ => .inl (by simp)) harr⟩
      | ret => exact ⟨_, a₁, w₁, ⟨σ', H', M', hrep', hq⟩, .pass (x := .inLoop body) rfl (fun _ _ => .inl (by simp)) harr⟩
      | panic ch => exact ⟨_, a₁, w₁, ⟨σ', H', M', hrep', hq⟩, .pass (x := .inLoop body) rfl (fun _ _ => .inl (by simp)) harr⟩
      | outgrown => exact ⟨_, a₁, w₁, ⟨σ', H', M', hrep', hq⟩, .pass (x := .inLoop body) rfl (fun _ _ => .inl (by simp)) harr⟩
  obtain ⟨e, a', w', hq, harr⟩ := key _ x0 rfl h0 a w (hent a w hrep)
  exact ⟨e, a', w', hq, .of_steps (.one step_loop) harr⟩

end
end Go.X

