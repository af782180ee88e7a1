/- Prints of texts: what print.Of, print.Plain and woolref.Print return. Conditions: none. -/
import Derived.Test.YtbnbimncladflaaMoves
import Derived.Test.YtbnbimncladflaaFwD
set_option linter.unusedSimpArgs false
set_option linter.unusedVariables false
set_option maxHeartbeats 4000000
set_option maxRecDepth 20000
namespace Go.X.Pt
open Go Go.X Go.X.Pol Go.X.Pl Go.X.Rp Go.X.Pd Go.X.Md Go.X.Mv

/-- one byte more -/
def stp (m p c : Nat) : Nat := pmod (p * 2 ^ 8 + c) m
def prf (m : Nat) (s : List UInt8) (p : Nat) : Nat := s.foldl (fun p c => stp m p c.toNat) p

theorem double {m x e : Nat} (hm : m ≠ 0) (he : e < 2) : pmod (2 * pmod x m + e) m = pmod (2 * x + e) m := by
  have h1 : ∀ y, 2 * y + e = 2 * y ^^^ e := fun y => by rw [Nat.xor_comm, bit_xor he, Nat.add_comm]
  have h2 : ∀ y, 2 * y = mulp y 2 := fun y => by
    have := mulp_pow1 y 1
    rw [Nat.pow_one] at this
    rw [mulp_comm, this, Nat.mul_comm]
  rw [h1, h1, pmod_xor hm, pmod_xor hm, h2, h2, pmod_mul_left hm]
theorem and_top {q k : Nat} (h : q < 2 ^ (k + 1)) : (0 < q &&& 2 ^ k) ↔ 2 ^ k ≤ q := by
  rcases Nat.lt_or_ge q (2 ^ k) with h1 | h1
  · have : q &&& 2 ^ k = 0 := by
      apply Nat.eq_of_testBit_eq
      intro j
      rw [Nat.testBit_and, Nat.testBit_two_pow, Nat.zero_testBit]
      by_cases hj : k = j
      · subst hj; rw [Nat.testBit_lt_two_pow h1]; rfl
      · simp [hj]
    rw [this]
    omega
  · refine ⟨fun _ => h1, fun _ => Nat.pos_of_ne_zero fun e => ?_⟩
    have h0 := Nat.two_pow_pos k
    have h2 : (q &&& 2 ^ k).testBit k = true := by
      rw [Nat.pow_succ] at h
      rw [Nat.testBit_and, Nat.testBit_two_pow, Nat.testBit_eq_decide_div_mod_eq]
      have : q / 2 ^ k = 1 := Nat.div_eq_of_lt_le (by omega) (by omega)
      rw [this]
      simp
    rw [e, Nat.zero_testBit] at h2
    cases h2
theorem red_bit {m q : Nat} (hm : m ≠ 0) (h : q < 2 ^ (sz m)) : pmod q m = if 2 ^ (sz m - 1) ≤ q then q ^^^ m else q := by
  obtain ⟨g1, g2, g3⟩ := sz_rng hm
  have hs := sz_pos.2 hm
  split
  · rename_i h1
    rw [g3] at h g2
    have h2 := xor_drop h1 h g1 g2
    exact (divmod_uniq (q := 1) (r := q ^^^ m) (by rw [mulp_one, Nat.xor_comm m, Nat.xor_assoc, Nat.xor_self, Nat.xor_zero]) (by have := sz_le.2 h2; omega)).2
  · rename_i h1
    exact pmod_small (by have := sz_le.2 (show q < 2 ^ (sz m - 1) by omega); omega)

theorem strIx_at {s : List UInt8} {i : Nat} {b : UInt8} (h : s[i]? = some b) : strIx s (i : Int) = ((b.toNat : Nat) : Int) := by
  unfold strIx
  rw [Int.toNat_natCast, List.getD_eq_getElem?_getD, h]
  rfl
theorem push (p m : Nat) (s : List UInt8) (M : Mem) (h2 : 2 ≤ m) (hm : m ≤ 2147483647) (hp : p ≤ 2147483647) (hs : s.length ≤ maxLen) :
    Meets Proofs.Try.prog 96 [.v (.int .i64 (p : Int)), .v (.string ⟨s.toArray⟩), .v (.int .i64 (m : Int))] M fun r _ _ => r = .v (.int .i64 ((prf m s p : Nat) : Int)) := by
  refine Meets.of_body [0,1,2,6,7,9,11,12,13] Proofs.Try.func96 rfl (by kernel_rfl) rfl fun w => ?_
  have h0 : m ≠ 0 := by omega
  generalize hc : prf m s p = c
  simp only [maxLen] at hs
  simp only [Proofs.Try.f96, shs, zts, sos, sls, zss, eqs, sx, sb1, sb2, sb3, sb4, sb5, sb6, sb7, ↓reduceIte, Nat.reduceAdd, Nat.reduceMul, Nat.reduceDiv, Nat.reduceEqDiff, Nat.reduceLT, Nat.reduceLeDiff, reduceCtorEq, Int.reduceEq, Int.reduceNe, Int.reduceLT, Int.reduceLE, Int.reduceAdd, Int.reduceSub, Int.reduceMul, Int.reduceNeg, Int.reduceToNat, Int.cast_ofNat_Int, Int.natCast_zero, Int.natCast_one, Int.toNat_natCast, Nat.reduceBEq]
  refine LoopK.go (X := Nat × Nat × Nat) (fun x => ([(0, true, .v (.int .i64 (x.2.2 : Int))), (1, true, .v (.string ⟨s.toArray⟩)), (2, true, .v (.int .i64 m)), (11, true, .v (.int .i64 s.length)), (12, true, .v (.int .i64 x.2.1))], [], M))
    (fun x => (x.1 + x.2.1 = s.length ∧ x.2.2 ≤ 2147483647) ∧ prf m (s.drop x.2.1) x.2.2 = c) (fun x => x.1) (s.length, 0, p) ⟨⟨rfl, hp⟩, hc⟩ (Ent.of ?_) ?_
  · simp only [sx, sb1, sb2, sb3, sb4, sb5, sb6, sb7, ↓reduceIte, Nat.reduceAdd, Nat.reduceMul, Nat.reduceDiv, Nat.reduceEqDiff, Nat.reduceLT, Nat.reduceLeDiff, reduceCtorEq, Int.reduceEq, Int.reduceNe, Int.reduceLT, Int.reduceLE, Int.reduceAdd, Int.reduceSub, Int.reduceMul, Int.reduceNeg, Int.reduceToNat, Int.cast_ofNat_Int, Int.natCast_zero, Int.natCast_one, Int.toNat_natCast, Nat.reduceBEq]
  rintro ⟨f, i, q⟩ ⟨⟨h3, h4⟩, h5⟩
  simp only at h3 h4 h5
  simp only [shs, zts, sos, sls, zss, eqs, sx, sb1, sb2, sb3, sb4, sb5, sb6, sb7, ↓reduceIte, Nat.reduceAdd, Nat.reduceMul, Nat.reduceDiv, Nat.reduceEqDiff, Nat.reduceLT, Nat.reduceLeDiff, reduceCtorEq, Int.reduceEq, Int.reduceNe, Int.reduceLT, Int.reduceLE, Int.reduceAdd, Int.reduceSub, Int.reduceMul, Int.reduceNeg, Int.reduceToNat, Int.cast_ofNat_Int, Int.natCast_zero, Int.natCast_one, Int.toNat_natCast, Nat.reduceBEq, inK, lo, hi, uw (show q < 18446744073709551616 by omega), mw, b64u]
  refine ⟨fun h6 => ?_, fun h6 => ?_⟩
  · obtain ⟨b, hb, hd⟩ := drop_at (l := s) (i := i) (by omega)
    have e1 := strIx_at hb
    have hb2 : b.toNat < 256 := UInt8.toNat_lt b
    rw [hd] at h5
    simp only [prf, List.foldl_cons] at h5
    have hz := red_le (x := q * 2 ^ 8 + b.toNat) h0 hm
    refine ⟨(fun h => by cases h), by omega, by omega, (fun h => by cases h), ?_⟩
    rw [e1, uw (show b.toNat < 18446744073709551616 by omega), orw (show q * 2 ^ 8 < 18446744073709551616 by omega) (show b.toNat < 18446744073709551616 by omega), or_low (k := 8) (by omega)]
    refine CallK.pure ⟨rfl, rfl⟩ rfl (over _ m M (by omega) hm h0) ?_
    simp only [shs, zts, sos, sls, zss, eqs, sx, sb1, sb2, sb3, sb4, sb5, sb6, sb7, ↓reduceIte, Nat.reduceAdd, Nat.reduceMul, Nat.reduceDiv, Nat.reduceEqDiff, Nat.reduceLT, Nat.reduceLeDiff, reduceCtorEq, Int.reduceEq, Int.reduceNe, Int.reduceLT, Int.reduceLE, Int.reduceAdd, Int.reduceSub, Int.reduceMul, Int.reduceNeg, Int.reduceToNat, Int.cast_ofNat_Int, Int.natCast_zero, Int.natCast_one, Int.toNat_natCast, Nat.reduceBEq, inK, lo, hi, iw (show pmod (q * 2 ^ 8 + b.toNat) m < 9223372036854775808 by omega)]
    refine ⟨(fun h => by cases h), by omega, (f - 1, i + 1, pmod (q * 2 ^ 8 + b.toNat) m), ⟨⟨⟨by simp only; omega, by simp only; omega⟩, h5⟩, by simp only; omega⟩, Ent.of ?_⟩
    simp only [sx, sb1, sb2, sb3, sb4, sb5, sb6, sb7, ↓reduceIte, Nat.reduceAdd, Nat.reduceMul, Nat.reduceDiv, Nat.reduceEqDiff, Nat.reduceLT, Nat.reduceLeDiff, reduceCtorEq, Int.reduceEq, Int.reduceNe, Int.reduceLT, Int.reduceLE, Int.reduceAdd, Int.reduceSub, Int.reduceMul, Int.reduceNeg, Int.reduceToNat, Int.cast_ofNat_Int, Int.natCast_zero, Int.natCast_one, Int.toNat_natCast, Nat.reduceBEq, Int.natCast_add]
  · have hd : s.drop i = [] := List.drop_eq_nil_of_le (by omega)
    rw [hd] at h5
    simp only [prf, List.foldl_nil] at h5
    rw [h5]

theorem plain (m : Nat) (s : List UInt8) (M : Mem) (h2 : 2 ≤ m) (hm : m ≤ 2147483647) (hs : s.length ≤ maxLen) :
    Meets Proofs.Try.prog 60 [.v (.int .i64 (m : Int)), .v (.string ⟨s.toArray⟩)] M fun r _ _ => r = .v (.int .i64 ((prf m s 1 : Nat) : Int)) := by
  refine Meets.of_body [0,1,4,6] Proofs.Try.func60 rfl (by kernel_rfl) rfl fun w => ?_
  have h0 : m ≠ 0 := by omega
  have h1 : pmod 1 m = 1 := pmod_small (by
    have h3 : sz 1 = 1 := rfl
    have h4 := lt_sz.2 (show 2 ^ 1 ≤ m by omega)
    omega)
  simp only [Proofs.Try.f60, shs, zts, sos, sls, zss, eqs, sx, sb1, sb2, sb3, sb4, sb5, sb6, sb7, ↓reduceIte, Nat.reduceAdd, Nat.reduceMul, Nat.reduceDiv, Nat.reduceEqDiff, Nat.reduceLT, Nat.reduceLeDiff, reduceCtorEq, Int.reduceEq, Int.reduceNe, Int.reduceLT, Int.reduceLE, Int.reduceAdd, Int.reduceSub, Int.reduceMul, Int.reduceNeg, Int.reduceToNat, Int.cast_ofNat_Int, Int.natCast_zero, Int.natCast_one, Int.toNat_natCast, Nat.reduceBEq]
  refine CallK.pure ⟨rfl, rfl⟩ rfl (over 1 m M (by omega) hm h0) ?_
  rw [h1]
  simp only [shs, zts, sos, sls, zss, eqs, sx, sb1, sb2, sb3, sb4, sb5, sb6, sb7, ↓reduceIte, Nat.reduceAdd, Nat.reduceMul, Nat.reduceDiv, Nat.reduceEqDiff, Nat.reduceLT, Nat.reduceLeDiff, reduceCtorEq, Int.reduceEq, Int.reduceNe, Int.reduceLT, Int.reduceLE, Int.reduceAdd, Int.reduceSub, Int.reduceMul, Int.reduceNeg, Int.reduceToNat, Int.cast_ofNat_Int, Int.natCast_zero, Int.natCast_one, Int.toNat_natCast, Nat.reduceBEq, iw (show 1 < 9223372036854775808 by omega)]
  refine ⟨(fun h => by cases h), CallK.pure ⟨rfl, rfl⟩ rfl (push 1 m s M h2 hm (by omega) hs) ?_⟩
  simp only [shs, zts, sos, sls, zss, eqs, sx, sb1, sb2, sb3, sb4, sb5, sb6, sb7, ↓reduceIte, Nat.reduceAdd, Nat.reduceMul, Nat.reduceDiv, Nat.reduceEqDiff, Nat.reduceLT, Nat.reduceLeDiff, reduceCtorEq, Int.reduceEq, Int.reduceNe, Int.reduceLT, Int.reduceLE, Int.reduceAdd, Int.reduceSub, Int.reduceMul, Int.reduceNeg, Int.reduceToNat, Int.cast_ofNat_Int, Int.natCast_zero, Int.natCast_one, Int.toNat_natCast, Nat.reduceBEq]

def ofE (m : Int) (s : List UInt8) : Int := if m < 2 ∨ 2147483647 < m then 1 else if 600 < (s.length : Int) then 2 else 0
theorem tdN (a b : Nat) : (a : Int).tdiv (b : Int) = ((a / b : Nat) : Int) := (Int.ofNat_tdiv a b).symm
theorem rprint (m : Nat) (s : List UInt8) (M : Mem) (h2 : 2 ≤ m) (hm : m ≤ 2147483647) (hs : s.length ≤ maxLen) :
    Meets Proofs.Try.prog 65 [.v (.int .i64 (m : Int)), .v (.string ⟨s.toArray⟩)] M fun r _ _ => r = .v (.int .i64 ((prf m s 1 : Nat) : Int)) := by
  refine Meets.of_body [0,1,2,4,5,6,7,8,9,13,18,19,20,23] Proofs.Try.func65 rfl (by kernel_rfl) rfl fun w => ?_
  have h0 : m ≠ 0 := by omega
  generalize hc : prf m s 1 = c
  simp only [maxLen] at hs
  have hsm := sz31 hm
  have hsm0 := sz_pos.2 h0
  obtain ⟨g1, g2, g3⟩ := sz_rng h0
  simp only [Proofs.Try.f65, shs, zts, sos, sls, zss, eqs, sx, sb1, sb2, sb3, sb4, sb5, sb6, sb7, ↓reduceIte, Nat.reduceAdd, Nat.reduceMul, Nat.reduceDiv, Nat.reduceEqDiff, Nat.reduceLT, Nat.reduceLeDiff, reduceCtorEq, Int.reduceEq, Int.reduceNe, Int.reduceLT, Int.reduceLE, Int.reduceAdd, Int.reduceSub, Int.reduceMul, Int.reduceNeg, Int.reduceToNat, Int.cast_ofNat_Int, Int.natCast_zero, Int.natCast_one, Int.toNat_natCast, Nat.reduceBEq]
  refine ⟨fun _ => trivial, ?_⟩
  refine LoopK.go (X := Nat) (fun i => ([(1, true, .v (.string ⟨s.toArray⟩)), (2, true, .ptr 16 0 0 0), (5, true, .ptr 40 0 0 0)], [(40, .box [.v (.int .i64 ((2 ^ i : Nat) : Int))] none), (16, .box [.v (.int .i64 (m : Int))] none)], M))
    (fun i => i ≤ sz m - 1) (fun i => sz m - i) 0 (Nat.zero_le _) (Ent.of ?_) ?_
  · simp only [sx, sb1, sb2, sb3, sb4, sb5, sb6, sb7, ↓reduceIte, Nat.reduceAdd, Nat.reduceMul, Nat.reduceDiv, Nat.reduceEqDiff, Nat.reduceLT, Nat.reduceLeDiff, reduceCtorEq, Int.reduceEq, Int.reduceNe, Int.reduceLT, Int.reduceLE, Int.reduceAdd, Int.reduceSub, Int.reduceMul, Int.reduceNeg, Int.reduceToNat, Int.cast_ofNat_Int, Int.natCast_zero, Int.natCast_one, Int.toNat_natCast, Nat.reduceBEq, Nat.pow_zero]
  intro i hi'
  have hp2 : 2 ^ (i + 1) = 2 * 2 ^ i := by rw [Nat.pow_succ, Nat.mul_comm]
  have hpi : 2 ^ i ≤ 1073741824 := Nat.pow_le_pow_right (n := 2) (j := 30) (by omega) (by omega)
  simp only [shs, zts, sos, sls, zss, eqs, sx, sb1, sb2, sb3, sb4, sb5, sb6, sb7, ↓reduceIte, Nat.reduceAdd, Nat.reduceMul, Nat.reduceDiv, Nat.reduceEqDiff, Nat.reduceLT, Nat.reduceLeDiff, reduceCtorEq, Int.reduceEq, Int.reduceNe, Int.reduceLT, Int.reduceLE, Int.reduceAdd, Int.reduceSub, Int.reduceMul, Int.reduceNeg, Int.reduceToNat, Int.cast_ofNat_Int, Int.natCast_zero, Int.natCast_one, Int.toNat_natCast, Nat.reduceBEq, inK, lo, hi]
  refine ⟨by omega, fun h3 => ⟨by omega, fun _ => trivial, i + 1, ⟨?_, by omega⟩, Ent.of ?_⟩, fun h3 => ⟨fun _ => trivial, ?_⟩⟩
  · have : i + 1 < sz m := lt_sz.2 (by omega)
    omega
  · have e : ((2 ^ (i + 1) : Nat) : Int) = ((2 ^ i : Nat) : Int) * 2 := by rw [hp2]; generalize 2 ^ i = z; omega
    simp only [sx, sb1, sb2, sb3, sb4, sb5, sb6, sb7, ↓reduceIte, Nat.reduceAdd, Nat.reduceMul, Nat.reduceDiv, Nat.reduceEqDiff, Nat.reduceLT, Nat.reduceLeDiff, reduceCtorEq, Int.reduceEq, Int.reduceNe, Int.reduceLT, Int.reduceLE, Int.reduceAdd, Int.reduceSub, Int.reduceMul, Int.reduceNeg, Int.reduceToNat, Int.cast_ofNat_Int, Int.natCast_zero, Int.natCast_one, Int.toNat_natCast, Nat.reduceBEq, e]
  have hik : i = sz m - 1 := by
    have : sz m ≤ i + 1 := sz_le.2 (by omega)
    omega
  subst hik
  clear hi' h3 hp2
  generalize hT : 2 ^ (sz m - 1) = T at *
  refine stepK.mkFn rfl rfl ?_
  simp only [shs, zts, sos, sls, zss, eqs, sx, sb1, sb2, sb3, sb4, sb5, sb6, sb7, ↓reduceIte, Nat.reduceAdd, Nat.reduceMul, Nat.reduceDiv, Nat.reduceEqDiff, Nat.reduceLT, Nat.reduceLeDiff, reduceCtorEq, Int.reduceEq, Int.reduceNe, Int.reduceLT, Int.reduceLE, Int.reduceAdd, Int.reduceSub, Int.reduceMul, Int.reduceNeg, Int.reduceToNat, Int.cast_ofNat_Int, Int.natCast_zero, Int.natCast_one, Int.toNat_natCast, Nat.reduceBEq]
  refine LoopK.go (X := Nat × Nat × Nat) (fun x => ([(1, true, .v (.string ⟨s.toArray⟩)), (6, true, .ptr 48 0 0 0), (7, true, .fn 99 [.ptr 48 0 0 0, .ptr 40 0 0 0, .ptr 16 0 0 0]), (18, true, .v (.int .i64 s.length)), (19, true, .v (.int .i64 x.2.1))],
      [(48, .box [.v (.int .i64 (x.2.2 : Int))] none), (40, .box [.v (.int .i64 (T : Int))] none), (16, .box [.v (.int .i64 (m : Int))] none)], M))
    (fun x => (x.1 + x.2.1 = s.length ∧ x.2.2 < T) ∧ prf m (s.drop x.2.1) x.2.2 = c) (fun x => x.1) (s.length, 0, 1) ⟨⟨rfl, ?_⟩, hc⟩ (Ent.of ?_) ?_
  · simp only
    have := @lt_sz m 1
    rw [← hT]
    have : 2 ^ 1 ≤ 2 ^ (sz m - 1) := Nat.pow_le_pow_right (by omega) (by omega)
    omega
  · simp only [sx, sb1, sb2, sb3, sb4, sb5, sb6, sb7, ↓reduceIte, Nat.reduceAdd, Nat.reduceMul, Nat.reduceDiv, Nat.reduceEqDiff, Nat.reduceLT, Nat.reduceLeDiff, reduceCtorEq, Int.reduceEq, Int.reduceNe, Int.reduceLT, Int.reduceLE, Int.reduceAdd, Int.reduceSub, Int.reduceMul, Int.reduceNeg, Int.reduceToNat, Int.cast_ofNat_Int, Int.natCast_zero, Int.natCast_one, Int.toNat_natCast, Nat.reduceBEq]
  rintro ⟨f, i, q⟩ ⟨⟨h3, h4⟩, h5⟩
  simp only at h3 h4 h5
  simp only [shs, zts, sos, sls, zss, eqs, sx, sb1, sb2, sb3, sb4, sb5, sb6, sb7, ↓reduceIte, Nat.reduceAdd, Nat.reduceMul, Nat.reduceDiv, Nat.reduceEqDiff, Nat.reduceLT, Nat.reduceLeDiff, reduceCtorEq, Int.reduceEq, Int.reduceNe, Int.reduceLT, Int.reduceLE, Int.reduceAdd, Int.reduceSub, Int.reduceMul, Int.reduceNeg, Int.reduceToNat, Int.cast_ofNat_Int, Int.natCast_zero, Int.natCast_one, Int.toNat_natCast, Nat.reduceBEq, inK, lo, hi]
  refine ⟨fun h6 => ?_, fun h6 => ?_⟩
  · obtain ⟨b, hb, hd⟩ := drop_at (l := s) (i := i) (by omega)
    have e1 := strIx_at hb
    have hb2 : b.toNat < 256 := UInt8.toNat_lt b
    rw [hd] at h5
    simp only [prf, List.foldl_cons] at h5
    generalize hB : b.toNat = B at *
    refine LoopK.go (X := Nat) (fun j => ([(1, true, .v (.string ⟨s.toArray⟩)), (6, true, .ptr 48 0 0 0), (7, true, .fn 99 [.ptr 48 0 0 0, .ptr 40 0 0 0, .ptr 16 0 0 0]), (8, true, .v (.int .i64 i)), (9, true, .v (.int .i64 ((128 / 2 ^ j : Nat) : Int))), (18, true, .v (.int .i64 s.length)), (19, true, .v (.int .i64 i))],
        [(48, .box [.v (.int .i64 ((pmod (q * 2 ^ j + B / 2 ^ (8 - j)) m : Nat) : Int))] none), (40, .box [.v (.int .i64 (T : Int))] none), (16, .box [.v (.int .i64 (m : Int))] none)], M))
      (fun j => j ≤ 8) (fun j => 8 - j) 0 (Nat.zero_le _) (Ent.of ?_) ?_
    · have hq : pmod (q * 2 ^ 0 + B / 2 ^ (8 - 0)) m = q := by
        rw [Nat.pow_zero, Nat.mul_one, Nat.div_eq_of_lt (show B < 2 ^ (8 - 0) by omega), Nat.add_zero]
        exact pmod_small (by have := sz_le.2 (show q < 2 ^ (sz m - 1) by omega); omega)
      simp only [sx, sb1, sb2, sb3, sb4, sb5, sb6, sb7, ↓reduceIte, Nat.reduceAdd, Nat.reduceMul, Nat.reduceDiv, Nat.reduceEqDiff, Nat.reduceLT, Nat.reduceLeDiff, reduceCtorEq, Int.reduceEq, Int.reduceNe, Int.reduceLT, Int.reduceLE, Int.reduceAdd, Int.reduceSub, Int.reduceMul, Int.reduceNeg, Int.reduceToNat, Int.cast_ofNat_Int, Int.natCast_zero, Int.natCast_one, Int.toNat_natCast, Nat.reduceBEq, hq, Nat.pow_zero, Nat.div_one]
    intro j hj
    have hV : 128 / 2 ^ j ≤ 128 := Nat.div_le_self _ _
    have hV2 : j ≤ 7 → 128 / 2 ^ j = 2 ^ (7 - j) := fun h => by
      have : j = 0 ∨ j = 1 ∨ j = 2 ∨ j = 3 ∨ j = 4 ∨ j = 5 ∨ j = 6 ∨ j = 7 := by omega
      rcases this with rfl | rfl | rfl | rfl | rfl | rfl | rfl | rfl <;> rfl
    have hBV : B / (128 / 2 ^ j) ≤ B := Nat.div_le_self _ _
    have hP := red_lt (x := q * 2 ^ j + B / 2 ^ (8 - j)) h0
    rw [hT] at hP
    have hstep : j ≤ 7 → pmod (2 * pmod (q * 2 ^ j + B / 2 ^ (8 - j)) m + B / (128 / 2 ^ j) % 2) m = pmod (q * 2 ^ (j + 1) + B / 2 ^ (8 - (j + 1))) m := fun h => by
      rw [double h0 (Nat.mod_lt _ (by omega)), hV2 h]
      congr 1
      rw [show 8 - j = (7 - j) + 1 by omega, show 8 - (j + 1) = 7 - j by omega, Nat.pow_succ, Nat.pow_succ, ← Nat.div_div_eq_div_mul, Nat.mul_add, Nat.mul_left_comm, Nat.mul_comm 2 (2 ^ j)]
      omega
    have hV3 := pm2 128 j
    have hV8 : ¬ 0 < 128 / 2 ^ j → j = 8 := fun h => by
      rcases Nat.lt_or_ge j 8 with h8 | h8
      · rw [hV2 (by omega)] at h
        exact (h (Nat.two_pow_pos _)).elim
      · omega
    generalize hPe : pmod (q * 2 ^ j + B / 2 ^ (8 - j)) m = P at *
    simp only [shs, zts, sos, sls, zss, eqs, sx, sb1, sb2, sb3, sb4, sb5, sb6, sb7, ↓reduceIte, Nat.reduceAdd, Nat.reduceMul, Nat.reduceDiv, Nat.reduceEqDiff, Nat.reduceLT, Nat.reduceLeDiff, reduceCtorEq, Int.reduceEq, Int.reduceNe, Int.reduceLT, Int.reduceLE, Int.reduceAdd, Int.reduceSub, Int.reduceMul, Int.reduceNeg, Int.reduceToNat, Int.cast_ofNat_Int, Int.natCast_zero, Int.natCast_one, Int.toNat_natCast, Nat.reduceBEq, inK, lo, hi, e1, tm2, td2, iw (show B < 9223372036854775808 by omega), tdN]
    refine ⟨fun h7 => ?_, fun h7 => ?_⟩
    · have hj7 : j ≤ 7 := by
        rcases Nat.lt_or_ge j 8 with h | h
        · omega
        · have : j = 8 := by omega
          subst this
          simp at h7
      replace hstep := hstep hj7
      refine ⟨by omega, (fun h => by cases h), ⟨by omega, i64N (by omega)⟩, ?_⟩
      generalize 128 / 2 ^ j = V at *
      have hE : B / V % 2 < 2 := Nat.mod_lt _ (by omega)
      generalize B / V % 2 = e at *
      have hQ : 2 * P + e < 2 ^ (sz m) := by rw [g3, Nat.pow_succ, hT]; omega
      have hr := red_bit h0 hQ
      have ha := and_top (q := 2 * P + e) (k := sz m - 1) (by rw [← g3]; exact hQ)
      rw [hT] at hr ha
      refine CallK.boxes [0,1,2,3,12] Proofs.Try.func99 rfl (by kernel_rfl) rfl rfl fun xs => ?_
      have eS : 2 * (P : Int) + (e : Int) = ((2 * P + e : Nat) : Int) := by omega
      simp only [Proofs.Try.f99, sd1, shs, zts, sos, sls, zss, eqs, sx, sb1, sb2, sb3, sb4, sb5, sb6, sb7, ↓reduceIte, Nat.reduceAdd, Nat.reduceMul, Nat.reduceDiv, Nat.reduceEqDiff, Nat.reduceLT, Nat.reduceLeDiff, reduceCtorEq, Int.reduceEq, Int.reduceNe, Int.reduceLT, Int.reduceLE, Int.reduceAdd, Int.reduceSub, Int.reduceMul, Int.reduceNeg, Int.reduceToNat, Int.cast_ofNat_Int, Int.natCast_zero, Int.natCast_one, Int.toNat_natCast, Nat.reduceBEq, inK, lo, hi, eS, td2, hV3]
      refine ⟨by omega, by omega, fun _ => trivial, by omega, fun h9 => ?_, fun h9 => ?_⟩
      · rw [if_pos (ha.1 (by omega)), hstep] at hr
        refine ⟨by omega, fun _ => trivial, i64N (by rw [← hV3]; omega), j + 1, ⟨by omega, by omega⟩, Ent.of ?_⟩
        simp only [sx, sb1, sb2, sb3, sb4, sb5, sb6, sb7, ↓reduceIte, Nat.reduceAdd, Nat.reduceMul, Nat.reduceDiv, Nat.reduceEqDiff, Nat.reduceLT, Nat.reduceLeDiff, reduceCtorEq, Int.reduceEq, Int.reduceNe, Int.reduceLT, Int.reduceLE, Int.reduceAdd, Int.reduceSub, Int.reduceMul, Int.reduceNeg, Int.reduceToNat, Int.cast_ofNat_Int, Int.natCast_zero, Int.natCast_one, Int.toNat_natCast, Nat.reduceBEq, hr]
      · rw [if_neg (fun h => by have := ha.2 h; omega), hstep] at hr
        refine ⟨i64N (by rw [← hV3]; omega), j + 1, ⟨by omega, by omega⟩, Ent.of ?_⟩
        simp only [sx, sb1, sb2, sb3, sb4, sb5, sb6, sb7, ↓reduceIte, Nat.reduceAdd, Nat.reduceMul, Nat.reduceDiv, Nat.reduceEqDiff, Nat.reduceLT, Nat.reduceLeDiff, reduceCtorEq, Int.reduceEq, Int.reduceNe, Int.reduceLT, Int.reduceLE, Int.reduceAdd, Int.reduceSub, Int.reduceMul, Int.reduceNeg, Int.reduceToNat, Int.cast_ofNat_Int, Int.natCast_zero, Int.natCast_one, Int.toNat_natCast, Nat.reduceBEq, hr]
    · have hj8 : j = 8 := hV8 (by omega)
      have hP8 : stp m q B = P := by rw [← hPe, hj8, stp, Nat.sub_self, Nat.pow_zero, Nat.div_one]
      rw [hP8] at h5
      refine ⟨by omega, (f - 1, i + 1, P), ⟨⟨⟨by simp only; omega, hP⟩, h5⟩, by simp only; omega⟩, Ent.of ?_⟩
      simp only [sx, sb1, sb2, sb3, sb4, sb5, sb6, sb7, ↓reduceIte, Nat.reduceAdd, Nat.reduceMul, Nat.reduceDiv, Nat.reduceEqDiff, Nat.reduceLT, Nat.reduceLeDiff, reduceCtorEq, Int.reduceEq, Int.reduceNe, Int.reduceLT, Int.reduceLE, Int.reduceAdd, Int.reduceSub, Int.reduceMul, Int.reduceNeg, Int.reduceToNat, Int.cast_ofNat_Int, Int.natCast_zero, Int.natCast_one, Int.toNat_natCast, Nat.reduceBEq, Int.natCast_add]
  · have hd : s.drop i = [] := List.drop_eq_nil_of_le (by omega)
    rw [hd] at h5
    simp only [prf, List.foldl_nil] at h5
    rw [h5]
end Go.X.Pt
