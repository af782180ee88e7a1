/- Strings: HasPrefix, Repeat of "0", TrimLeft and TrimRight of "0". Conditions: none. -/
import Derived.Test.YtbnbimncladflaaDoorStrK
import Derived.Test.YtbnbimncladflaaDoorPoly
set_option linter.unusedSimpArgs false
set_option linter.unusedVariables false
set_option maxHeartbeats 4000000
set_option maxRecDepth 20000
namespace Go.X.St
open Go Go.X Go.RowKit Go.X.Pl

theorem hasPre (a b : List UInt8) (M : Mem) (ha : a.length ≤ 9223372036854775807) (hb : b.length ≤ 9223372036854775807) :
    Meets Proofs.Tryd.prog 58 [.v (.string ⟨a.toArray⟩), .v (.string ⟨b.toArray⟩)] M fun r _ _ => r = .v (.bool (decide (b.length ≤ a.length ∧ a.take b.length = b))) := by
  refine Meets.of_body [0,1,4] Proofs.Tryd.func58 rfl (by kernel_rfl) rfl fun w => ?_
  simp only [Proofs.Tryd.f58, shs, zts, sos, sls, zss, eqs, sx, sb1, sb2, sb3, sb4, sb5, sb6, sb7, ↓reduceIte, Nat.reduceAdd, Nat.reduceMul, Nat.reduceDiv, Nat.reduceEqDiff, Nat.reduceLT, Nat.reduceLeDiff, reduceCtorEq, Int.reduceEq, Int.reduceNe, Int.reduceLT, Int.reduceLE, Int.reduceAdd, Int.reduceSub, Int.reduceMul, Int.reduceNeg, Int.reduceToNat, Int.cast_ofNat_Int, Int.natCast_zero, Int.natCast_one, Int.toNat_natCast, Nat.reduceBEq, nzs]
  refine ⟨fun h => ⟨h, by omega, h⟩, ?_⟩
  rw [Nat.sub_zero, Bool.decide_and]
  congr 4
  exact propext ⟨fun h => by omega, fun h => by omega⟩
theorem hasPrefix (a b : List UInt8) (M : Mem) (ha : a.length ≤ 9223372036854775807) (hb : b.length ≤ 9223372036854775807) :
    Meets Proofs.Tryd.prog 44 [.v (.string ⟨a.toArray⟩), .v (.string ⟨b.toArray⟩)] M fun r _ _ => r = .v (.bool (decide (b.length ≤ a.length ∧ a.take b.length = b))) := by
  refine Meets.of_body [0,1,4] Proofs.Tryd.func44 rfl (by kernel_rfl) rfl fun w => ?_
  simp only [Proofs.Tryd.f44, shs, zts, sos, sls, zss, eqs, sx, sb1, sb2, sb3, sb4, sb5, sb6, sb7, ↓reduceIte, Nat.reduceAdd, Nat.reduceMul, Nat.reduceDiv, Nat.reduceEqDiff, Nat.reduceLT, Nat.reduceLeDiff, reduceCtorEq, Int.reduceEq, Int.reduceNe, Int.reduceLT, Int.reduceLE, Int.reduceAdd, Int.reduceSub, Int.reduceMul, Int.reduceNeg, Int.reduceToNat, Int.cast_ofNat_Int, Int.natCast_zero, Int.natCast_one, Int.toNat_natCast, Nat.reduceBEq, nzs]
  refine CallK.pure ⟨rfl, rfl⟩ rfl (hasPre a b M ha hb) ?_
  simp only [shs, zts, sos, sls, zss, eqs, sx, sb1, sb2, sb3, sb4, sb5, sb6, sb7, ↓reduceIte, Nat.reduceAdd, Nat.reduceMul, Nat.reduceDiv, Nat.reduceEqDiff, Nat.reduceLT, Nat.reduceLeDiff, reduceCtorEq, Int.reduceEq, Int.reduceNe, Int.reduceLT, Int.reduceLE, Int.reduceAdd, Int.reduceSub, Int.reduceMul, Int.reduceNeg, Int.reduceToNat, Int.cast_ofNat_Int, Int.natCast_zero, Int.natCast_one, Int.toNat_natCast, Nat.reduceBEq, nzs]
theorem hasPrefixB (a b : List UInt8) (c : Bool) (M : Mem) (ha : a.length ≤ 9223372036854775807) (hb : b.length ≤ 9223372036854775807) (hr : decide (b.length ≤ a.length ∧ a.take b.length = b) = c) :
    Meets Proofs.Tryd.prog 44 [.v (.string ⟨a.toArray⟩), .v (.string ⟨b.toArray⟩)] M fun r _ _ => r = .v (.bool c) := hr ▸ hasPrefix a b M ha hb
theorem mul64 (y : Nat) (M : Mem) (hy : y ≤ 4294967295) :
    Meets Proofs.Tryd.prog 57 [.v (.int .u64 1), .v (.int .u64 (y : Int))] M fun r _ _ => r = .tup [.v (.int .u64 0), .v (.int .u64 (y : Int))] := by
  refine Meets.of_body [0,1,4,5,6,7,8,9,10,11,12,13] Proofs.Tryd.func57 rfl (by kernel_rfl) rfl fun w => ?_
  have e1 : y &&& 4294967295 = y := by
    have := Nat.and_two_pow_sub_one_eq_mod y 32
    rw [show (2 : Nat) ^ 32 - 1 = 4294967295 from rfl] at this
    rw [this]
    exact Nat.mod_eq_of_lt (by omega)
  have e2 : (1 : Nat) &&& 4294967295 = 1 := rfl
  have e3 : (y : Int) / 2 ^ 32 = 0 := by
    rw [show (2 : Int) ^ 32 = 4294967296 from rfl]
    omega
  have e4 : (1 : Int) / 2 ^ 32 = 0 := rfl
  have e5 : (0 : Int) / 2 ^ 32 = 0 := rfl
  have e6 : (0 : Nat) &&& 4294967295 = 0 := rfl
  simp only [Proofs.Tryd.f57, shs, zts, sos, sls, zss, eqs, sx, sb1, sb2, sb3, sb4, sb5, sb6, sb7, ↓reduceIte, Nat.reduceAdd, Nat.reduceMul, Nat.reduceDiv, Nat.reduceEqDiff, Nat.reduceLT, Nat.reduceLeDiff, reduceCtorEq, Int.reduceEq, Int.reduceNe, Int.reduceLT, Int.reduceLE, Int.reduceAdd, Int.reduceSub, Int.reduceMul, Int.reduceNeg, Int.reduceToNat, Int.cast_ofNat_Int, Int.natCast_zero, Int.natCast_one, Int.toNat_natCast, Nat.reduceBEq, nzs, e1, e2, e3, e4, e5, e6, Int.zero_mul, Int.mul_zero, Int.one_mul, Int.zero_add, Int.add_zero, Int.natCast_one, Int.toNat_zero, Int.natCast_zero, inK, lo, hi]
  rw [show ((IntKind.u64.bits : Nat) : Int) = 64 from rfl]
  omega
theorem mul (y : Nat) (M : Mem) (hy : y ≤ 4294967295) :
    Meets Proofs.Tryd.prog 43 [.v (.int .u64 1), .v (.int .u64 (y : Int))] M fun r _ _ => r = .tup [.v (.int .u64 0), .v (.int .u64 (y : Int))] := by
  refine Meets.of_body [0,1,4,5,6,7,8,9] Proofs.Tryd.func43 rfl (by kernel_rfl) rfl fun w => ?_
  simp only [Proofs.Tryd.f43, shs, zts, sos, sls, zss, eqs, sx, sb1, sb2, sb3, sb4, sb5, sb6, sb7, ↓reduceIte, Nat.reduceAdd, Nat.reduceMul, Nat.reduceDiv, Nat.reduceEqDiff, Nat.reduceLT, Nat.reduceLeDiff, reduceCtorEq, Int.reduceEq, Int.reduceNe, Int.reduceLT, Int.reduceLE, Int.reduceAdd, Int.reduceSub, Int.reduceMul, Int.reduceNeg, Int.reduceToNat, Int.cast_ofNat_Int, Int.natCast_zero, Int.natCast_one, Int.toNat_natCast, Nat.reduceBEq, nzs]
  refine CallK.pure ⟨rfl, rfl⟩ rfl (mul64 y M hy) ?_
  simp only [shs, zts, sos, sls, zss, eqs, sx, sb1, sb2, sb3, sb4, sb5, sb6, sb7, ↓reduceIte, Nat.reduceAdd, Nat.reduceMul, Nat.reduceDiv, Nat.reduceEqDiff, Nat.reduceLT, Nat.reduceLeDiff, reduceCtorEq, Int.reduceEq, Int.reduceNe, Int.reduceLT, Int.reduceLE, Int.reduceAdd, Int.reduceSub, Int.reduceMul, Int.reduceNeg, Int.reduceToNat, Int.cast_ofNat_Int, Int.natCast_zero, Int.natCast_one, Int.toNat_natCast, Nat.reduceBEq, nzs]
theorem repeat0 (k : Nat) (M : Mem) (hk : k ≤ 64) :
    Meets Proofs.Tryd.prog 29 [.v (.string ⟨[48].toArray⟩), .v (.int .i64 (k : Int))] M fun r _ _ => r = .v (.string ⟨(List.replicate k 48).toArray⟩) := by
  refine Meets.of_body [0,1,4,5,6,7,8,9,10,11,12,14,18,34,40,42,43,49,58,67,76,85,96,104,113] Proofs.Tryd.func29 rfl (by kernel_rfl) rfl fun w => ?_
  by_cases h0 : k = 0
  · subst h0
    simp only [Proofs.Tryd.f29, shs, zts, sos, sls, zss, eqs, sx, sb1, sb2, sb3, sb4, sb5, sb6, sb7, ↓reduceIte, Nat.reduceAdd, Nat.reduceMul, Nat.reduceDiv, Nat.reduceEqDiff, Nat.reduceLT, Nat.reduceLeDiff, reduceCtorEq, Int.reduceEq, Int.reduceNe, Int.reduceLT, Int.reduceLE, Int.reduceAdd, Int.reduceSub, Int.reduceMul, Int.reduceNeg, Int.reduceToNat, Int.cast_ofNat_Int, Int.natCast_zero, Int.natCast_one, Int.toNat_natCast, Nat.reduceBEq, nzs]
    rfl
  by_cases h1 : k = 1
  · subst h1
    simp only [Proofs.Tryd.f29, shs, zts, sos, sls, zss, eqs, sx, sb1, sb2, sb3, sb4, sb5, sb6, sb7, ↓reduceIte, Nat.reduceAdd, Nat.reduceMul, Nat.reduceDiv, Nat.reduceEqDiff, Nat.reduceLT, Nat.reduceLeDiff, reduceCtorEq, Int.reduceEq, Int.reduceNe, Int.reduceLT, Int.reduceLE, Int.reduceAdd, Int.reduceSub, Int.reduceMul, Int.reduceNeg, Int.reduceToNat, Int.cast_ofNat_Int, Int.natCast_zero, Int.natCast_one, Int.toNat_natCast, Nat.reduceBEq, nzs]
    rfl
  have c0 : ((k : Int) = 0) = False := eq_false (by omega)
  have c1 : ((k : Int) = 1) = False := eq_false (by omega)
  have c2 : ((k : Int) < 0) = False := eq_false (by omega)
  have w1 : IntKind.u64.wrap 1 = 1 := rfl
  simp only [Proofs.Tryd.f29, shs, zts, sos, sls, zss, eqs, sx, sb1, sb2, sb3, sb4, sb5, sb6, sb7, ↓reduceIte, Nat.reduceAdd, Nat.reduceMul, Nat.reduceDiv, Nat.reduceEqDiff, Nat.reduceLT, Nat.reduceLeDiff, reduceCtorEq, Int.reduceEq, Int.reduceNe, Int.reduceLT, Int.reduceLE, Int.reduceAdd, Int.reduceSub, Int.reduceMul, Int.reduceNeg, Int.reduceToNat, Int.cast_ofNat_Int, Int.natCast_zero, Int.natCast_one, Int.toNat_natCast, Nat.reduceBEq, nzs, c0, c1, c2, w1, uw (show k < 18446744073709551616 by omega)]
  refine CallK.pure ⟨rfl, rfl⟩ rfl (mul k M (by omega)) ?_
  have c3 : (9223372036854775807 < (k : Int)) = False := eq_false (by omega)
  have c4 : ((k : Int) ≤ 128) = True := eq_true (by omega)
  have c5 : strIx [48] 0 = 48 := rfl
  simp only [shs, zts, sos, sls, zss, eqs, sx, sb1, sb2, sb3, sb4, sb5, sb6, sb7, ↓reduceIte, Nat.reduceAdd, Nat.reduceMul, Nat.reduceDiv, Nat.reduceEqDiff, Nat.reduceLT, Nat.reduceLeDiff, reduceCtorEq, Int.reduceEq, Int.reduceNe, Int.reduceLT, Int.reduceLE, Int.reduceAdd, Int.reduceSub, Int.reduceMul, Int.reduceNeg, Int.reduceToNat, Int.cast_ofNat_Int, Int.natCast_zero, Int.natCast_one, Int.toNat_natCast, Nat.reduceBEq, nzs, c3, c4, c5, iw (show k < 9223372036854775808 by omega)]
  refine CallK.pure ⟨rfl, rfl⟩ rfl (hasPrefixB _ [48] false M (by decide) (by decide) (by decide)) ?_
  simp only [shs, zts, sos, sls, zss, eqs, sx, sb1, sb2, sb3, sb4, sb5, sb6, sb7, ↓reduceIte, Nat.reduceAdd, Nat.reduceMul, Nat.reduceDiv, Nat.reduceEqDiff, Nat.reduceLT, Nat.reduceLeDiff, reduceCtorEq, Int.reduceEq, Int.reduceNe, Int.reduceLT, Int.reduceLE, Int.reduceAdd, Int.reduceSub, Int.reduceMul, Int.reduceNeg, Int.reduceToNat, Int.cast_ofNat_Int, Int.natCast_zero, Int.natCast_one, Int.toNat_natCast, Nat.reduceBEq, nzs, c3, c4, c5]
  refine CallK.pure ⟨rfl, rfl⟩ rfl (hasPrefixB _ [48] false M (by decide) (by decide) (by decide)) ?_
  have c6 : ((k : Int) ≤ 64) = True := eq_true (by omega)
  simp only [shs, zts, sos, sls, zss, eqs, sx, sb1, sb2, sb3, sb4, sb5, sb6, sb7, ↓reduceIte, Nat.reduceAdd, Nat.reduceMul, Nat.reduceDiv, Nat.reduceEqDiff, Nat.reduceLT, Nat.reduceLeDiff, reduceCtorEq, Int.reduceEq, Int.reduceNe, Int.reduceLT, Int.reduceLE, Int.reduceAdd, Int.reduceSub, Int.reduceMul, Int.reduceNeg, Int.reduceToNat, Int.cast_ofNat_Int, Int.natCast_zero, Int.natCast_one, Int.toNat_natCast, Nat.reduceBEq, nzs, c3, c4, c5, c6]
  refine CallK.pure ⟨rfl, rfl⟩ rfl (hasPrefixB _ [48] true M (by decide) (by decide) (by decide)) ?_
  simp only [shs, zts, sos, sls, zss, eqs, sx, sb1, sb2, sb3, sb4, sb5, sb6, sb7, ↓reduceIte, Nat.reduceAdd, Nat.reduceMul, Nat.reduceDiv, Nat.reduceEqDiff, Nat.reduceLT, Nat.reduceLeDiff, reduceCtorEq, Int.reduceEq, Int.reduceNe, Int.reduceLT, Int.reduceLE, Int.reduceAdd, Int.reduceSub, Int.reduceMul, Int.reduceNeg, Int.reduceToNat, Int.cast_ofNat_Int, Int.natCast_zero, Int.natCast_one, Int.toNat_natCast, Nat.reduceBEq, nzs, c3, c4, c5, c6]
  refine ⟨by omega, ?_⟩
  have e : (List.replicate 64 (48 : UInt8)).take (k - 0) = List.replicate k 48 := by
    rw [List.take_replicate, Nat.sub_zero, Nat.min_eq_left hk]
  exact congrArg (fun l : List UInt8 => SV.v (Value.string ⟨l.toArray⟩)) e
theorem trimLB (s : List UInt8) (M : Mem) (hs : s.length ≤ 9223372036854775807) :
    Meets Proofs.Tryd.prog 62 [.v (.string ⟨s.toArray⟩), .v (.int .u8 48)] M fun r _ _ => r = .v (.string ⟨(s.dropWhile (· == 48)).toArray⟩) := by
  refine Meets.of_body [0,1,4,13] Proofs.Tryd.func62 rfl (by kernel_rfl) rfl fun w => ?_
  generalize hc : s.dropWhile (· == 48) = c
  simp only [Proofs.Tryd.f62, shs, zts, sos, sls, zss, eqs, sx, sb1, sb2, sb3, sb4, sb5, sb6, sb7, ↓reduceIte, Nat.reduceAdd, Nat.reduceMul, Nat.reduceDiv, Nat.reduceEqDiff, Nat.reduceLT, Nat.reduceLeDiff, reduceCtorEq, Int.reduceEq, Int.reduceNe, Int.reduceLT, Int.reduceLE, Int.reduceAdd, Int.reduceSub, Int.reduceMul, Int.reduceNeg, Int.reduceToNat, Int.cast_ofNat_Int, Int.natCast_zero, Int.natCast_one, Int.toNat_natCast, Nat.reduceBEq, nzs]
  refine LoopK.go (X := List UInt8) (fun t => ([(0, true, .v (.string ⟨t.toArray⟩)), (1, true, .v (.int .u8 48))], [], M))
    (fun t => t.length ≤ 9223372036854775807 ∧ t.dropWhile (· == 48) = c) (fun t => t.length) s ⟨hs, hc⟩ (Ent.of ?_) ?_
  · simp only [sx, sb1, sb2, sb3, sb4, sb5, sb6, sb7, ↓reduceIte, Nat.reduceAdd, Nat.reduceMul, Nat.reduceDiv, Nat.reduceEqDiff, Nat.reduceLT, Nat.reduceLeDiff, reduceCtorEq, Int.reduceEq, Int.reduceNe, Int.reduceLT, Int.reduceLE, Int.reduceAdd, Int.reduceSub, Int.reduceMul, Int.reduceNeg, Int.reduceToNat, Int.cast_ofNat_Int, Int.natCast_zero, Int.natCast_one, Int.toNat_natCast, Nat.reduceBEq]
  rintro t ⟨ht, h2⟩
  simp only [shs, zts, sos, sls, zss, eqs, sx, sb1, sb2, sb3, sb4, sb5, sb6, sb7, ↓reduceIte, Nat.reduceAdd, Nat.reduceMul, Nat.reduceDiv, Nat.reduceEqDiff, Nat.reduceLT, Nat.reduceLeDiff, reduceCtorEq, Int.reduceEq, Int.reduceNe, Int.reduceLT, Int.reduceLE, Int.reduceAdd, Int.reduceSub, Int.reduceMul, Int.reduceNeg, Int.reduceToNat, Int.cast_ofNat_Int, Int.natCast_zero, Int.natCast_one, Int.toNat_natCast, Nat.reduceBEq, nzs]
  refine ⟨fun h => ⟨⟨by omega, Int.le_refl _⟩, t.tail, ⟨⟨by rw [List.length_tail]; omega, ?_⟩, by rw [List.length_tail]; omega⟩, Ent.of ?_⟩, fun h => ?_⟩
  · cases t with
    | nil => simp at h
    | cons x t =>
      have hx : x = 48 := by
        have := h.2
        unfold strIx at this
        simp only [Int.toNat_zero, List.getD_cons_zero] at this
        exact UInt8.toNat_inj.1 (by simpa using (Int.ofNat_inj.1 this))
      subst hx
      simpa [List.dropWhile] using h2
  · have e : (t.drop 1).take (t.length - 1) = t.tail := by rw [List.drop_one]; exact List.take_of_length_le (by simp)
    simp only [sx, sb1, sb2, sb3, sb4, sb5, sb6, sb7, ↓reduceIte, Nat.reduceAdd, Nat.reduceMul, Nat.reduceDiv, Nat.reduceEqDiff, Nat.reduceLT, Nat.reduceLeDiff, reduceCtorEq, Int.reduceEq, Int.reduceNe, Int.reduceLT, Int.reduceLE, Int.reduceAdd, Int.reduceSub, Int.reduceMul, Int.reduceNeg, Int.reduceToNat, Int.cast_ofNat_Int, Int.natCast_zero, Int.natCast_one, Int.toNat_natCast, Nat.reduceBEq, e]
  · cases t with
    | nil => subst h2; rfl
    | cons x t =>
      have hx : ¬ x = 48 := by
        intro hx
        refine h (by simp) ?_
        subst hx
        rfl
      have hx' : (x == 48) = false := by simpa using hx
      have : ((x :: t).dropWhile (· == 48)) = x :: t := by simp only [List.dropWhile, hx']
      rw [← h2, this]
theorem trimL0 (s : List UInt8) (M : Mem) (hs : s.length ≤ 9223372036854775807) :
    Meets Proofs.Tryd.prog 76 [.v (.string ⟨s.toArray⟩), .v (.string ⟨[48].toArray⟩)] M fun r _ _ => r = .v (.string ⟨(s.dropWhile (· == 48)).toArray⟩) := by
  refine Meets.of_body [0,1,4,5,6,12,21,31] Proofs.Tryd.func76 rfl (by kernel_rfl) rfl fun w => ?_
  have c5 : strIx [48] 0 = 48 := rfl
  by_cases h0 : s = []
  · subst h0
    simp only [Proofs.Tryd.f76, shs, zts, sos, sls, zss, eqs, sx, sb1, sb2, sb3, sb4, sb5, sb6, sb7, ↓reduceIte, Nat.reduceAdd, Nat.reduceMul, Nat.reduceDiv, Nat.reduceEqDiff, Nat.reduceLT, Nat.reduceLeDiff, reduceCtorEq, Int.reduceEq, Int.reduceNe, Int.reduceLT, Int.reduceLE, Int.reduceAdd, Int.reduceSub, Int.reduceMul, Int.reduceNeg, Int.reduceToNat, Int.cast_ofNat_Int, Int.natCast_zero, Int.natCast_one, Int.toNat_natCast, Nat.reduceBEq, nzs, c5]
    rfl
  have c0 : (s = []) = False := eq_false h0
  simp only [Proofs.Tryd.f76, shs, zts, sos, sls, zss, eqs, sx, sb1, sb2, sb3, sb4, sb5, sb6, sb7, ↓reduceIte, Nat.reduceAdd, Nat.reduceMul, Nat.reduceDiv, Nat.reduceEqDiff, Nat.reduceLT, Nat.reduceLeDiff, reduceCtorEq, Int.reduceEq, Int.reduceNe, Int.reduceLT, Int.reduceLE, Int.reduceAdd, Int.reduceSub, Int.reduceMul, Int.reduceNeg, Int.reduceToNat, Int.cast_ofNat_Int, Int.natCast_zero, Int.natCast_one, Int.toNat_natCast, Nat.reduceBEq, nzs, c5, c0]
  refine CallK.pure ⟨rfl, rfl⟩ rfl (trimLB s M hs) ?_
  simp only [shs, zts, sos, sls, zss, eqs, sx, sb1, sb2, sb3, sb4, sb5, sb6, sb7, ↓reduceIte, Nat.reduceAdd, Nat.reduceMul, Nat.reduceDiv, Nat.reduceEqDiff, Nat.reduceLT, Nat.reduceLeDiff, reduceCtorEq, Int.reduceEq, Int.reduceNe, Int.reduceLT, Int.reduceLE, Int.reduceAdd, Int.reduceSub, Int.reduceMul, Int.reduceNeg, Int.reduceToNat, Int.cast_ofNat_Int, Int.natCast_zero, Int.natCast_one, Int.toNat_natCast, Nat.reduceBEq, nzs]
end Go.X.St
