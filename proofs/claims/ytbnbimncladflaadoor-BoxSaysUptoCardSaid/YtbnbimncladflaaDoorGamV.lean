/- Gamma codes: what the functions of package gamma and woolref return. Conditions: none. -/
import Derived.Test.YtbnbimncladflaaDoorGam
set_option linter.unusedSimpArgs false
set_option linter.unusedVariables false
set_option maxHeartbeats 4000000
set_option maxRecDepth 20000
namespace Go.X.Gm
open Go Go.X Go.RowKit Go.X.Pl Go.X.St Go.X.Pol

theorem lenW (x : Nat) (M : Mem) (hx : x < 18446744073709551616) :
    Meets Proofs.Tryd.prog 61 [.v (.int .u64 (x : Int))] M fun r _ _ => r = .v (.int .i64 ((sz x : Nat) : Int)) := by
  refine Meets.of_body [0,2] Proofs.Tryd.func61 rfl (by kernel_rfl) rfl fun w => ?_
  simp only [Proofs.Tryd.f61, shs, zts, sos, sls, zss, eqs, sx, sb1, sb2, sb3, sb4, sb5, sb6, sb7, ↓reduceIte, Nat.reduceAdd, Nat.reduceMul, Nat.reduceDiv, Nat.reduceEqDiff, Nat.reduceLT, Nat.reduceLeDiff, reduceCtorEq, Int.reduceEq, Int.reduceNe, Int.reduceLT, Int.reduceLE, Int.reduceAdd, Int.reduceSub, Int.reduceMul, Int.reduceNeg, Int.reduceToNat, Int.cast_ofNat_Int, Int.natCast_zero, Int.natCast_one, Int.toNat_natCast, Nat.reduceBEq, nzs, uw hx]
  refine CallK.pure ⟨rfl, rfl⟩ rfl (len64 x M hx) ?_
  simp only [shs, zts, sos, sls, zss, eqs, sx, sb1, sb2, sb3, sb4, sb5, sb6, sb7, ↓reduceIte, Nat.reduceAdd, Nat.reduceMul, Nat.reduceDiv, Nat.reduceEqDiff, Nat.reduceLT, Nat.reduceLeDiff, reduceCtorEq, Int.reduceEq, Int.reduceNe, Int.reduceLT, Int.reduceLE, Int.reduceAdd, Int.reduceSub, Int.reduceMul, Int.reduceNeg, Int.reduceToNat, Int.cast_ofNat_Int, Int.natCast_zero, Int.natCast_one, Int.toNat_natCast, Nat.reduceBEq, nzs]

def zs (k : Nat) : List UInt8 := List.replicate k 48
def plainS (n : Nat) : List UInt8 := zs (sz n - 1) ++ low n (sz n)
def deltaS (n : Nat) : List UInt8 := plainS (sz n) ++ low n (sz n - 1)
theorem zs_len (k : Nat) : (zs k).length = k := List.length_replicate
theorem sz31 {n : Nat} (h : n ≤ 2147483647) : sz n ≤ 31 := sz_le.2 (by omega)
theorem plainW (n : Nat) (M : Mem) (h0 : n ≠ 0) (hn : n ≤ 2147483647) :
    Meets Proofs.Tryd.prog 49 [.v (.int .i64 (n : Int))] M fun r _ _ => r = .v (.string ⟨(plainS n).toArray⟩) := by
  refine Meets.of_body [0,2,3] Proofs.Tryd.func49 rfl (by kernel_rfl) rfl fun w => ?_
  have h1 := sz31 hn
  have h2 := sz_pos.2 h0
  have e1 : ((sz n : Nat) : Int) - 1 = ((sz n - 1 : Nat) : Int) := by omega
  simp only [Proofs.Tryd.f49, shs, zts, sos, sls, zss, eqs, sx, sb1, sb2, sb3, sb4, sb5, sb6, sb7, ↓reduceIte, Nat.reduceAdd, Nat.reduceMul, Nat.reduceDiv, Nat.reduceEqDiff, Nat.reduceLT, Nat.reduceLeDiff, reduceCtorEq, Int.reduceEq, Int.reduceNe, Int.reduceLT, Int.reduceLE, Int.reduceAdd, Int.reduceSub, Int.reduceMul, Int.reduceNeg, Int.reduceToNat, Int.cast_ofNat_Int, Int.natCast_zero, Int.natCast_one, Int.toNat_natCast, Nat.reduceBEq, nzs, uw (show n < 18446744073709551616 by omega)]
  refine CallK.pure ⟨rfl, rfl⟩ rfl (lenW n M (by omega)) ?_
  simp only [shs, zts, sos, sls, zss, eqs, sx, sb1, sb2, sb3, sb4, sb5, sb6, sb7, ↓reduceIte, Nat.reduceAdd, Nat.reduceMul, Nat.reduceDiv, Nat.reduceEqDiff, Nat.reduceLT, Nat.reduceLeDiff, reduceCtorEq, Int.reduceEq, Int.reduceNe, Int.reduceLT, Int.reduceLE, Int.reduceAdd, Int.reduceSub, Int.reduceMul, Int.reduceNeg, Int.reduceToNat, Int.cast_ofNat_Int, Int.natCast_zero, Int.natCast_one, Int.toNat_natCast, Nat.reduceBEq, nzs, e1, inK, lo, hi]
  refine ⟨by omega, CallK.pure ⟨rfl, rfl⟩ rfl (repeat0 (sz n - 1) M (by omega)) ?_⟩
  simp only [shs, zts, sos, sls, zss, eqs, sx, sb1, sb2, sb3, sb4, sb5, sb6, sb7, ↓reduceIte, Nat.reduceAdd, Nat.reduceMul, Nat.reduceDiv, Nat.reduceEqDiff, Nat.reduceLT, Nat.reduceLeDiff, reduceCtorEq, Int.reduceEq, Int.reduceNe, Int.reduceLT, Int.reduceLE, Int.reduceAdd, Int.reduceSub, Int.reduceMul, Int.reduceNeg, Int.reduceToNat, Int.cast_ofNat_Int, Int.natCast_zero, Int.natCast_one, Int.toNat_natCast, Nat.reduceBEq, nzs]
  refine CallK.pure ⟨rfl, rfl⟩ rfl (lowW n (sz n) M (by omega) (by omega)) ?_
  simp only [shs, zts, sos, sls, zss, eqs, sx, sb1, sb2, sb3, sb4, sb5, sb6, sb7, ↓reduceIte, Nat.reduceAdd, Nat.reduceMul, Nat.reduceDiv, Nat.reduceEqDiff, Nat.reduceLT, Nat.reduceLeDiff, reduceCtorEq, Int.reduceEq, Int.reduceNe, Int.reduceLT, Int.reduceLE, Int.reduceAdd, Int.reduceSub, Int.reduceMul, Int.reduceNeg, Int.reduceToNat, Int.cast_ofNat_Int, Int.natCast_zero, Int.natCast_one, Int.toNat_natCast, Nat.reduceBEq, nzs, inK, lo, hi, List.length_replicate, low_len]
  refine ⟨by omega, rfl⟩
def gamE (n : Int) : Int := if n < 1 ∨ 2147483647 < n then 1 else 0
theorem gammaW (n : Int) (M : Mem) :
    Meets Proofs.Tryd.prog 34 [.v (.int .i64 n)] M fun r _ _ => r = .tup [.v (.string ⟨(if gamE n = 0 then plainS n.toNat else []).toArray⟩), .v (.int .i64 (gamE n))] := by
  refine Meets.of_body [0,2,3,9] Proofs.Tryd.func34 rfl (by kernel_rfl) rfl fun w => ?_
  by_cases h1 : n < 1
  · have c1 : (n < 1) = True := eq_true h1
    have hE : gamE n = 1 := by unfold gamE; rw [if_pos (.inl h1)]
    simp only [Proofs.Tryd.f34, shs, zts, sos, sls, zss, eqs, sx, sb1, sb2, sb3, sb4, sb5, sb6, sb7, ↓reduceIte, Nat.reduceAdd, Nat.reduceMul, Nat.reduceDiv, Nat.reduceEqDiff, Nat.reduceLT, Nat.reduceLeDiff, reduceCtorEq, Int.reduceEq, Int.reduceNe, Int.reduceLT, Int.reduceLE, Int.reduceAdd, Int.reduceSub, Int.reduceMul, Int.reduceNeg, Int.reduceToNat, Int.cast_ofNat_Int, Int.natCast_zero, Int.natCast_one, Int.toNat_natCast, Nat.reduceBEq, nzs, c1, hE]
  have c1 : (n < 1) = False := eq_false h1
  by_cases h2 : 2147483647 < n
  · have c2 : (2147483647 < n) = True := eq_true h2
    have hE : gamE n = 1 := by unfold gamE; rw [if_pos (.inr h2)]
    simp only [Proofs.Tryd.f34, shs, zts, sos, sls, zss, eqs, sx, sb1, sb2, sb3, sb4, sb5, sb6, sb7, ↓reduceIte, Nat.reduceAdd, Nat.reduceMul, Nat.reduceDiv, Nat.reduceEqDiff, Nat.reduceLT, Nat.reduceLeDiff, reduceCtorEq, Int.reduceEq, Int.reduceNe, Int.reduceLT, Int.reduceLE, Int.reduceAdd, Int.reduceSub, Int.reduceMul, Int.reduceNeg, Int.reduceToNat, Int.cast_ofNat_Int, Int.natCast_zero, Int.natCast_one, Int.toNat_natCast, Nat.reduceBEq, nzs, c1, c2, hE]
  have c2 : (2147483647 < n) = False := eq_false h2
  have hE : gamE n = 0 := by unfold gamE; rw [if_neg (by omega)]
  obtain ⟨m, rfl⟩ : ∃ m : Nat, n = m := ⟨n.toNat, by omega⟩
  simp only [Proofs.Tryd.f34, shs, zts, sos, sls, zss, eqs, sx, sb1, sb2, sb3, sb4, sb5, sb6, sb7, ↓reduceIte, Nat.reduceAdd, Nat.reduceMul, Nat.reduceDiv, Nat.reduceEqDiff, Nat.reduceLT, Nat.reduceLeDiff, reduceCtorEq, Int.reduceEq, Int.reduceNe, Int.reduceLT, Int.reduceLE, Int.reduceAdd, Int.reduceSub, Int.reduceMul, Int.reduceNeg, Int.reduceToNat, Int.cast_ofNat_Int, Int.natCast_zero, Int.natCast_one, Int.toNat_natCast, Nat.reduceBEq, nzs, c1, c2, hE]
  refine CallK.pure ⟨rfl, rfl⟩ rfl (plainW m M (by omega) (by omega)) ?_
  simp only [shs, zts, sos, sls, zss, eqs, sx, sb1, sb2, sb3, sb4, sb5, sb6, sb7, ↓reduceIte, Nat.reduceAdd, Nat.reduceMul, Nat.reduceDiv, Nat.reduceEqDiff, Nat.reduceLT, Nat.reduceLeDiff, reduceCtorEq, Int.reduceEq, Int.reduceNe, Int.reduceLT, Int.reduceLE, Int.reduceAdd, Int.reduceSub, Int.reduceMul, Int.reduceNeg, Int.reduceToNat, Int.cast_ofNat_Int, Int.natCast_zero, Int.natCast_one, Int.toNat_natCast, Nat.reduceBEq, nzs]
theorem rgammaW (n : Nat) (M : Mem) (h0 : n ≠ 0) (hn : n ≤ 2147483647) :
    Meets Proofs.Tryd.prog 20 [.v (.int .i64 (n : Int))] M fun r _ _ => r = .v (.string ⟨(plainS n).toArray⟩) := by
  refine Meets.of_body [0,2,3] Proofs.Tryd.func20 rfl (by kernel_rfl) rfl fun w => ?_
  have h1 := sz31 hn
  have h2 := sz_pos.2 h0
  have e1 : ((sz n : Nat) : Int) - 1 = ((sz n - 1 : Nat) : Int) := by omega
  simp only [Proofs.Tryd.f20, shs, zts, sos, sls, zss, eqs, sx, sb1, sb2, sb3, sb4, sb5, sb6, sb7, ↓reduceIte, Nat.reduceAdd, Nat.reduceMul, Nat.reduceDiv, Nat.reduceEqDiff, Nat.reduceLT, Nat.reduceLeDiff, reduceCtorEq, Int.reduceEq, Int.reduceNe, Int.reduceLT, Int.reduceLE, Int.reduceAdd, Int.reduceSub, Int.reduceMul, Int.reduceNeg, Int.reduceToNat, Int.cast_ofNat_Int, Int.natCast_zero, Int.natCast_one, Int.toNat_natCast, Nat.reduceBEq, nzs]
  refine CallK.pure ⟨rfl, rfl⟩ rfl (digW n M (by omega)) ?_
  simp only [shs, zts, sos, sls, zss, eqs, sx, sb1, sb2, sb3, sb4, sb5, sb6, sb7, ↓reduceIte, Nat.reduceAdd, Nat.reduceMul, Nat.reduceDiv, Nat.reduceEqDiff, Nat.reduceLT, Nat.reduceLeDiff, reduceCtorEq, Int.reduceEq, Int.reduceNe, Int.reduceLT, Int.reduceLE, Int.reduceAdd, Int.reduceSub, Int.reduceMul, Int.reduceNeg, Int.reduceToNat, Int.cast_ofNat_Int, Int.natCast_zero, Int.natCast_one, Int.toNat_natCast, Nat.reduceBEq, nzs, e1, inK, lo, hi, low_len]
  refine ⟨by omega, CallK.pure ⟨rfl, rfl⟩ rfl (repeat0 (sz n - 1) M (by omega)) ?_⟩
  simp only [shs, zts, sos, sls, zss, eqs, sx, sb1, sb2, sb3, sb4, sb5, sb6, sb7, ↓reduceIte, Nat.reduceAdd, Nat.reduceMul, Nat.reduceDiv, Nat.reduceEqDiff, Nat.reduceLT, Nat.reduceLeDiff, reduceCtorEq, Int.reduceEq, Int.reduceNe, Int.reduceLT, Int.reduceLE, Int.reduceAdd, Int.reduceSub, Int.reduceMul, Int.reduceNeg, Int.reduceToNat, Int.cast_ofNat_Int, Int.natCast_zero, Int.natCast_one, Int.toNat_natCast, Nat.reduceBEq, nzs, inK, lo, hi, List.length_replicate, low_len]
  refine ⟨by omega, rfl⟩
theorem low_tail (n k : Nat) : (low n (k + 1)).drop 1 = low n k := by rw [low, List.drop_one, List.tail_cons]
def bitB (b : UInt8) : Bool := b == 48 || b == 49
theorem strIx_at {s : List UInt8} {i : Nat} {b : UInt8} (h : s[i]? = some b) : strIx s (i : Int) = ((b.toNat : Nat) : Int) := by
  unfold strIx
  rw [Int.toNat_natCast, List.getD_eq_getElem?_getD, h]
  rfl
theorem orwi {x y : Nat} (hx : x < 9223372036854775808) (hy : y < 9223372036854775808) : orV .i64 (x : Int) (y : Int) = ((x ||| y : Nat) : Int) := by
  unfold orV
  show IntKind.i64.wrap ((BitVec.ofInt 64 (x : Int) ||| BitVec.ofInt 64 (y : Int)).toNat : Int) = _
  rw [BitVec.toNat_or, toNat_ofInt 64 (x : Int) (by omega) (by omega), toNat_ofInt 64 (y : Int) (by omega) (by omega), Int.toNat_natCast, Int.toNat_natCast]
  have h := Nat.or_lt_two_pow (n := 63) (x := x) (y := y) (by omega) (by omega)
  exact iw (by omega)
theorem eq48 (b : UInt8) : (((b.toNat : Nat) : Int) = 48) = (b = 48) := by
  refine propext ⟨fun h => ?_, fun h => by rw [h]; rfl⟩
  exact UInt8.toNat_inj.1 (by simpa using (Int.ofNat_inj.1 h))
theorem eq49 (b : UInt8) : (((b.toNat : Nat) : Int) = 49) = (b = 49) := by
  refine propext ⟨fun h => ?_, fun h => by rw [h]; rfl⟩
  exact UInt8.toNat_inj.1 (by simpa using (Int.ofNat_inj.1 h))
theorem rbitsW (s : List UInt8) (M : Mem) (hs : s.length ≤ 9223372036854775807) :
    Meets Proofs.Tryd.prog 26 [.v (.string ⟨s.toArray⟩)] M fun r _ _ => r = .v (.bool (s.all fun b => b == 48 || b == 49)) := by
  refine Meets.of_body [0,2,3,5,6,7,18] Proofs.Tryd.func26 rfl (by kernel_rfl) rfl fun w => ?_
  generalize hc : (s.all fun b => b == 48 || b == 49) = c
  simp only [Proofs.Tryd.f26, shs, zts, sos, sls, zss, eqs, sx, sb1, sb2, sb3, sb4, sb5, sb6, sb7, ↓reduceIte, Nat.reduceAdd, Nat.reduceMul, Nat.reduceDiv, Nat.reduceEqDiff, Nat.reduceLT, Nat.reduceLeDiff, reduceCtorEq, Int.reduceEq, Int.reduceNe, Int.reduceLT, Int.reduceLE, Int.reduceAdd, Int.reduceSub, Int.reduceMul, Int.reduceNeg, Int.reduceToNat, Int.cast_ofNat_Int, Int.natCast_zero, Int.natCast_one, Int.toNat_natCast, Nat.reduceBEq, nzs]
  refine LoopK.go (X := Nat × Nat) (fun x => ([(0, true, .v (.string ⟨s.toArray⟩)), (5, true, .v (.int .i64 s.length)), (6, true, .v (.int .i64 (x.2 : Int)))], [], M))
    (fun x => x.1 + x.2 = s.length ∧ ((s.drop x.2).all fun b => b == 48 || b == 49) = c) (fun x => x.1) (s.length, 0) ⟨rfl, hc⟩ (Ent.of ?_) ?_
  · simp only [sx, sb1, sb2, sb3, sb4, sb5, sb6, sb7, ↓reduceIte, Nat.reduceAdd, Nat.reduceMul, Nat.reduceDiv, Nat.reduceEqDiff, Nat.reduceLT, Nat.reduceLeDiff, reduceCtorEq, Int.reduceEq, Int.reduceNe, Int.reduceLT, Int.reduceLE, Int.reduceAdd, Int.reduceSub, Int.reduceMul, Int.reduceNeg, Int.reduceToNat, Int.cast_ofNat_Int, Int.natCast_zero, Int.natCast_one, Int.toNat_natCast, Nat.reduceBEq]
  rintro ⟨f, i⟩ ⟨h1, h3⟩
  simp only at h1 h3
  by_cases hil : i < s.length
  · have c1 : ((i : Int) < (s.length : Int)) = True := eq_true (by omega)
    obtain ⟨b, hb1, hd⟩ := l_drop_at (l := s) (i := i) hil
    have e1 := strIx_at hb1
    rw [hd, List.all_cons] at h3
    by_cases h48 : b = 48
    · have c2 : (b = 48) = True := eq_true h48
      subst h48
      simp only [shs, zts, sos, sls, zss, eqs, sx, sb1, sb2, sb3, sb4, sb5, sb6, sb7, ↓reduceIte, Nat.reduceAdd, Nat.reduceMul, Nat.reduceDiv, Nat.reduceEqDiff, Nat.reduceLT, Nat.reduceLeDiff, reduceCtorEq, Int.reduceEq, Int.reduceNe, Int.reduceLT, Int.reduceLE, Int.reduceAdd, Int.reduceSub, Int.reduceMul, Int.reduceNeg, Int.reduceToNat, Int.cast_ofNat_Int, Int.natCast_zero, Int.natCast_one, Int.toNat_natCast, Nat.reduceBEq, nzs, c1, e1, inK, lo, hi, eq48]
      refine ⟨by omega, by omega, (f - 1, i + 1), ⟨⟨by simp only; omega, by simpa using h3⟩, by simp only; omega⟩, Ent.of ?_⟩
      simp only [sx, sb1, sb2, sb3, sb4, sb5, sb6, sb7, ↓reduceIte, Nat.reduceAdd, Nat.reduceMul, Nat.reduceDiv, Nat.reduceEqDiff, Nat.reduceLT, Nat.reduceLeDiff, reduceCtorEq, Int.reduceEq, Int.reduceNe, Int.reduceLT, Int.reduceLE, Int.reduceAdd, Int.reduceSub, Int.reduceMul, Int.reduceNeg, Int.reduceToNat, Int.cast_ofNat_Int, Int.natCast_zero, Int.natCast_one, Int.toNat_natCast, Nat.reduceBEq, Int.natCast_add]
    have c2 : (b = 48) = False := eq_false h48
    by_cases h49 : b = 49
    · have c3 : (b = 49) = True := eq_true h49
      simp only [shs, zts, sos, sls, zss, eqs, sx, sb1, sb2, sb3, sb4, sb5, sb6, sb7, ↓reduceIte, Nat.reduceAdd, Nat.reduceMul, Nat.reduceDiv, Nat.reduceEqDiff, Nat.reduceLT, Nat.reduceLeDiff, reduceCtorEq, Int.reduceEq, Int.reduceNe, Int.reduceLT, Int.reduceLE, Int.reduceAdd, Int.reduceSub, Int.reduceMul, Int.reduceNeg, Int.reduceToNat, Int.cast_ofNat_Int, Int.natCast_zero, Int.natCast_one, Int.toNat_natCast, Nat.reduceBEq, nzs, c1, e1, inK, lo, hi, eq48, eq49, c2, c3]
      refine ⟨by omega, by omega, by omega, (f - 1, i + 1), ⟨⟨by simp only; omega, by simpa [h49] using h3⟩, by simp only; omega⟩, Ent.of ?_⟩
      simp only [sx, sb1, sb2, sb3, sb4, sb5, sb6, sb7, ↓reduceIte, Nat.reduceAdd, Nat.reduceMul, Nat.reduceDiv, Nat.reduceEqDiff, Nat.reduceLT, Nat.reduceLeDiff, reduceCtorEq, Int.reduceEq, Int.reduceNe, Int.reduceLT, Int.reduceLE, Int.reduceAdd, Int.reduceSub, Int.reduceMul, Int.reduceNeg, Int.reduceToNat, Int.cast_ofNat_Int, Int.natCast_zero, Int.natCast_one, Int.toNat_natCast, Nat.reduceBEq, Int.natCast_add]
    · have c3 : (b = 49) = False := eq_false h49
      simp only [shs, zts, sos, sls, zss, eqs, sx, sb1, sb2, sb3, sb4, sb5, sb6, sb7, ↓reduceIte, Nat.reduceAdd, Nat.reduceMul, Nat.reduceDiv, Nat.reduceEqDiff, Nat.reduceLT, Nat.reduceLeDiff, reduceCtorEq, Int.reduceEq, Int.reduceNe, Int.reduceLT, Int.reduceLE, Int.reduceAdd, Int.reduceSub, Int.reduceMul, Int.reduceNeg, Int.reduceToNat, Int.cast_ofNat_Int, Int.natCast_zero, Int.natCast_one, Int.toNat_natCast, Nat.reduceBEq, nzs, c1, e1, inK, lo, hi, eq48, eq49, c2, c3]
      refine ⟨by omega, by omega, ?_⟩
      rw [← h3]
      have e4 : (b == 48) = false := by simpa using h48
      have e5 : (b == 49) = false := by simpa using h49
      rw [e4, e5]
      rfl
  · have c1 : ((i : Int) < (s.length : Int)) = False := eq_false (by omega)
    rw [List.drop_eq_nil_of_le (by omega)] at h3
    simp only [shs, zts, sos, sls, zss, eqs, sx, sb1, sb2, sb3, sb4, sb5, sb6, sb7, ↓reduceIte, Nat.reduceAdd, Nat.reduceMul, Nat.reduceDiv, Nat.reduceEqDiff, Nat.reduceLT, Nat.reduceLeDiff, reduceCtorEq, Int.reduceEq, Int.reduceNe, Int.reduceLT, Int.reduceLE, Int.reduceAdd, Int.reduceSub, Int.reduceMul, Int.reduceNeg, Int.reduceToNat, Int.cast_ofNat_Int, Int.natCast_zero, Int.natCast_one, Int.toNat_natCast, Nat.reduceBEq, nzs, c1]
    rw [← h3]
    rfl

def zn (s : List UInt8) : Nat := (s.takeWhile (· == 48)).length
def rdG (s : List UInt8) : Int × Int × Int :=
  if (s.all fun b => b == 48 || b == 49) = false then (0, 0, 3) else if 30 < zn s then (0, 0, 2) else if s.length < 2 * zn s + 1 then (0, 0, 7) else ((val ((s.drop (zn s)).take (zn s + 1)) 0 : Int), ((2 * zn s + 1 : Nat) : Int), 0)
def tup3 (x : Int × Int × Int) : SV := .tup [.v (.int .i64 x.1), .v (.int .i64 x.2.1), .v (.int .i64 x.2.2)]
theorem all_of {s t : List UInt8} (h : (s.all fun b => b == 48 || b == 49) = true) (ht : ∀ b ∈ t, b ∈ s) : ∀ b ∈ t, b = 48 ∨ b = 49 := fun b hb => by
  have := List.all_eq_true.1 h b (ht b hb)
  simpa using this
theorem readGW (s : List UInt8) (M : Mem) (hs : s.length ≤ 9223372036854775807) :
    Meets Proofs.Tryd.prog 55 [.v (.string ⟨s.toArray⟩)] M fun r _ _ => r = tup3 (rdG s) := by
  refine Meets.of_body [0,2,3,4,5,8,12,18] Proofs.Tryd.func55 rfl (by kernel_rfl) rfl fun w => ?_
  generalize hc : rdG s = c
  unfold rdG at hc
  simp only [Proofs.Tryd.f55, shs, zts, sos, sls, zss, eqs, sx, sb1, sb2, sb3, sb4, sb5, sb6, sb7, ↓reduceIte, Nat.reduceAdd, Nat.reduceMul, Nat.reduceDiv, Nat.reduceEqDiff, Nat.reduceLT, Nat.reduceLeDiff, reduceCtorEq, Int.reduceEq, Int.reduceNe, Int.reduceLT, Int.reduceLE, Int.reduceAdd, Int.reduceSub, Int.reduceMul, Int.reduceNeg, Int.reduceToNat, Int.cast_ofNat_Int, Int.natCast_zero, Int.natCast_one, Int.toNat_natCast, Nat.reduceBEq, nzs]
  refine CallK.pure ⟨rfl, rfl⟩ rfl (bitsW s M hs) ?_
  cases hA : s.all fun b => b == 48 || b == 49 with
  | false =>
    rw [if_pos hA] at hc
    subst hc
    simp only [shs, zts, sos, sls, zss, eqs, sx, sb1, sb2, sb3, sb4, sb5, sb6, sb7, ↓reduceIte, Nat.reduceAdd, Nat.reduceMul, Nat.reduceDiv, Nat.reduceEqDiff, Nat.reduceLT, Nat.reduceLeDiff, reduceCtorEq, Int.reduceEq, Int.reduceNe, Int.reduceLT, Int.reduceLE, Int.reduceAdd, Int.reduceSub, Int.reduceMul, Int.reduceNeg, Int.reduceToNat, Int.cast_ofNat_Int, Int.natCast_zero, Int.natCast_one, Int.toNat_natCast, Nat.reduceBEq, nzs, tup3]
  | true =>
  rw [if_neg (by rw [hA]; decide)] at hc
  simp only [shs, zts, sos, sls, zss, eqs, sx, sb1, sb2, sb3, sb4, sb5, sb6, sb7, ↓reduceIte, Nat.reduceAdd, Nat.reduceMul, Nat.reduceDiv, Nat.reduceEqDiff, Nat.reduceLT, Nat.reduceLeDiff, reduceCtorEq, Int.reduceEq, Int.reduceNe, Int.reduceLT, Int.reduceLE, Int.reduceAdd, Int.reduceSub, Int.reduceMul, Int.reduceNeg, Int.reduceToNat, Int.cast_ofNat_Int, Int.natCast_zero, Int.natCast_one, Int.toNat_natCast, Nat.reduceBEq, nzs]
  refine CallK.pure ⟨rfl, rfl⟩ rfl (zerosW s M hs) ?_
  change (if 30 < zn s then _ else _) = c at hc
  have hz : (s.takeWhile (· == 48)).length = zn s := rfl
  rw [hz]
  generalize zn s = k at *
  by_cases h1 : 30 < k
  · rw [if_pos h1] at hc
    subst hc
    have c1 : (30 < (k : Int)) = True := eq_true (by omega)
    simp only [shs, zts, sos, sls, zss, eqs, sx, sb1, sb2, sb3, sb4, sb5, sb6, sb7, ↓reduceIte, Nat.reduceAdd, Nat.reduceMul, Nat.reduceDiv, Nat.reduceEqDiff, Nat.reduceLT, Nat.reduceLeDiff, reduceCtorEq, Int.reduceEq, Int.reduceNe, Int.reduceLT, Int.reduceLE, Int.reduceAdd, Int.reduceSub, Int.reduceMul, Int.reduceNeg, Int.reduceToNat, Int.cast_ofNat_Int, Int.natCast_zero, Int.natCast_one, Int.toNat_natCast, Nat.reduceBEq, nzs, tup3, c1]
  rw [if_neg h1] at hc
  have c1 : (30 < (k : Int)) = False := eq_false (by omega)
  by_cases h2 : s.length < 2 * k + 1
  · rw [if_pos h2] at hc
    subst hc
    have c2 : ((s.length : Int) < 2 * (k : Int) + 1) = True := eq_true (by omega)
    simp only [shs, zts, sos, sls, zss, eqs, sx, sb1, sb2, sb3, sb4, sb5, sb6, sb7, ↓reduceIte, Nat.reduceAdd, Nat.reduceMul, Nat.reduceDiv, Nat.reduceEqDiff, Nat.reduceLT, Nat.reduceLeDiff, reduceCtorEq, Int.reduceEq, Int.reduceNe, Int.reduceLT, Int.reduceLE, Int.reduceAdd, Int.reduceSub, Int.reduceMul, Int.reduceNeg, Int.reduceToNat, Int.cast_ofNat_Int, Int.natCast_zero, Int.natCast_one, Int.toNat_natCast, Nat.reduceBEq, nzs, tup3, c1, c2, inK, lo, hi]
    omega
  rw [if_neg h2] at hc
  subst hc
  have e1 : (2 * (k : Int) + 1) = ((2 * k + 1 : Nat) : Int) := by omega
  have c2 : ((s.length : Int) < ((2 * k + 1 : Nat) : Int)) = False := eq_false (by omega)
  have e3 : 2 * k + 1 - k = k + 1 := by omega
  simp only [shs, zts, sos, sls, zss, eqs, sx, sb1, sb2, sb3, sb4, sb5, sb6, sb7, ↓reduceIte, Nat.reduceAdd, Nat.reduceMul, Nat.reduceDiv, Nat.reduceEqDiff, Nat.reduceLT, Nat.reduceLeDiff, reduceCtorEq, Int.reduceEq, Int.reduceNe, Int.reduceLT, Int.reduceLE, Int.reduceAdd, Int.reduceSub, Int.reduceMul, Int.reduceNeg, Int.reduceToNat, Int.cast_ofNat_Int, Int.natCast_zero, Int.natCast_one, Int.toNat_natCast, Nat.reduceBEq, nzs, tup3, c1, c2, inK, lo, hi, e1, e3]
  refine ⟨by omega, by omega, by omega, by omega, by omega, CallK.pure ⟨rfl, rfl⟩ rfl (valW _ M (by rw [List.length_take]; omega) (all_of hA fun b hb => List.mem_of_mem_drop (List.mem_of_mem_take hb))) ?_⟩
  simp only [shs, zts, sos, sls, zss, eqs, sx, sb1, sb2, sb3, sb4, sb5, sb6, sb7, ↓reduceIte, Nat.reduceAdd, Nat.reduceMul, Nat.reduceDiv, Nat.reduceEqDiff, Nat.reduceLT, Nat.reduceLeDiff, reduceCtorEq, Int.reduceEq, Int.reduceNe, Int.reduceLT, Int.reduceLE, Int.reduceAdd, Int.reduceSub, Int.reduceMul, Int.reduceNeg, Int.reduceToNat, Int.cast_ofNat_Int, Int.natCast_zero, Int.natCast_one, Int.toNat_natCast, Nat.reduceBEq, nzs, inK, lo, hi, e1]
  exact ⟨by omega, by omega⟩

/-- what the codes' values are worth -/
theorem val_lt : ∀ {s : List UInt8} {n j : Nat}, (∀ b ∈ s, b = 48 ∨ b = 49) → n < 2 ^ j → val s n < 2 ^ (j + s.length)
  | [], n, j, _, h => h
  | b :: s, n, j, hb, h => by
    have h1 : b.toNat - 48 ≤ 1 := by rcases hb b List.mem_cons_self with rfl | rfl <;> decide
    have h2 : 2 ^ (j + 1) = 2 * 2 ^ j := by rw [Nat.pow_succ]; omega
    have := val_lt (s := s) (n := 2 * n + (b.toNat - 48)) (j := j + 1) (fun x hx => hb x (List.mem_cons_of_mem _ hx)) (by omega)
    rw [show j + (b :: s).length = j + 1 + s.length by rw [List.length_cons]; omega]
    exact this
theorem val_add : ∀ (s : List UInt8) (n : Nat), val s n = n * 2 ^ s.length + val s 0
  | [], n => by simp [val]
  | b :: s, n => by
    have h1 := val_add s (2 * n + (b.toNat - 48))
    have h2 := val_add s (2 * 0 + (b.toNat - 48))
    have e1 : val (b :: s) n = val s (2 * n + (b.toNat - 48)) := rfl
    have e2 : val (b :: s) 0 = val s (2 * 0 + (b.toNat - 48)) := rfl
    rw [e1, e2, h1, h2, List.length_cons, Nat.pow_succ, Nat.add_mul, Nat.mul_zero, Nat.zero_add, ← Nat.add_assoc]
    congr 1
    congr 1
    rw [Nat.mul_comm 2 n, Nat.mul_assoc, Nat.mul_comm 2]
theorem zn_le (s : List UInt8) : zn s ≤ s.length := by
  have : (s.takeWhile (· == 48)).length + (s.dropWhile (· == 48)).length = s.length := by
    rw [← List.length_append, List.takeWhile_append_dropWhile]
  unfold zn
  omega
theorem zn_next {s : List UInt8} {b : UInt8} (h : s[zn s]? = some b) : b ≠ 48 := by
  induction s with
  | nil => simp at h
  | cons x s ih =>
    unfold zn at h
    rw [List.takeWhile_cons] at h
    by_cases hx : x = 48
    · subst hx
      simp only [beq_self_eq_true, if_true, List.length_cons, List.getElem?_cons_succ] at h
      exact ih h
    · have hx' : (x == 48) = false := by simpa using hx
      simp only [hx', Bool.false_eq_true, if_false, List.length_nil, List.getElem?_cons_zero, Option.some.injEq] at h
      rw [← h]
      exact hx
theorem rdG_ok {s : List UInt8} (h : (rdG s).2.2 = 0) : (s.all fun b => b == 48 || b == 49) = true ∧ (zn s ≤ 30 ∧ 2 * zn s + 1 ≤ s.length) ∧ ∃ k : Nat, rdG s = ((k : Int), ((2 * zn s + 1 : Nat) : Int), 0) ∧ 1 ≤ k ∧ k < 2147483648 := by
  unfold rdG at h ⊢
  split at h
  · cases h
  · rename_i hA
    have hA' : (s.all fun b => b == 48 || b == 49) = true := by
      cases h : s.all fun b => b == 48 || b == 49 with
      | true => rfl
      | false => exact absurd h hA
    rw [if_neg hA]
    split at h
    · cases h
    · rename_i h1
      rw [if_neg h1]
      split at h
      · cases h
      · rename_i h2
        rw [if_neg h2]
        refine ⟨hA', ⟨by omega, by omega⟩, _, rfl, ?_⟩
        obtain ⟨b, hb, hd⟩ := l_drop_at (l := s) (i := zn s) (by omega)
        have hb49 : b = 49 := by
          rcases all_of hA' (t := [b]) (fun x hx => by rw [List.mem_singleton] at hx; subst hx; exact List.mem_of_getElem? hb) b (by simp) with h | h
          · exact absurd h (zn_next hb)
          · exact h
        subst hb49
        have hall : ∀ x ∈ (s.drop (zn s)).take (zn s + 1), x = 48 ∨ x = 49 := all_of hA' fun b hb => List.mem_of_mem_drop (List.mem_of_mem_take hb)
        have hlt := val_lt (n := 0) (j := 0) hall (by decide)
        rw [List.length_take, List.length_drop, Nat.min_eq_left (by omega), Nat.zero_add] at hlt
        have hp : 2 ^ (zn s + 1) ≤ 2 ^ 31 := Nat.pow_le_pow_right (by decide) (by omega)
        refine ⟨?_, by omega⟩
        rw [hd, List.take_succ_cons]
        show 1 ≤ val _ (2 * 0 + (49 - 48))
        rw [val_add]
        have := Nat.two_pow_pos ((s.drop (zn s + 1)).take (zn s)).length
        omega
def rdD (s : List UInt8) : Int × Int × Int :=
  if (rdG s).2.2 ≠ 0 then (0, 0, (rdG s).2.2) else if 31 < (rdG s).1 then (0, 0, 2) else if (s.length : Int) < (rdG s).2.1 + (rdG s).1 - 1 then (0, 0, 7) else
    ((val ((s.drop (rdG s).2.1.toNat).take ((rdG s).1.toNat - 1)) 1 : Int), (rdG s).2.1 + (rdG s).1 - 1, 0)
/-- the first zeros, by the reference's loop -/
theorem tw_zero {s : List UInt8} {b : UInt8} {i : Nat} (hd : s.drop i = b :: s.drop (i + 1)) (h : b ≠ 48) : ((s.drop i).takeWhile (· == 48)).length = 0 := by
  have hb : (b == 48) = false := by simpa using h
  rw [hd, List.takeWhile_cons, hb]
  rfl
theorem and1 {b : UInt8} (h : b = 48 ∨ b = 49) : b.toNat &&& 1 = b.toNat - 48 := by
  rcases h with rfl | rfl <;> rfl
theorem d48 {b : UInt8} (h : b = 48 ∨ b = 49) : b.toNat - 48 ≤ 1 := by
  rcases h with rfl | rfl <;> decide
theorem rgamW (s : List UInt8) (M : Mem) (hs : s.length ≤ 9223372036854775807) :
    Meets Proofs.Tryd.prog 27 [.v (.string ⟨s.toArray⟩)] M fun r _ _ => r = tup3 (rdG s) := by
  refine Meets.of_body [0,2,3,4,5,6,8,11,21,25,31,38,39,40,41] Proofs.Tryd.func27 rfl (by kernel_rfl) rfl fun w => ?_
  generalize hc : rdG s = c
  unfold rdG at hc
  simp only [Proofs.Tryd.f27, shs, zts, sos, sls, zss, eqs, sx, sb1, sb2, sb3, sb4, sb5, sb6, sb7, ↓reduceIte, Nat.reduceAdd, Nat.reduceMul, Nat.reduceDiv, Nat.reduceEqDiff, Nat.reduceLT, Nat.reduceLeDiff, reduceCtorEq, Int.reduceEq, Int.reduceNe, Int.reduceLT, Int.reduceLE, Int.reduceAdd, Int.reduceSub, Int.reduceMul, Int.reduceNeg, Int.reduceToNat, Int.cast_ofNat_Int, Int.natCast_zero, Int.natCast_one, Int.toNat_natCast, Nat.reduceBEq, nzs]
  refine CallK.pure ⟨rfl, rfl⟩ rfl (rbitsW s M hs) ?_
  cases hA : s.all fun b => b == 48 || b == 49 with
  | false =>
    rw [if_pos hA] at hc
    subst hc
    simp only [shs, zts, sos, sls, zss, eqs, sx, sb1, sb2, sb3, sb4, sb5, sb6, sb7, ↓reduceIte, Nat.reduceAdd, Nat.reduceMul, Nat.reduceDiv, Nat.reduceEqDiff, Nat.reduceLT, Nat.reduceLeDiff, reduceCtorEq, Int.reduceEq, Int.reduceNe, Int.reduceLT, Int.reduceLE, Int.reduceAdd, Int.reduceSub, Int.reduceMul, Int.reduceNeg, Int.reduceToNat, Int.cast_ofNat_Int, Int.natCast_zero, Int.natCast_one, Int.toNat_natCast, Nat.reduceBEq, nzs, tup3]
  | true =>
  rw [if_neg (by rw [hA]; decide)] at hc
  simp only [shs, zts, sos, sls, zss, eqs, sx, sb1, sb2, sb3, sb4, sb5, sb6, sb7, ↓reduceIte, Nat.reduceAdd, Nat.reduceMul, Nat.reduceDiv, Nat.reduceEqDiff, Nat.reduceLT, Nat.reduceLeDiff, reduceCtorEq, Int.reduceEq, Int.reduceNe, Int.reduceLT, Int.reduceLE, Int.reduceAdd, Int.reduceSub, Int.reduceMul, Int.reduceNeg, Int.reduceToNat, Int.cast_ofNat_Int, Int.natCast_zero, Int.natCast_one, Int.toNat_natCast, Nat.reduceBEq, nzs]
  have hzl := zn_le s
  refine LoopK.go (X := Nat) (fun x => ([(0, true, .v (.string ⟨s.toArray⟩)), (5, true, .v (.int .i64 (x : Int)))], [], M))
    (fun x => x + ((s.drop x).takeWhile (· == 48)).length = zn s) (fun x => s.length - x) 0 (by rw [List.drop_zero, Nat.zero_add]; rfl) (Ent.of ?_) ?_
  · simp only [sx, sb1, sb2, sb3, sb4, sb5, sb6, sb7, ↓reduceIte, Nat.reduceAdd, Nat.reduceMul, Nat.reduceDiv, Nat.reduceEqDiff, Nat.reduceLT, Nat.reduceLeDiff, reduceCtorEq, Int.reduceEq, Int.reduceNe, Int.reduceLT, Int.reduceLE, Int.reduceAdd, Int.reduceSub, Int.reduceMul, Int.reduceNeg, Int.reduceToNat, Int.cast_ofNat_Int, Int.natCast_zero, Int.natCast_one, Int.toNat_natCast, Nat.reduceBEq, Int.natCast_zero]
  rintro i h1
  by_cases hgo : i < zn s
  · obtain ⟨b, hb1, hd⟩ := l_drop_at (l := s) (i := i) (by omega)
    have hb48 : b = 48 := Classical.byContradiction fun h => by
      have := tw_zero hd h
      omega
    subst hb48
    have c1 : ((i : Int) < (s.length : Int)) = True := eq_true (by omega)
    have e1 := strIx_at hb1
    rw [hd, List.takeWhile_cons] at h1
    simp only [beq_self_eq_true, if_true, List.length_cons] at h1
    simp only [shs, zts, sos, sls, zss, eqs, sx, sb1, sb2, sb3, sb4, sb5, sb6, sb7, ↓reduceIte, Nat.reduceAdd, Nat.reduceMul, Nat.reduceDiv, Nat.reduceEqDiff, Nat.reduceLT, Nat.reduceLeDiff, reduceCtorEq, Int.reduceEq, Int.reduceNe, Int.reduceLT, Int.reduceLE, Int.reduceAdd, Int.reduceSub, Int.reduceMul, Int.reduceNeg, Int.reduceToNat, Int.cast_ofNat_Int, Int.natCast_zero, Int.natCast_one, Int.toNat_natCast, Nat.reduceBEq, nzs, c1, e1, eq48, inK, lo, hi]
    refine ⟨by omega, by omega, i + 1, ⟨by omega, by omega⟩, Ent.of ?_⟩
    simp only [sx, sb1, sb2, sb3, sb4, sb5, sb6, sb7, ↓reduceIte, Nat.reduceAdd, Nat.reduceMul, Nat.reduceDiv, Nat.reduceEqDiff, Nat.reduceLT, Nat.reduceLeDiff, reduceCtorEq, Int.reduceEq, Int.reduceNe, Int.reduceLT, Int.reduceLE, Int.reduceAdd, Int.reduceSub, Int.reduceMul, Int.reduceNeg, Int.reduceToNat, Int.cast_ofNat_Int, Int.natCast_zero, Int.natCast_one, Int.toNat_natCast, Nat.reduceBEq, Int.natCast_add]
  have hik : i = zn s := by omega
  subst hik
  have hstop : (zn s : Int) < (s.length : Int) → ¬ strIx s ((zn s : Nat) : Int) = 48 := fun h => by
    obtain ⟨b, hb1, hd⟩ := l_drop_at (l := s) (i := zn s) (by omega)
    rw [strIx_at hb1, eq48]
    exact zn_next hb1
  by_cases h1 : 30 < zn s
  · rw [if_pos h1] at hc
    subst hc
    have c1 : (31 ≤ (zn s : Int)) = True := eq_true (by omega)
    simp only [shs, zts, sos, sls, zss, eqs, sx, sb1, sb2, sb3, sb4, sb5, sb6, sb7, ↓reduceIte, Nat.reduceAdd, Nat.reduceMul, Nat.reduceDiv, Nat.reduceEqDiff, Nat.reduceLT, Nat.reduceLeDiff, reduceCtorEq, Int.reduceEq, Int.reduceNe, Int.reduceLT, Int.reduceLE, Int.reduceAdd, Int.reduceSub, Int.reduceMul, Int.reduceNeg, Int.reduceToNat, Int.cast_ofNat_Int, Int.natCast_zero, Int.natCast_one, Int.toNat_natCast, Nat.reduceBEq, nzs, tup3, c1]
    exact ⟨fun h => ⟨h, by omega, h⟩, fun h => absurd h.2 (hstop h.1)⟩
  rw [if_neg h1] at hc
  have c1 : (31 ≤ (zn s : Int)) = False := eq_false (by omega)
  have e1 : (2 * (zn s : Int) + 1) = ((2 * zn s + 1 : Nat) : Int) := by omega
  by_cases h2 : s.length < 2 * zn s + 1
  · rw [if_pos h2] at hc
    subst hc
    have c2 : ((s.length : Int) < ((2 * zn s + 1 : Nat) : Int)) = True := eq_true (by omega)
    simp only [shs, zts, sos, sls, zss, eqs, sx, sb1, sb2, sb3, sb4, sb5, sb6, sb7, ↓reduceIte, Nat.reduceAdd, Nat.reduceMul, Nat.reduceDiv, Nat.reduceEqDiff, Nat.reduceLT, Nat.reduceLeDiff, reduceCtorEq, Int.reduceEq, Int.reduceNe, Int.reduceLT, Int.reduceLE, Int.reduceAdd, Int.reduceSub, Int.reduceMul, Int.reduceNeg, Int.reduceToNat, Int.cast_ofNat_Int, Int.natCast_zero, Int.natCast_one, Int.toNat_natCast, Nat.reduceBEq, nzs, tup3, c1, c2, inK, lo, hi, e1]
    exact ⟨fun h => ⟨h, by omega, h⟩, fun h => absurd h.2 (hstop h.1), fun _ => ⟨by omega, by omega⟩⟩
  rw [if_neg h2] at hc
  have c2 : ((s.length : Int) < ((2 * zn s + 1 : Nat) : Int)) = False := eq_false (by omega)
  have e3 : 2 * zn s + 1 - zn s = zn s + 1 := by omega
  simp only [shs, zts, sos, sls, zss, eqs, sx, sb1, sb2, sb3, sb4, sb5, sb6, sb7, ↓reduceIte, Nat.reduceAdd, Nat.reduceMul, Nat.reduceDiv, Nat.reduceEqDiff, Nat.reduceLT, Nat.reduceLeDiff, reduceCtorEq, Int.reduceEq, Int.reduceNe, Int.reduceLT, Int.reduceLE, Int.reduceAdd, Int.reduceSub, Int.reduceMul, Int.reduceNeg, Int.reduceToNat, Int.cast_ofNat_Int, Int.natCast_zero, Int.natCast_one, Int.toNat_natCast, Nat.reduceBEq, nzs, c1, c2, inK, lo, hi, e1, e3]
  refine ⟨fun h => ⟨h, by omega, h⟩, fun h => absurd h.2 (hstop h.1), fun _ => ⟨by omega, by omega, by omega, by omega, by omega, ?_⟩⟩
  have hall : ∀ x ∈ (s.drop (zn s)).take (zn s + 1), x = 48 ∨ x = 49 := all_of hA fun b hb => List.mem_of_mem_drop (List.mem_of_mem_take hb)
  have htl : ((s.drop (zn s)).take (zn s + 1)).length = zn s + 1 := by rw [List.length_take, List.length_drop, Nat.min_eq_left (by omega)]
  subst hc
  generalize (s.drop (zn s)).take (zn s + 1) = t at *
  refine OpK.strBytes (e := 5) rfl rfl rfl (by kernel_rfl) (by kernel_rfl) (by kernel_rfl) rfl (by simp only [ByteArray.size, List.size_toArray]; omega) fun v M1 hM1 hv => ?_
  replace hv : RowM M1 v 1 (t.map encB) := hv
  simp only [shs, zts, sos, sls, zss, eqs, sx, sb1, sb2, sb3, sb4, sb5, sb6, sb7, ↓reduceIte, Nat.reduceAdd, Nat.reduceMul, Nat.reduceDiv, Nat.reduceEqDiff, Nat.reduceLT, Nat.reduceLeDiff, reduceCtorEq, Int.reduceEq, Int.reduceNe, Int.reduceLT, Int.reduceLE, Int.reduceAdd, Int.reduceSub, Int.reduceMul, Int.reduceNeg, Int.reduceToNat, Int.cast_ofNat_Int, Int.natCast_zero, Int.natCast_one, Int.toNat_natCast, Nat.reduceBEq, nzs, hv.len, hv.sl, List.length_map]
  have hzn : zn s ≤ 30 := by omega
  refine LoopK.go (X := Nat × Nat × Nat) (fun x => ([(0, true, .v (.string ⟨s.toArray⟩)), (5, true, .v (.int .i64 (zn s : Int))), (6, true, .v (.int .i64 (x.2.2 : Int))), (38, true, .v v), (39, true, .v (.int .i64 t.length)), (40, true, .v (.int .i64 (x.2.1 : Int)))], [], M1))
    (fun x => (x.1 + x.2.1 = t.length ∧ x.2.2 < 2 ^ x.2.1) ∧ val (t.drop x.2.1) x.2.2 = val t 0) (fun x => x.1) (t.length, 0, 0) ⟨⟨rfl, Nat.one_pos⟩, rfl⟩ (Ent.of ?_) ?_
  · simp only [sx, sb1, sb2, sb3, sb4, sb5, sb6, sb7, ↓reduceIte, Nat.reduceAdd, Nat.reduceMul, Nat.reduceDiv, Nat.reduceEqDiff, Nat.reduceLT, Nat.reduceLeDiff, reduceCtorEq, Int.reduceEq, Int.reduceNe, Int.reduceLT, Int.reduceLE, Int.reduceAdd, Int.reduceSub, Int.reduceMul, Int.reduceNeg, Int.reduceToNat, Int.cast_ofNat_Int, Int.natCast_zero, Int.natCast_one, Int.toNat_natCast, Nat.reduceBEq, Int.natCast_zero]
  rintro ⟨f, i, n⟩ ⟨⟨n1, n2⟩, n3⟩
  simp only at n1 n2 n3
  by_cases hil : i < t.length
  · have d1 : ((i : Int) < (t.length : Int)) = True := eq_true (by omega)
    obtain ⟨b, hb1, hd⟩ := l_drop_at (l := t) (i := i) hil
    have hb2 := hall b (List.mem_of_getElem? hb1)
    have g := hv.el1 hb1 (c := .int .u8 (b.toNat : Int)) rfl
    have i0 := hv.ix (i := (i : Int)) (by omega) (by rw [List.length_map]; omega)
    have hp : 2 ^ i ≤ 2 ^ 30 := Nat.pow_le_pow_right (by decide) (by omega)
    have hps : 2 ^ (i + 1) = 2 * 2 ^ i := by rw [Nat.pow_succ]; omega
    have h48 := d48 hb2
    rw [hd] at n3
    simp only [val, List.foldl_cons] at n3
    simp only [shs, zts, sos, sls, zss, eqs, sx, sb1, sb2, sb3, sb4, sb5, sb6, sb7, ↓reduceIte, Nat.reduceAdd, Nat.reduceMul, Nat.reduceDiv, Nat.reduceEqDiff, Nat.reduceLT, Nat.reduceLeDiff, reduceCtorEq, Int.reduceEq, Int.reduceNe, Int.reduceLT, Int.reduceLE, Int.reduceAdd, Int.reduceSub, Int.reduceMul, Int.reduceNeg, Int.reduceToNat, Int.cast_ofNat_Int, Int.natCast_zero, Int.natCast_one, Int.toNat_natCast, Nat.reduceBEq, nzs, d1, i0, i0.2, g.1, g.2, and1 hb2, inK, lo, hi, iw (show b.toNat - 48 < 9223372036854775808 by omega)]
    have hb2' : b.toNat < 256 := UInt8.toNat_lt b
    refine ⟨by omega, by omega, by omega, by omega, (f - 1, i + 1, 2 * n + (b.toNat - 48)), ⟨⟨⟨by simp only; omega, by simp only; omega⟩, n3⟩, by simp only; omega⟩, Ent.of ?_⟩
    simp only [sx, sb1, sb2, sb3, sb4, sb5, sb6, sb7, ↓reduceIte, Nat.reduceAdd, Nat.reduceMul, Nat.reduceDiv, Nat.reduceEqDiff, Nat.reduceLT, Nat.reduceLeDiff, reduceCtorEq, Int.reduceEq, Int.reduceNe, Int.reduceLT, Int.reduceLE, Int.reduceAdd, Int.reduceSub, Int.reduceMul, Int.reduceNeg, Int.reduceToNat, Int.cast_ofNat_Int, Int.natCast_zero, Int.natCast_one, Int.toNat_natCast, Nat.reduceBEq, Int.natCast_add, Int.natCast_mul]
  · have d1 : ((i : Int) < (t.length : Int)) = False := eq_false (by omega)
    rw [List.drop_eq_nil_of_le (by omega)] at n3
    simp only [val, List.foldl_nil] at n3
    rw [← show n = val t 0 from n3]
    simp only [shs, zts, sos, sls, zss, eqs, sx, sb1, sb2, sb3, sb4, sb5, sb6, sb7, ↓reduceIte, Nat.reduceAdd, Nat.reduceMul, Nat.reduceDiv, Nat.reduceEqDiff, Nat.reduceLT, Nat.reduceLeDiff, reduceCtorEq, Int.reduceEq, Int.reduceNe, Int.reduceLT, Int.reduceLE, Int.reduceAdd, Int.reduceSub, Int.reduceMul, Int.reduceNeg, Int.reduceToNat, Int.cast_ofNat_Int, Int.natCast_zero, Int.natCast_one, Int.toNat_natCast, Nat.reduceBEq, nzs, d1, tup3, inK, lo, hi, e1]
    exact ⟨by omega, by omega⟩
end Go.X.Gm
