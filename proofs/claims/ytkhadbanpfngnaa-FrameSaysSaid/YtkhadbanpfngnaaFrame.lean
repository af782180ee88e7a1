/- frame.Put, frame.Get and what woolref says of them. Conditions: none. -/
import Derived.Test.YtkhadbanpfngnaaTreeV
import Derived.Test.YtkhadbanpfngnaaFwE
set_option linter.unusedSimpArgs false
set_option linter.unusedVariables false
set_option maxHeartbeats 4000000
set_option maxRecDepth 20000
namespace Go.X.Fr
open Go Go.X Go.X.Pol Go.X.Pl Go.X.Rp Go.X.Pd Go.X.Md Go.X.Mv Go.X.Pt Go.X.Tv

theorem g0 : (2 : Nat) ≤ 1073741907 ∧ 1073741907 ≤ 2147483647 := by decide
def tl (s : List UInt8) : List UInt8 := be4 (prf 1073741907 s 1)
theorem tl_len (s : List UInt8) : (tl s).length = 4 := rfl
theorem prf31 (s : List UInt8) : prf 1073741907 s 1 ≤ 2147483647 := by
  have := prf_le 1073741907 (by decide) (by decide) s 1 (by decide)
  omega
theorem tail (s : List UInt8) (M : Mem) (hs : s.length ≤ maxLen) :
    Meets Proofs.Try.prog 87 [.v (.string ⟨s.toArray⟩)] M fun r _ _ => r = .v (.string ⟨(tl s).toArray⟩) := by
  refine Meets.of_body [0,2,3] Proofs.Try.func87 rfl (by kernel_rfl) rfl fun w => ?_
  simp only [Proofs.Try.f87, shs, zts, sos, sls, zss, eqs, sx, sb1, sb2, sb3, sb4, sb5, ↓reduceIte, Nat.reduceAdd, Nat.reduceMul, Nat.reduceDiv, Nat.reduceEqDiff, Nat.reduceLT, Nat.reduceLeDiff, reduceCtorEq, Int.reduceEq, Int.reduceNe, Int.reduceLT, Int.reduceLE, Int.reduceAdd, Int.reduceSub, Int.reduceMul, Int.reduceNeg, Int.reduceToNat, Int.cast_ofNat_Int, Int.natCast_zero, Int.natCast_one, Int.toNat_natCast, Nat.reduceBEq]
  refine CallK.pure ⟨rfl, rfl⟩ rfl (plain 1073741907 s M g0.1 g0.2 hs) ?_
  have hp := prf31 s
  generalize hq : prf 1073741907 s 1 = p at *
  have ht : tl s = be4 p := by unfold tl; rw [hq]
  rw [ht]
  simp only [shs, zts, sos, sls, zss, eqs, sx, sb1, sb2, sb3, sb4, sb5, ↓reduceIte, Nat.reduceAdd, Nat.reduceMul, Nat.reduceDiv, Nat.reduceEqDiff, Nat.reduceLT, Nat.reduceLeDiff, reduceCtorEq, Int.reduceEq, Int.reduceNe, Int.reduceLT, Int.reduceLE, Int.reduceAdd, Int.reduceSub, Int.reduceMul, Int.reduceNeg, Int.reduceToNat, Int.cast_ofNat_Int, Int.natCast_zero, Int.natCast_one, Int.toNat_natCast, Nat.reduceBEq, dw, b64, byteOf, byteW]
  exact ⟨(fun h => by cases h), (fun h => by cases h), (fun h => by cases h), (fun h => by cases h), rfl⟩

def hd (k : Nat) (b : List UInt8) : List UInt8 := UInt8.ofNat k :: UInt8.ofNat (b.length / 256) :: UInt8.ofNat b.length :: b
def fr (k : Nat) (b : List UInt8) : List UInt8 := hd k b ++ tl (hd k b)
def putE (k : Int) (b : List UInt8) : Int := if k < 1 ∨ 255 < k then 1 else if 700 < (b.length : Int) then 2 else 0
def putS (k : Int) (b : List UInt8) : List UInt8 := if putE k b = 0 then fr k.toNat b else []
def frV (k : Int) (b : List UInt8) : SV := .agg [.v (.int .i64 k), .v (.string ⟨b.toArray⟩)]

theorem put (k : Int) (b : List UInt8) (M : Mem) (hb : b.length ≤ maxLen) :
    Meets Proofs.Try.prog 37 [frV k b] M fun r _ _ => r = .tup [.v (.string ⟨(putS k b).toArray⟩), .v (.int .i64 (putE k b))] := by
  refine Meets.of_body [0,1,2,3,4,12,16] Proofs.Try.func37 rfl (by kernel_rfl) rfl fun w => ?_
  have hc : ∀ d : Nat, @IntKind.bits .i64 = 64 := fun _ => rfl
  by_cases h1 : k < 1 ∨ 255 < k
  · have he : putE k b = 1 := if_pos h1
    have hs : putS k b = [] := if_neg (by rw [he]; decide)
    rw [he, hs]
    rcases h1 with h1 | h1
    · have d1 : (k < 1) = True := eq_true h1
      simp only [Proofs.Try.f37, frV, shs, zts, sos, sls, zss, eqs, sx, sb1, sb2, sb3, sb4, sb5, ↓reduceIte, Nat.reduceAdd, Nat.reduceMul, Nat.reduceDiv, Nat.reduceEqDiff, Nat.reduceLT, Nat.reduceLeDiff, reduceCtorEq, Int.reduceEq, Int.reduceNe, Int.reduceLT, Int.reduceLE, Int.reduceAdd, Int.reduceSub, Int.reduceMul, Int.reduceNeg, Int.reduceToNat, Int.cast_ofNat_Int, Int.natCast_zero, Int.natCast_one, Int.toNat_natCast, Nat.reduceBEq, nzs, d1]
    · have d1 : (k < 1) = False := eq_false (by omega)
      have d2 : (255 < k) = True := eq_true h1
      simp only [Proofs.Try.f37, frV, shs, zts, sos, sls, zss, eqs, sx, sb1, sb2, sb3, sb4, sb5, ↓reduceIte, Nat.reduceAdd, Nat.reduceMul, Nat.reduceDiv, Nat.reduceEqDiff, Nat.reduceLT, Nat.reduceLeDiff, reduceCtorEq, Int.reduceEq, Int.reduceNe, Int.reduceLT, Int.reduceLE, Int.reduceAdd, Int.reduceSub, Int.reduceMul, Int.reduceNeg, Int.reduceToNat, Int.cast_ofNat_Int, Int.natCast_zero, Int.natCast_one, Int.toNat_natCast, Nat.reduceBEq, nzs, d1, d2]
  · by_cases h2 : 700 < (b.length : Int)
    · have he : putE k b = 2 := by unfold putE; rw [if_neg h1, if_pos h2]
      have hs : putS k b = [] := if_neg (by rw [he]; decide)
      rw [he, hs]
      have d1 : (k < 1) = False := eq_false (by omega)
      have d2 : (255 < k) = False := eq_false (by omega)
      have d3 : (700 < (b.length : Int)) = True := eq_true h2
      simp only [Proofs.Try.f37, frV, shs, zts, sos, sls, zss, eqs, sx, sb1, sb2, sb3, sb4, sb5, ↓reduceIte, Nat.reduceAdd, Nat.reduceMul, Nat.reduceDiv, Nat.reduceEqDiff, Nat.reduceLT, Nat.reduceLeDiff, reduceCtorEq, Int.reduceEq, Int.reduceNe, Int.reduceLT, Int.reduceLE, Int.reduceAdd, Int.reduceSub, Int.reduceMul, Int.reduceNeg, Int.reduceToNat, Int.cast_ofNat_Int, Int.natCast_zero, Int.natCast_one, Int.toNat_natCast, Nat.reduceBEq, nzs, d1, d2, d3]
    · have he : putE k b = 0 := by unfold putE; rw [if_neg h1, if_neg h2]
      have hs : putS k b = fr k.toNat b := if_pos he
      rw [he, hs]
      have d1 : (k < 1) = False := eq_false (by omega)
      have d2 : (255 < k) = False := eq_false (by omega)
      have d3 : (700 < (b.length : Int)) = False := eq_false h2
      have d4 : (((3 + b.length : Nat) : Int) ≤ 9223372036854775807) = True := eq_true (by omega)
      have e1 : ∀ x : Nat, (x : Int) / 2 ^ 8 = ((x / 256 : Nat) : Int) := fun x => by omega
      obtain ⟨n, rfl⟩ : ∃ n : Nat, k = n := ⟨k.toNat, by omega⟩
      simp only [Proofs.Try.f37, frV, shs, zts, sos, sls, zss, eqs, sx, sb1, sb2, sb3, sb4, sb5, ↓reduceIte, Nat.reduceAdd, Nat.reduceMul, Nat.reduceDiv, Nat.reduceEqDiff, Nat.reduceLT, Nat.reduceLeDiff, reduceCtorEq, Int.reduceEq, Int.reduceNe, Int.reduceLT, Int.reduceLE, Int.reduceAdd, Int.reduceSub, Int.reduceMul, Int.reduceNeg, Int.reduceToNat, Int.cast_ofNat_Int, Int.natCast_zero, Int.natCast_one, Int.toNat_natCast, Nat.reduceBEq, nzs, d1, d2, d3, d4, byteOf, e1, byteW, IntKind.bits]
      refine CallK.pure ⟨rfl, rfl⟩ rfl (tail _ M (by simp only [List.length_cons, maxLen]; omega)) ?_
      have d5 : (((3 + b.length + 4 : Nat) : Int) ≤ 9223372036854775807) = True := eq_true (by omega)
      simp only [shs, zts, sos, sls, zss, eqs, sx, sb1, sb2, sb3, sb4, sb5, ↓reduceIte, Nat.reduceAdd, Nat.reduceMul, Nat.reduceDiv, Nat.reduceEqDiff, Nat.reduceLT, Nat.reduceLeDiff, reduceCtorEq, Int.reduceEq, Int.reduceNe, Int.reduceLT, Int.reduceLE, Int.reduceAdd, Int.reduceSub, Int.reduceMul, Int.reduceNeg, Int.reduceToNat, Int.cast_ofNat_Int, Int.natCast_zero, Int.natCast_one, Int.toNat_natCast, Nat.reduceBEq, nzs, tl_len, d5, Int.toNat_natCast]
      exact ⟨by omega, rfl⟩

def seq : List Nat → Sch → Sch
  | [], s => s
  | i :: l, s => .take i (seq l s)
theorem sq : type_of% (And.intro @seq.eq_1 @seq.eq_2) := And.intro @seq.eq_1 @seq.eq_2
theorem rframe (k : Int) (b : List UInt8) (M : Mem) (hb : b.length ≤ maxLen) :
    Meets Proofs.Try.prog 38 [frV k b] M fun r _ _ => r = .tup [.v (.string ⟨(putS k b).toArray⟩), .v (.int .i64 (putE k b))] := by
  refine Meets.of_body [0,1,2,3,4,8,12] Proofs.Try.func38 rfl (by kernel_rfl) rfl fun w => ?_
  by_cases h1 : k < 1 ∨ 255 < k
  · have he : putE k b = 1 := if_pos h1
    have hs : putS k b = [] := if_neg (by rw [he]; decide)
    rw [he, hs]
    have d0 : decide (1 ≤ k ∧ k ≤ 255) = false := decide_eq_false (by omega)
    simp only [Proofs.Try.f38, frV, shs, zts, sos, sls, zss, eqs, sx, sb1, sb2, sb3, sb4, sb5, ↓reduceIte, Nat.reduceAdd, Nat.reduceMul, Nat.reduceDiv, Nat.reduceEqDiff, Nat.reduceLT, Nat.reduceLeDiff, reduceCtorEq, Int.reduceEq, Int.reduceNe, Int.reduceLT, Int.reduceLE, Int.reduceAdd, Int.reduceSub, Int.reduceMul, Int.reduceNeg, Int.reduceToNat, Int.cast_ofNat_Int, Int.natCast_zero, Int.natCast_one, Int.toNat_natCast, Nat.reduceBEq, nzs]
    refine CallK.pure ⟨rfl, rfl⟩ rfl (within k 1 255 M) ?_
    simp only [shs, zts, sos, sls, zss, eqs, sx, sb1, sb2, sb3, sb4, sb5, ↓reduceIte, Nat.reduceAdd, Nat.reduceMul, Nat.reduceDiv, Nat.reduceEqDiff, Nat.reduceLT, Nat.reduceLeDiff, reduceCtorEq, Int.reduceEq, Int.reduceNe, Int.reduceLT, Int.reduceLE, Int.reduceAdd, Int.reduceSub, Int.reduceMul, Int.reduceNeg, Int.reduceToNat, Int.cast_ofNat_Int, Int.natCast_zero, Int.natCast_one, Int.toNat_natCast, Nat.reduceBEq, nzs, d0]
  · have d0 : decide (1 ≤ k ∧ k ≤ 255) = true := decide_eq_true (by omega)
    by_cases h2 : 700 < (b.length : Int)
    · have he : putE k b = 2 := by unfold putE; rw [if_neg h1, if_pos h2]
      have hs : putS k b = [] := if_neg (by rw [he]; decide)
      rw [he, hs]
      have d3 : (700 < (b.length : Int)) = True := eq_true h2
      simp only [Proofs.Try.f38, frV, shs, zts, sos, sls, zss, eqs, sx, sb1, sb2, sb3, sb4, sb5, ↓reduceIte, Nat.reduceAdd, Nat.reduceMul, Nat.reduceDiv, Nat.reduceEqDiff, Nat.reduceLT, Nat.reduceLeDiff, reduceCtorEq, Int.reduceEq, Int.reduceNe, Int.reduceLT, Int.reduceLE, Int.reduceAdd, Int.reduceSub, Int.reduceMul, Int.reduceNeg, Int.reduceToNat, Int.cast_ofNat_Int, Int.natCast_zero, Int.natCast_one, Int.toNat_natCast, Nat.reduceBEq, nzs]
      refine CallK.pure ⟨rfl, rfl⟩ rfl (within k 1 255 M) ?_
      simp only [shs, zts, sos, sls, zss, eqs, sx, sb1, sb2, sb3, sb4, sb5, ↓reduceIte, Nat.reduceAdd, Nat.reduceMul, Nat.reduceDiv, Nat.reduceEqDiff, Nat.reduceLT, Nat.reduceLeDiff, reduceCtorEq, Int.reduceEq, Int.reduceNe, Int.reduceLT, Int.reduceLE, Int.reduceAdd, Int.reduceSub, Int.reduceMul, Int.reduceNeg, Int.reduceToNat, Int.cast_ofNat_Int, Int.natCast_zero, Int.natCast_one, Int.toNat_natCast, Nat.reduceBEq, nzs, d3, d0]
    · have he : putE k b = 0 := by unfold putE; rw [if_neg h1, if_neg h2]
      have hs : putS k b = fr k.toNat b := if_pos he
      rw [he, hs]
      have d3 : (700 < (b.length : Int)) = False := eq_false h2
      obtain ⟨n, rfl⟩ : ∃ n : Nat, k = n := ⟨k.toNat, by omega⟩
      simp only [Proofs.Try.f38, frV, shs, zts, sos, sls, zss, eqs, sx, sb1, sb2, sb3, sb4, sb5, ↓reduceIte, Nat.reduceAdd, Nat.reduceMul, Nat.reduceDiv, Nat.reduceEqDiff, Nat.reduceLT, Nat.reduceLeDiff, reduceCtorEq, Int.reduceEq, Int.reduceNe, Int.reduceLT, Int.reduceLE, Int.reduceAdd, Int.reduceSub, Int.reduceMul, Int.reduceNeg, Int.reduceToNat, Int.cast_ofNat_Int, Int.natCast_zero, Int.natCast_one, Int.toNat_natCast, Nat.reduceBEq, nzs]
      refine CallK.pure ⟨rfl, rfl⟩ rfl (within n 1 255 M) ?_
      simp only [shs, zts, sos, sls, zss, eqs, sx, sb1, sb2, sb3, sb4, sb5, ↓reduceIte, Nat.reduceAdd, Nat.reduceMul, Nat.reduceDiv, Nat.reduceEqDiff, Nat.reduceLT, Nat.reduceLeDiff, reduceCtorEq, Int.reduceEq, Int.reduceNe, Int.reduceLT, Int.reduceLE, Int.reduceAdd, Int.reduceSub, Int.reduceMul, Int.reduceNeg, Int.reduceToNat, Int.cast_ofNat_Int, Int.natCast_zero, Int.natCast_one, Int.toNat_natCast, Nat.reduceBEq, nzs, d3, d0]
      refine DrawK.held [8] (seq [0, 1, 2, 5, 6, 7, 11, 12] (.two 3 (.two 4 (.one 8 (seq [9, 10, 13, 14] .done)) 8 (seq [9] (.one 4 (seq [10, 13, 14] .done)))) 8 (seq [9] (.one 3 (.one 4 (seq [10, 13, 14] .done)))))) (by kernel_rfl) (by kernel_rfl) fun xs => ?_
      simp only [shs, zts, sos, sls, zss, eqs, sx, sb1, sb2, sb3, sb4, sb5, ↓reduceIte, Nat.reduceAdd, Nat.reduceMul, Nat.reduceDiv, Nat.reduceEqDiff, Nat.reduceLT, Nat.reduceLeDiff, reduceCtorEq, Int.reduceEq, Int.reduceNe, Int.reduceLT, Int.reduceLE, Int.reduceAdd, Int.reduceSub, Int.reduceMul, Int.reduceNeg, Int.reduceToNat, Int.cast_ofNat_Int, Int.natCast_zero, Int.natCast_one, Int.toNat_natCast, Nat.reduceBEq, nzs, se1, se2, sq]
      have hb4 : ((be4 b.length).drop 2).take (4 - 2) = [UInt8.ofNat (b.length / 256), UInt8.ofNat b.length] := rfl
      have d4 : (((1 + 2 : Nat) : Int) ≤ 9223372036854775807) = True := eq_true (by omega)
      have d5 : (((1 + 2 + b.length : Nat) : Int) ≤ 9223372036854775807) = True := eq_true (by omega)
      refine ⟨⟨?_, ?_⟩, ?_⟩
      all_goals
        refine CallK.pure ⟨rfl, rfl⟩ rfl (rfour b.length M (by omega)) ?_
        simp only [shs, zts, sos, sls, zss, eqs, sx, sb1, sb2, sb3, sb4, sb5, ↓reduceIte, Nat.reduceAdd, Nat.reduceMul, Nat.reduceDiv, Nat.reduceEqDiff, Nat.reduceLT, Nat.reduceLeDiff, reduceCtorEq, Int.reduceEq, Int.reduceNe, Int.reduceLT, Int.reduceLE, Int.reduceAdd, Int.reduceSub, Int.reduceMul, Int.reduceNeg, Int.reduceToNat, Int.cast_ofNat_Int, Int.natCast_zero, Int.natCast_one, Int.toNat_natCast, Nat.reduceBEq, nzs, se1, se2, sq, be4_len, hb4, byteOf, byteW, List.length_cons, List.length_append, d4, d5]
        refine CallK.pure ⟨rfl, rfl⟩ rfl (rprint 1073741907 (hd n b) M g0.1 g0.2 (by simp only [hd, List.length_cons, maxLen]; omega)) ?_
        have hp := prf31 (hd n b)
        have ht : tl (hd n b) = be4 (prf 1073741907 (hd n b) 1) := rfl
        simp only [fr, ht, Int.toNat_natCast]
        generalize prf 1073741907 (hd n b) 1 = p at *
        simp only [shs, zts, sos, sls, zss, eqs, sx, sb1, sb2, sb3, sb4, sb5, ↓reduceIte, Nat.reduceAdd, Nat.reduceMul, Nat.reduceDiv, Nat.reduceEqDiff, Nat.reduceLT, Nat.reduceLeDiff, reduceCtorEq, Int.reduceEq, Int.reduceNe, Int.reduceLT, Int.reduceLE, Int.reduceAdd, Int.reduceSub, Int.reduceMul, Int.reduceNeg, Int.reduceToNat, Int.cast_ofNat_Int, Int.natCast_zero, Int.natCast_one, Int.toNat_natCast, Nat.reduceBEq, nzs, se1, se2, sq]
        refine CallK.pure ⟨rfl, rfl⟩ rfl (rfour p M hp) ?_
        have d6 : (((b.length + 1 + 1 + 1 + 4 : Nat) : Int) ≤ 9223372036854775807) = True := eq_true (by omega)
        simp only [shs, zts, sos, sls, zss, eqs, sx, sb1, sb2, sb3, sb4, sb5, ↓reduceIte, Nat.reduceAdd, Nat.reduceMul, Nat.reduceDiv, Nat.reduceEqDiff, Nat.reduceLT, Nat.reduceLeDiff, reduceCtorEq, Int.reduceEq, Int.reduceNe, Int.reduceLT, Int.reduceLE, Int.reduceAdd, Int.reduceSub, Int.reduceMul, Int.reduceNeg, Int.reduceToNat, Int.cast_ofNat_Int, Int.natCast_zero, Int.natCast_one, Int.toNat_natCast, Nat.reduceBEq, nzs, se1, se2, sq, be4_len, d6, hd, List.length_cons, List.cons_append]

theorem orwi {x y : Nat} (hx : x < 9223372036854775808) (hy : y < 9223372036854775808) : orV .i64 (x : Int) (y : Int) = ((x ||| y : Nat) : Int) := by
  unfold orV
  show IntKind.i64.wrap ((BitVec.ofInt 64 (x : Int) ||| BitVec.ofInt 64 (y : Int)).toNat : Int) = _
  rw [BitVec.toNat_or, toNat_ofInt 64 (x : Int) (by omega) (by omega), toNat_ofInt 64 (y : Int) (by omega) (by omega), Int.toNat_natCast, Int.toNat_natCast]
  have h := Nat.or_lt_two_pow (n := 63) (x := x) (y := y) (by omega) (by omega)
  exact iw (by omega)
def sb (s : List UInt8) (i : Nat) : Nat := (s.getD i 0).toNat
theorem sb_lt (s : List UInt8) (i : Nat) : sb s i < 256 := UInt8.toNat_lt _
theorem strIx_sb (s : List UInt8) (i : Nat) : strIx s (i : Int) = ((sb s i : Nat) : Int) := by
  unfold strIx sb
  rw [Int.toNat_natCast]
theorem ix0 (s : List UInt8) : strIx s 0 = ((sb s 0 : Nat) : Int) := strIx_sb s 0
theorem ix1 (s : List UInt8) : strIx s 1 = ((sb s 1 : Nat) : Int) := strIx_sb s 1
theorem ix2 (s : List UInt8) : strIx s 2 = ((sb s 2 : Nat) : Int) := strIx_sb s 2
def gN (s : List UInt8) : Nat := sb s 1 * 256 + sb s 2
def getE (s : List UInt8) : Int := if s.length ≤ 2 then 7 else if sb s 0 = 0 ∨ 700 < gN s then 3 else if s.length < gN s + 7 then 7 else if tl (s.take (gN s + 3)) ≠ (s.drop (gN s + 3)).take 4 then 6 else 0
def getF (s : List UInt8) : SV := if getE s = 0 then frV (sb s 0 : Nat) ((s.drop 3).take (gN s)) else frV 0 []
def getU (s : List UInt8) : Int := if getE s = 0 then ((gN s + 7 : Nat) : Int) else 0

theorem get (s : List UInt8) (M : Mem) (hs : s.length ≤ maxLen) :
    Meets Proofs.Try.prog 39 [.v (.string ⟨s.toArray⟩)] M fun r _ _ => r = .tup [getF s, .v (.int .i64 (getU s)), .v (.int .i64 (getE s))] := by
  refine Meets.of_body [0,2,3,4,5,8,24,30,43] Proofs.Try.func39 rfl (by kernel_rfl) rfl fun w => ?_
  simp only [maxLen] at hs
  unfold getF getU
  generalize hc : getE s = c
  unfold getE at hc
  by_cases h1 : s.length ≤ 2
  · rw [if_pos h1] at hc
    subst hc
    have d1 : ((s.length : Int) < 3) = True := eq_true (by omega)
    simp only [Proofs.Try.f39, frV, shs, zts, sos, sls, zss, eqs, sx, sb1, sb2, sb3, sb4, sb5, ↓reduceIte, Nat.reduceAdd, Nat.reduceMul, Nat.reduceDiv, Nat.reduceEqDiff, Nat.reduceLT, Nat.reduceLeDiff, reduceCtorEq, Int.reduceEq, Int.reduceNe, Int.reduceLT, Int.reduceLE, Int.reduceAdd, Int.reduceSub, Int.reduceMul, Int.reduceNeg, Int.reduceToNat, Int.cast_ofNat_Int, Int.natCast_zero, Int.natCast_one, Int.toNat_natCast, Nat.reduceBEq, nzs, d1]
  rw [if_neg h1] at hc
  have d1 : ((s.length : Int) < 3) = False := eq_false (by omega)
  have d2 : (1 < (s.length : Int)) = True := eq_true (by omega)
  have d3 : (2 < (s.length : Int)) = True := eq_true (by omega)
  have d0 : (0 < (s.length : Int)) = True := eq_true (by omega)
  simp only [Proofs.Try.f39, frV, shs, zts, sos, sls, zss, eqs, sx, sb1, sb2, sb3, sb4, sb5, ↓reduceIte, Nat.reduceAdd, Nat.reduceMul, Nat.reduceDiv, Nat.reduceEqDiff, Nat.reduceLT, Nat.reduceLeDiff, reduceCtorEq, Int.reduceEq, Int.reduceNe, Int.reduceLT, Int.reduceLE, Int.reduceAdd, Int.reduceSub, Int.reduceMul, Int.reduceNeg, Int.reduceToNat, Int.cast_ofNat_Int, Int.natCast_zero, Int.natCast_one, Int.toNat_natCast, Nat.reduceBEq, nzs, d1]
  refine DrawK.quiet (by kernel_rfl) (by kernel_rfl) ?_
  have hb0 := sb_lt s 0
  have hb1 := sb_lt s 1
  have hb2 := sb_lt s 2
  have e1 : ((sb s 1 : Nat) : Int) * 2 ^ 8 = ((sb s 1 * 2 ^ 8 : Nat) : Int) := mw _ 8
  have e2 : sb s 1 * 2 ^ 8 ||| sb s 2 = gN s := or_low (k := 8) (by omega)
  simp only [shs, zts, sos, sls, zss, eqs, sx, sb1, sb2, sb3, sb4, sb5, ↓reduceIte, Nat.reduceAdd, Nat.reduceMul, Nat.reduceDiv, Nat.reduceEqDiff, Nat.reduceLT, Nat.reduceLeDiff, reduceCtorEq, Int.reduceEq, Int.reduceNe, Int.reduceLT, Int.reduceLE, Int.reduceAdd, Int.reduceSub, Int.reduceMul, Int.reduceNeg, Int.reduceToNat, Int.cast_ofNat_Int, Int.natCast_zero, Int.natCast_one, Int.toNat_natCast, Nat.reduceBEq, nzs, ix1, ix2, ix0, iw (show sb s 1 < 9223372036854775808 by omega), iw (show sb s 2 < 9223372036854775808 by omega), e1, orwi (show sb s 1 * 2 ^ 8 < 9223372036854775808 by omega) (show sb s 2 < 9223372036854775808 by omega), e2, inK, lo, hi, b64]
  have hgN : gN s ≤ 65535 := by unfold gN; omega
  generalize hg : gN s = n at *
  refine ⟨by omega, by omega, by omega, by omega, fun h3 => ?_, fun h3 => ?_⟩
  · rw [if_pos (by omega)] at hc
    subst hc
    rfl
  rw [if_neg (by omega)] at hc
  refine ⟨by omega, fun h4 => ?_, fun h4 => ?_⟩
  · rw [if_pos (by omega)] at hc
    subst hc
    rfl
  rw [if_neg (by omega)] at hc
  refine DrawK.plan (seq [0, 1, 2, 3, 5, 6, 7, 8, 9, 10] (.one 4 (seq [11] .done))) (by kernel_rfl) (by kernel_rfl) ?_
  have e3 : (n : Int) + 3 = ((n + 3 : Nat) : Int) := by omega
  have e7 : (n : Int) + 7 = ((n + 7 : Nat) : Int) := by omega
  have d4 : (((n + 3 : Nat) : Int) ≤ ((n + 7 : Nat) : Int)) = True := eq_true (by omega)
  have d5 : (((n + 7 : Nat) : Int) ≤ (s.length : Int)) = True := eq_true (by omega)
  have d6 : (((n + 3 : Nat) : Int) ≤ (s.length : Int)) = True := eq_true (by omega)
  have d7 : (0 ≤ ((n + 3 : Nat) : Int)) = True := eq_true (by omega)
  have d8 : ((3 : Int) ≤ ((n + 3 : Nat) : Int)) = True := eq_true (by omega)
  have i1 : inK .i64 ((n + 3 : Nat) : Int) := i64N (by omega)
  have i2 : inK .i64 ((n + 7 : Nat) : Int) := i64N (by omega)
  have ek : n + 7 - (n + 3) = 4 := by omega
  have ek2 : n + 3 - 3 = n := by omega
  simp only [shs, zts, sos, sls, zss, eqs, sx, sb1, sb2, sb3, sb4, sb5, ↓reduceIte, Nat.reduceAdd, Nat.reduceMul, Nat.reduceDiv, Nat.reduceEqDiff, Nat.reduceLT, Nat.reduceLeDiff, reduceCtorEq, Int.reduceEq, Int.reduceNe, Int.reduceLT, Int.reduceLE, Int.reduceAdd, Int.reduceSub, Int.reduceMul, Int.reduceNeg, Int.reduceToNat, Int.cast_ofNat_Int, Int.natCast_zero, Int.natCast_one, Int.toNat_natCast, Nat.reduceBEq, nzs, se1, se2, sq, e3, e7, d4, d5, d6, d7, i1, i2, List.drop_zero, Nat.sub_zero, ek]
  refine CallK.pure ⟨rfl, rfl⟩ rfl (tail _ M (by simp only [List.length_take, maxLen]; omega)) ?_
  simp only [shs, zts, sos, sls, zss, eqs, sx, sb1, sb2, sb3, sb4, sb5, ↓reduceIte, Nat.reduceAdd, Nat.reduceMul, Nat.reduceDiv, Nat.reduceEqDiff, Nat.reduceLT, Nat.reduceLeDiff, reduceCtorEq, Int.reduceEq, Int.reduceNe, Int.reduceLT, Int.reduceLE, Int.reduceAdd, Int.reduceSub, Int.reduceMul, Int.reduceNeg, Int.reduceToNat, Int.cast_ofNat_Int, Int.natCast_zero, Int.natCast_one, Int.toNat_natCast, Nat.reduceBEq, nzs, se1, se2, sq]
  refine ⟨fun h5 => ?_, fun h5 => ?_⟩
  · rw [if_pos h5] at hc
    subst hc
    rfl
  rw [if_neg (fun h => h h5)] at hc
  subst hc
  refine DrawK.plan (seq [0, 1, 2, 3, 4, 5, 6, 7, 8, 9] (.one 10 (seq [11, 12] .done))) (by kernel_rfl) (by kernel_rfl) ?_
  simp only [shs, zts, sos, sls, zss, eqs, sx, sb1, sb2, sb3, sb4, sb5, ↓reduceIte, Nat.reduceAdd, Nat.reduceMul, Nat.reduceDiv, Nat.reduceEqDiff, Nat.reduceLT, Nat.reduceLeDiff, reduceCtorEq, Int.reduceEq, Int.reduceNe, Int.reduceLT, Int.reduceLE, Int.reduceAdd, Int.reduceSub, Int.reduceMul, Int.reduceNeg, Int.reduceToNat, Int.cast_ofNat_Int, Int.natCast_zero, Int.natCast_one, Int.toNat_natCast, Nat.reduceBEq, nzs, se1, se2, sq, e3, e7, d8, d6, i1, i2, ix0, iw (show sb s 0 < 9223372036854775808 by omega), d0, ek2]

theorem take_split (s : List UInt8) (a b : Nat) : s.take (a + b) = s.take a ++ (s.drop a).take b := List.take_add
theorem hd_take (s : List UInt8) (h : ¬ s.length ≤ 2) (h2 : gN s + 3 ≤ s.length) : hd (sb s 0) ((s.drop 3).take (gN s)) = s.take (gN s + 3) := by
  match s, h with
  | a :: b :: c :: r, _ =>
    have hl : r.length ≥ gN (a :: b :: c :: r) := by simp only [List.length_cons] at h2; omega
    have e : gN (a :: b :: c :: r) = b.toNat * 256 + c.toNat := rfl
    rw [e] at hl ⊢
    have hc := UInt8.toNat_lt c
    have e1 : (b.toNat * 256 + c.toNat) / 256 = b.toNat := by omega
    have e2 : UInt8.ofNat (b.toNat * 256 + c.toNat) = c := by
      apply UInt8.toNat_inj.1
      simp
    show UInt8.ofNat a.toNat :: UInt8.ofNat ((r.take (b.toNat * 256 + c.toNat)).length / 256) :: UInt8.ofNat (r.take (b.toNat * 256 + c.toNat)).length :: _ = _
    rw [List.length_take, Nat.min_eq_left hl, e1, e2, UInt8.ofNat_toNat, UInt8.ofNat_toNat]
    rfl

theorem unframe (s : List UInt8) (M : Mem) (hs : s.length ≤ maxLen) :
    Meets Proofs.Try.prog 40 [.v (.string ⟨s.toArray⟩)] M fun r _ _ => r = .tup [getF s, .v (.int .i64 (getU s)), .v (.int .i64 (getE s))] := by
  refine Meets.of_body [0,2,3,4,5,6,7,11,27,33,53] Proofs.Try.func40 rfl (by kernel_rfl) rfl fun w => ?_
  simp only [maxLen] at hs
  unfold getF getU
  generalize hc : getE s = c
  unfold getE at hc
  by_cases h1 : s.length ≤ 2
  · rw [if_pos h1] at hc
    subst hc
    have d1 : ((s.length : Int) ≤ 2) = True := eq_true (by omega)
    simp only [Proofs.Try.f40, frV, shs, zts, sos, sls, zss, eqs, sx, sb1, sb2, sb3, sb4, sb5, ↓reduceIte, Nat.reduceAdd, Nat.reduceMul, Nat.reduceDiv, Nat.reduceEqDiff, Nat.reduceLT, Nat.reduceLeDiff, reduceCtorEq, Int.reduceEq, Int.reduceNe, Int.reduceLT, Int.reduceLE, Int.reduceAdd, Int.reduceSub, Int.reduceMul, Int.reduceNeg, Int.reduceToNat, Int.cast_ofNat_Int, Int.natCast_zero, Int.natCast_one, Int.toNat_natCast, Nat.reduceBEq, nzs, d1]
  rw [if_neg h1] at hc
  have d1 : ((s.length : Int) ≤ 2) = False := eq_false (by omega)
  have d2 : (1 < (s.length : Int)) = True := eq_true (by omega)
  have d3 : (2 < (s.length : Int)) = True := eq_true (by omega)
  have d0 : (0 < (s.length : Int)) = True := eq_true (by omega)
  simp only [Proofs.Try.f40, frV, shs, zts, sos, sls, zss, eqs, sx, sb1, sb2, sb3, sb4, sb5, ↓reduceIte, Nat.reduceAdd, Nat.reduceMul, Nat.reduceDiv, Nat.reduceEqDiff, Nat.reduceLT, Nat.reduceLeDiff, reduceCtorEq, Int.reduceEq, Int.reduceNe, Int.reduceLT, Int.reduceLE, Int.reduceAdd, Int.reduceSub, Int.reduceMul, Int.reduceNeg, Int.reduceToNat, Int.cast_ofNat_Int, Int.natCast_zero, Int.natCast_one, Int.toNat_natCast, Nat.reduceBEq, nzs, d1]
  refine DrawK.quiet (by kernel_rfl) (by kernel_rfl) ?_
  have hb0 := sb_lt s 0
  have hb1 := sb_lt s 1
  have hb2 := sb_lt s 2
  have e1 : (256 : Int) * ((sb s 1 : Nat) : Int) + ((sb s 2 : Nat) : Int) = ((gN s : Nat) : Int) := by unfold gN; omega
  have e9 : (s.take 1 = [0]) = (sb s 0 = 0) := by
    match s, h1 with
    | a :: r, _ =>
      apply propext
      show [a] = [0] ↔ a.toNat = 0
      constructor
      · intro h; injection h with h _; subst h; rfl
      · intro h; congr 1; exact UInt8.toNat_inj.1 h
  have d9 : (1 ≤ (s.length : Int)) = True := eq_true (by omega)
  simp only [shs, zts, sos, sls, zss, eqs, sx, sb1, sb2, sb3, sb4, sb5, ↓reduceIte, Nat.reduceAdd, Nat.reduceMul, Nat.reduceDiv, Nat.reduceEqDiff, Nat.reduceLT, Nat.reduceLeDiff, reduceCtorEq, Int.reduceEq, Int.reduceNe, Int.reduceLT, Int.reduceLE, Int.reduceAdd, Int.reduceSub, Int.reduceMul, Int.reduceNeg, Int.reduceToNat, Int.cast_ofNat_Int, Int.natCast_zero, Int.natCast_one, Int.toNat_natCast, Nat.reduceBEq, nzs, ix1, ix2, ix0, iw (show sb s 1 < 9223372036854775808 by omega), iw (show sb s 2 < 9223372036854775808 by omega), e1, inK, lo, hi, b64, d9, List.drop_zero, Nat.sub_zero, e9]
  have hH := hd_take s h1
  have hgN : gN s ≤ 65535 := by unfold gN; omega
  generalize hg : gN s = n at *
  refine ⟨by omega, by omega, by omega, by omega, fun h3 => ?_, fun h3 => ?_⟩
  · rw [if_pos (by omega)] at hc
    subst hc
    rfl
  rw [if_neg (by omega)] at hc
  refine ⟨by omega, fun h4 => ?_, fun h4 => ?_⟩
  · rw [if_pos (by omega)] at hc
    subst hc
    rfl
  rw [if_neg (by omega)] at hc
  replace hH := hH (by omega)
  have hts := take_split s (n + 3) 4
  have e3 : (3 : Int) + (n : Int) = ((n + 3 : Nat) : Int) := by omega
  have e7 : (n : Int) + 7 = ((n + 7 : Nat) : Int) := by omega
  have d5 : (((n + 7 : Nat) : Int) ≤ (s.length : Int)) = True := eq_true (by omega)
  have d6 : (((n + 3 : Nat) : Int) ≤ (s.length : Int)) = True := eq_true (by omega)
  have d8 : ((3 : Int) ≤ ((n + 3 : Nat) : Int)) = True := eq_true (by omega)
  have i1 : inK .i64 ((n + 3 : Nat) : Int) := i64N (by omega)
  have i2 : inK .i64 ((n + 7 : Nat) : Int) := i64N (by omega)
  have d4 : (0 ≤ ((n + 7 : Nat) : Int)) = True := eq_true (by omega)
  have ek2 : n + 3 - 3 = n := by omega
  have hbl : ((s.drop 3).take n).length = n := by rw [List.length_take, List.length_drop]; omega
  have hfr : fr (sb s 0) ((s.drop 3).take n) = s.take (n + 3) ++ tl (s.take (n + 3)) := by unfold fr; rw [hH]
  have hpE : putE ((sb s 0 : Nat) : Int) ((s.drop 3).take n) = 0 := by
    unfold putE
    rw [if_neg (by omega), if_neg (by rw [hbl]; omega)]
  have hpS : putS ((sb s 0 : Nat) : Int) ((s.drop 3).take n) = s.take (n + 3) ++ tl (s.take (n + 3)) := by
    unfold putS
    rw [if_pos hpE, Int.toNat_natCast, hfr]
  have hF := rframe ((sb s 0 : Nat) : Int) ((s.drop 3).take n) M (by rw [hbl]; simp only [maxLen]; omega)
  rw [hpE, hpS] at hF
  refine DrawK.plan (seq [0, 1, 2, 3, 4, 5, 6, 7] (.one 8 (.one 9 .done))) (by kernel_rfl) (by kernel_rfl) ?_
  simp only [shs, zts, sos, sls, zss, eqs, sx, sb1, sb2, sb3, sb4, sb5, ↓reduceIte, Nat.reduceAdd, Nat.reduceMul, Nat.reduceDiv, Nat.reduceEqDiff, Nat.reduceLT, Nat.reduceLeDiff, reduceCtorEq, Int.reduceEq, Int.reduceNe, Int.reduceLT, Int.reduceLE, Int.reduceAdd, Int.reduceSub, Int.reduceMul, Int.reduceNeg, Int.reduceToNat, Int.cast_ofNat_Int, Int.natCast_zero, Int.natCast_one, Int.toNat_natCast, Nat.reduceBEq, nzs, se1, se2, sq, e3, d8, d6, i1, ix0, iw (show sb s 0 < 9223372036854775808 by omega), d0, ek2]
  refine CallK.pure ⟨rfl, rfl⟩ rfl hF ?_
  simp only [shs, zts, sos, sls, zss, eqs, sx, sb1, sb2, sb3, sb4, sb5, ↓reduceIte, Nat.reduceAdd, Nat.reduceMul, Nat.reduceDiv, Nat.reduceEqDiff, Nat.reduceLT, Nat.reduceLeDiff, reduceCtorEq, Int.reduceEq, Int.reduceNe, Int.reduceLT, Int.reduceLE, Int.reduceAdd, Int.reduceSub, Int.reduceMul, Int.reduceNeg, Int.reduceToNat, Int.cast_ofNat_Int, Int.natCast_zero, Int.natCast_one, Int.toNat_natCast, Nat.reduceBEq, nzs, e7, d5, d4, i2, List.drop_zero, Nat.sub_zero, hts, List.append_cancel_left_eq]
  refine ⟨fun h5 => ?_, fun h5 => ?_⟩
  · rw [if_pos h5] at hc
    subst hc
    rfl
  rw [if_neg (fun h => h h5)] at hc
  subst hc
  rfl

theorem says (k : Int) (b s : List UInt8) (M : Mem) (hb : b.length ≤ maxLen) (hs : s.length ≤ maxLen) (hk : inK .i64 k) :
    Meets Proofs.Try.prog 8 [frV k b, .v (.string ⟨s.toArray⟩)] M fun r _ _ => r = .v (.bool true) := by
  refine Meets.of_body [0,1,2,4,5,6,7,8,9,10,11,12,13,14] Proofs.Try.func8 rfl (by kernel_rfl) rfl fun w => ?_
  have hP := put k b M hb
  have hR := rframe k b M hb
  have hG := get s M hs
  have hU := unframe s M hs
  have hF : ∃ k' b', getF s = frV k' b' := by
    unfold getF
    split
    · exact ⟨_, _, rfl⟩
    · exact ⟨_, _, rfl⟩
  obtain ⟨k', b', hF⟩ := hF
  rw [hF] at hG hU
  unfold frV at *
  generalize putS k b = x at *
  generalize putE k b = e at *
  generalize getU s = u at *
  generalize getE s = e' at *
  simp only [Proofs.Try.f8, shs, zts, sos, sls, zss, eqs, sx, sb1, sb2, sb3, sb4, sb5, ↓reduceIte, Nat.reduceAdd, Nat.reduceMul, Nat.reduceDiv, Nat.reduceEqDiff, Nat.reduceLT, Nat.reduceLeDiff, reduceCtorEq, Int.reduceEq, Int.reduceNe, Int.reduceLT, Int.reduceLE, Int.reduceAdd, Int.reduceSub, Int.reduceMul, Int.reduceNeg, Int.reduceToNat, Int.cast_ofNat_Int, Int.natCast_zero, Int.natCast_one, Int.toNat_natCast, Nat.reduceBEq, nzs]
  refine CallK.pure ⟨rfl, rfl⟩ rfl hP ?_
  simp only [shs, zts, sos, sls, zss, eqs, sx, sb1, sb2, sb3, sb4, sb5, ↓reduceIte, Nat.reduceAdd, Nat.reduceMul, Nat.reduceDiv, Nat.reduceEqDiff, Nat.reduceLT, Nat.reduceLeDiff, reduceCtorEq, Int.reduceEq, Int.reduceNe, Int.reduceLT, Int.reduceLE, Int.reduceAdd, Int.reduceSub, Int.reduceMul, Int.reduceNeg, Int.reduceToNat, Int.cast_ofNat_Int, Int.natCast_zero, Int.natCast_one, Int.toNat_natCast, Nat.reduceBEq, nzs]
  refine CallK.pure ⟨rfl, rfl⟩ rfl hR ?_
  simp only [shs, zts, sos, sls, zss, eqs, sx, sb1, sb2, sb3, sb4, sb5, ↓reduceIte, Nat.reduceAdd, Nat.reduceMul, Nat.reduceDiv, Nat.reduceEqDiff, Nat.reduceLT, Nat.reduceLeDiff, reduceCtorEq, Int.reduceEq, Int.reduceNe, Int.reduceLT, Int.reduceLE, Int.reduceAdd, Int.reduceSub, Int.reduceMul, Int.reduceNeg, Int.reduceToNat, Int.cast_ofNat_Int, Int.natCast_zero, Int.natCast_one, Int.toNat_natCast, Nat.reduceBEq, nzs]
  refine CallK.pure ⟨rfl, rfl⟩ rfl hG ?_
  simp only [shs, zts, sos, sls, zss, eqs, sx, sb1, sb2, sb3, sb4, sb5, ↓reduceIte, Nat.reduceAdd, Nat.reduceMul, Nat.reduceDiv, Nat.reduceEqDiff, Nat.reduceLT, Nat.reduceLeDiff, reduceCtorEq, Int.reduceEq, Int.reduceNe, Int.reduceLT, Int.reduceLE, Int.reduceAdd, Int.reduceSub, Int.reduceMul, Int.reduceNeg, Int.reduceToNat, Int.cast_ofNat_Int, Int.natCast_zero, Int.natCast_one, Int.toNat_natCast, Nat.reduceBEq, nzs]
  refine CallK.pure ⟨rfl, rfl⟩ rfl hU ?_
  simp only [shs, zts, sos, sls, zss, eqs, sx, sb1, sb2, sb3, sb4, sb5, ↓reduceIte, Nat.reduceAdd, Nat.reduceMul, Nat.reduceDiv, Nat.reduceEqDiff, Nat.reduceLT, Nat.reduceLeDiff, reduceCtorEq, Int.reduceEq, Int.reduceNe, Int.reduceLT, Int.reduceLE, Int.reduceAdd, Int.reduceSub, Int.reduceMul, Int.reduceNeg, Int.reduceToNat, Int.cast_ofNat_Int, Int.natCast_zero, Int.natCast_one, Int.toNat_natCast, Nat.reduceBEq, nzs]
theorem law (a : Int × List UInt8) (s : List UInt8) (M : Mem) (h : inK .i64 a.1 ∧ a.2.length ≤ maxLen) (hs : s.length ≤ maxLen) :
    Meets Proofs.Try.prog 8 [.agg [.v (.int .i64 a.1), .v (.string ⟨a.2.toArray⟩)], .v (.string ⟨s.toArray⟩)] M fun r _ _ => r = .v (.bool true) :=
  says a.1 a.2 s M h.2 hs h.1
end Go.X.Fr
