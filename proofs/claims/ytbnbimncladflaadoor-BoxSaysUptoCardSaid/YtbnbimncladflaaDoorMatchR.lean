/- woolref.Longest returns what Lm.rl says; match.Longest's errors. Conditions: for the first, the string has at most 600 bytes, the index lies in it, the window is from 1 to 256. -/
import Derived.Test.YtbnbimncladflaaDoorMatch
set_option linter.unusedSimpArgs false
set_option linter.unusedVariables false
set_option maxHeartbeats 4000000
set_option maxRecDepth 20000
namespace Go.X.Lm
open Go Go.X

theorem longest_large (s : List UInt8) (i win : Int) (M : Mem) (hs : 600 < s.length) :
    Meets Proofs.Tryd.prog 30 [.v (.string ⟨s.toArray⟩), .v (.int .i64 i), .v (.int .i64 win)] M fun r _ _ => r = .tup [.v (.int .i64 0), .v (.int .i64 0), .v (.int .i64 2)] := by
  refine Meets.of_body [0,1,2,6,7,8,9,10,11,12,15,31,36,63,68] Proofs.Tryd.func30 rfl (by kernel_rfl) rfl fun w => ?_
  simp only [Proofs.Tryd.f30, shs, sx, sb1, sb2, sb3, sb4, sb5, sb6, sb7, ↓reduceIte, Nat.reduceAdd, Nat.reduceMul, Nat.reduceDiv, Nat.reduceEqDiff, Nat.reduceLT, Nat.reduceLeDiff, reduceCtorEq, Int.reduceEq, Int.reduceNe, Int.reduceLT, Int.reduceLE, Int.reduceAdd, Int.reduceSub, Int.reduceMul, Int.reduceNeg, Int.reduceToNat, Int.cast_ofNat_Int, Int.natCast_zero, Int.natCast_one, Int.toNat_natCast, Nat.reduceBEq]
  exact fun h => by omega
theorem longest_arg (s : List UInt8) (i win : Int) (M : Mem) (hs : s.length ≤ 600) (h : ((i < 0 ∨ s.length < i) ∨ win < 1) ∨ 256 < win) :
    Meets Proofs.Tryd.prog 30 [.v (.string ⟨s.toArray⟩), .v (.int .i64 i), .v (.int .i64 win)] M fun r _ _ => r = .tup [.v (.int .i64 0), .v (.int .i64 0), .v (.int .i64 1)] := by
  refine Meets.of_body [0,1,2,6,7,8,9,10,11,12,15,31,36,63,68] Proofs.Tryd.func30 rfl (by kernel_rfl) rfl fun w => ?_
  simp only [Proofs.Tryd.f30, shs, sx, sb1, sb2, sb3, sb4, sb5, sb6, sb7, ↓reduceIte, Nat.reduceAdd, Nat.reduceMul, Nat.reduceDiv, Nat.reduceEqDiff, Nat.reduceLT, Nat.reduceLeDiff, reduceCtorEq, Int.reduceEq, Int.reduceNe, Int.reduceLT, Int.reduceLE, Int.reduceAdd, Int.reduceSub, Int.reduceMul, Int.reduceNeg, Int.reduceToNat, Int.cast_ofNat_Int, Int.natCast_zero, Int.natCast_one, Int.toNat_natCast, Nat.reduceBEq]
  exact ⟨fun h => by omega, fun _ h' => by omega⟩

def rd (s : List UInt8) (i n : Nat) : Nat → Nat → Option Nat
  | 0, _ => none
  | f+1, d => if (s.drop (i-d)).take n = (s.drop i).take n then some d else rd s i n f (d+1)
def rl (s : List UInt8) (i m : Nat) : Nat → Nat × Nat
  | 0 => (0, 0)
  | n+1 => match rd s i (n+1) m 1 with
    | some d => (d, n+1)
    | none => rl s i m n

theorem rlongest (s : List UInt8) (i win : Nat) (M : Mem) (hs : s.length ≤ 600) (hi2 : i ≤ s.length) (hw : 1 ≤ win) (hw2 : win ≤ 256)  :
    Meets Proofs.Tryd.prog 21 [.v (.string ⟨s.toArray⟩), .v (.int .i64 i), .v (.int .i64 win)] M fun r _ _ => r = .tup [.v (.int .i64 (rl s i (min win i) (min 64 (s.length - i))).1), .v (.int .i64 (rl s i (min win i) (min 64 (s.length - i))).2)] := by
  refine Meets.of_body [0,1,2,6,7,8,9,16,26,45] Proofs.Tryd.func21 rfl (by kernel_rfl) rfl fun w => ?_
  simp only [Proofs.Tryd.f21, shs, sx, sb1, sb2, sb3, sb4, sb5, sb6, sb7, ↓reduceIte, Nat.reduceAdd, Nat.reduceMul, Nat.reduceDiv, Nat.reduceEqDiff, Nat.reduceLT, Nat.reduceLeDiff, reduceCtorEq, Int.reduceEq, Int.reduceNe, Int.reduceLT, Int.reduceLE, Int.reduceAdd, Int.reduceSub, Int.reduceMul, Int.reduceNeg, Int.reduceToNat, Int.cast_ofNat_Int, Int.natCast_zero, Int.natCast_one, Int.toNat_natCast, Nat.reduceBEq, inK, lo, hi]
  refine ⟨by omega, ?_⟩
  refine LoopK.go (X := Nat) (fun x => ([(0, true, .v (.string ⟨s.toArray⟩)), (1, true, .v (.int .i64 i)), (2, true, .v (.int .i64 win)), (8, true, .v (.int .i64 x))], [], M))
    (fun x => x + i ≤ s.length ∧ x ≤ 64 ∧ rl s i (min win i) x = rl s i (min win i) (min 64 (s.length - i))) (fun x => x) (min 64 (s.length - i)) ⟨by omega, by omega, rfl⟩ (Ent.of ?_) ?_
  · simp only [sx, sb1, sb2, sb3, sb4, sb5, sb6, sb7, ↓reduceIte, Nat.reduceAdd, Nat.reduceMul, Nat.reduceDiv, Nat.reduceEqDiff, Nat.reduceLT, Nat.reduceLeDiff, reduceCtorEq, Int.reduceEq, Int.reduceNe, Int.reduceLT, Int.reduceLE, Int.reduceAdd, Int.reduceSub, Int.reduceMul, Int.reduceNeg, Int.reduceToNat, Int.cast_ofNat_Int, Int.natCast_zero, Int.natCast_one, Int.toNat_natCast, Nat.reduceBEq]
    rw [show ((min 64 (s.length - i) : Nat) : Int) = min 64 ((s.length : Int) - i) from by omega]
  rintro n ⟨h1, h2, h3⟩
  simp only [shs, sx, sb1, sb2, sb3, sb4, sb5, sb6, sb7, ↓reduceIte, Nat.reduceAdd, Nat.reduceMul, Nat.reduceDiv, Nat.reduceEqDiff, Nat.reduceLT, Nat.reduceLeDiff, reduceCtorEq, Int.reduceEq, Int.reduceNe, Int.reduceLT, Int.reduceLE, Int.reduceAdd, Int.reduceSub, Int.reduceMul, Int.reduceNeg, Int.reduceToNat, Int.cast_ofNat_Int, Int.natCast_zero, Int.natCast_one, Int.toNat_natCast, Nat.reduceBEq]
  refine ⟨fun hn => ?_, fun hn => ?_⟩
  · refine LoopK.go (X := Nat × Nat) (fun x => ([(0, true, .v (.string ⟨s.toArray⟩)), (1, true, .v (.int .i64 i)), (2, true, .v (.int .i64 win)), (8, true, .v (.int .i64 n)), (9, true, .v (.int .i64 x.2))], [], M))
      (fun x => (1 ≤ x.2 ∧ x.2 + x.1 = min win i + 1) ∧ rd s i n x.1 x.2 = rd s i n (min win i) 1) (fun x => x.1) (min win i, 1) ⟨⟨by simp, by simp; omega⟩, rfl⟩ (Ent.of ?_) ?_
    · simp only [sx, sb1, sb2, sb3, sb4, sb5, sb6, sb7, ↓reduceIte, Nat.reduceAdd, Nat.reduceMul, Nat.reduceDiv, Nat.reduceEqDiff, Nat.reduceLT, Nat.reduceLeDiff, reduceCtorEq, Int.reduceEq, Int.reduceNe, Int.reduceLT, Int.reduceLE, Int.reduceAdd, Int.reduceSub, Int.reduceMul, Int.reduceNeg, Int.reduceToNat, Int.cast_ofNat_Int, Int.natCast_zero, Int.natCast_one, Int.toNat_natCast, Nat.reduceBEq]; try trivial
    rintro ⟨g, d⟩ ⟨⟨h4, h5⟩, h6⟩
    simp only at h4 h5 h6
    simp only [shs, sx, sb1, sb2, sb3, sb4, sb5, sb6, sb7, ↓reduceIte, Nat.reduceAdd, Nat.reduceMul, Nat.reduceDiv, Nat.reduceEqDiff, Nat.reduceLT, Nat.reduceLeDiff, reduceCtorEq, Int.reduceEq, Int.reduceNe, Int.reduceLT, Int.reduceLE, Int.reduceAdd, Int.reduceSub, Int.reduceMul, Int.reduceNeg, Int.reduceToNat, Int.cast_ofNat_Int, Int.natCast_zero, Int.natCast_one, Int.toNat_natCast, Nat.reduceBEq]
    refine ⟨fun hd => ?_, fun hd => ?_⟩
    · refine DrawK.quiet (by kernel_rfl) (by kernel_rfl) ?_
      simp only [shs, sx, sb1, sb2, sb3, sb4, sb5, sb6, sb7, ↓reduceIte, Nat.reduceAdd, Nat.reduceMul, Nat.reduceDiv, Nat.reduceEqDiff, Nat.reduceLT, Nat.reduceLeDiff, reduceCtorEq, Int.reduceEq, Int.reduceNe, Int.reduceLT, Int.reduceLE, Int.reduceAdd, Int.reduceSub, Int.reduceMul, Int.reduceNeg, Int.reduceToNat, Int.cast_ofNat_Int, Int.natCast_zero, Int.natCast_one, Int.toNat_natCast, Nat.reduceBEq, inK, lo, hi]
      obtain ⟨n, rfl⟩ : ∃ n', n = n' + 1 := ⟨n - 1, by omega⟩
      obtain ⟨g, rfl⟩ : ∃ g', g = g' + 1 := ⟨g - 1, by omega⟩
      have e1 : ((i : Int) - d + ((n + 1 : Nat) : Int)).toNat = i - d + (n + 1) := by omega
      have e2 : ((i : Int) - d).toNat = i - d := by omega
      have e3 : ((i : Int) + ((n + 1 : Nat) : Int)).toNat = i + (n + 1) := by omega
      rw [e1, e2, e3, Nat.add_sub_cancel_left, Nat.add_sub_cancel_left]
      refine ⟨by omega, by omega, by omega, by omega, by omega, by omega, fun he => ?_, fun he => ⟨by omega, (g, d + 1), ⟨⟨⟨by simp, by simp only; omega⟩, ?_⟩, by simp⟩, Ent.of ?_⟩⟩
      · simp only [rl] at h3
        rw [← h6] at h3
        simp only [rd, he, if_true] at h3
        rw [← h3]
      · simp only [rd, he, if_false] at h6; exact h6
      · simp only [sx, sb1, sb2, sb3, sb4, sb5, sb6, sb7, ↓reduceIte, Nat.reduceAdd, Nat.reduceMul, Nat.reduceDiv, Nat.reduceEqDiff, Nat.reduceLT, Nat.reduceLeDiff, reduceCtorEq, Int.reduceEq, Int.reduceNe, Int.reduceLT, Int.reduceLE, Int.reduceAdd, Int.reduceSub, Int.reduceMul, Int.reduceNeg, Int.reduceToNat, Int.cast_ofNat_Int, Int.natCast_zero, Int.natCast_one, Int.toNat_natCast, Nat.reduceBEq]; try rfl
    · obtain ⟨n, rfl⟩ : ∃ n', n = n' + 1 := ⟨n - 1, by omega⟩
      obtain rfl : g = 0 := by omega
      refine ⟨by simp only [inK, lo, hi]; omega, n, ⟨⟨by omega, by omega, ?_⟩, by omega⟩, Ent.of ?_⟩
      · simp only [rl] at h3
        rw [← h6] at h3
        simp only [rd] at h3
        exact h3
      · simp only [sx, sb1, sb2, sb3, sb4, sb5, sb6, sb7, ↓reduceIte, Nat.reduceAdd, Nat.reduceMul, Nat.reduceDiv, Nat.reduceEqDiff, Nat.reduceLT, Nat.reduceLeDiff, reduceCtorEq, Int.reduceEq, Int.reduceNe, Int.reduceLT, Int.reduceLE, Int.reduceAdd, Int.reduceSub, Int.reduceMul, Int.reduceNeg, Int.reduceToNat, Int.cast_ofNat_Int, Int.natCast_zero, Int.natCast_one, Int.toNat_natCast, Nat.reduceBEq]; rw [show (((n + 1 : Nat) : Int) - 1) = (n : Int) from by omega]
  · obtain rfl : n = 0 := by omega
    simp only [rl] at h3
    rw [← h3]
    rfl
end Go.X.Lm
