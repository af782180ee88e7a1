/- match.Longest and woolref.Longest return what Lm.lg and Lm.rl say. Conditions: the string has at most 600 bytes, the index lies in it, the window is from 1 to 256. -/
import Derived.Test.YtbnbimncladflaaDoorTy
set_option linter.unusedSimpArgs false
set_option linter.unusedVariables false
set_option maxHeartbeats 4000000
set_option maxRecDepth 20000
namespace Go.X.Lm
open Go Go.X

def ext (s : List UInt8) (i d : Nat) : Nat → Nat → Nat
 | 0, n => n
 | f+1, n => if i+n < s.length ∧ s.getD (i+n) 0 = s.getD (i+n-d) 0 then ext s i d f (n+1) else n
def lg (s : List UInt8) (i : Nat) : Nat → Nat → Nat → Nat → Nat × Nat
 | 0, _, di, mo => (di, mo)
 | f+1, d, di, mo => if mo < ext s i d 64 0 then lg s i f (d+1) d (ext s i d 64 0) else lg s i f (d+1) di mo

theorem strIx_at (s : List UInt8) (i : Int) (n : Nat) (h : i = n) : strIx s i = ((s.getD n 0).toNat : Nat) := by subst h; rfl
theorem u8_inj {a b : UInt8} (h : ((a.toNat : Nat) : Int) = (b.toNat : Nat)) : a = b := UInt8.toNat_inj.1 (by omega)

theorem ext_go {s : List UInt8} {i d g n : Nat} (hg : 0 < g) (h : i+n < s.length ∧ s.getD (i+n) 0 = s.getD (i+n-d) 0) : ext s i d g n = ext s i d (g-1) (n+1) := by
  cases g with
  | zero => omega
  | succ g => simp only [ext]; rw [if_pos h]; rfl
theorem ext_stop {s : List UInt8} {i d g n : Nat} (h : 0 < g → ¬ (i+n < s.length ∧ s.getD (i+n) 0 = s.getD (i+n-d) 0)) : ext s i d g n = n := by
  cases g with
  | zero => rfl
  | succ g => simp only [ext]; rw [if_neg (h (by omega))]

theorem longest (s : List UInt8) (i win : Nat) (M : Mem) (hs : s.length ≤ 600) (hi2 : i ≤ s.length) (hw : 1 ≤ win) (hw2 : win ≤ 256)  :
    Meets Proofs.Tryd.prog 30 [.v (.string ⟨s.toArray⟩), .v (.int .i64 i), .v (.int .i64 win)] M fun r _ _ => r = .tup [.v (.int .i64 (lg s i (min win i) 1 0 0).1), .v (.int .i64 (lg s i (min win i) 1 0 0).2), .v (.int .i64 0)] := by
  refine Meets.of_body [0,1,2,6,7,8,9,10,11,12,15,31,36,63,68] Proofs.Tryd.func30 rfl (by kernel_rfl) rfl fun w => ?_
  simp only [Proofs.Tryd.f30, shs, sx, sb1, sb2, sb3, sb4, sb5, sb6, sb7, ↓reduceIte, Nat.reduceAdd, Nat.reduceMul, Nat.reduceDiv, Nat.reduceEqDiff, Nat.reduceLT, Nat.reduceLeDiff, reduceCtorEq, Int.reduceEq, Int.reduceNe, Int.reduceLT, Int.reduceLE, Int.reduceAdd, Int.reduceSub, Int.reduceMul, Int.reduceNeg, Int.reduceToNat, Int.cast_ofNat_Int, Int.natCast_zero, Int.natCast_one, Int.toNat_natCast, Nat.reduceBEq]
  refine ⟨fun h => by omega, fun _ => ⟨fun h => by omega, fun _ => ?_⟩⟩
  refine LoopK.go (X := Nat × Nat × Nat × Nat) (fun x => ([(0, true, .v (.string ⟨s.toArray⟩)), (1, true, .v (.int .i64 i)), (2, true, .v (.int .i64 win)), (9, true, .v (.int .i64 x.2.2.1)), (10, true, .v (.int .i64 x.2.2.2)), (11, true, .v (.int .i64 x.2.1))], [], M))
    (fun x => (1 ≤ x.2.1 ∧ x.2.1 + x.1 = min win i + 1) ∧ lg s i x.1 x.2.1 x.2.2.1 x.2.2.2 = lg s i (min win i) 1 0 0) (fun x => x.1) (min win i, 1, 0, 0) ⟨⟨by simp, by simp; omega⟩, rfl⟩ (Ent.of ?_) ?_
  · simp only [sx, sb1, sb2, sb3, sb4, sb5, sb6, sb7, ↓reduceIte, Nat.reduceAdd, Nat.reduceMul, Nat.reduceDiv, Nat.reduceEqDiff, Nat.reduceLT, Nat.reduceLeDiff, reduceCtorEq, Int.reduceEq, Int.reduceNe, Int.reduceLT, Int.reduceLE, Int.reduceAdd, Int.reduceSub, Int.reduceMul, Int.reduceNeg, Int.reduceToNat, Int.cast_ofNat_Int, Int.natCast_zero, Int.natCast_one, Int.toNat_natCast, Nat.reduceBEq]; try trivial
  rintro ⟨f, d, di, mo⟩ ⟨⟨h1, h2⟩, h3⟩
  simp only at h1 h2 h3
  simp only [shs, sx, sb1, sb2, sb3, sb4, sb5, sb6, sb7, ↓reduceIte, Nat.reduceAdd, Nat.reduceMul, Nat.reduceDiv, Nat.reduceEqDiff, Nat.reduceLT, Nat.reduceLeDiff, reduceCtorEq, Int.reduceEq, Int.reduceNe, Int.reduceLT, Int.reduceLE, Int.reduceAdd, Int.reduceSub, Int.reduceMul, Int.reduceNeg, Int.reduceToNat, Int.cast_ofNat_Int, Int.natCast_zero, Int.natCast_one, Int.toNat_natCast, Nat.reduceBEq]
  refine ⟨fun hd => ?_, fun hd => ?_⟩
  · refine LoopK.go (X := Nat × Nat) (fun x => ([(0, true, .v (.string ⟨s.toArray⟩)), (1, true, .v (.int .i64 i)), (2, true, .v (.int .i64 win)), (9, true, .v (.int .i64 di)), (10, true, .v (.int .i64 mo)), (11, true, .v (.int .i64 d)), (12, true, .v (.int .i64 x.2))], [], M))
      (fun x => x.2 + x.1 = 64 ∧ ext s i d x.1 x.2 = ext s i d 64 0) (fun x => x.1) (64, 0) ⟨rfl, rfl⟩ (Ent.of ?_) ?_
    · simp only [sx, sb1, sb2, sb3, sb4, sb5, sb6, sb7, ↓reduceIte, Nat.reduceAdd, Nat.reduceMul, Nat.reduceDiv, Nat.reduceEqDiff, Nat.reduceLT, Nat.reduceLeDiff, reduceCtorEq, Int.reduceEq, Int.reduceNe, Int.reduceLT, Int.reduceLE, Int.reduceAdd, Int.reduceSub, Int.reduceMul, Int.reduceNeg, Int.reduceToNat, Int.cast_ofNat_Int, Int.natCast_zero, Int.natCast_one, Int.toNat_natCast, Nat.reduceBEq]; try trivial
    rintro ⟨g, n⟩ ⟨h4, h5⟩
    simp only at h4 h5
    simp only [shs, sx, sb1, sb2, sb3, sb4, sb5, sb6, sb7, ↓reduceIte, Nat.reduceAdd, Nat.reduceMul, Nat.reduceDiv, Nat.reduceEqDiff, Nat.reduceLT, Nat.reduceLeDiff, reduceCtorEq, Int.reduceEq, Int.reduceNe, Int.reduceLT, Int.reduceLE, Int.reduceAdd, Int.reduceSub, Int.reduceMul, Int.reduceNeg, Int.reduceToNat, Int.cast_ofNat_Int, Int.natCast_zero, Int.natCast_one, Int.toNat_natCast, Nat.reduceBEq]
    refine DrawK.quiet (by kernel_rfl) (by kernel_rfl) ?_
    simp only [shs, sx, sb1, sb2, sb3, sb4, sb5, sb6, sb7, ↓reduceIte, Nat.reduceAdd, Nat.reduceMul, Nat.reduceDiv, Nat.reduceEqDiff, Nat.reduceLT, Nat.reduceLeDiff, reduceCtorEq, Int.reduceEq, Int.reduceNe, Int.reduceLT, Int.reduceLE, Int.reduceAdd, Int.reduceSub, Int.reduceMul, Int.reduceNeg, Int.reduceToNat, Int.cast_ofNat_Int, Int.natCast_zero, Int.natCast_one, Int.toNat_natCast, Nat.reduceBEq, inK, lo, hi]
    have hx1 : n + i < s.length → strIx s (↑i + ↑n) = ((s.getD (i + n) 0).toNat : Nat) := fun _ => strIx_at s _ _ (by omega)
    have hx2 : n + i < s.length → strIx s (↑i + ↑n - ↑d) = ((s.getD (i + n - d) 0).toNat : Nat) := fun _ => strIx_at s _ _ (by omega)
    refine ⟨by omega, by omega, by omega, by omega, by omega, by omega, fun ⟨⟨ha, hb⟩, hc⟩ => ⟨by omega, (g-1, n+1), ⟨⟨by simp only; omega, ?_⟩, by simp only; omega⟩, Ent.of ?_⟩, fun hno => ?_⟩
    · rw [hx1 (by omega), hx2 (by omega)] at hc
      rw [← h5, ext_go (by omega) ⟨by omega, u8_inj hc⟩]
    · simp only [sx, sb1, sb2, sb3, sb4, sb5, sb6, sb7, ↓reduceIte, Nat.reduceAdd, Nat.reduceMul, Nat.reduceDiv, Nat.reduceEqDiff, Nat.reduceLT, Nat.reduceLeDiff, reduceCtorEq, Int.reduceEq, Int.reduceNe, Int.reduceLT, Int.reduceLE, Int.reduceAdd, Int.reduceSub, Int.reduceMul, Int.reduceNeg, Int.reduceToNat, Int.cast_ofNat_Int, Int.natCast_zero, Int.natCast_one, Int.toNat_natCast, Nat.reduceBEq]; try rfl
    have hn : ext s i d 64 0 = n := by
      rw [← h5]
      refine ext_stop fun hg ⟨ha, hb⟩ => hno ⟨by omega, by omega⟩ ?_
      rw [hx1 (by omega), hx2 (by omega), hb]
    have hf : 0 < f := by omega
    obtain ⟨f, rfl⟩ : ∃ f', f = f' + 1 := ⟨f - 1, by omega⟩
    simp only [lg, hn] at h3
    refine ⟨fun hm => ⟨by omega, (f, d+1, d, n), ⟨⟨⟨by simp, by simp only; omega⟩, ?_⟩, by simp⟩, Ent.of ?_⟩, fun hm => ⟨by omega, (f, d+1, di, mo), ⟨⟨⟨by simp, by simp only; omega⟩, ?_⟩, by simp⟩, Ent.of ?_⟩⟩
    · rw [if_pos (by omega)] at h3; exact h3
    · simp only [sx, sb1, sb2, sb3, sb4, sb5, sb6, sb7, ↓reduceIte, Nat.reduceAdd, Nat.reduceMul, Nat.reduceDiv, Nat.reduceEqDiff, Nat.reduceLT, Nat.reduceLeDiff, reduceCtorEq, Int.reduceEq, Int.reduceNe, Int.reduceLT, Int.reduceLE, Int.reduceAdd, Int.reduceSub, Int.reduceMul, Int.reduceNeg, Int.reduceToNat, Int.cast_ofNat_Int, Int.natCast_zero, Int.natCast_one, Int.toNat_natCast, Nat.reduceBEq]; try rfl
    · rw [if_neg (by omega)] at h3; exact h3
    · simp only [sx, sb1, sb2, sb3, sb4, sb5, sb6, sb7, ↓reduceIte, Nat.reduceAdd, Nat.reduceMul, Nat.reduceDiv, Nat.reduceEqDiff, Nat.reduceLT, Nat.reduceLeDiff, reduceCtorEq, Int.reduceEq, Int.reduceNe, Int.reduceLT, Int.reduceLE, Int.reduceAdd, Int.reduceSub, Int.reduceMul, Int.reduceNeg, Int.reduceToNat, Int.cast_ofNat_Int, Int.natCast_zero, Int.natCast_one, Int.toNat_natCast, Nat.reduceBEq]; try rfl
  · obtain rfl : f = 0 := by omega
    simp only [lg] at h3
    rw [← h3]
end Go.X.Lm
