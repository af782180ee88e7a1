/- Where a number stands in a list of numbers: slices.Index, slices.Contains at []int. Conditions: none. -/
import Derived.Test.YtbnbimncladflaaRefP
import Derived.Test.YtbnbimncladflaaFwD
set_option linter.unusedSimpArgs false
set_option linter.unusedVariables false
set_option maxHeartbeats 4000000
set_option maxRecDepth 20000
namespace Go.X.Si
open Go Go.X Go.X.Rp

/-- where a number stands, or -1 -/
def ix (k : Int) : List Int → Nat → Int
  | [], _ => -1
  | x :: l, i => if k = x then (i : Int) else ix k l (i + 1)
theorem index (y : Value) (l : List Int) (k : Int) (M : Mem) (hy : RowM M y 1 (l.map encI)) :
    Meets Proofs.Try.prog 50 [.v y, .v (.int .i64 k)] M fun r _ _ => r = .v (.int .i64 (ix k l 0)) := by
  refine Meets.of_body [0,1,4,5,7,8,9,16] Proofs.Try.func50 rfl (by kernel_rfl) rfl fun w => ?_
  generalize hc : ix k l 0 = c
  have hyl := hy.len_le
  rw [List.length_map] at hyl
  simp only [Proofs.Try.f50, shs, zts, sos, sls, zss, eqs, sx, sb1, sb2, sb3, sb4, sb5, sb6, sb7, ↓reduceIte, Nat.reduceAdd, Nat.reduceMul, Nat.reduceDiv, Nat.reduceEqDiff, Nat.reduceLT, Nat.reduceLeDiff, reduceCtorEq, Int.reduceEq, Int.reduceNe, Int.reduceLT, Int.reduceLE, Int.reduceAdd, Int.reduceSub, Int.reduceMul, Int.reduceNeg, Int.reduceToNat, Int.cast_ofNat_Int, Int.natCast_zero, Int.natCast_one, Int.toNat_natCast, Nat.reduceBEq, hy.len, hy.sl, List.length_map]
  refine LoopK.go (X := Nat × Nat) (fun x => ([(0, true, .v y), (1, true, .v (.int .i64 k)), (7, true, .v (.int .i64 l.length)), (8, true, .v (.int .i64 x.2))], [], M))
    (fun x => x.1 + x.2 = l.length ∧ ix k (l.drop x.2) x.2 = c) (fun x => x.1) (l.length, 0) ⟨rfl, hc⟩ (Ent.of ?_) ?_
  · simp only [sx, sb1, sb2, sb3, sb4, sb5, sb6, sb7, ↓reduceIte, Nat.reduceAdd, Nat.reduceMul, Nat.reduceDiv, Nat.reduceEqDiff, Nat.reduceLT, Nat.reduceLeDiff, reduceCtorEq, Int.reduceEq, Int.reduceNe, Int.reduceLT, Int.reduceLE, Int.reduceAdd, Int.reduceSub, Int.reduceMul, Int.reduceNeg, Int.reduceToNat, Int.cast_ofNat_Int, Int.natCast_zero, Int.natCast_one, Int.toNat_natCast, Nat.reduceBEq]
  rintro ⟨f, i⟩ ⟨h1, h2⟩
  simp only at h1 h2
  simp only [shs, zts, sos, sls, zss, eqs, sx, sb1, sb2, sb3, sb4, sb5, sb6, sb7, ↓reduceIte, Nat.reduceAdd, Nat.reduceMul, Nat.reduceDiv, Nat.reduceEqDiff, Nat.reduceLT, Nat.reduceLeDiff, reduceCtorEq, Int.reduceEq, Int.reduceNe, Int.reduceLT, Int.reduceLE, Int.reduceAdd, Int.reduceSub, Int.reduceMul, Int.reduceNeg, Int.reduceToNat, Int.cast_ofNat_Int, Int.natCast_zero, Int.natCast_one, Int.toNat_natCast, Nat.reduceBEq]
  refine ⟨fun h3 => ?_, fun h3 => ?_⟩
  · obtain ⟨x, hx, hd⟩ := drop_at (l := l) (i := i) (by omega)
    have g1 := hy.el1 hx rfl
    have i1 := hy.ix (i := (i : Int)) (by omega) (by rw [List.length_map]; omega)
    rw [hd] at h2
    simp only [ix] at h2
    simp only [shs, zts, sos, sls, zss, eqs, sx, sb1, sb2, sb3, sb4, sb5, sb6, sb7, ↓reduceIte, Nat.reduceAdd, Nat.reduceMul, Nat.reduceDiv, Nat.reduceEqDiff, Nat.reduceLT, Nat.reduceLeDiff, reduceCtorEq, Int.reduceEq, Int.reduceNe, Int.reduceLT, Int.reduceLE, Int.reduceAdd, Int.reduceSub, Int.reduceMul, Int.reduceNeg, Int.reduceToNat, Int.cast_ofNat_Int, Int.natCast_zero, Int.natCast_one, Int.toNat_natCast, Nat.reduceBEq, g1.1, inK, lo, hi]
    refine ⟨i1, g1.2, fun h4 => ?_, fun h4 => ⟨by omega, (f - 1, i + 1), ⟨⟨by simp only; omega, by simp only; rw [if_neg h4] at h2; exact h2⟩, by simp only; omega⟩, Ent.of ?_⟩⟩
    · rw [if_pos h4] at h2
      rw [h2]
    · simp only [sx, sb1, sb2, sb3, sb4, sb5, sb6, sb7, ↓reduceIte, Nat.reduceAdd, Nat.reduceMul, Nat.reduceDiv, Nat.reduceEqDiff, Nat.reduceLT, Nat.reduceLeDiff, reduceCtorEq, Int.reduceEq, Int.reduceNe, Int.reduceLT, Int.reduceLE, Int.reduceAdd, Int.reduceSub, Int.reduceMul, Int.reduceNeg, Int.reduceToNat, Int.cast_ofNat_Int, Int.natCast_zero, Int.natCast_one, Int.toNat_natCast, Nat.reduceBEq, Int.natCast_add]
  · have hd : l.drop i = [] := List.drop_eq_nil_of_le (by omega)
    rw [hd] at h2
    simp only [ix] at h2
    rw [h2]
theorem contains (y : Value) (l : List Int) (k : Int) (M : Mem) (hy : RowM M y 1 (l.map encI)) :
    Meets Proofs.Try.prog 17 [.v y, .v (.int .i64 k)] M fun r _ _ => r = .v (.bool (decide (0 ≤ ix k l 0))) := by
  refine Meets.of_body [0,1,4] Proofs.Try.func17 rfl (by kernel_rfl) rfl fun w => ?_
  simp only [Proofs.Try.f17, shs, zts, sos, sls, zss, eqs, sx, sb1, sb2, sb3, sb4, sb5, sb6, sb7, ↓reduceIte, Nat.reduceAdd, Nat.reduceMul, Nat.reduceDiv, Nat.reduceEqDiff, Nat.reduceLT, Nat.reduceLeDiff, reduceCtorEq, Int.reduceEq, Int.reduceNe, Int.reduceLT, Int.reduceLE, Int.reduceAdd, Int.reduceSub, Int.reduceMul, Int.reduceNeg, Int.reduceToNat, Int.cast_ofNat_Int, Int.natCast_zero, Int.natCast_one, Int.toNat_natCast, Nat.reduceBEq]
  refine CallK.pure ⟨rfl, rfl⟩ rfl (index y l k M hy) ?_
  simp only [shs, zts, sos, sls, zss, eqs, sx, sb1, sb2, sb3, sb4, sb5, sb6, sb7, ↓reduceIte, Nat.reduceAdd, Nat.reduceMul, Nat.reduceDiv, Nat.reduceEqDiff, Nat.reduceLT, Nat.reduceLeDiff, reduceCtorEq, Int.reduceEq, Int.reduceNe, Int.reduceLT, Int.reduceLE, Int.reduceAdd, Int.reduceSub, Int.reduceMul, Int.reduceNeg, Int.reduceToNat, Int.cast_ofNat_Int, Int.natCast_zero, Int.natCast_one, Int.toNat_natCast, Nat.reduceBEq]
theorem ix_ge (k : Int) : ∀ (l : List Int) (i : Nat), (0 ≤ ix k l i) = (k ∈ l)
  | [], i => by simp [ix]
  | x :: l, i => by
    rw [ix, List.mem_cons]
    split
    · rename_i h
      exact propext ⟨fun _ => .inl h, fun _ => by omega⟩
    · rename_i h
      rw [ix_ge k l (i + 1)]
      exact propext ⟨fun a => .inr a, fun a => a.resolve_left h⟩
end Go.X.Si
