/- Bags: what bag.Get returns. Conditions: none. -/
import Derived.Test.YtbnbimncladflaaBagP
set_option linter.unusedSimpArgs false
set_option linter.unusedVariables false
set_option maxHeartbeats 4000000
set_option maxRecDepth 20000
namespace Go.X.Bp
open Go Go.X Go.RowKit Go.X.Bg

/-- the text of an id -/
def txtId (bag : List It) (id : Id3) : List UInt8 := ((bag[(fidx (isId id) bag 0).toNat]?).map (·.2.2.1)).getD []
def getE (bag : List It) (id : Id3) : Int := if bagE bag ≠ 0 then bagE bag else if fidx (isId id) bag 0 < 0 then 4 else 0
theorem get (b : Value) (bag : List It) (id : Id3) (M : Mem) (hb : RowM M b 4 (bag.map Bg.encT)) :
    Meets Proofs.Try.prog 25 [.v b, idS id] M fun r _ _ => r = .tup [.v (.string ⟨(if getE bag id = 0 then txtId bag id else []).toArray⟩), .v (.int .i64 (getE bag id))] := by
  refine Meets.of_body [0,1,3,4,5,6,7,11,17] Proofs.Try.func25 rfl (by kernel_rfl) rfl fun w => ?_
  have hC := check b bag M hb
  have hF := Bg.find b bag id M hb
  generalize hE : getE bag id = e
  unfold getE at hE
  simp only [idV] at hF
  simp only [Proofs.Try.f25, idS, shs, zts, sos, sls, zss, eqs, sx, sb1, sb2, sb3, sb4, sb5, sb6, sb7, ↓reduceIte, Nat.reduceAdd, Nat.reduceMul, Nat.reduceDiv, Nat.reduceEqDiff, Nat.reduceLT, Nat.reduceLeDiff, reduceCtorEq, Int.reduceEq, Int.reduceNe, Int.reduceLT, Int.reduceLE, Int.reduceAdd, Int.reduceSub, Int.reduceMul, Int.reduceNeg, Int.reduceToNat, Int.cast_ofNat_Int, Int.natCast_zero, Int.natCast_one, Int.toNat_natCast, Nat.reduceBEq, nzs]
  refine CallK.pure ⟨rfl, rfl⟩ rfl hC ?_
  by_cases h1 : bagE bag = 0
  rotate_left
  · have c1 := eq_false h1
    rw [if_pos h1] at hE
    subst hE
    rw [if_neg h1]
    simp only [shs, zts, sos, sls, zss, eqs, sx, sb1, sb2, sb3, sb4, sb5, sb6, sb7, ↓reduceIte, Nat.reduceAdd, Nat.reduceMul, Nat.reduceDiv, Nat.reduceEqDiff, Nat.reduceLT, Nat.reduceLeDiff, reduceCtorEq, Int.reduceEq, Int.reduceNe, Int.reduceLT, Int.reduceLE, Int.reduceAdd, Int.reduceSub, Int.reduceMul, Int.reduceNeg, Int.reduceToNat, Int.cast_ofNat_Int, Int.natCast_zero, Int.natCast_one, Int.toNat_natCast, Nat.reduceBEq, nzs, c1]
  rw [if_neg (fun h => h h1)] at hE
  simp only [shs, zts, sos, sls, zss, eqs, sx, sb1, sb2, sb3, sb4, sb5, sb6, sb7, ↓reduceIte, Nat.reduceAdd, Nat.reduceMul, Nat.reduceDiv, Nat.reduceEqDiff, Nat.reduceLT, Nat.reduceLeDiff, reduceCtorEq, Int.reduceEq, Int.reduceNe, Int.reduceLT, Int.reduceLE, Int.reduceAdd, Int.reduceSub, Int.reduceMul, Int.reduceNeg, Int.reduceToNat, Int.cast_ofNat_Int, Int.natCast_zero, Int.natCast_one, Int.toNat_natCast, Nat.reduceBEq, nzs, h1]
  refine CallK.pure ⟨rfl, rfl⟩ rfl hF ?_
  by_cases h2 : fidx (isId id) bag 0 < 0
  · have c2 := eq_true h2
    rw [if_pos h2] at hE
    subst hE
    simp only [shs, zts, sos, sls, zss, eqs, sx, sb1, sb2, sb3, sb4, sb5, sb6, sb7, ↓reduceIte, Nat.reduceAdd, Nat.reduceMul, Nat.reduceDiv, Nat.reduceEqDiff, Nat.reduceLT, Nat.reduceLeDiff, reduceCtorEq, Int.reduceEq, Int.reduceNe, Int.reduceLT, Int.reduceLE, Int.reduceAdd, Int.reduceSub, Int.reduceMul, Int.reduceNeg, Int.reduceToNat, Int.cast_ofNat_Int, Int.natCast_zero, Int.natCast_one, Int.toNat_natCast, Nat.reduceBEq, nzs, c2]
  have c2 := eq_false h2
  rw [if_neg h2] at hE
  subst hE
  rcases fidx_sp (isId id) bag 0 with ⟨h3, _⟩ | ⟨j, x, k1, k2, k3, _⟩
  · rw [h3] at h2; exact absurd (by decide) h2
  rw [Nat.zero_add] at k1
  obtain ⟨⟨y0, y1⟩, ⟨y2, y3⟩, yi⟩ := it_at hb k2
  have ht : txtId bag id = x.2.2.1 := by unfold txtId; rw [k1, Int.toNat_natCast, k2]; rfl
  rw [ht]
  rw [k1] at c2 ⊢
  simp only [shs, zts, sos, sls, zss, eqs, sx, sb1, sb2, sb3, sb4, sb5, sb6, sb7, ↓reduceIte, Nat.reduceAdd, Nat.reduceMul, Nat.reduceDiv, Nat.reduceEqDiff, Nat.reduceLT, Nat.reduceLeDiff, reduceCtorEq, Int.reduceEq, Int.reduceNe, Int.reduceLT, Int.reduceLE, Int.reduceAdd, Int.reduceSub, Int.reduceMul, Int.reduceNeg, Int.reduceToNat, Int.cast_ofNat_Int, Int.natCast_zero, Int.natCast_one, Int.toNat_natCast, Nat.reduceBEq, nzs, c2, yi, yi.2, y2.1, y2.2, if_true]
end Go.X.Bp
