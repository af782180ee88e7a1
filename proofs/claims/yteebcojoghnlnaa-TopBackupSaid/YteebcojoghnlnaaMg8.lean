/- Contracts of functions and the logic that they are proved in (5 texts in one). Conditions: none. -/
import Derived.Test.YteebcojoghnlnaaMg5
import Derived.Test.YteebcojoghnlnaaMg7
import Derived.Test.YteebcojoghnlnaaMg6
import Derived.Laws.IdiomStrings
import Derived.Laws.RangeString
import Derived.Lib.OthersKept
import Derived.WalkKit
import Derived.Shelf.Lays
set_option linter.unusedSimpArgs false
set_option linter.unusedVariables false
set_option maxHeartbeats 4000000
set_option maxRecDepth 20000
namespace Go.X.Bg
open Go Go.X

abbrev It := Int × Int × List UInt8 × Int
def encT (x : It) : List Value := [.int .i64 x.1, .int .i64 x.2.1, .string ⟨x.2.2.1.toArray⟩, .int .i64 x.2.2.2]
def itV (x : It) : SV := .agg [.v (.int .i64 x.1), .v (.int .i64 x.2.1), .v (.string ⟨x.2.2.1.toArray⟩), .v (.int .i64 x.2.2.2)]
def sumT (s : List UInt8) : Int := ((Pt.prf 65581 s 1 : Nat) : Int)
theorem prf_le (m : Nat) (h0 : m ≠ 0) (hm : m ≤ 2147483647) : ∀ (s : List UInt8) (p : Nat), p ≤ 2147483647 → Pt.prf m s p ≤ 2147483647
  | [], p, h => h
  | c :: s, p, _ => by
    exact prf_le m h0 hm s _ (Nat.le_trans (Mv.red_le (x := p * 2 ^ 8 + c.toNat) h0 hm) (by decide))
theorem sumT_rng (s : List UInt8) : 0 ≤ sumT s ∧ sumT s ≤ 2147483647 := by
  have := prf_le 65581 (by decide) (by decide) s 1 (by decide)
  unfold sumT
  omega
def oneE (x : It) : Int := if 64 < x.2.2.1.length then 2 else if x.1 ≠ sumT x.2.2.1 then 6 else if (x.2.1 < 0 ∨ 64 ≤ x.2.1) ∨ (x.2.2.2 < 1 ∨ 1000000 < x.2.2.2) then 1 else 0
theorem oneE_ok {x : It} (h : oneE x = 0) : (x.2.2.1.length ≤ 64 ∧ x.1 = sumT x.2.2.1) ∧ (0 ≤ x.2.1 ∧ x.2.1 < 64) ∧ 1 ≤ x.2.2.2 ∧ x.2.2.2 ≤ 1000000 := by
  unfold oneE at h
  split at h
  · cases h
  · split at h
    · cases h
    · rename_i h2
      split at h
      · cases h
      · exact ⟨⟨by omega, Classical.not_not.1 h2⟩, by omega, by omega⟩
theorem plainS (s : List UInt8) (M : Mem) (hs : s.length ≤ maxLen) : Meets Proofs.Try.prog 67 [.v (.int .i64 65581), .v (.string ⟨s.toArray⟩)] M fun r _ _ => r = .v (.int .i64 (sumT s)) := Pt.plain 65581 s M (by decide) (by decide) hs
theorem one (x : It) (M : Mem) : Meets Proofs.Try.prog 68 [itV x] M fun r _ _ => r = .v (.int .i64 (oneE x)) := by
  refine Meets.of_body [0,1,2,3,8,15] Proofs.Try.func68 rfl (by kernel_rfl) rfl fun w => ?_
  generalize hc : oneE x = c
  unfold oneE at hc
  by_cases h1 : 64 < x.2.2.1.length
  · rw [if_pos h1] at hc
    subst hc
    have c1 : (64 < (x.2.2.1.length : Int)) = True := eq_true (by omega)
    simp only [Proofs.Try.f68, itV, shs, zts, sos, sls, zss, eqs, sx, sb1, sb2, sb3, sb4, sb5, sb6, sb7, ↓reduceIte, Nat.reduceAdd, Nat.reduceMul, Nat.reduceDiv, Nat.reduceEqDiff, Nat.reduceLT, Nat.reduceLeDiff, reduceCtorEq, Int.reduceEq, Int.reduceNe, Int.reduceLT, Int.reduceLE, Int.reduceAdd, Int.reduceSub, Int.reduceMul, Int.reduceNeg, Int.reduceToNat, Int.cast_ofNat_Int, Int.natCast_zero, Int.natCast_one, Int.toNat_natCast, Nat.reduceBEq, nzs, c1]
  rw [if_neg h1] at hc
  have c1 : (64 < (x.2.2.1.length : Int)) = False := eq_false (by omega)
  simp only [Proofs.Try.f68, itV, shs, zts, sos, sls, zss, eqs, sx, sb1, sb2, sb3, sb4, sb5, sb6, sb7, ↓reduceIte, Nat.reduceAdd, Nat.reduceMul, Nat.reduceDiv, Nat.reduceEqDiff, Nat.reduceLT, Nat.reduceLeDiff, reduceCtorEq, Int.reduceEq, Int.reduceNe, Int.reduceLT, Int.reduceLE, Int.reduceAdd, Int.reduceSub, Int.reduceMul, Int.reduceNeg, Int.reduceToNat, Int.cast_ofNat_Int, Int.natCast_zero, Int.natCast_one, Int.toNat_natCast, Nat.reduceBEq, nzs, c1]
  refine DrawK.quiet (by kernel_rfl) (by kernel_rfl) ?_
  simp only [shs, zts, sos, sls, zss, eqs, sx, sb1, sb2, sb3, sb4, sb5, sb6, sb7, ↓reduceIte, Nat.reduceAdd, Nat.reduceMul, Nat.reduceDiv, Nat.reduceEqDiff, Nat.reduceLT, Nat.reduceLeDiff, reduceCtorEq, Int.reduceEq, Int.reduceNe, Int.reduceLT, Int.reduceLE, Int.reduceAdd, Int.reduceSub, Int.reduceMul, Int.reduceNeg, Int.reduceToNat, Int.cast_ofNat_Int, Int.natCast_zero, Int.natCast_one, Int.toNat_natCast, Nat.reduceBEq, nzs]
  refine ⟨_, ⟨⟨rfl, rfl⟩, plainS x.2.2.1 M (by simp only [maxLen]; omega)⟩, ?_⟩
  by_cases h2 : x.1 = sumT x.2.2.1
  rotate_left
  · rw [if_pos h2] at hc
    subst hc
    have c2 : (x.1 = sumT x.2.2.1) = False := eq_false h2
    simp only [shs, zts, sos, sls, zss, eqs, sx, sb1, sb2, sb3, sb4, sb5, sb6, sb7, ↓reduceIte, Nat.reduceAdd, Nat.reduceMul, Nat.reduceDiv, Nat.reduceEqDiff, Nat.reduceLT, Nat.reduceLeDiff, reduceCtorEq, Int.reduceEq, Int.reduceNe, Int.reduceLT, Int.reduceLE, Int.reduceAdd, Int.reduceSub, Int.reduceMul, Int.reduceNeg, Int.reduceToNat, Int.cast_ofNat_Int, Int.natCast_zero, Int.natCast_one, Int.toNat_natCast, Nat.reduceBEq, nzs, c2]
  rw [if_neg (fun e => e h2)] at hc
  have c2 : (x.1 = sumT x.2.2.1) = True := eq_true h2
  simp only [shs, zts, sos, sls, zss, eqs, sx, sb1, sb2, sb3, sb4, sb5, sb6, sb7, ↓reduceIte, Nat.reduceAdd, Nat.reduceMul, Nat.reduceDiv, Nat.reduceEqDiff, Nat.reduceLT, Nat.reduceLeDiff, reduceCtorEq, Int.reduceEq, Int.reduceNe, Int.reduceLT, Int.reduceLE, Int.reduceAdd, Int.reduceSub, Int.reduceMul, Int.reduceNeg, Int.reduceToNat, Int.cast_ofNat_Int, Int.natCast_zero, Int.natCast_one, Int.toNat_natCast, Nat.reduceBEq, nzs, c2]
  by_cases k1 : x.2.1 < 0
  · rw [if_pos (.inl (.inl k1))] at hc
    subst hc
    have d1 : (x.2.1 < 0) = True := eq_true k1
    simp only [shs, zts, sos, sls, zss, eqs, sx, sb1, sb2, sb3, sb4, sb5, sb6, sb7, ↓reduceIte, Nat.reduceAdd, Nat.reduceMul, Nat.reduceDiv, Nat.reduceEqDiff, Nat.reduceLT, Nat.reduceLeDiff, reduceCtorEq, Int.reduceEq, Int.reduceNe, Int.reduceLT, Int.reduceLE, Int.reduceAdd, Int.reduceSub, Int.reduceMul, Int.reduceNeg, Int.reduceToNat, Int.cast_ofNat_Int, Int.natCast_zero, Int.natCast_one, Int.toNat_natCast, Nat.reduceBEq, nzs, d1]
    exact fun h => by omega
  have d1 : (x.2.1 < 0) = False := eq_false k1
  by_cases k2 : 64 ≤ x.2.1
  · rw [if_pos (.inl (.inr k2))] at hc
    subst hc
    have d2 : (64 ≤ x.2.1) = True := eq_true k2
    simp only [shs, zts, sos, sls, zss, eqs, sx, sb1, sb2, sb3, sb4, sb5, sb6, sb7, ↓reduceIte, Nat.reduceAdd, Nat.reduceMul, Nat.reduceDiv, Nat.reduceEqDiff, Nat.reduceLT, Nat.reduceLeDiff, reduceCtorEq, Int.reduceEq, Int.reduceNe, Int.reduceLT, Int.reduceLE, Int.reduceAdd, Int.reduceSub, Int.reduceMul, Int.reduceNeg, Int.reduceToNat, Int.cast_ofNat_Int, Int.natCast_zero, Int.natCast_one, Int.toNat_natCast, Nat.reduceBEq, nzs, d1, d2]
    exact fun h => by omega
  have d2 : (64 ≤ x.2.1) = False := eq_false k2
  by_cases k3 : x.2.2.2 < 1
  · rw [if_pos (.inr (.inl k3))] at hc
    subst hc
    have d3 : (x.2.2.2 < 1) = True := eq_true k3
    simp only [shs, zts, sos, sls, zss, eqs, sx, sb1, sb2, sb3, sb4, sb5, sb6, sb7, ↓reduceIte, Nat.reduceAdd, Nat.reduceMul, Nat.reduceDiv, Nat.reduceEqDiff, Nat.reduceLT, Nat.reduceLeDiff, reduceCtorEq, Int.reduceEq, Int.reduceNe, Int.reduceLT, Int.reduceLE, Int.reduceAdd, Int.reduceSub, Int.reduceMul, Int.reduceNeg, Int.reduceToNat, Int.cast_ofNat_Int, Int.natCast_zero, Int.natCast_one, Int.toNat_natCast, Nat.reduceBEq, nzs, d1, d2, d3]
    exact fun h => by omega
  have d3 : (x.2.2.2 < 1) = False := eq_false k3
  by_cases k4 : 1000000 < x.2.2.2
  · rw [if_pos (.inr (.inr k4))] at hc
    subst hc
    have d4 : (1000000 < x.2.2.2) = True := eq_true k4
    simp only [shs, zts, sos, sls, zss, eqs, sx, sb1, sb2, sb3, sb4, sb5, sb6, sb7, ↓reduceIte, Nat.reduceAdd, Nat.reduceMul, Nat.reduceDiv, Nat.reduceEqDiff, Nat.reduceLT, Nat.reduceLeDiff, reduceCtorEq, Int.reduceEq, Int.reduceNe, Int.reduceLT, Int.reduceLE, Int.reduceAdd, Int.reduceSub, Int.reduceMul, Int.reduceNeg, Int.reduceToNat, Int.cast_ofNat_Int, Int.natCast_zero, Int.natCast_one, Int.toNat_natCast, Nat.reduceBEq, nzs, d1, d2, d3, d4]
    exact fun h => by omega
  have d4 : (1000000 < x.2.2.2) = False := eq_false k4
  rw [if_neg (by omega)] at hc
  subst hc
  simp only [shs, zts, sos, sls, zss, eqs, sx, sb1, sb2, sb3, sb4, sb5, sb6, sb7, ↓reduceIte, Nat.reduceAdd, Nat.reduceMul, Nat.reduceDiv, Nat.reduceEqDiff, Nat.reduceLT, Nat.reduceLeDiff, reduceCtorEq, Int.reduceEq, Int.reduceNe, Int.reduceLT, Int.reduceLE, Int.reduceAdd, Int.reduceSub, Int.reduceMul, Int.reduceNeg, Int.reduceToNat, Int.cast_ofNat_Int, Int.natCast_zero, Int.natCast_one, Int.toNat_natCast, Nat.reduceBEq, nzs, d1, d2, d3, d4]

def cmpT (a b : It) : Int := if a.1 = b.1 then a.2.1 - b.2.1 else a.1 - b.1
theorem cmp (a b : It) (M : Mem) (h : (0 ≤ a.1 ∧ a.1 ≤ 2147483647) ∧ (0 ≤ b.1 ∧ b.1 ≤ 2147483647) ∧ (0 ≤ a.2.1 ∧ a.2.1 < 64) ∧ (0 ≤ b.2.1 ∧ b.2.1 < 64)) :
    Meets Proofs.Try.prog 69 [itV a, itV b] M fun r _ _ => r = .v (.int .i64 (cmpT a b)) := by
  refine Meets.of_body [0,1,2,3,4,9] Proofs.Try.func69 rfl (by kernel_rfl) rfl fun w => ?_
  unfold cmpT
  by_cases h1 : a.1 = b.1
  · have c1 : (a.1 = b.1) = True := eq_true h1
    simp only [Proofs.Try.f69, itV, shs, zts, sos, sls, zss, eqs, sx, sb1, sb2, sb3, sb4, sb5, sb6, sb7, ↓reduceIte, Nat.reduceAdd, Nat.reduceMul, Nat.reduceDiv, Nat.reduceEqDiff, Nat.reduceLT, Nat.reduceLeDiff, reduceCtorEq, Int.reduceEq, Int.reduceNe, Int.reduceLT, Int.reduceLE, Int.reduceAdd, Int.reduceSub, Int.reduceMul, Int.reduceNeg, Int.reduceToNat, Int.cast_ofNat_Int, Int.natCast_zero, Int.natCast_one, Int.toNat_natCast, Nat.reduceBEq, nzs, c1, inK, lo, hi]
    omega
  · have c1 : (a.1 = b.1) = False := eq_false h1
    simp only [Proofs.Try.f69, itV, shs, zts, sos, sls, zss, eqs, sx, sb1, sb2, sb3, sb4, sb5, sb6, sb7, ↓reduceIte, Nat.reduceAdd, Nat.reduceMul, Nat.reduceDiv, Nat.reduceEqDiff, Nat.reduceLT, Nat.reduceLeDiff, reduceCtorEq, Int.reduceEq, Int.reduceNe, Int.reduceLT, Int.reduceLE, Int.reduceAdd, Int.reduceSub, Int.reduceMul, Int.reduceNeg, Int.reduceToNat, Int.cast_ofNat_Int, Int.natCast_zero, Int.natCast_one, Int.toNat_natCast, Nat.reduceBEq, nzs, c1, inK, lo, hi]
    exact ⟨by omega, by omega⟩

theorem idxB {α : Type} (q0 q1 q2 q3 : α → Value) (p : α → Bool) (f : Nat) (caps : List SV) (hcaps : SV.concs caps = true) (y : Value) (l : List α) (M : Mem) (hy : RowM M y 4 (l.map (fun x => [q0 x, q1 x, q2 x, q3 x])))
    (hf : ∀ x ∈ l, Meets Proofs.Try.prog f (.agg [.v (q0 x), .v (q1 x), .v (q2 x), .v (q3 x)] :: caps) M fun r _ _ => r = .v (.bool (p x))) :
    Meets Proofs.Try.prog 76 [.v y, .fn f caps] M fun r _ _ => r = .v (.int .i64 (fidx p l 0)) := by
  refine Meets.of_body [0,1,4,5,7,8,9,16] Proofs.Try.func76 rfl (by kernel_rfl) (by simp only [SV.concs, SV.conc, hcaps, Bool.and_self]) fun w => ?_
  generalize hc : fidx p l 0 = c
  have hyl := hy.len_le
  rw [List.length_map] at hyl
  simp only [Proofs.Try.f76, shs, zts, sos, sls, zss, eqs, sx, sb1, sb2, sb3, sb4, sb5, sb6, sb7, ↓reduceIte, Nat.reduceAdd, Nat.reduceMul, Nat.reduceDiv, Nat.reduceEqDiff, Nat.reduceLT, Nat.reduceLeDiff, reduceCtorEq, Int.reduceEq, Int.reduceNe, Int.reduceLT, Int.reduceLE, Int.reduceAdd, Int.reduceSub, Int.reduceMul, Int.reduceNeg, Int.reduceToNat, Int.cast_ofNat_Int, Int.natCast_zero, Int.natCast_one, Int.toNat_natCast, Nat.reduceBEq, hy.len, hy.sl, List.length_map]
  refine LoopK.go (X := Nat × Nat) (fun x => ([(0, true, .v y), (1, true, .fn f caps), (7, true, .v (.int .i64 l.length)), (8, true, .v (.int .i64 x.2))], [], M))
    (fun x => x.1 + x.2 = l.length ∧ fidx p (l.drop x.2) x.2 = c) (fun x => x.1) (l.length, 0) ⟨rfl, hc⟩ (Ent.of ?_) ?_
  · simp only [sx, sb1, sb2, sb3, sb4, sb5, sb6, sb7, ↓reduceIte, Nat.reduceAdd, Nat.reduceMul, Nat.reduceDiv, Nat.reduceEqDiff, Nat.reduceLT, Nat.reduceLeDiff, reduceCtorEq, Int.reduceEq, Int.reduceNe, Int.reduceLT, Int.reduceLE, Int.reduceAdd, Int.reduceSub, Int.reduceMul, Int.reduceNeg, Int.reduceToNat, Int.cast_ofNat_Int, Int.natCast_zero, Int.natCast_one, Int.toNat_natCast, Nat.reduceBEq]
  rintro ⟨fu, i⟩ ⟨h1, h2⟩
  simp only at h1 h2
  by_cases hil : i < l.length
  · have c1 : ((i : Int) < (l.length : Int)) = True := eq_true (by omega)
    obtain ⟨a, hx, hd⟩ := l_drop_at (l := l) (i := i) hil
    rw [hd] at h2
    simp only [fidx] at h2
    have g0 := hy.cell (i := i) (e := [q0 a, q1 a, q2 a, q3 a]) (by rw [List.getElem?_map, hx]; rfl) (off := 0) (by omega)
    have g1 := hy.cell (i := i) (e := [q0 a, q1 a, q2 a, q3 a]) (by rw [List.getElem?_map, hx]; rfl) (off := 1) (by omega)
    have g2 := hy.cell (i := i) (e := [q0 a, q1 a, q2 a, q3 a]) (by rw [List.getElem?_map, hx]; rfl) (off := 2) (by omega)
    have g3 := hy.cell (i := i) (e := [q0 a, q1 a, q2 a, q3 a]) (by rw [List.getElem?_map, hx]; rfl) (off := 3) (by omega)
    have i0 := hy.ix (i := (i : Int)) (by omega) (by rw [List.length_map]; omega)
    simp only [List.getD_cons_zero, List.getD_cons_succ] at g0 g1 g2 g3
    simp only [shs, zts, sos, sls, zss, eqs, sx, sb1, sb2, sb3, sb4, sb5, sb6, sb7, ↓reduceIte, Nat.reduceAdd, Nat.reduceMul, Nat.reduceDiv, Nat.reduceEqDiff, Nat.reduceLT, Nat.reduceLeDiff, reduceCtorEq, Int.reduceEq, Int.reduceNe, Int.reduceLT, Int.reduceLE, Int.reduceAdd, Int.reduceSub, Int.reduceMul, Int.reduceNeg, Int.reduceToNat, Int.cast_ofNat_Int, Int.natCast_zero, Int.natCast_one, Int.toNat_natCast, Nat.reduceBEq, nzs, c1, hy.len, hy.sl, List.length_map, i0, i0.2, g0.1, g0.2.1, g1.1, g1.2.1, g2.1, g2.2.1, g3.1, g3.2.1]
    refine CallK.pure ⟨by simp only [SV.concs, SV.conc, hcaps, Bool.and_self], rfl⟩ rfl (hf a (List.mem_of_getElem? hx)) ?_
    cases hp : p a with
    | true =>
      rw [hp, if_pos rfl] at h2
      subst h2
      simp only [shs, zts, sos, sls, zss, eqs, sx, sb1, sb2, sb3, sb4, sb5, sb6, sb7, ↓reduceIte, Nat.reduceAdd, Nat.reduceMul, Nat.reduceDiv, Nat.reduceEqDiff, Nat.reduceLT, Nat.reduceLeDiff, reduceCtorEq, Int.reduceEq, Int.reduceNe, Int.reduceLT, Int.reduceLE, Int.reduceAdd, Int.reduceSub, Int.reduceMul, Int.reduceNeg, Int.reduceToNat, Int.cast_ofNat_Int, Int.natCast_zero, Int.natCast_one, Int.toNat_natCast, Nat.reduceBEq, nzs]
    | false =>
      rw [hp, if_neg (by simp)] at h2
      simp only [shs, zts, sos, sls, zss, eqs, sx, sb1, sb2, sb3, sb4, sb5, sb6, sb7, ↓reduceIte, Nat.reduceAdd, Nat.reduceMul, Nat.reduceDiv, Nat.reduceEqDiff, Nat.reduceLT, Nat.reduceLeDiff, reduceCtorEq, Int.reduceEq, Int.reduceNe, Int.reduceLT, Int.reduceLE, Int.reduceAdd, Int.reduceSub, Int.reduceMul, Int.reduceNeg, Int.reduceToNat, Int.cast_ofNat_Int, Int.natCast_zero, Int.natCast_one, Int.toNat_natCast, Nat.reduceBEq, nzs, inK, lo, hi]
      refine ⟨by omega, (fu - 1, i + 1), ⟨⟨by simp only; omega, h2⟩, by simp only; omega⟩, Ent.of ?_⟩
      simp only [sx, sb1, sb2, sb3, sb4, sb5, sb6, sb7, ↓reduceIte, Nat.reduceAdd, Nat.reduceMul, Nat.reduceDiv, Nat.reduceEqDiff, Nat.reduceLT, Nat.reduceLeDiff, reduceCtorEq, Int.reduceEq, Int.reduceNe, Int.reduceLT, Int.reduceLE, Int.reduceAdd, Int.reduceSub, Int.reduceMul, Int.reduceNeg, Int.reduceToNat, Int.cast_ofNat_Int, Int.natCast_zero, Int.natCast_one, Int.toNat_natCast, Nat.reduceBEq, Int.natCast_add]
  · have c1 : ((i : Int) < (l.length : Int)) = False := eq_false (by omega)
    have hd : l.drop i = [] := List.drop_eq_nil_of_le (by omega)
    rw [hd] at h2
    simp only [fidx] at h2
    subst h2
    simp only [shs, zts, sos, sls, zss, eqs, sx, sb1, sb2, sb3, sb4, sb5, sb6, sb7, ↓reduceIte, Nat.reduceAdd, Nat.reduceMul, Nat.reduceDiv, Nat.reduceEqDiff, Nat.reduceLT, Nat.reduceLeDiff, reduceCtorEq, Int.reduceEq, Int.reduceNe, Int.reduceLT, Int.reduceLE, Int.reduceAdd, Int.reduceSub, Int.reduceMul, Int.reduceNeg, Int.reduceToNat, Int.cast_ofNat_Int, Int.natCast_zero, Int.natCast_one, Int.toNat_natCast, Nat.reduceBEq, c1]

theorem ctsB {α : Type} (q0 q1 q2 q3 : α → Value) (p : α → Bool) (f : Nat) (caps : List SV) (hcaps : SV.concs caps = true) (y : Value) (l : List α) (M : Mem) (hy : RowM M y 4 (l.map (fun x => [q0 x, q1 x, q2 x, q3 x])))
    (hf : ∀ x ∈ l, Meets Proofs.Try.prog f (.agg [.v (q0 x), .v (q1 x), .v (q2 x), .v (q3 x)] :: caps) M fun r _ _ => r = .v (.bool (p x))) :
    Meets Proofs.Try.prog 70 [.v y, .fn f caps] M fun r _ _ => r = .v (.bool (l.any p)) := by
  refine Meets.of_body [0,1,4] Proofs.Try.func70 rfl (by kernel_rfl) (by simp only [SV.concs, SV.conc, hcaps, Bool.and_self]) fun w => ?_
  simp only [Proofs.Try.f70, shs, zts, sos, sls, zss, eqs, sx, sb1, sb2, sb3, sb4, sb5, sb6, sb7, ↓reduceIte, Nat.reduceAdd, Nat.reduceMul, Nat.reduceDiv, Nat.reduceEqDiff, Nat.reduceLT, Nat.reduceLeDiff, reduceCtorEq, Int.reduceEq, Int.reduceNe, Int.reduceLT, Int.reduceLE, Int.reduceAdd, Int.reduceSub, Int.reduceMul, Int.reduceNeg, Int.reduceToNat, Int.cast_ofNat_Int, Int.natCast_zero, Int.natCast_one, Int.toNat_natCast, Nat.reduceBEq]
  refine CallK.pure ⟨by simp only [SV.concs, SV.conc, hcaps, Bool.and_self], rfl⟩ rfl (idxB q0 q1 q2 q3 p f caps hcaps y l M hy hf) ?_
  rw [← fidx_any p l 0]
  simp only [shs, zts, sos, sls, zss, eqs, sx, sb1, sb2, sb3, sb4, sb5, sb6, sb7, ↓reduceIte, Nat.reduceAdd, Nat.reduceMul, Nat.reduceDiv, Nat.reduceEqDiff, Nat.reduceLT, Nat.reduceLeDiff, reduceCtorEq, Int.reduceEq, Int.reduceNe, Int.reduceLT, Int.reduceLE, Int.reduceAdd, Int.reduceSub, Int.reduceMul, Int.reduceNeg, Int.reduceToNat, Int.cast_ofNat_Int, Int.natCast_zero, Int.natCast_one, Int.toNat_natCast, Nat.reduceBEq]


theorem checkC (b : Nat) (t x : It) (M : Mem) (hb : BoxM M b (encT t)) : Meets Proofs.Try.prog 71 [itV x, .v (ptrV b)] M fun r _ _ => r = .v (.bool (decide (x.2.2.1 = t.2.2.1))) := by
  refine Meets.of_body [0,1,2,3] Proofs.Try.func71 rfl (by kernel_rfl) rfl fun w => ?_
  have g2 := hb.at' (j := 2) rfl
  simp only [Proofs.Try.f71, itV, shs, zts, sos, sls, zss, eqs, sx, sb1, sb2, sb3, sb4, sb5, sb6, sb7, ↓reduceIte, Nat.reduceAdd, Nat.reduceMul, Nat.reduceDiv, Nat.reduceEqDiff, Nat.reduceLT, Nat.reduceLeDiff, reduceCtorEq, Int.reduceEq, Int.reduceNe, Int.reduceLT, Int.reduceLE, Int.reduceAdd, Int.reduceSub, Int.reduceMul, Int.reduceNeg, Int.reduceToNat, Int.cast_ofNat_Int, Int.natCast_zero, Int.natCast_one, Int.toNat_natCast, Nat.reduceBEq, nzs, g2.1, g2.2, List.toArray_eq_iff]

def bad : Option It → It → Bool
  | none, _ => false
  | some p, x => decide (0 ≤ cmpT p x)
def goB : List It → List It → Int
  | _, [] => 0
  | pre, x :: r => if oneE x ≠ 0 then oneE x else if bad pre.getLast? x = true then 3 else if (pre.any fun y => decide (y.2.2.1 = x.2.2.1)) = true then 5 else goB (pre ++ [x]) r
def bagE (l : List It) : Int := if 64 < l.length then 2 else goB [] l
/-- the four cells of an item that lies in a known row -/
theorem it_at {M : Mem} {v : Value} {l : List It} {i : Nat} {r : It} (h : RowM M v 4 (l.map encT)) (hx : l[i]? = some r) :
    ((elE M v 4 i 0 = .int .i64 r.1 ∧ okE M v 4 i 0) ∧ (elE M v 4 i 1 = .int .i64 r.2.1 ∧ okE M v 4 i 1)) ∧ ((elE M v 4 i 2 = .string ⟨r.2.2.1.toArray⟩ ∧ okE M v 4 i 2) ∧ (elE M v 4 i 3 = .int .i64 r.2.2.2 ∧ okE M v 4 i 3)) ∧ ixOk v (i : Int) := by
  have he : (l.map encT)[i]? = some (encT r) := by rw [List.getElem?_map, hx]; rfl
  have g0 := h.cell he (off := 0) (by omega)
  have g1 := h.cell he (off := 1) (by omega)
  have g2 := h.cell he (off := 2) (by omega)
  have g3 := h.cell he (off := 3) (by omega)
  refine ⟨⟨⟨g0.1, g0.2.1⟩, ⟨g1.1, g1.2.1⟩⟩, ⟨⟨g2.1, g2.2.1⟩, ⟨g3.1, g3.2.1⟩⟩, ?_⟩
  have hi := (List.getElem?_eq_some_iff.1 hx).1
  exact h.ix (i := (i : Int)) (by omega) (by rw [List.length_map]; omega)

theorem check (y : Value) (l : List It) (M : Mem) (hy : RowM M y 4 (l.map encT)) :
    Meets Proofs.Try.prog 32 [.v y] M fun r _ _ => r = .v (.int .i64 (bagE l)) := by
  refine Meets.of_body [0,2,3,4,5,8,9,10,11,12,19,32,37] Proofs.Try.func32 rfl (by kernel_rfl) rfl fun w => ?_
  generalize hc : bagE l = c
  have hyl := hy.len_le
  rw [List.length_map] at hyl
  by_cases hg : 64 < l.length
  · rw [bagE, if_pos hg] at hc
    subst hc
    have c1 : (64 < (l.length : Int)) = True := eq_true (by omega)
    simp only [Proofs.Try.f32, shs, zts, sos, sls, zss, eqs, sx, sb1, sb2, sb3, sb4, sb5, sb6, sb7, ↓reduceIte, Nat.reduceAdd, Nat.reduceMul, Nat.reduceDiv, Nat.reduceEqDiff, Nat.reduceLT, Nat.reduceLeDiff, reduceCtorEq, Int.reduceEq, Int.reduceNe, Int.reduceLT, Int.reduceLE, Int.reduceAdd, Int.reduceSub, Int.reduceMul, Int.reduceNeg, Int.reduceToNat, Int.cast_ofNat_Int, Int.natCast_zero, Int.natCast_one, Int.toNat_natCast, Nat.reduceBEq, nzs, hy.len, hy.sl, List.length_map, c1]
  rw [bagE, if_neg hg] at hc
  have c1 : (64 < (l.length : Int)) = False := eq_false (by omega)
  simp only [Proofs.Try.f32, shs, zts, sos, sls, zss, eqs, sx, sb1, sb2, sb3, sb4, sb5, sb6, sb7, ↓reduceIte, Nat.reduceAdd, Nat.reduceMul, Nat.reduceDiv, Nat.reduceEqDiff, Nat.reduceLT, Nat.reduceLeDiff, reduceCtorEq, Int.reduceEq, Int.reduceNe, Int.reduceLT, Int.reduceLE, Int.reduceAdd, Int.reduceSub, Int.reduceMul, Int.reduceNeg, Int.reduceToNat, Int.cast_ofNat_Int, Int.natCast_zero, Int.natCast_one, Int.toNat_natCast, Nat.reduceBEq, nzs, hy.len, hy.sl, List.length_map, c1]
  refine LoopK.go (X := Nat × Nat × Mem) (fun x => ([(0, true, .v y), (9, true, .v y), (10, true, .v (.int .i64 l.length)), (11, true, .v (.int .i64 x.2.1))], [], x.2.2))
    (fun x => ((x.1 + x.2.1 = l.length ∧ M.le x.2.2) ∧ ∀ z ∈ l.take x.2.1, oneE z = 0) ∧ goB (l.take x.2.1) (l.drop x.2.1) = c) (fun x => x.1) (l.length, 0, M) ⟨⟨⟨rfl, Mem.le.refl M⟩, by simp⟩, hc⟩ (Ent.of ?_) ?_
  · simp only [sx, sb1, sb2, sb3, sb4, sb5, sb6, sb7, ↓reduceIte, Nat.reduceAdd, Nat.reduceMul, Nat.reduceDiv, Nat.reduceEqDiff, Nat.reduceLT, Nat.reduceLeDiff, reduceCtorEq, Int.reduceEq, Int.reduceNe, Int.reduceLT, Int.reduceLE, Int.reduceAdd, Int.reduceSub, Int.reduceMul, Int.reduceNeg, Int.reduceToNat, Int.cast_ofNat_Int, Int.natCast_zero, Int.natCast_one, Int.toNat_natCast, Nat.reduceBEq]
  rintro ⟨f, i, M1⟩ ⟨⟨⟨h1, hM⟩, hpre⟩, h2⟩
  simp only at h1 h2 hM hpre
  have hy1 := hy.le hM
  by_cases hil : i < l.length
  rotate_left
  · have d1 : ((i : Int) < (l.length : Int)) = False := eq_false (by omega)
    rw [List.drop_eq_nil_of_le (by omega)] at h2
    simp only [goB] at h2
    subst h2
    simp only [shs, zts, sos, sls, zss, eqs, sx, sb1, sb2, sb3, sb4, sb5, sb6, sb7, ↓reduceIte, Nat.reduceAdd, Nat.reduceMul, Nat.reduceDiv, Nat.reduceEqDiff, Nat.reduceLT, Nat.reduceLeDiff, reduceCtorEq, Int.reduceEq, Int.reduceNe, Int.reduceLT, Int.reduceLE, Int.reduceAdd, Int.reduceSub, Int.reduceMul, Int.reduceNeg, Int.reduceToNat, Int.cast_ofNat_Int, Int.natCast_zero, Int.natCast_one, Int.toNat_natCast, Nat.reduceBEq, nzs, d1]
  have d1 : ((i : Int) < (l.length : Int)) = True := eq_true (by omega)
  obtain ⟨x, hx, hd⟩ := l_drop_at (l := l) (i := i) hil
  rw [hd] at h2
  simp only [goB] at h2
  obtain ⟨⟨g0, g1⟩, ⟨g2, g3⟩, i0⟩ := it_at hy1 hx
  simp only [shs, zts, sos, sls, zss, eqs, sx, sb1, sb2, sb3, sb4, sb5, sb6, sb7, ↓reduceIte, Nat.reduceAdd, Nat.reduceMul, Nat.reduceDiv, Nat.reduceEqDiff, Nat.reduceLT, Nat.reduceLeDiff, reduceCtorEq, Int.reduceEq, Int.reduceNe, Int.reduceLT, Int.reduceLE, Int.reduceAdd, Int.reduceSub, Int.reduceMul, Int.reduceNeg, Int.reduceToNat, Int.cast_ofNat_Int, Int.natCast_zero, Int.natCast_one, Int.toNat_natCast, Nat.reduceBEq, nzs, d1, hy.len, hy.sl, List.length_map, i0, i0.2, g0.1, g0.2, g1.1, g1.2, g2.1, g2.2, g3.1, g3.2]
  refine CallK.pure ⟨rfl, rfl⟩ rfl (one x M1) ?_
  by_cases he : oneE x = 0
  rotate_left
  · have c2 : (oneE x = 0) = False := eq_false he
    rw [if_pos he] at h2
    subst h2
    simp only [shs, zts, sos, sls, zss, eqs, sx, sb1, sb2, sb3, sb4, sb5, sb6, sb7, ↓reduceIte, Nat.reduceAdd, Nat.reduceMul, Nat.reduceDiv, Nat.reduceEqDiff, Nat.reduceLT, Nat.reduceLeDiff, reduceCtorEq, Int.reduceEq, Int.reduceNe, Int.reduceLT, Int.reduceLE, Int.reduceAdd, Int.reduceSub, Int.reduceMul, Int.reduceNeg, Int.reduceToNat, Int.cast_ofNat_Int, Int.natCast_zero, Int.natCast_one, Int.toNat_natCast, Nat.reduceBEq, nzs, c2]
  rw [if_neg (fun e => e he)] at h2
  simp only [shs, zts, sos, sls, zss, eqs, sx, sb1, sb2, sb3, sb4, sb5, sb6, sb7, ↓reduceIte, Nat.reduceAdd, Nat.reduceMul, Nat.reduceDiv, Nat.reduceEqDiff, Nat.reduceLT, Nat.reduceLeDiff, reduceCtorEq, Int.reduceEq, Int.reduceNe, Int.reduceLT, Int.reduceLE, Int.reduceAdd, Int.reduceSub, Int.reduceMul, Int.reduceNeg, Int.reduceToNat, Int.cast_ofNat_Int, Int.natCast_zero, Int.natCast_one, Int.toNat_natCast, Nat.reduceBEq, nzs, he]
  have hox := oneE_ok he
  have hsx := sumT_rng x.2.2.1
  have hs := hy1.sub (lo := 0) (hi := i) (by omega) (by rw [List.length_map]; omega)
  rw [List.drop_zero, Nat.sub_zero, ← List.map_take] at hs
  have hcap := hy1.1.2.2.1
  rw [hy1.len, List.length_map] at hcap
  refine DrawK.ent (X := Unit) (fun _ => True) (fun _ => ([(0, true, .v y), (3, true, .v (.int .i64 i)), (4, true, .ptr 32 0 0 0), (9, true, .v y), (10, true, .v (.int .i64 l.length)), (11, true, .v (.int .i64 i)), (32, true, .v (.bool (bad (l.take i).getLast? x)))], [(32, .box [.v (.int .i64 x.1), .v (.int .i64 x.2.1), .v (.string ⟨x.2.2.1.toArray⟩), .v (.int .i64 x.2.2.2)] none)], M1)) ?_ fun _ _ => ?_
  · by_cases hi0 : i = 0
    · subst hi0
      refine DrawK.quiet (by kernel_rfl) (by kernel_rfl) ?_
      simp only [shs, zts, sos, sls, zss, eqs, sx, sb1, sb2, sb3, sb4, sb5, sb6, sb7, ↓reduceIte, Nat.reduceAdd, Nat.reduceMul, Nat.reduceDiv, Nat.reduceEqDiff, Nat.reduceLT, Nat.reduceLeDiff, reduceCtorEq, Int.reduceEq, Int.reduceNe, Int.reduceLT, Int.reduceLE, Int.reduceAdd, Int.reduceSub, Int.reduceMul, Int.reduceNeg, Int.reduceToNat, Int.cast_ofNat_Int, Int.natCast_zero, Int.natCast_one, Int.toNat_natCast, Nat.reduceBEq, nzs, Int.natCast_zero, Int.lt_irrefl]
      refine ⟨.v (.int .i64 0), ?_⟩
      simp only [shs, zts, sos, sls, zss, eqs, sx, sb1, sb2, sb3, sb4, sb5, sb6, sb7, ↓reduceIte, Nat.reduceAdd, Nat.reduceMul, Nat.reduceDiv, Nat.reduceEqDiff, Nat.reduceLT, Nat.reduceLeDiff, reduceCtorEq, Int.reduceEq, Int.reduceNe, Int.reduceLT, Int.reduceLE, Int.reduceAdd, Int.reduceSub, Int.reduceMul, Int.reduceNeg, Int.reduceToNat, Int.cast_ofNat_Int, Int.natCast_zero, Int.natCast_one, Int.toNat_natCast, Nat.reduceBEq, nzs]
      refine ⟨(), Ent.of ?_⟩
      simp only [sx, sb1, sb2, sb3, sb4, sb5, sb6, sb7, ↓reduceIte, Nat.reduceAdd, Nat.reduceMul, Nat.reduceDiv, Nat.reduceEqDiff, Nat.reduceLT, Nat.reduceLeDiff, reduceCtorEq, Int.reduceEq, Int.reduceNe, Int.reduceLT, Int.reduceLE, Int.reduceAdd, Int.reduceSub, Int.reduceMul, Int.reduceNeg, Int.reduceToNat, Int.cast_ofNat_Int, Int.natCast_zero, Int.natCast_one, Int.toNat_natCast, Nat.reduceBEq, List.take_zero, List.getLast?_nil, bad]
    · refine DrawK.quiet (by kernel_rfl) (by kernel_rfl) ?_
      have e1 : (0 < (i : Int)) = True := eq_true (by omega)
      have e2 : (i : Int) - 1 = ((i - 1 : Nat) : Int) := by omega
      have hgl : (l.take i).getLast? = l[i-1]? := by
        rw [List.getLast?_eq_getElem?, List.length_take, List.getElem?_take, if_pos (by omega)]
        congr 1
        omega
      obtain ⟨p, hp⟩ : ∃ p, l[i-1]? = some p := ⟨_, List.getElem?_eq_getElem (by omega)⟩
      obtain ⟨⟨k0, k1⟩, ⟨k2, k3⟩, j0⟩ := it_at hy1 hp
      have hop := oneE_ok (hpre p (by
        rw [List.mem_iff_getElem?]
        exact ⟨i - 1, by rw [List.getElem?_take, if_pos (by omega), hp]⟩))
      have hsp := sumT_rng p.2.2.1
      rw [hgl, hp]
      simp only [shs, zts, sos, sls, zss, eqs, sx, sb1, sb2, sb3, sb4, sb5, sb6, sb7, ↓reduceIte, Nat.reduceAdd, Nat.reduceMul, Nat.reduceDiv, Nat.reduceEqDiff, Nat.reduceLT, Nat.reduceLeDiff, reduceCtorEq, Int.reduceEq, Int.reduceNe, Int.reduceLT, Int.reduceLE, Int.reduceAdd, Int.reduceSub, Int.reduceMul, Int.reduceNeg, Int.reduceToNat, Int.cast_ofNat_Int, Int.natCast_zero, Int.natCast_one, Int.toNat_natCast, Nat.reduceBEq, nzs, e1, e2, j0, j0.2, k0.1, k0.2, k1.1, k1.2, k2.1, k2.2, k3.1, k3.2, inK, lo, hi]
      refine ⟨by omega, _, ⟨⟨rfl, rfl⟩, cmp p x M1 ⟨by omega, by omega, by omega, by omega⟩⟩, ?_⟩
      simp only [shs, zts, sos, sls, zss, eqs, sx, sb1, sb2, sb3, sb4, sb5, sb6, sb7, ↓reduceIte, Nat.reduceAdd, Nat.reduceMul, Nat.reduceDiv, Nat.reduceEqDiff, Nat.reduceLT, Nat.reduceLeDiff, reduceCtorEq, Int.reduceEq, Int.reduceNe, Int.reduceLT, Int.reduceLE, Int.reduceAdd, Int.reduceSub, Int.reduceMul, Int.reduceNeg, Int.reduceToNat, Int.cast_ofNat_Int, Int.natCast_zero, Int.natCast_one, Int.toNat_natCast, Nat.reduceBEq, nzs]
      refine ⟨(), Ent.of ?_⟩
      simp only [sx, sb1, sb2, sb3, sb4, sb5, sb6, sb7, ↓reduceIte, Nat.reduceAdd, Nat.reduceMul, Nat.reduceDiv, Nat.reduceEqDiff, Nat.reduceLT, Nat.reduceLeDiff, reduceCtorEq, Int.reduceEq, Int.reduceNe, Int.reduceLT, Int.reduceLE, Int.reduceAdd, Int.reduceSub, Int.reduceMul, Int.reduceNeg, Int.reduceToNat, Int.cast_ofNat_Int, Int.natCast_zero, Int.natCast_one, Int.toNat_natCast, Nat.reduceBEq, bad]
  cases hb : bad (l.take i).getLast? x with
  | true =>
    rw [if_pos hb] at h2
    subst h2
    simp only [shs, zts, sos, sls, zss, eqs, sx, sb1, sb2, sb3, sb4, sb5, sb6, sb7, ↓reduceIte, Nat.reduceAdd, Nat.reduceMul, Nat.reduceDiv, Nat.reduceEqDiff, Nat.reduceLT, Nat.reduceLeDiff, reduceCtorEq, Int.reduceEq, Int.reduceNe, Int.reduceLT, Int.reduceLE, Int.reduceAdd, Int.reduceSub, Int.reduceMul, Int.reduceNeg, Int.reduceToNat, Int.cast_ofNat_Int, Int.natCast_zero, Int.natCast_one, Int.toNat_natCast, Nat.reduceBEq, nzs]
  | false =>
  rw [if_neg (by simp only [hb]; decide)] at h2
  simp only [shs, zts, sos, sls, zss, eqs, sx, sb1, sb2, sb3, sb4, sb5, sb6, sb7, ↓reduceIte, Nat.reduceAdd, Nat.reduceMul, Nat.reduceDiv, Nat.reduceEqDiff, Nat.reduceLT, Nat.reduceLeDiff, reduceCtorEq, Int.reduceEq, Int.reduceNe, Int.reduceLT, Int.reduceLE, Int.reduceAdd, Int.reduceSub, Int.reduceMul, Int.reduceNeg, Int.reduceToNat, Int.cast_ofNat_Int, Int.natCast_zero, Int.natCast_one, Int.toNat_natCast, Nat.reduceBEq, nzs, hy.len, hy.sl]
  refine ⟨by omega, ?_⟩
  refine stepK.mkFn rfl rfl ?_
  simp only [shs, zts, sos, sls, zss, eqs, sx, sb1, sb2, sb3, sb4, sb5, sb6, sb7, ↓reduceIte, Nat.reduceAdd, Nat.reduceMul, Nat.reduceDiv, Nat.reduceEqDiff, Nat.reduceLT, Nat.reduceLeDiff, reduceCtorEq, Int.reduceEq, Int.reduceNe, Int.reduceLT, Int.reduceLE, Int.reduceAdd, Int.reduceSub, Int.reduceMul, Int.reduceNeg, Int.reduceToNat, Int.cast_ofNat_Int, Int.natCast_zero, Int.natCast_one, Int.toNat_natCast, Nat.reduceBEq, nzs]
  refine CallK.pubB (k := 32) rfl rfl fun bb M2 hM2 hb2 => ?_
  have hs2 := hs.le hM2
  simp only [shA1, shA2, shs, zts, sos, sls, zss, eqs, sx, sb1, sb2, sb3, sb4, sb5, sb6, sb7, ↓reduceIte, Nat.reduceAdd, Nat.reduceMul, Nat.reduceDiv, Nat.reduceEqDiff, Nat.reduceLT, Nat.reduceLeDiff, reduceCtorEq, Int.reduceEq, Int.reduceNe, Int.reduceLT, Int.reduceLE, Int.reduceAdd, Int.reduceSub, Int.reduceMul, Int.reduceNeg, Int.reduceToNat, Int.cast_ofNat_Int, Int.natCast_zero, Int.natCast_one, Int.toNat_natCast, Nat.reduceBEq]
  refine CallK.pure ⟨rfl, rfl⟩ rfl (ctsB (α := It) (fun x => .int .i64 x.1) (fun x => .int .i64 x.2.1) (fun x => .string ⟨x.2.2.1.toArray⟩) (fun x => .int .i64 x.2.2.2) (fun u => decide (u.2.2.1 = x.2.2.1)) _ _ rfl _ (l.take i) M2 hs2 (fun z _ => checkC bb x z M2 hb2)) ?_
  cases ha : (l.take i).any fun u => decide (u.2.2.1 = x.2.2.1) with
  | true =>
    rw [if_pos ha] at h2
    subst h2
    simp only [shs, zts, sos, sls, zss, eqs, sx, sb1, sb2, sb3, sb4, sb5, sb6, sb7, ↓reduceIte, Nat.reduceAdd, Nat.reduceMul, Nat.reduceDiv, Nat.reduceEqDiff, Nat.reduceLT, Nat.reduceLeDiff, reduceCtorEq, Int.reduceEq, Int.reduceNe, Int.reduceLT, Int.reduceLE, Int.reduceAdd, Int.reduceSub, Int.reduceMul, Int.reduceNeg, Int.reduceToNat, Int.cast_ofNat_Int, Int.natCast_zero, Int.natCast_one, Int.toNat_natCast, Nat.reduceBEq, nzs]
  | false =>
    rw [if_neg (by simp only [ha]; decide)] at h2
    simp only [shs, zts, sos, sls, zss, eqs, sx, sb1, sb2, sb3, sb4, sb5, sb6, sb7, ↓reduceIte, Nat.reduceAdd, Nat.reduceMul, Nat.reduceDiv, Nat.reduceEqDiff, Nat.reduceLT, Nat.reduceLeDiff, reduceCtorEq, Int.reduceEq, Int.reduceNe, Int.reduceLT, Int.reduceLE, Int.reduceAdd, Int.reduceSub, Int.reduceMul, Int.reduceNeg, Int.reduceToNat, Int.cast_ofNat_Int, Int.natCast_zero, Int.natCast_one, Int.toNat_natCast, Nat.reduceBEq, nzs, inK, lo, hi]
    refine ⟨by omega, (f - 1, i + 1, M2), ⟨⟨⟨⟨by simp only; omega, hM.trans hM2⟩, ?_⟩, ?_⟩, by simp only; omega⟩, Ent.of ?_⟩
    · simp only
      intro z hz
      rw [List.take_add_one, hx] at hz
      rcases List.mem_append.1 hz with hz | hz
      · exact hpre z hz
      · simp only [Option.toList_some, List.mem_singleton] at hz
        subst hz
        exact he
    · simp only
      rw [List.take_add_one, hx]
      exact h2
    · simp only [sx, sb1, sb2, sb3, sb4, sb5, sb6, sb7, ↓reduceIte, Nat.reduceAdd, Nat.reduceMul, Nat.reduceDiv, Nat.reduceEqDiff, Nat.reduceLT, Nat.reduceLeDiff, reduceCtorEq, Int.reduceEq, Int.reduceNe, Int.reduceLT, Int.reduceLE, Int.reduceAdd, Int.reduceSub, Int.reduceMul, Int.reduceNeg, Int.reduceToNat, Int.cast_ofNat_Int, Int.natCast_zero, Int.natCast_one, Int.toNat_natCast, Nat.reduceBEq, Int.natCast_add]

/-- the item of an id -/
def isId (id : Bool × Int × Int) (x : It) : Bool := id.1 && (decide (x.1 = id.2.1) && decide (x.2.1 = id.2.2))
def idV (id : Bool × Int × Int) : SV := .agg [.v (.bool id.1), .v (.int .i64 id.2.1), .v (.int .i64 id.2.2)]
theorem findC (b : Nat) (id : Bool × Int × Int) (x : It) (M : Mem) (hb : BoxM M b [.bool id.1, .int .i64 id.2.1, .int .i64 id.2.2]) : Meets Proofs.Try.prog 77 [itV x, .v (ptrV b)] M fun r _ _ => r = .v (.bool (isId id x)) := by
  refine Meets.of_body [0,1,2,3] Proofs.Try.func77 rfl (by kernel_rfl) rfl fun w => ?_
  have g0 := hb.at' (j := 0) rfl
  have g1 := hb.at' (j := 1) rfl
  have g2 := hb.at' (j := 2) rfl
  unfold isId
  simp only [Proofs.Try.f77, itV, shs, zts, sos, sls, zss, eqs, sx, sb1, sb2, sb3, sb4, sb5, sb6, sb7, ↓reduceIte, Nat.reduceAdd, Nat.reduceMul, Nat.reduceDiv, Nat.reduceEqDiff, Nat.reduceLT, Nat.reduceLeDiff, reduceCtorEq, Int.reduceEq, Int.reduceNe, Int.reduceLT, Int.reduceLE, Int.reduceAdd, Int.reduceSub, Int.reduceMul, Int.reduceNeg, Int.reduceToNat, Int.cast_ofNat_Int, Int.natCast_zero, Int.natCast_one, Int.toNat_natCast, Nat.reduceBEq, nzs, g0.1, g0.2, g1.1, g1.2, g2.1, g2.2]
  cases h1 : id.1 with
  | false => simp only [shs, zts, sos, sls, zss, eqs, sx, sb1, sb2, sb3, sb4, sb5, sb6, sb7, ↓reduceIte, Nat.reduceAdd, Nat.reduceMul, Nat.reduceDiv, Nat.reduceEqDiff, Nat.reduceLT, Nat.reduceLeDiff, reduceCtorEq, Int.reduceEq, Int.reduceNe, Int.reduceLT, Int.reduceLE, Int.reduceAdd, Int.reduceSub, Int.reduceMul, Int.reduceNeg, Int.reduceToNat, Int.cast_ofNat_Int, Int.natCast_zero, Int.natCast_one, Int.toNat_natCast, Nat.reduceBEq, nzs, Bool.false_and]
  | true =>
    by_cases h2 : x.1 = id.2.1
    · by_cases h3 : x.2.1 = id.2.2 <;> simp [h2, h3]
    · simp [h2]
theorem find (y : Value) (l : List It) (id : Bool × Int × Int) (M : Mem) (hy : RowM M y 4 (l.map encT)) :
    Meets Proofs.Try.prog 37 [.v y, idV id] M fun r _ _ => r = .v (.int .i64 (fidx (isId id) l 0)) := by
  refine Meets.of_body [0,1,3,4] Proofs.Try.func37 rfl (by kernel_rfl) rfl fun w => ?_
  simp only [Proofs.Try.f37, idV, shs, zts, sos, sls, zss, eqs, sx, sb1, sb2, sb3, sb4, sb5, sb6, sb7, ↓reduceIte, Nat.reduceAdd, Nat.reduceMul, Nat.reduceDiv, Nat.reduceEqDiff, Nat.reduceLT, Nat.reduceLeDiff, reduceCtorEq, Int.reduceEq, Int.reduceNe, Int.reduceLT, Int.reduceLE, Int.reduceAdd, Int.reduceSub, Int.reduceMul, Int.reduceNeg, Int.reduceToNat, Int.cast_ofNat_Int, Int.natCast_zero, Int.natCast_one, Int.toNat_natCast, Nat.reduceBEq, nzs]
  refine stepK.mkFn rfl rfl ?_
  simp only [shs, zts, sos, sls, zss, eqs, sx, sb1, sb2, sb3, sb4, sb5, sb6, sb7, ↓reduceIte, Nat.reduceAdd, Nat.reduceMul, Nat.reduceDiv, Nat.reduceEqDiff, Nat.reduceLT, Nat.reduceLeDiff, reduceCtorEq, Int.reduceEq, Int.reduceNe, Int.reduceLT, Int.reduceLE, Int.reduceAdd, Int.reduceSub, Int.reduceMul, Int.reduceNeg, Int.reduceToNat, Int.cast_ofNat_Int, Int.natCast_zero, Int.natCast_one, Int.toNat_natCast, Nat.reduceBEq, nzs]
  refine CallK.pubB (k := 24) rfl rfl fun bb M2 hM2 hb2 => ?_
  simp only [shA1, shA2, shs, zts, sos, sls, zss, eqs, sx, sb1, sb2, sb3, sb4, sb5, sb6, sb7, ↓reduceIte, Nat.reduceAdd, Nat.reduceMul, Nat.reduceDiv, Nat.reduceEqDiff, Nat.reduceLT, Nat.reduceLeDiff, reduceCtorEq, Int.reduceEq, Int.reduceNe, Int.reduceLT, Int.reduceLE, Int.reduceAdd, Int.reduceSub, Int.reduceMul, Int.reduceNeg, Int.reduceToNat, Int.cast_ofNat_Int, Int.natCast_zero, Int.natCast_one, Int.toNat_natCast, Nat.reduceBEq]
  refine CallK.pure ⟨rfl, rfl⟩ rfl (idxB (α := It) (fun x => .int .i64 x.1) (fun x => .int .i64 x.2.1) (fun x => .string ⟨x.2.2.1.toArray⟩) (fun x => .int .i64 x.2.2.2) (isId id) _ _ rfl _ l M2 (hy.le hM2) (fun z _ => findC bb id z M2 hb2)) ?_
  simp only [shs, zts, sos, sls, zss, eqs, sx, sb1, sb2, sb3, sb4, sb5, sb6, sb7, ↓reduceIte, Nat.reduceAdd, Nat.reduceMul, Nat.reduceDiv, Nat.reduceEqDiff, Nat.reduceLT, Nat.reduceLeDiff, reduceCtorEq, Int.reduceEq, Int.reduceNe, Int.reduceLT, Int.reduceLE, Int.reduceAdd, Int.reduceSub, Int.reduceMul, Int.reduceNeg, Int.reduceToNat, Int.cast_ofNat_Int, Int.natCast_zero, Int.natCast_one, Int.toNat_natCast, Nat.reduceBEq, nzs]
theorem item (y : Value) (l : List It) (id : Bool × Int × Int) (M : Mem) (hy : RowM M y 4 (l.map encT)) :
    Meets Proofs.Try.prog 57 [.v y, idV id] M fun r _ _ => r = .v (.int .i64 (fidx (isId id) l 0)) := by
  refine Meets.of_body [0,1,3,4,5,6,7,8,9,10,20] Proofs.Try.func57 rfl (by kernel_rfl) rfl fun w => ?_
  generalize hc : fidx (isId id) l 0 = c
  have hyl := hy.len_le
  rw [List.length_map] at hyl
  simp only [Proofs.Try.f57, idV, shs, zts, sos, sls, zss, eqs, sx, sb1, sb2, sb3, sb4, sb5, sb6, sb7, ↓reduceIte, Nat.reduceAdd, Nat.reduceMul, Nat.reduceDiv, Nat.reduceEqDiff, Nat.reduceLT, Nat.reduceLeDiff, reduceCtorEq, Int.reduceEq, Int.reduceNe, Int.reduceLT, Int.reduceLE, Int.reduceAdd, Int.reduceSub, Int.reduceMul, Int.reduceNeg, Int.reduceToNat, Int.cast_ofNat_Int, Int.natCast_zero, Int.natCast_one, Int.toNat_natCast, Nat.reduceBEq, hy.len, hy.sl, List.length_map]
  refine LoopK.go (X := Nat × Nat) (fun x => ([(0, true, .v y), (3, true, .ptr 24 0 0 0), (7, true, .v y), (8, true, .v (.int .i64 l.length)), (9, true, .v (.int .i64 x.2))], [(24, .box [.v (.bool id.1), .v (.int .i64 id.2.1), .v (.int .i64 id.2.2)] none)], M))
    (fun x => x.1 + x.2 = l.length ∧ fidx (isId id) (l.drop x.2) x.2 = c) (fun x => x.1) (l.length, 0) ⟨rfl, hc⟩ (Ent.of ?_) ?_
  · simp only [sx, sb1, sb2, sb3, sb4, sb5, sb6, sb7, ↓reduceIte, Nat.reduceAdd, Nat.reduceMul, Nat.reduceDiv, Nat.reduceEqDiff, Nat.reduceLT, Nat.reduceLeDiff, reduceCtorEq, Int.reduceEq, Int.reduceNe, Int.reduceLT, Int.reduceLE, Int.reduceAdd, Int.reduceSub, Int.reduceMul, Int.reduceNeg, Int.reduceToNat, Int.cast_ofNat_Int, Int.natCast_zero, Int.natCast_one, Int.toNat_natCast, Nat.reduceBEq]
  rintro ⟨f, i⟩ ⟨h1, h2⟩
  simp only at h1 h2
  by_cases hil : i < l.length
  rotate_left
  · have d1 : ((i : Int) < (l.length : Int)) = False := eq_false (by omega)
    rw [List.drop_eq_nil_of_le (by omega)] at h2
    simp only [fidx] at h2
    subst h2
    simp only [shs, zts, sos, sls, zss, eqs, sx, sb1, sb2, sb3, sb4, sb5, sb6, sb7, ↓reduceIte, Nat.reduceAdd, Nat.reduceMul, Nat.reduceDiv, Nat.reduceEqDiff, Nat.reduceLT, Nat.reduceLeDiff, reduceCtorEq, Int.reduceEq, Int.reduceNe, Int.reduceLT, Int.reduceLE, Int.reduceAdd, Int.reduceSub, Int.reduceMul, Int.reduceNeg, Int.reduceToNat, Int.cast_ofNat_Int, Int.natCast_zero, Int.natCast_one, Int.toNat_natCast, Nat.reduceBEq, nzs, d1]
  have d1 : ((i : Int) < (l.length : Int)) = True := eq_true (by omega)
  obtain ⟨x, hx, hd⟩ := l_drop_at (l := l) (i := i) hil
  rw [hd] at h2
  simp only [fidx] at h2
  obtain ⟨⟨g0, g1⟩, ⟨g2, g3⟩, i0⟩ := it_at hy hx
  simp only [shs, zts, sos, sls, zss, eqs, sx, sb1, sb2, sb3, sb4, sb5, sb6, sb7, ↓reduceIte, Nat.reduceAdd, Nat.reduceMul, Nat.reduceDiv, Nat.reduceEqDiff, Nat.reduceLT, Nat.reduceLeDiff, reduceCtorEq, Int.reduceEq, Int.reduceNe, Int.reduceLT, Int.reduceLE, Int.reduceAdd, Int.reduceSub, Int.reduceMul, Int.reduceNeg, Int.reduceToNat, Int.cast_ofNat_Int, Int.natCast_zero, Int.natCast_one, Int.toNat_natCast, Nat.reduceBEq, nzs, d1, hy.len, hy.sl, List.length_map, i0, i0.2, g0.1, g0.2, g1.1, g1.2, g2.1, g2.2, g3.1, g3.2]
  refine ⟨fun h3 => ?_, fun h3 => ?_⟩
  · rw [if_pos (by unfold isId; rw [h3.1, h3.2.1, h3.2.2]; simp)] at h2
    rw [h2]
  · rw [if_neg (by
      unfold isId
      intro h4
      simp only [Bool.and_eq_true, decide_eq_true_eq] at h4
      exact h3 h4.1 h4.2.1.symm h4.2.2.symm)] at h2
    refine ⟨by simp only [inK, lo, hi]; omega, (f - 1, i + 1), ⟨⟨by simp only; omega, h2⟩, by simp only; omega⟩, Ent.of ?_⟩
    simp only [sx, sb1, sb2, sb3, sb4, sb5, sb6, sb7, ↓reduceIte, Nat.reduceAdd, Nat.reduceMul, Nat.reduceDiv, Nat.reduceEqDiff, Nat.reduceLT, Nat.reduceLeDiff, reduceCtorEq, Int.reduceEq, Int.reduceNe, Int.reduceLT, Int.reduceLE, Int.reduceAdd, Int.reduceSub, Int.reduceMul, Int.reduceNeg, Int.reduceToNat, Int.cast_ofNat_Int, Int.natCast_zero, Int.natCast_one, Int.toNat_natCast, Nat.reduceBEq, Int.natCast_add]
end Go.X.Bg

namespace Go.X
open Go Go.RowKit
section
variable {E : Env} {σ : Sig} {H : HS} {M : Mem} {a : Act} {w : World} {ν : Nat → Value} {K : KP} {o : Oper}
theorem Heap.boxSet (hh : Heap E ν H M w) {k j : Nat} {cs : List SV} {t : Option Value} {s s0 : SV} (hk : hget H k = some (.box cs t)) (hj : cs[j]? = some s0) (hv : s.val ν = s0.val ν) : Heap E ν (hset k (.box (cs.set j s) t) H) M w := by
  refine hh.setPO (p := .box cs t) hk (fun hx => ?_)
  obtain ⟨⟨b, T, e1, e2⟩, e3⟩ := hx
  refine ⟨⟨b, T, e1, ?_⟩, e3⟩
  rw [e2]
  congr 3
  rw [SV.vals_map, SV.vals_map, List.map_set]
  apply List.ext_getElem?
  intro i
  rw [List.getElem?_set]
  split
  · rename_i ei
    subst ei
    have hjl : j < cs.length := (List.getElem?_eq_some_iff.1 hj).1
    rw [List.length_map, if_pos hjl, List.getElem?_map, hj]
    simp only [Option.map_some, hv]
  · rfl
theorem Rep.nilBox (k j e sz : Nat) {cs : List SV} {t : Option Value} (hk : hget H k = some (.box cs t)) (hj : cs[j]? = some (.v (.slice none 0 0))) (hke : (k / 8 == e) = false) (hn : hNoKey e H = true) (hs' : sigNoKey e σ = true) (hr : Rep E σ H M a w) :
    Rep E σ ((8 * e, .row sz []) :: hset k (.box (cs.set j (.own (8 * e))) t) H) M a w := by
  obtain ⟨ν, hs, hh⟩ := hr
  let ν2 : Nat → Value := fun i => if i / 8 = e then .slice none 0 0 else ν i
  have hν : ∀ i, i / 8 ≠ e → ν2 i = ν i := fun i hi => by simp [ν2, hi]
  have hν8 : ν2 (8 * e) = .slice none 0 0 := by simp [ν2, show (8 * e) / 8 = e by omega]
  have hke' : k / 8 ≠ e := by simpa using hke
  have h1 : Heap E ν2 ((8 * e, .row sz []) :: H) M w := by
    refine hh.add hn hν (fun i => ?_) ?_ (fun b hb => by rw [hν8] at hb; simp [blk?] at hb)
    · by_cases hi : i / 8 = e
      · simp [ν2, hi, Value.oneCell']
      · simp only [ν2, hi, if_false]; exact hh.one i
    · rw [hν8]
      exact ⟨fun e he => by simp at he, .inl ⟨rfl, rfl⟩⟩
  have hne : ¬ 8 * e = k := fun he => hke' (by omega)
  have h3 := h1.boxSet (k := k) (j := j) (s := .own (8 * e)) (by simp only [hget]; rw [if_neg (fun e' => hne e'.symm)]; exact hk) hj (by simp only [SV.val, hν8])
  simp only [hset, if_neg hne] at h3
  exact ⟨ν2, ⟨hs.1, hs.2.1, fun i g s hi => by rw [hs.2.2 i g s hi, SV.val_congr hν s (sigNoKey_lk hs' hi)]⟩, h3⟩
theorem LoopK.nilBox {live : List Nat} {body : Code} {Q : QP} (k j e sz : Nat) {cs : List SV} {t : Option Value} (hk : hget H k = some (.box cs t)) (hj : cs[j]? = some (.v (.slice none 0 0))) (hke : (k / 8 == e) = false) (hn : hNoKey e H = true) (hs' : sigNoKey e σ = true)
    (h : LoopK E live body Q σ ((8 * e, .row sz []) :: hset k (.box (cs.set j (.own (8 * e))) t) H) M) : LoopK E live body Q σ H M :=
  fun a w hr => h a w (hr.nilBox k j e sz hk hj hke hn hs')
/-- a row in a box gets another key -/
theorem Ent.rekeyB {S : Sig × HS × Mem} (kb j k1 e sz : Nat) (es : List (List Value)) {cs : List SV} {t : Option Value} (hk1 : hget H k1 = some (.row sz es)) (hkb : hget ((8 * e, .row sz es) :: hdelk k1 (hdel e H)) kb = some (.box cs t)) (hj : cs[j]? = some (.own k1)) (hke : (k1 / 8 == e) = false) (hn : hNoKey e (hdelk k1 (hdel e H)) = true)
    (h : Ent E (sigDrop e σ) (hset kb (.box (cs.set j (.own (8 * e))) t) ((8 * e, .row sz es) :: hdelk k1 (hdel e H))) M S) : Ent E σ H M S := by
  rintro a w ⟨ν, hs, hh⟩
  refine h a w ?_
  have hke' : k1 / 8 ≠ e := by simpa using hke
  let ν2 : Nat → Value := fun i => if i / 8 = e then ν k1 else ν i
  have hν : ∀ i, i / 8 ≠ e → ν2 i = ν i := fun i hi => by simp [ν2, hi]
  have hν8 : ν2 (8 * e) = ν k1 := by simp [ν2, show (8 * e) / 8 = e by omega]
  have hsub : (hdelk k1 (hdel e H)).Sublist H := (hdelk_sub k1 _).trans (hdel_sub e H)
  have h1 : Heap E ν2 ((8 * e, .row sz es) :: hdelk k1 (hdel e H)) M w := by
    refine (hh.sublist hsub).add hn hν (fun i => ?_) ?_ (fun b hb => ?_)
    · by_cases hi : i / 8 = e
      · simp only [ν2, hi, if_true]; exact hh.one k1
      · simp only [ν2, hi, if_false]; exact hh.one i
    · rw [hν8]
      exact hh.holds _ (hget_mem hk1)
    · rw [hν8] at hb
      obtain ⟨g1, g2⟩ := hh.apart b (List.mem_filterMap.2 ⟨(k1, _), hget_mem hk1, hb⟩)
      exact ⟨fp_hdelk hh hk1 hb e _ hsub (hdelk_ne k1 _), g1, g2⟩
  exact ⟨ν2, hs.drop hν, h1.boxSet hkb hj (by simp only [SV.val, hν8, hν k1 hke'])⟩
end
end Go.X

namespace Go.X
open Go Go.RowKit

section
variable {E : Env} {σ : Sig} {H : HS} {M : Mem} {a : Act} {w : World} {ν : Nat → Value} {K : KP} {o : Oper}

/-- a new object becomes known -/
theorem Heap.known (hh : Heap E ν H M w) {w' : World} {ob : Obj} (hb : Below w.heap.size w w') (hn : w'.heap[w.heap.size]? = some ob) :
    ∃ M', M.le M' ∧ M' w.heap.size = some ob ∧ Heap E ν H M' w' := by
  have hw := hh.grow hb
  have hMn : M w.heap.size = none := by
    cases hM : M w.heap.size with
    | none => rfl
    | some o => have := hh.mem.lt hM; omega
  let M' : Mem := fun c => if c = w.heap.size then some ob else M c
  have hle : M.le M' := fun c o hc => by
    simp only [M']
    rw [if_neg (fun e => by rw [e, hMn] at hc; cases hc)]
    exact hc
  refine ⟨M', hle, by simp [M'], hw.holds, hw.nodup, fun b hb' => ?_, fun c o' hc => ?_, hw.below, hw.le0.trans hle, fun c hc => ?_, hw.one⟩
  · have := hh.fp_lt hb'
    simp only [M', if_neg (show b ≠ w.heap.size by omega)]
    exact hw.apart b hb'
  · simp only [M'] at hc
    split at hc
    · rename_i e
      simp only [Option.some.injEq] at hc
      subst hc e
      exact hn
    · exact hw.mem c o' hc
  · simp only [M'] at hc
    split at hc
    · rename_i e; subst e; exact .inr hh.below.size
    · exact hw.fresh c hc

end
end Go.X

namespace Go.X
open Go Go.RowKit
/-- known memory, block b another one -/
def updM (M : Mem) (b : Nat) (o : Obj) : Mem := fun c => if c = b then some o else M c
/-- known memory without block b -/
def offM (M : Mem) (b : Nat) : Mem := fun c => if c = b then none else M c
theorem updM_at (M : Mem) (b : Nat) (o : Obj) : updM M b o b = some o := by simp [updM]
theorem le_updM {M N : Mem} {b : Nat} {o : Obj} (h : N.le M) (hb : N b = none) : N.le (updM M b o) := fun c x hc => by
  unfold updM
  rw [if_neg (fun e => by rw [e, hb] at hc; cases hc)]
  exact h c x hc
theorem offM_le (M : Mem) (b : Nat) : (offM M b).le M := fun c x hc => by
  unfold offM at hc
  split at hc
  · cases hc
  · exact hc
theorem le_offM {M N : Mem} {b : Nat} (h : N.le M) (hb : N b = none) : N.le (offM M b) := fun c x hc => by
  unfold offM
  rw [if_neg (fun e => by rw [e, hb] at hc; cases hc)]
  exact h c x hc
section
variable {E : Env} {σ : Sig} {H : HS} {M : Mem} {a : Act} {w : World} {ν : Nat → Value} {K : KP} {o : Oper}

theorem Heap.off (hh : Heap E ν H M w) {b : Nat} (h0 : E.M0 b = none) : Heap E ν H (offM M b) w := by
  refine ⟨hh.holds, hh.nodup, fun c hc => ⟨?_, (hh.apart c hc).2⟩, fun c x hc => hh.mem c x (offM_le M b c x hc), hh.below, le_offM hh.le0 h0, fun c hc => hh.fresh c ?_, hh.one⟩
  · unfold offM
    split
    · rfl
    · exact (hh.apart c hc).1
  · intro e
    unfold offM at hc
    split at hc
    · exact hc rfl
    · exact hc e
/-- a known block is another one -/
theorem Heap.turnM (hh : Heap E ν H M w) {b : Nat} {x x' : Obj} (hb : M b = some x) (h0 : E.M0 b = none) {w' : World} (hw : ∀ j, j ≠ b → w'.heap[j]? = w.heap[j]?) (hz : w'.heap.size = w.heap.size) (ho : w'.os = w.os ∧ w'.tape = w.tape ∧ w'.output = w.output) (hn : w'.heap[b]? = some x') :
    Heap E ν H (updM M b x') w' := by
  have hbs : E.w0.heap.size ≤ b := (hh.fresh b (by rw [hb]; exact fun e => by cases e)).resolve_left (fun e => e h0)
  have hf : ∀ c ∈ fp ν H, c ≠ b := fun c hc e => by
    have := (hh.apart c hc).1
    rw [e, hb] at this
    cases this
  have h1 := (hh.off h0).moved (w' := w') (fun c hc => hw c (hf c hc)) (fun c y hc => by
      have hne : c ≠ b := fun e => by simp [offM, e] at hc
      rw [hw c hne]
      exact hh.mem c y (offM_le M b c y hc))
    (hh.below.trans ⟨ho.1, ho.2.1, ho.2.2, Nat.le_of_eq hz.symm, fun k hk => hw k (by omega)⟩)
  refine ⟨h1.holds, h1.nodup, fun c hc => ⟨?_, (h1.apart c hc).2⟩, fun c y hc => ?_, h1.below, le_updM hh.le0 h0, fun c hc => ?_, h1.one⟩
  · unfold updM
    rw [if_neg (hf c hc)]
    exact (hh.apart c hc).1
  · unfold updM at hc
    split at hc
    · rename_i e
      cases hc
      rw [e]; exact hn
    · rename_i e
      rw [hw c e]
      exact hh.mem c y hc
  · unfold updM at hc
    split at hc
    · rename_i e
      exact .inr (by omega)
    · exact hh.fresh c hc
/-! ### a range over a string: its iterator -/
variable {g : Bool} {d : Option Nat} {ty : TypeId} {pos : String} {aft : Array Edge} {gd : Option (Nat × Bool)}
end
end Go.X
namespace Go.X
open Go Go.RowKit
theorem Meets.nilOr {P : Program} {f : FuncId} {args : List SV} {sz : Nat} {M : Mem} {T : SV → SV} {es : List (List Value)} (hT : Ctx T) (h : Meets P f args M (fun r H M' => (r = T (.v (.slice none 0 0)) ∧ es = []) ∨ OwnR T sz es r H M')) : Meets P f args M (OwnR T sz es) := by
  refine ⟨h.1, fun w hw => (h.2 w hw).mono ?_⟩
  rintro e w' ⟨s, H', M', ν, h1, hh, h2⟩
  rcases h2 with ⟨rfl, rfl⟩ | h2
  · refine ⟨T (.own 0), [(0, .row sz [])], M', fun _ => .slice none 0 0, ?_, ⟨fun p hp => ?_, by simp [fp, blk?], by simp [fp, blk?], hh.mem, hh.below, hh.le0, hh.fresh, fun _ => rfl⟩, 0, rfl, rfl⟩
    · rw [h1, hT (.v (.slice none 0 0)) (.own 0) ν (fun _ => .slice none 0 0) rfl]
    · simp only [List.mem_singleton] at hp
      subst hp
      exact ⟨fun e he => by simp at he, .inl ⟨rfl, rfl⟩⟩
  · exact ⟨s, H', M', ν, h1, hh, h2⟩
theorem Meets.rows {T : SV → SV} {sz : Nat} {es : List (List Value)} {P : Program} {f : FuncId} {args : List SV} {M : Mem} (h : Meets P f args M (OwnR T sz es)) : Meets P f args M (RowR T sz es) :=
  h.mono fun _ _ _ _ ⟨k, h1, h2⟩ => ⟨.own k, h1, h2⟩
theorem fidx_sp {α : Type} (p : α → Bool) : ∀ (l : List α) (i : Nat), (fidx p l i = -1 ∧ ∀ x ∈ l, p x = false) ∨ ∃ j x, fidx p l i = ((i + j : Nat) : Int) ∧ l[j]? = some x ∧ p x = true ∧ ∀ q y, q < j → l[q]? = some y → p y = false
  | [], i => .inl ⟨rfl, fun x hx => by cases hx⟩
  | a :: l, i => by
    cases ha : p a with
    | true => exact .inr ⟨0, a, by simp [fidx, ha], rfl, ha, fun q y hq => by omega⟩
    | false =>
      rcases fidx_sp p l (i + 1) with ⟨h1, h2⟩ | ⟨j, x, h1, h2, h3, h4⟩
      · refine .inl ⟨by simp [fidx, ha, h1], fun x hx => ?_⟩
        rcases List.mem_cons.1 hx with rfl | hx
        · exact ha
        · exact h2 x hx
      · refine .inr ⟨j + 1, x, by simp only [fidx, ha]; simp; rw [h1]; omega, h2, h3, fun q y hq hy => ?_⟩
        cases q with
        | zero => simp at hy; subst hy; exact ha
        | succ q => exact h4 q y (by omega) hy
theorem fidx_map {α β : Type} (g : α → β) (p : β → Bool) : ∀ (l : List α) (i : Nat), fidx p (l.map g) i = fidx (fun x => p (g x)) l i
  | [], _ => rfl
  | a :: l, i => by
    simp only [List.map_cons, fidx]
    split
    · rfl
    · exact fidx_map g p l (i + 1)
end Go.X

namespace Go.X.St
open Go Go.X Go.RowKit

theorem Meets.ofCalls {P : Program} {f : FuncId} {args : List SV} {M : Mem} {v : Value} (hc : callable P f)
    (h : ∀ w, Calls P f (SV.vals ν0 args).toArray w fun e w' => e = .returned v ∧ Below w.heap.size w w') : Meets P f args M fun r _ _ => r = .v v :=
  ⟨hc, fun w hw => (h w).mono fun e w' ⟨he, hb⟩ => ⟨.v v, [], M, ν0, he,
    Heap.grow (E := ⟨P, 0, w, M⟩) (ν := ν0) (H := []) (M := M) (w := w) ⟨by simp, List.nodup_nil, by simp [fp], hw, Below.refl _ _, Mem.le.refl _, fun b hb => .inl hb, fun k => rfl⟩ hb, rfl⟩⟩
end Go.X.St

