/- Deeds as bytes: what log.Encode and woolref.Body return. Conditions: none. -/
import Derived.Test.YtkhclplinfobdaaDoorLg
set_option linter.unusedSimpArgs false
set_option linter.unusedVariables false
set_option maxHeartbeats 4000000
set_option maxRecDepth 20000
namespace Go.X.Lg
open Go Go.X Go.RowKit Go.X.Pl Go.X.Nm Go.X.Tv

def txt (s : List UInt8) : List UInt8 := UInt8.ofNat s.length :: s
def bodyS (o : Op) : List UInt8 := UInt8.ofNat o.1.toNat :: UInt8.ofNat o.2.2.2.1.toNat :: (txt o.2.1 ++ (txt o.2.2.1 ++ txt o.2.2.2.2))
theorem nmB_len {s : List UInt8} (h : nmB s = true) : 0 < s.length ∧ s.length ≤ 12 := by
  unfold nmB at h
  rw [Bool.and_eq_true, decide_eq_true_eq] at h
  exact h.1
theorem opE_ok {o : Op} (h : opE o = 0) : (1 ≤ o.1 ∧ o.1 ≤ 5) ∧ (0 ≤ o.2.2.2.1 ∧ o.2.2.2.1 ≤ 32) ∧ o.2.1.length ≤ 64 ∧ o.2.2.1.length ≤ 64 ∧ o.2.2.2.2.length ≤ 64 := by
  obtain ⟨k, n, t, a, x⟩ := o
  unfold opE at h
  simp only at h ⊢
  split at h
  · cases h
  rename_i h1
  split at h
  · cases h
  rename_i h2
  split at h
  · cases h
  rename_i h3
  split at h
  · cases h
  rename_i h4
  split at h
  · cases h
  rename_i h5
  rw [not_or, Bool.not_eq_false] at h2
  have hn := nmB_len h2.1
  refine ⟨by omega, by omega, by omega, ?_, by omega⟩
  by_cases hk : k = 5
  · have := nmB_len (s := t) (by cases ht : nmB t with | true => rfl | false => exact absurd ⟨hk, ht⟩ h2.2)
    omega
  · have : t = [] := Classical.byContradiction fun e => h5 ⟨hk, e⟩
    rw [this]
    exact Nat.zero_le _
theorem textW (s : List UInt8) (M : Mem) (h : s.length ≤ 64) :
    Meets Proofs.Tryd.prog 42 [.v (.string ⟨s.toArray⟩)] M fun r _ _ => r = .v (.string ⟨(txt s).toArray⟩) := by
  refine Meets.of_body [0,2] Proofs.Tryd.func42 rfl (by kernel_rfl) rfl fun w => ?_
  simp only [Proofs.Tryd.f42, shs, zts, sos, sls, zss, eqs, sx, sb1, sb2, sb3, sb4, sb5, sb6, sb7, ↓reduceIte, Nat.reduceAdd, Nat.reduceMul, Nat.reduceDiv, Nat.reduceEqDiff, Nat.reduceLT, Nat.reduceLeDiff, reduceCtorEq, Int.reduceEq, Int.reduceNe, Int.reduceLT, Int.reduceLE, Int.reduceAdd, Int.reduceSub, Int.reduceMul, Int.reduceNeg, Int.reduceToNat, Int.cast_ofNat_Int, Int.natCast_zero, Int.natCast_one, Int.toNat_natCast, Nat.reduceBEq, nzs, byteOf, byteW]
  refine ⟨by omega, rfl⟩
theorem encodeW (o : Op) (M : Mem) (h1 : o.2.1.length ≤ 9223372036854775807) (h2 : o.2.2.1.length ≤ 9223372036854775807) (h3 : o.2.2.2.2.length ≤ 9223372036854775807) :
    Meets Proofs.Tryd.prog 8 [opV o] M fun r _ _ => r = .tup [.v (.string ⟨(if opE o = 0 then bodyS o else []).toArray⟩), .v (.int .i64 (opE o))] := by
  refine Meets.of_body [0,1,2,3,4,8] Proofs.Tryd.func8 rfl (by kernel_rfl) rfl fun w => ?_
  have hC := checkW o M h1 h2 h3
  by_cases he : opE o = 0
  rotate_left
  · have c0 := eq_false he
    simp only [Proofs.Tryd.f8, opV, shs, zts, sos, sls, zss, eqs, sx, sb1, sb2, sb3, sb4, sb5, sb6, sb7, ↓reduceIte, Nat.reduceAdd, Nat.reduceMul, Nat.reduceDiv, Nat.reduceEqDiff, Nat.reduceLT, Nat.reduceLeDiff, reduceCtorEq, Int.reduceEq, Int.reduceNe, Int.reduceLT, Int.reduceLE, Int.reduceAdd, Int.reduceSub, Int.reduceMul, Int.reduceNeg, Int.reduceToNat, Int.cast_ofNat_Int, Int.natCast_zero, Int.natCast_one, Int.toNat_natCast, Nat.reduceBEq, nzs]
    refine CallK.pure ⟨rfl, rfl⟩ rfl hC ?_
    simp only [shs, zts, sos, sls, zss, eqs, sx, sb1, sb2, sb3, sb4, sb5, sb6, sb7, ↓reduceIte, Nat.reduceAdd, Nat.reduceMul, Nat.reduceDiv, Nat.reduceEqDiff, Nat.reduceLT, Nat.reduceLeDiff, reduceCtorEq, Int.reduceEq, Int.reduceNe, Int.reduceLT, Int.reduceLE, Int.reduceAdd, Int.reduceSub, Int.reduceMul, Int.reduceNeg, Int.reduceToNat, Int.cast_ofNat_Int, Int.natCast_zero, Int.natCast_one, Int.toNat_natCast, Nat.reduceBEq, nzs, c0]
  obtain ⟨q1, q2, q3, q4, q5⟩ := opE_ok he
  rw [he] at hC
  rw [if_pos he, he]
  obtain ⟨k, n, t, a, x⟩ := o
  simp only at q1 q2 q3 q4 q5
  obtain ⟨k, rfl⟩ : ∃ m : Nat, k = m := ⟨k.toNat, by omega⟩
  obtain ⟨a, rfl⟩ : ∃ m : Nat, a = m := ⟨a.toNat, by omega⟩
  simp only [Proofs.Tryd.f8, opV, shs, zts, sos, sls, zss, eqs, sx, sb1, sb2, sb3, sb4, sb5, sb6, sb7, ↓reduceIte, Nat.reduceAdd, Nat.reduceMul, Nat.reduceDiv, Nat.reduceEqDiff, Nat.reduceLT, Nat.reduceLeDiff, reduceCtorEq, Int.reduceEq, Int.reduceNe, Int.reduceLT, Int.reduceLE, Int.reduceAdd, Int.reduceSub, Int.reduceMul, Int.reduceNeg, Int.reduceToNat, Int.cast_ofNat_Int, Int.natCast_zero, Int.natCast_one, Int.toNat_natCast, Nat.reduceBEq, nzs]
  refine CallK.pure ⟨rfl, rfl⟩ rfl hC ?_
  simp only [shs, zts, sos, sls, zss, eqs, sx, sb1, sb2, sb3, sb4, sb5, sb6, sb7, ↓reduceIte, Nat.reduceAdd, Nat.reduceMul, Nat.reduceDiv, Nat.reduceEqDiff, Nat.reduceLT, Nat.reduceLeDiff, reduceCtorEq, Int.reduceEq, Int.reduceNe, Int.reduceLT, Int.reduceLE, Int.reduceAdd, Int.reduceSub, Int.reduceMul, Int.reduceNeg, Int.reduceToNat, Int.cast_ofNat_Int, Int.natCast_zero, Int.natCast_one, Int.toNat_natCast, Nat.reduceBEq, nzs]
  have hb : bodyS ((k : Int), n, t, (a : Int), x) = [UInt8.ofNat k, UInt8.ofNat a] ++ txt n ++ txt t ++ txt x := by simp [bodyS]
  have l1 : (txt n).length = n.length + 1 := rfl
  have l2 : (txt t).length = t.length + 1 := rfl
  have l3 : (txt x).length = x.length + 1 := rfl
  rw [hb]
  refine DrawK.held [8] (tk [0, 3, 8, 12, 16, 1, 4, 9, 13, 17, 2, 5] (.two 6 (.two 7 (.one 10 (tk [11] (.one 14 (tk [15] (.one 18 (tk [19, 20, 21] .done)))))) 10 (.two 7 (tk [11] (.one 14 (tk [15] (.one 18 (tk [19, 20, 21] .done))))) 14 (.two 7 (tk [11, 15] (.one 18 (tk [19, 20, 21] .done))) 18 (.one 7 (tk [11, 15, 19, 20, 21] .done))))) 10 (.two 6 (.two 7 (tk [11] (.one 14 (tk [15] (.one 18 (tk [19, 20, 21] .done))))) 14 (.two 7 (tk [11, 15] (.one 18 (tk [19, 20, 21] .done))) 18 (.one 7 (tk [11, 15, 19, 20, 21] .done)))) 14 (.two 6 (.two 7 (tk [11, 15] (.one 18 (tk [19, 20, 21] .done))) 18 (.one 7 (tk [11, 15, 19, 20, 21] .done))) 18 (.one 6 (.one 7 (tk [11, 15, 19, 20, 21] .done))))))) (by kernel_rfl) (by kernel_rfl) fun xs => ?_
  simp only [shs, zts, sos, sls, zss, eqs, sx, sb1, sb2, sb3, sb4, sb5, sb6, sb7, ↓reduceIte, Nat.reduceAdd, Nat.reduceMul, Nat.reduceDiv, Nat.reduceEqDiff, Nat.reduceLT, Nat.reduceLeDiff, reduceCtorEq, Int.reduceEq, Int.reduceNe, Int.reduceLT, Int.reduceLE, Int.reduceAdd, Int.reduceSub, Int.reduceMul, Int.reduceNeg, Int.reduceToNat, Int.cast_ofNat_Int, Int.natCast_zero, Int.natCast_one, Int.toNat_natCast, Nat.reduceBEq, nzs, se1, se2, tks, byteOf, byteW]
  repeat' (first
    | (refine CallK.pure ⟨rfl, rfl⟩ rfl (textW _ M (by assumption)) ?_; simp only [shs, zts, sos, sls, zss, eqs, sx, sb1, sb2, sb3, sb4, sb5, sb6, sb7, ↓reduceIte, Nat.reduceAdd, Nat.reduceMul, Nat.reduceDiv, Nat.reduceEqDiff, Nat.reduceLT, Nat.reduceLeDiff, reduceCtorEq, Int.reduceEq, Int.reduceNe, Int.reduceLT, Int.reduceLE, Int.reduceAdd, Int.reduceSub, Int.reduceMul, Int.reduceNeg, Int.reduceToNat, Int.cast_ofNat_Int, Int.natCast_zero, Int.natCast_one, Int.toNat_natCast, Nat.reduceBEq, nzs, se1, se2, tks, byteOf, byteW, List.length_append, l1, l2, l3, List.length_cons, List.length_nil])
    | refine ⟨?_, ?_⟩
    | rfl
    | omega)
theorem rbodyW (o : Op) (M : Mem) (he : opE o = 0) :
    Meets Proofs.Tryd.prog 11 [opV o] M fun r _ _ => r = .v (.string ⟨(bodyS o).toArray⟩) := by
  refine Meets.of_body [0,1,2,3,5,20,21,22,23] Proofs.Tryd.func11 rfl (by kernel_rfl) rfl fun w => ?_
  obtain ⟨q1, q2, q3, q4, q5⟩ := opE_ok he
  obtain ⟨k, n, t, a, x⟩ := o
  simp only at q1 q2 q3 q4 q5
  obtain ⟨k, rfl⟩ : ∃ m : Nat, k = m := ⟨k.toNat, by omega⟩
  obtain ⟨a, rfl⟩ : ∃ m : Nat, a = m := ⟨a.toNat, by omega⟩
  have hb : bodyS ((k : Int), n, t, (a : Int), x) = [UInt8.ofNat k, UInt8.ofNat a] ++ txt n ++ txt t ++ txt x := by simp [bodyS]
  rw [hb]
  have f4 : ∀ m : Nat, ((be4 m).drop 3).take (4 - 3) = [UInt8.ofNat m] := fun m => rfl
  have l1 : (txt n).length = n.length + 1 := rfl
  have l2 : (txt t).length = t.length + 1 := rfl
  have l3 : (txt x).length = x.length + 1 := rfl
  simp only [Proofs.Tryd.f11, opV, shs, zts, sos, sls, zss, eqs, sx, sb1, sb2, sb3, sb4, sb5, sb6, sb7, ↓reduceIte, Nat.reduceAdd, Nat.reduceMul, Nat.reduceDiv, Nat.reduceEqDiff, Nat.reduceLT, Nat.reduceLeDiff, reduceCtorEq, Int.reduceEq, Int.reduceNe, Int.reduceLT, Int.reduceLE, Int.reduceAdd, Int.reduceSub, Int.reduceMul, Int.reduceNeg, Int.reduceToNat, Int.cast_ofNat_Int, Int.natCast_zero, Int.natCast_one, Int.toNat_natCast, Nat.reduceBEq, nzs, byteOf, byteW]
  refine LoopK.rounds 4 ?_
  simp only [shs, zts, sos, sls, zss, eqs, sx, sb1, sb2, sb3, sb4, sb5, sb6, sb7, ↓reduceIte, Nat.reduceAdd, Nat.reduceMul, Nat.reduceDiv, Nat.reduceEqDiff, Nat.reduceLT, Nat.reduceLeDiff, reduceCtorEq, Int.reduceEq, Int.reduceNe, Int.reduceLT, Int.reduceLE, Int.reduceAdd, Int.reduceSub, Int.reduceMul, Int.reduceNeg, Int.reduceToNat, Int.cast_ofNat_Int, Int.natCast_zero, Int.natCast_one, Int.toNat_natCast, Nat.reduceBEq, nzs, sRo, List.getD_cons_zero, List.getD_cons_succ]
  refine CallK.pure ⟨rfl, rfl⟩ rfl (rfour n.length M (by omega)) ?_
  simp only [shs, zts, sos, sls, zss, eqs, sx, sb1, sb2, sb3, sb4, sb5, sb6, sb7, ↓reduceIte, Nat.reduceAdd, Nat.reduceMul, Nat.reduceDiv, Nat.reduceEqDiff, Nat.reduceLT, Nat.reduceLeDiff, reduceCtorEq, Int.reduceEq, Int.reduceNe, Int.reduceLT, Int.reduceLE, Int.reduceAdd, Int.reduceSub, Int.reduceMul, Int.reduceNeg, Int.reduceToNat, Int.cast_ofNat_Int, Int.natCast_zero, Int.natCast_one, Int.toNat_natCast, Nat.reduceBEq, nzs, sRo, be4_len, f4, List.length_append, List.length_cons, List.length_nil, inK, lo, hi, List.getD_cons_zero, List.getD_cons_succ]
  refine ⟨by omega, by omega, CallK.pure ⟨rfl, rfl⟩ rfl (rfour t.length M (by omega)) ?_⟩
  simp only [shs, zts, sos, sls, zss, eqs, sx, sb1, sb2, sb3, sb4, sb5, sb6, sb7, ↓reduceIte, Nat.reduceAdd, Nat.reduceMul, Nat.reduceDiv, Nat.reduceEqDiff, Nat.reduceLT, Nat.reduceLeDiff, reduceCtorEq, Int.reduceEq, Int.reduceNe, Int.reduceLT, Int.reduceLE, Int.reduceAdd, Int.reduceSub, Int.reduceMul, Int.reduceNeg, Int.reduceToNat, Int.cast_ofNat_Int, Int.natCast_zero, Int.natCast_one, Int.toNat_natCast, Nat.reduceBEq, nzs, sRo, be4_len, f4, List.length_append, List.length_cons, List.length_nil, inK, lo, hi, List.getD_cons_zero, List.getD_cons_succ]
  refine ⟨by omega, by omega, CallK.pure ⟨rfl, rfl⟩ rfl (rfour x.length M (by omega)) ?_⟩
  simp only [shs, zts, sos, sls, zss, eqs, sx, sb1, sb2, sb3, sb4, sb5, sb6, sb7, ↓reduceIte, Nat.reduceAdd, Nat.reduceMul, Nat.reduceDiv, Nat.reduceEqDiff, Nat.reduceLT, Nat.reduceLeDiff, reduceCtorEq, Int.reduceEq, Int.reduceNe, Int.reduceLT, Int.reduceLE, Int.reduceAdd, Int.reduceSub, Int.reduceMul, Int.reduceNeg, Int.reduceToNat, Int.cast_ofNat_Int, Int.natCast_zero, Int.natCast_one, Int.toNat_natCast, Nat.reduceBEq, nzs, sRo, be4_len, f4, List.length_append, List.length_cons, List.length_nil, inK, lo, hi]
  refine ⟨by omega, by omega, ?_⟩
  simp [txt]
end Go.X.Lg
