/- Bytes as deeds: what woolref.Unbody returns. Conditions: none. -/
import Derived.Test.YtkhclplinfobdaaDoorLgC
set_option linter.unusedSimpArgs false
set_option linter.unusedVariables false
set_option maxHeartbeats 4000000
set_option maxRecDepth 20000
namespace Go.X.Lg
open Go Go.X Go.RowKit Go.X.Pl Go.X.Nm Go.X.Tv

def unS (s : List UInt8) : Op × Int := if opE (lnS s) = 0 ∧ bodyS (lnS s) = s then (lnS s, 0) else (z5, 3)
theorem rnd (b : UInt8) (u : List UInt8) : u.take (min b.toNat u.length) = (lnT (b :: u)).1 ∧ u.drop (min b.toNat u.length) = (lnT (b :: u)).2 := by
  show _ = u.take b.toNat ∧ _ = u.drop b.toNat
  rcases Nat.lt_or_ge b.toNat u.length with h | h
  · rw [Nat.min_eq_left (by omega)]
    exact ⟨rfl, rfl⟩
  · rw [Nat.min_eq_right h, List.take_of_length_le (Nat.le_refl _), List.take_of_length_le h, List.drop_eq_nil_of_le (Nat.le_refl _), List.drop_eq_nil_of_le h]
    exact ⟨rfl, rfl⟩
theorem lnT_le {s n r : List UInt8} (h : lnT s = (n, r)) : n.length ≤ s.length ∧ r.length ≤ s.length := by
  cases s with
  | nil =>
    simp only [lnT, Prod.mk.injEq] at h
    rw [← h.1, ← h.2]
    exact ⟨Nat.le_refl _, Nat.le_refl _⟩
  | cons b q =>
    simp only [lnT, Prod.mk.injEq] at h
    rw [← h.1, ← h.2]
    simp only [List.length_take, List.length_drop, List.length_cons]
    omega
theorem shN0 : (0 : Nat) + 0 = 0 := rfl
theorem unbodyW (s : List UInt8) (M : Mem) (h : s.length ≤ 9223372036854775807) :
    Meets Proofs.Tryd.prog 13 [.v (.string ⟨s.toArray⟩)] M fun r _ _ => r = .tup [opV (unS s).1, .v (.int .i64 (unS s).2)] := by
  refine Meets.of_body [0,2,3,4,5,6,7,8,11,22,23,26,62] Proofs.Tryd.func13 rfl (by kernel_rfl) rfl fun w => ?_
  generalize hc : unS s = c
  unfold unS at hc
  by_cases h2 : 2 < s.length
  rotate_left
  · have d0 : ((2 : Int) < (s.length : Int)) = False := eq_false (by omega)
    have hz : lnS s = z5 := by
      match s, h2 with
      | [], _ => rfl
      | [_], _ => rfl
      | [_, _], _ => rfl
      | _ :: _ :: _ :: _, h2 => simp at h2
    have he : opE z5 = 1 := rfl
    rw [hz, if_neg (fun e => by rw [he] at e; cases e.1)] at hc
    subst hc
    simp only [Proofs.Tryd.f13, shs, zts, sos, sls, zss, eqs, sx, sb1, sb2, sb3, sb4, sb5, sb6, sb7, ↓reduceIte, Nat.reduceAdd, Nat.reduceMul, Nat.reduceDiv, Nat.reduceEqDiff, Nat.reduceLT, Nat.reduceLeDiff, reduceCtorEq, Int.reduceEq, Int.reduceNe, Int.reduceLT, Int.reduceLE, Int.reduceAdd, Int.reduceSub, Int.reduceMul, Int.reduceNeg, Int.reduceToNat, Int.cast_ofNat_Int, Int.natCast_zero, Int.natCast_one, Int.toNat_natCast, Nat.reduceBEq, nzs, d0]
    refine CallK.pure ⟨rfl, rfl⟩ rfl (deedW z5 M (Nat.zero_le _) (Nat.zero_le _) (Nat.zero_le _)) ?_
    rw [he]
    simp only [shs, zts, sos, sls, zss, eqs, sx, sb1, sb2, sb3, sb4, sb5, sb6, sb7, ↓reduceIte, Nat.reduceAdd, Nat.reduceMul, Nat.reduceDiv, Nat.reduceEqDiff, Nat.reduceLT, Nat.reduceLeDiff, reduceCtorEq, Int.reduceEq, Int.reduceNe, Int.reduceLT, Int.reduceLE, Int.reduceAdd, Int.reduceSub, Int.reduceMul, Int.reduceNeg, Int.reduceToNat, Int.cast_ofNat_Int, Int.natCast_zero, Int.natCast_one, Int.toNat_natCast, Nat.reduceBEq, nzs, opV, z5]
  have d0 : ((2 : Int) < (s.length : Int)) = True := eq_true (by omega)
  obtain ⟨a, b, b0, u, rfl⟩ : ∃ a b b0 u, s = a :: b :: b0 :: u := by
    match s, h2 with
    | [], h2 => simp at h2
    | [_], h2 => simp at h2
    | [_, _], h2 => simp at h2
    | a :: b :: b0 :: u, _ => exact ⟨a, b, b0, u, rfl⟩
  have e0 : strIx (a :: b :: b0 :: u) 0 = ((a.toNat : Nat) : Int) := rfl
  have e1 : strIx (a :: b :: b0 :: u) 1 = ((b.toNat : Nat) : Int) := rfl
  have e2 : strIx (b0 :: u) 0 = ((b0.toNat : Nat) : Int) := rfl
  have ha := UInt8.toNat_lt a
  have hb := UInt8.toNat_lt b
  have hb0 := UInt8.toNat_lt b0
  simp only [List.length_cons] at d0 h h2
  simp only [Proofs.Tryd.f13, shs, zts, sos, sls, zss, eqs, sx, sb1, sb2, sb3, sb4, sb5, sb6, sb7, ↓reduceIte, Nat.reduceAdd, Nat.reduceMul, Nat.reduceDiv, Nat.reduceEqDiff, Nat.reduceLT, Nat.reduceLeDiff, reduceCtorEq, Int.reduceEq, Int.reduceNe, Int.reduceLT, Int.reduceLE, Int.reduceAdd, Int.reduceSub, Int.reduceMul, Int.reduceNeg, Int.reduceToNat, Int.cast_ofNat_Int, Int.natCast_zero, Int.natCast_one, Int.toNat_natCast, Nat.reduceBEq, nzs, d0, List.length_cons]
  refine DrawK.held [] (tk [0, 3, 1, 4, 2, 5, 6] (.one 7 (tk [8] (.one 9 .done)))) (by kernel_rfl) (by kernel_rfl) fun xs => ?_
  simp only [shs, zts, sos, sls, zss, eqs, sx, sb1, sb2, sb3, sb4, sb5, sb6, sb7, ↓reduceIte, Nat.reduceAdd, Nat.reduceMul, Nat.reduceDiv, Nat.reduceEqDiff, Nat.reduceLT, Nat.reduceLeDiff, reduceCtorEq, Int.reduceEq, Int.reduceNe, Int.reduceLT, Int.reduceLE, Int.reduceAdd, Int.reduceSub, Int.reduceMul, Int.reduceNeg, Int.reduceToNat, Int.cast_ofNat_Int, Int.natCast_zero, Int.natCast_one, Int.toNat_natCast, Nat.reduceBEq, nzs, se1, se2, tks, List.length_cons, e0, e1, iw (show a.toNat < 9223372036854775808 by omega), iw (show b.toNat < 9223372036854775808 by omega), List.drop_succ_cons, List.drop_zero]
  have et : List.take (u.length + 1 + 1 + 1 - 2) (b0 :: u) = b0 :: u := List.take_of_length_le (by simp only [List.length_cons]; omega)
  have ed : (b0 :: u = []) = False := eq_false (fun e => by cases e)
  refine ⟨by omega, by omega, by omega, LoopK.rounds 4 ?_⟩
  have hl : lnS (a :: b :: b0 :: u) = ((a.toNat : Int), (lnT (b0 :: u)).1, (lnT (lnT (b0 :: u)).2).1, (b.toNat : Int), (lnT (lnT (lnT (b0 :: u)).2).2).1) := rfl
  rw [hl] at hc
  simp only [shs, zts, sos, sls, zss, eqs, sx, sb1, sb2, sb3, sb4, sb5, sb6, sb7, ↓reduceIte, Nat.reduceAdd, Nat.reduceMul, Nat.reduceDiv, Nat.reduceEqDiff, Nat.reduceLT, Nat.reduceLeDiff, reduceCtorEq, Int.reduceEq, Int.reduceNe, Int.reduceLT, Int.reduceLE, Int.reduceAdd, Int.reduceSub, Int.reduceMul, Int.reduceNeg, Int.reduceToNat, Int.cast_ofNat_Int, Int.natCast_zero, Int.natCast_one, Int.toNat_natCast, Nat.reduceBEq, nzs, sRo, et, ed, e2, List.length_cons, inK, lo, hi, iw (show b0.toNat < 9223372036854775808 by omega)]
  have em0 : min (((b0).toNat : Nat) : Int) (((u.length + 1 : Nat) : Int) - 1) = ((min (b0).toNat u.length : Nat) : Int) := by omega
  have ez0 : (1 : Int) + ((min (b0).toNat u.length : Nat) : Int) = ((min (b0).toNat u.length + 1 : Nat) : Int) := by omega
  obtain ⟨g0, g0'⟩ := rnd (b0) u
  obtain ⟨⟨n0, u0⟩, hT0⟩ : ∃ T, lnT (b0 :: u) = T := ⟨_, rfl⟩
  simp only [hT0] at hc g0 g0'
  have hn0 := lnT_le hT0
  simp only [List.length_cons] at hn0
  have eq0 : List.take (min (b0).toNat u.length + 1 - 1) u = n0 := g0
  have er0 : List.take (u.length + 1 - (min (b0).toNat u.length + 1)) (List.drop (min (b0).toNat u.length) u) = u0 := by rw [g0']; exact List.take_of_length_le (by rw [← g0', List.length_drop]; omega)
  simp only [em0]
  refine ⟨by omega, by omega, DrawK.held [] (tk [0, 1, 2, 5, 6, 3, 7, 4, 8, 9] (.one 10 (tk [11] .done))) (by kernel_rfl) (by kernel_rfl) fun xs => ?_⟩
  cases u0 with
  | nil =>
    simp only [shs, zts, sos, sls, zss, eqs, sx, sb1, sb2, sb3, sb4, sb5, sb6, sb7, ↓reduceIte, Nat.reduceAdd, Nat.reduceMul, Nat.reduceDiv, Nat.reduceEqDiff, Nat.reduceLT, Nat.reduceLeDiff, reduceCtorEq, Int.reduceEq, Int.reduceNe, Int.reduceLT, Int.reduceLE, Int.reduceAdd, Int.reduceSub, Int.reduceMul, Int.reduceNeg, Int.reduceToNat, Int.cast_ofNat_Int, Int.natCast_zero, Int.natCast_one, Int.toNat_natCast, Nat.reduceBEq, nzs, sRo, se1, se2, tks, List.drop_succ_cons, List.drop_zero, List.length_cons, List.length_nil, inK, lo, hi, shN0, ez0, eq0, er0]
    refine ⟨by omega, by omega, by omega, by omega, ?_⟩
    rw [show lnT [] = ([], []) from rfl] at hc
    simp only [show lnT [] = ([], []) from rfl] at hc
    generalize hOP : (((a.toNat : Int), n0, [], (b.toNat : Int), []) : Op) = op at hc
    have hD := deedW op M (by rw [← hOP]; simp only [List.length_nil]; omega) (by rw [← hOP]; simp only [List.length_nil]; omega) (by rw [← hOP]; simp only [List.length_nil]; omega)
    have hB := rbodyW op M
    rw [← hOP] at hD hB
    simp only [opV] at hD hB
    refine DrawK.held [48] (tk [0, 2, 4, 1, 3, 5, 6] (.one 7 (tk [8] (.one 9 (tk [10] (.one 11 .done)))))) (by kernel_rfl) (by kernel_rfl) fun xs => ?_
    simp only [shs, zts, sos, sls, zss, eqs, sx, sb1, sb2, sb3, sb4, sb5, sb6, sb7, ↓reduceIte, Nat.reduceAdd, Nat.reduceMul, Nat.reduceDiv, Nat.reduceEqDiff, Nat.reduceLT, Nat.reduceLeDiff, reduceCtorEq, Int.reduceEq, Int.reduceNe, Int.reduceLT, Int.reduceLE, Int.reduceAdd, Int.reduceSub, Int.reduceMul, Int.reduceNeg, Int.reduceToNat, Int.cast_ofNat_Int, Int.natCast_zero, Int.natCast_one, Int.toNat_natCast, Nat.reduceBEq, nzs, sRo, se1, se2, tks, List.drop_succ_cons, List.drop_zero, List.length_cons, List.length_nil, inK, lo, hi, shN0]
    refine CallK.pure ⟨rfl, rfl⟩ rfl hD ?_
    by_cases he : opE op = 0
    · have he2 : opE ((a.toNat : Int), n0, [], (b.toNat : Int), []) = 0 := by rw [hOP]; exact he
      simp only [shs, zts, sos, sls, zss, eqs, sx, sb1, sb2, sb3, sb4, sb5, sb6, sb7, ↓reduceIte, Nat.reduceAdd, Nat.reduceMul, Nat.reduceDiv, Nat.reduceEqDiff, Nat.reduceLT, Nat.reduceLeDiff, reduceCtorEq, Int.reduceEq, Int.reduceNe, Int.reduceLT, Int.reduceLE, Int.reduceAdd, Int.reduceSub, Int.reduceMul, Int.reduceNeg, Int.reduceToNat, Int.cast_ofNat_Int, Int.natCast_zero, Int.natCast_one, Int.toNat_natCast, Nat.reduceBEq, nzs, sRo, se1, se2, tks, List.drop_succ_cons, List.drop_zero, List.length_cons, List.length_nil, inK, lo, hi, shN0, hOP, he]
      refine CallK.pure ⟨rfl, rfl⟩ rfl (hB he2) ?_
      by_cases hs : bodyS op = a :: b :: b0 :: u
      · have c1 := eq_true hs
        rw [if_pos ⟨he, hs⟩] at hc
        subst hc
        simp only [shs, zts, sos, sls, zss, eqs, sx, sb1, sb2, sb3, sb4, sb5, sb6, sb7, ↓reduceIte, Nat.reduceAdd, Nat.reduceMul, Nat.reduceDiv, Nat.reduceEqDiff, Nat.reduceLT, Nat.reduceLeDiff, reduceCtorEq, Int.reduceEq, Int.reduceNe, Int.reduceLT, Int.reduceLE, Int.reduceAdd, Int.reduceSub, Int.reduceMul, Int.reduceNeg, Int.reduceToNat, Int.cast_ofNat_Int, Int.natCast_zero, Int.natCast_one, Int.toNat_natCast, Nat.reduceBEq, nzs, sRo, se1, se2, tks, List.drop_succ_cons, List.drop_zero, List.length_cons, List.length_nil, inK, lo, hi, shN0, hOP, c1]
        rw [← hOP]
        rfl
      · have c1 := eq_false hs
        rw [if_neg (fun e => hs e.2)] at hc
        subst hc
        simp only [shs, zts, sos, sls, zss, eqs, sx, sb1, sb2, sb3, sb4, sb5, sb6, sb7, ↓reduceIte, Nat.reduceAdd, Nat.reduceMul, Nat.reduceDiv, Nat.reduceEqDiff, Nat.reduceLT, Nat.reduceLeDiff, reduceCtorEq, Int.reduceEq, Int.reduceNe, Int.reduceLT, Int.reduceLE, Int.reduceAdd, Int.reduceSub, Int.reduceMul, Int.reduceNeg, Int.reduceToNat, Int.cast_ofNat_Int, Int.natCast_zero, Int.natCast_one, Int.toNat_natCast, Nat.reduceBEq, nzs, sRo, se1, se2, tks, List.drop_succ_cons, List.drop_zero, List.length_cons, List.length_nil, inK, lo, hi, shN0, hOP, c1, opV, z5]
    · have he2 := eq_false he
      rw [if_neg (fun e => he e.1)] at hc
      subst hc
      simp only [shs, zts, sos, sls, zss, eqs, sx, sb1, sb2, sb3, sb4, sb5, sb6, sb7, ↓reduceIte, Nat.reduceAdd, Nat.reduceMul, Nat.reduceDiv, Nat.reduceEqDiff, Nat.reduceLT, Nat.reduceLeDiff, reduceCtorEq, Int.reduceEq, Int.reduceNe, Int.reduceLT, Int.reduceLE, Int.reduceAdd, Int.reduceSub, Int.reduceMul, Int.reduceNeg, Int.reduceToNat, Int.cast_ofNat_Int, Int.natCast_zero, Int.natCast_one, Int.toNat_natCast, Nat.reduceBEq, nzs, sRo, se1, se2, tks, List.drop_succ_cons, List.drop_zero, List.length_cons, List.length_nil, inK, lo, hi, shN0, hOP, he2, opV, z5]
  | cons b1 v1 =>
  have hb1 := UInt8.toNat_lt b1
  have ed1 : (b1 :: v1 = []) = False := eq_false (fun e => by cases e)
  have ee1 : strIx (b1 :: v1) 0 = ((b1.toNat : Nat) : Int) := rfl
  simp only [List.length_cons] at hn0
  simp only [shs, zts, sos, sls, zss, eqs, sx, sb1, sb2, sb3, sb4, sb5, sb6, sb7, ↓reduceIte, Nat.reduceAdd, Nat.reduceMul, Nat.reduceDiv, Nat.reduceEqDiff, Nat.reduceLT, Nat.reduceLeDiff, reduceCtorEq, Int.reduceEq, Int.reduceNe, Int.reduceLT, Int.reduceLE, Int.reduceAdd, Int.reduceSub, Int.reduceMul, Int.reduceNeg, Int.reduceToNat, Int.cast_ofNat_Int, Int.natCast_zero, Int.natCast_one, Int.toNat_natCast, Nat.reduceBEq, nzs, sRo, se1, se2, tks, List.drop_succ_cons, List.drop_zero, List.length_cons, List.length_nil, inK, lo, hi, shN0, ez0, eq0, er0, ed1, ee1, iw (show b1.toNat < 9223372036854775808 by omega)]
  refine ⟨by omega, by omega, by omega, by omega, ?_⟩
  have em1 : min (((b1).toNat : Nat) : Int) (((v1.length + 1 : Nat) : Int) - 1) = ((min (b1).toNat v1.length : Nat) : Int) := by omega
  have ez1 : (1 : Int) + ((min (b1).toNat v1.length : Nat) : Int) = ((min (b1).toNat v1.length + 1 : Nat) : Int) := by omega
  obtain ⟨g1, g1'⟩ := rnd (b1) v1
  obtain ⟨⟨n1, u1⟩, hT1⟩ : ∃ T, lnT (b1 :: v1) = T := ⟨_, rfl⟩
  simp only [hT1] at hc g1 g1'
  have hn1 := lnT_le hT1
  simp only [List.length_cons] at hn1
  have eq1 : List.take (min (b1).toNat v1.length + 1 - 1) v1 = n1 := g1
  have er1 : List.take (v1.length + 1 - (min (b1).toNat v1.length + 1)) (List.drop (min (b1).toNat v1.length) v1) = u1 := by rw [g1']; exact List.take_of_length_le (by rw [← g1', List.length_drop]; omega)
  simp only [em1]
  refine ⟨by omega, by omega, DrawK.held [] (tk [0, 1, 2, 5, 6, 3, 7, 4, 8, 9] (.one 10 (tk [11] .done))) (by kernel_rfl) (by kernel_rfl) fun xs => ?_⟩
  cases u1 with
  | nil =>
    simp only [shs, zts, sos, sls, zss, eqs, sx, sb1, sb2, sb3, sb4, sb5, sb6, sb7, ↓reduceIte, Nat.reduceAdd, Nat.reduceMul, Nat.reduceDiv, Nat.reduceEqDiff, Nat.reduceLT, Nat.reduceLeDiff, reduceCtorEq, Int.reduceEq, Int.reduceNe, Int.reduceLT, Int.reduceLE, Int.reduceAdd, Int.reduceSub, Int.reduceMul, Int.reduceNeg, Int.reduceToNat, Int.cast_ofNat_Int, Int.natCast_zero, Int.natCast_one, Int.toNat_natCast, Nat.reduceBEq, nzs, sRo, se1, se2, tks, List.drop_succ_cons, List.drop_zero, List.length_cons, List.length_nil, inK, lo, hi, shN0, ez1, eq1, er1]
    refine ⟨by omega, by omega, by omega, by omega, ?_⟩
    simp only [show lnT [] = ([], []) from rfl] at hc
    generalize hOP : (((a.toNat : Int), n0, n1, (b.toNat : Int), []) : Op) = op at hc
    have hD := deedW op M (by rw [← hOP]; simp only [List.length_nil]; omega) (by rw [← hOP]; simp only [List.length_nil]; omega) (by rw [← hOP]; simp only [List.length_nil]; omega)
    have hB := rbodyW op M
    rw [← hOP] at hD hB
    simp only [opV] at hD hB
    refine DrawK.held [48] (tk [0, 2, 4, 1, 3, 5, 6] (.one 7 (tk [8] (.one 9 (tk [10] (.one 11 .done)))))) (by kernel_rfl) (by kernel_rfl) fun xs => ?_
    simp only [shs, zts, sos, sls, zss, eqs, sx, sb1, sb2, sb3, sb4, sb5, sb6, sb7, ↓reduceIte, Nat.reduceAdd, Nat.reduceMul, Nat.reduceDiv, Nat.reduceEqDiff, Nat.reduceLT, Nat.reduceLeDiff, reduceCtorEq, Int.reduceEq, Int.reduceNe, Int.reduceLT, Int.reduceLE, Int.reduceAdd, Int.reduceSub, Int.reduceMul, Int.reduceNeg, Int.reduceToNat, Int.cast_ofNat_Int, Int.natCast_zero, Int.natCast_one, Int.toNat_natCast, Nat.reduceBEq, nzs, sRo, se1, se2, tks, List.drop_succ_cons, List.drop_zero, List.length_cons, List.length_nil, inK, lo, hi, shN0]
    refine CallK.pure ⟨rfl, rfl⟩ rfl hD ?_
    by_cases he : opE op = 0
    · have he2 : opE ((a.toNat : Int), n0, n1, (b.toNat : Int), []) = 0 := by rw [hOP]; exact he
      simp only [shs, zts, sos, sls, zss, eqs, sx, sb1, sb2, sb3, sb4, sb5, sb6, sb7, ↓reduceIte, Nat.reduceAdd, Nat.reduceMul, Nat.reduceDiv, Nat.reduceEqDiff, Nat.reduceLT, Nat.reduceLeDiff, reduceCtorEq, Int.reduceEq, Int.reduceNe, Int.reduceLT, Int.reduceLE, Int.reduceAdd, Int.reduceSub, Int.reduceMul, Int.reduceNeg, Int.reduceToNat, Int.cast_ofNat_Int, Int.natCast_zero, Int.natCast_one, Int.toNat_natCast, Nat.reduceBEq, nzs, sRo, se1, se2, tks, List.drop_succ_cons, List.drop_zero, List.length_cons, List.length_nil, inK, lo, hi, shN0, hOP, he]
      refine CallK.pure ⟨rfl, rfl⟩ rfl (hB he2) ?_
      by_cases hs : bodyS op = a :: b :: b0 :: u
      · have c1 := eq_true hs
        rw [if_pos ⟨he, hs⟩] at hc
        subst hc
        simp only [shs, zts, sos, sls, zss, eqs, sx, sb1, sb2, sb3, sb4, sb5, sb6, sb7, ↓reduceIte, Nat.reduceAdd, Nat.reduceMul, Nat.reduceDiv, Nat.reduceEqDiff, Nat.reduceLT, Nat.reduceLeDiff, reduceCtorEq, Int.reduceEq, Int.reduceNe, Int.reduceLT, Int.reduceLE, Int.reduceAdd, Int.reduceSub, Int.reduceMul, Int.reduceNeg, Int.reduceToNat, Int.cast_ofNat_Int, Int.natCast_zero, Int.natCast_one, Int.toNat_natCast, Nat.reduceBEq, nzs, sRo, se1, se2, tks, List.drop_succ_cons, List.drop_zero, List.length_cons, List.length_nil, inK, lo, hi, shN0, hOP, c1]
        rw [← hOP]
        rfl
      · have c1 := eq_false hs
        rw [if_neg (fun e => hs e.2)] at hc
        subst hc
        simp only [shs, zts, sos, sls, zss, eqs, sx, sb1, sb2, sb3, sb4, sb5, sb6, sb7, ↓reduceIte, Nat.reduceAdd, Nat.reduceMul, Nat.reduceDiv, Nat.reduceEqDiff, Nat.reduceLT, Nat.reduceLeDiff, reduceCtorEq, Int.reduceEq, Int.reduceNe, Int.reduceLT, Int.reduceLE, Int.reduceAdd, Int.reduceSub, Int.reduceMul, Int.reduceNeg, Int.reduceToNat, Int.cast_ofNat_Int, Int.natCast_zero, Int.natCast_one, Int.toNat_natCast, Nat.reduceBEq, nzs, sRo, se1, se2, tks, List.drop_succ_cons, List.drop_zero, List.length_cons, List.length_nil, inK, lo, hi, shN0, hOP, c1, opV, z5]
    · have he2 := eq_false he
      rw [if_neg (fun e => he e.1)] at hc
      subst hc
      simp only [shs, zts, sos, sls, zss, eqs, sx, sb1, sb2, sb3, sb4, sb5, sb6, sb7, ↓reduceIte, Nat.reduceAdd, Nat.reduceMul, Nat.reduceDiv, Nat.reduceEqDiff, Nat.reduceLT, Nat.reduceLeDiff, reduceCtorEq, Int.reduceEq, Int.reduceNe, Int.reduceLT, Int.reduceLE, Int.reduceAdd, Int.reduceSub, Int.reduceMul, Int.reduceNeg, Int.reduceToNat, Int.cast_ofNat_Int, Int.natCast_zero, Int.natCast_one, Int.toNat_natCast, Nat.reduceBEq, nzs, sRo, se1, se2, tks, List.drop_succ_cons, List.drop_zero, List.length_cons, List.length_nil, inK, lo, hi, shN0, hOP, he2, opV, z5]
  | cons b2 v2 =>
  have hb2 := UInt8.toNat_lt b2
  have ed2 : (b2 :: v2 = []) = False := eq_false (fun e => by cases e)
  have ee2 : strIx (b2 :: v2) 0 = ((b2.toNat : Nat) : Int) := rfl
  simp only [List.length_cons] at hn1
  simp only [shs, zts, sos, sls, zss, eqs, sx, sb1, sb2, sb3, sb4, sb5, sb6, sb7, ↓reduceIte, Nat.reduceAdd, Nat.reduceMul, Nat.reduceDiv, Nat.reduceEqDiff, Nat.reduceLT, Nat.reduceLeDiff, reduceCtorEq, Int.reduceEq, Int.reduceNe, Int.reduceLT, Int.reduceLE, Int.reduceAdd, Int.reduceSub, Int.reduceMul, Int.reduceNeg, Int.reduceToNat, Int.cast_ofNat_Int, Int.natCast_zero, Int.natCast_one, Int.toNat_natCast, Nat.reduceBEq, nzs, sRo, se1, se2, tks, List.drop_succ_cons, List.drop_zero, List.length_cons, List.length_nil, inK, lo, hi, shN0, ez1, eq1, er1, ed2, ee2, iw (show b2.toNat < 9223372036854775808 by omega)]
  refine ⟨by omega, by omega, by omega, by omega, ?_⟩
  have em2 : min (((b2).toNat : Nat) : Int) (((v2.length + 1 : Nat) : Int) - 1) = ((min (b2).toNat v2.length : Nat) : Int) := by omega
  have ez2 : (1 : Int) + ((min (b2).toNat v2.length : Nat) : Int) = ((min (b2).toNat v2.length + 1 : Nat) : Int) := by omega
  obtain ⟨g2, g2'⟩ := rnd (b2) v2
  obtain ⟨⟨n2, u2⟩, hT2⟩ : ∃ T, lnT (b2 :: v2) = T := ⟨_, rfl⟩
  simp only [hT2] at hc g2 g2'
  have hn2 := lnT_le hT2
  simp only [List.length_cons] at hn2
  have eq2 : List.take (min (b2).toNat v2.length + 1 - 1) v2 = n2 := g2
  have er2 : List.take (v2.length + 1 - (min (b2).toNat v2.length + 1)) (List.drop (min (b2).toNat v2.length) v2) = u2 := by rw [g2']; exact List.take_of_length_le (by rw [← g2', List.length_drop]; omega)
  simp only [em2]
  refine ⟨by omega, by omega, DrawK.held [] (tk [0, 1, 2, 5, 6, 3, 7, 4, 8, 9] (.one 10 (tk [11] .done))) (by kernel_rfl) (by kernel_rfl) fun xs => ?_⟩
  simp only [shs, zts, sos, sls, zss, eqs, sx, sb1, sb2, sb3, sb4, sb5, sb6, sb7, ↓reduceIte, Nat.reduceAdd, Nat.reduceMul, Nat.reduceDiv, Nat.reduceEqDiff, Nat.reduceLT, Nat.reduceLeDiff, reduceCtorEq, Int.reduceEq, Int.reduceNe, Int.reduceLT, Int.reduceLE, Int.reduceAdd, Int.reduceSub, Int.reduceMul, Int.reduceNeg, Int.reduceToNat, Int.cast_ofNat_Int, Int.natCast_zero, Int.natCast_one, Int.toNat_natCast, Nat.reduceBEq, nzs, sRo, se1, se2, tks, List.drop_succ_cons, List.drop_zero, List.length_cons, List.length_nil, inK, lo, hi, shN0, ez2, eq2, er2]
  refine ⟨by omega, by omega, by omega, by omega, ?_⟩
  generalize hOP : (((a.toNat : Int), n0, n1, (b.toNat : Int), n2) : Op) = op at hc
  have hD := deedW op M (by rw [← hOP]; simp only [List.length_nil]; omega) (by rw [← hOP]; simp only [List.length_nil]; omega) (by rw [← hOP]; simp only [List.length_nil]; omega)
  have hB := rbodyW op M
  rw [← hOP] at hD hB
  simp only [opV] at hD hB
  refine DrawK.held [48] (tk [0, 2, 4, 1, 3, 5, 6] (.one 7 (tk [8] (.one 9 (tk [10] (.one 11 .done)))))) (by kernel_rfl) (by kernel_rfl) fun xs => ?_
  simp only [shs, zts, sos, sls, zss, eqs, sx, sb1, sb2, sb3, sb4, sb5, sb6, sb7, ↓reduceIte, Nat.reduceAdd, Nat.reduceMul, Nat.reduceDiv, Nat.reduceEqDiff, Nat.reduceLT, Nat.reduceLeDiff, reduceCtorEq, Int.reduceEq, Int.reduceNe, Int.reduceLT, Int.reduceLE, Int.reduceAdd, Int.reduceSub, Int.reduceMul, Int.reduceNeg, Int.reduceToNat, Int.cast_ofNat_Int, Int.natCast_zero, Int.natCast_one, Int.toNat_natCast, Nat.reduceBEq, nzs, sRo, se1, se2, tks, List.drop_succ_cons, List.drop_zero, List.length_cons, List.length_nil, inK, lo, hi, shN0]
  refine CallK.pure ⟨rfl, rfl⟩ rfl hD ?_
  by_cases he : opE op = 0
  · have he2 : opE ((a.toNat : Int), n0, n1, (b.toNat : Int), n2) = 0 := by rw [hOP]; exact he
    simp only [shs, zts, sos, sls, zss, eqs, sx, sb1, sb2, sb3, sb4, sb5, sb6, sb7, ↓reduceIte, Nat.reduceAdd, Nat.reduceMul, Nat.reduceDiv, Nat.reduceEqDiff, Nat.reduceLT, Nat.reduceLeDiff, reduceCtorEq, Int.reduceEq, Int.reduceNe, Int.reduceLT, Int.reduceLE, Int.reduceAdd, Int.reduceSub, Int.reduceMul, Int.reduceNeg, Int.reduceToNat, Int.cast_ofNat_Int, Int.natCast_zero, Int.natCast_one, Int.toNat_natCast, Nat.reduceBEq, nzs, sRo, se1, se2, tks, List.drop_succ_cons, List.drop_zero, List.length_cons, List.length_nil, inK, lo, hi, shN0, hOP, he]
    refine CallK.pure ⟨rfl, rfl⟩ rfl (hB he2) ?_
    by_cases hs : bodyS op = a :: b :: b0 :: u
    · have c1 := eq_true hs
      rw [if_pos ⟨he, hs⟩] at hc
      subst hc
      simp only [shs, zts, sos, sls, zss, eqs, sx, sb1, sb2, sb3, sb4, sb5, sb6, sb7, ↓reduceIte, Nat.reduceAdd, Nat.reduceMul, Nat.reduceDiv, Nat.reduceEqDiff, Nat.reduceLT, Nat.reduceLeDiff, reduceCtorEq, Int.reduceEq, Int.reduceNe, Int.reduceLT, Int.reduceLE, Int.reduceAdd, Int.reduceSub, Int.reduceMul, Int.reduceNeg, Int.reduceToNat, Int.cast_ofNat_Int, Int.natCast_zero, Int.natCast_one, Int.toNat_natCast, Nat.reduceBEq, nzs, sRo, se1, se2, tks, List.drop_succ_cons, List.drop_zero, List.length_cons, List.length_nil, inK, lo, hi, shN0, hOP, c1]
      rw [← hOP]
      rfl
    · have c1 := eq_false hs
      rw [if_neg (fun e => hs e.2)] at hc
      subst hc
      simp only [shs, zts, sos, sls, zss, eqs, sx, sb1, sb2, sb3, sb4, sb5, sb6, sb7, ↓reduceIte, Nat.reduceAdd, Nat.reduceMul, Nat.reduceDiv, Nat.reduceEqDiff, Nat.reduceLT, Nat.reduceLeDiff, reduceCtorEq, Int.reduceEq, Int.reduceNe, Int.reduceLT, Int.reduceLE, Int.reduceAdd, Int.reduceSub, Int.reduceMul, Int.reduceNeg, Int.reduceToNat, Int.cast_ofNat_Int, Int.natCast_zero, Int.natCast_one, Int.toNat_natCast, Nat.reduceBEq, nzs, sRo, se1, se2, tks, List.drop_succ_cons, List.drop_zero, List.length_cons, List.length_nil, inK, lo, hi, shN0, hOP, c1, opV, z5]
  · have he2 := eq_false he
    rw [if_neg (fun e => he e.1)] at hc
    subst hc
    simp only [shs, zts, sos, sls, zss, eqs, sx, sb1, sb2, sb3, sb4, sb5, sb6, sb7, ↓reduceIte, Nat.reduceAdd, Nat.reduceMul, Nat.reduceDiv, Nat.reduceEqDiff, Nat.reduceLT, Nat.reduceLeDiff, reduceCtorEq, Int.reduceEq, Int.reduceNe, Int.reduceLT, Int.reduceLE, Int.reduceAdd, Int.reduceSub, Int.reduceMul, Int.reduceNeg, Int.reduceToNat, Int.cast_ofNat_Int, Int.natCast_zero, Int.natCast_one, Int.toNat_natCast, Nat.reduceBEq, nzs, sRo, se1, se2, tks, List.drop_succ_cons, List.drop_zero, List.length_cons, List.length_nil, inK, lo, hi, shN0, hOP, he2, opV, z5]
end Go.X.Lg
