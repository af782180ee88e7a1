/- Who may read and write: woolref.Resv, Has and May. Conditions: none. -/
import Derived.Test.YtolifffhoahioaaResv
set_option linter.unusedSimpArgs false
set_option linter.unusedVariables false
set_option maxHeartbeats 4000000
set_option maxRecDepth 20000
namespace Go.X.Rv
open Go Go.X Go.X.Rp

theorem ck_nil : ∀ {l : List (Int × Int)} {last : Int}, ck l last = 0 → ∀ x ∈ l, 1 ≤ x.2
  | [], _, _, x, hx => by simp at hx
  | y :: l, last, h, x, hx => by
    simp only [ck] at h
    split at h
    · cases h
    · split at h
      · cases h
      · rcases List.mem_cons.1 hx with rfl | hx
        · omega
        · exact ck_nil h x hx
theorem fi_ge (w : Int) : ∀ (l : List (Int × Int)) (i : Nat), fi w l i = -1 ∨ (i : Int) ≤ fi w l i
  | [], i => .inl rfl
  | x :: l, i => by
    simp only [fi]
    split
    · exact .inr (Int.le_refl _)
    · rcases fi_ge w l (i + 1) with h | h
      · exact .inl h
      · exact .inr (by omega)
theorem ky_fi (w : Int) : ∀ (l : List (Int × Int)) (i : Nat), (∀ x ∈ l, 1 ≤ x.2) → ((0 < ky w l) ↔ 0 ≤ fi w l i)
  | [], i, _ => by simp [ky, fi]
  | x :: l, i, h => by
    simp only [ky, fi]
    split
    · have := h x List.mem_cons_self
      constructor <;> intro _ <;> omega
    · exact ky_fi w l (i + 1) (fun y hy => h y (List.mem_cons_of_mem _ hy))
theorem ky_nn (w : Int) : ∀ (l : List (Int × Int)), (∀ x ∈ l, 1 ≤ x.2) → 0 ≤ ky w l
  | [], _ => Int.le_refl _
  | x :: l, h => by
    simp only [ky]
    split
    · have := h x List.mem_cons_self
      omega
    · exact ky_nn w l (fun y hy => h y (List.mem_cons_of_mem _ hy))

theorem resv (g : Int) (y : Value) (kd hd : Int) (l : List (Int × Int)) (M : Mem) (hy : RowM M y 2 (l.map encR)) :
    Meets Proofs.Try.prog 39 [resvV g y kd hd] M fun r _ _ => r = .v (.int .i64 (resvE g l kd hd)) := by
  refine Meets.of_body [0,1,2,3,5,9,11,12,13,14,26,30,41,53,57,62] Proofs.Try.func39 rfl (by kernel_rfl) rfl fun w0 => ?_
  generalize hc : resvE g l kd hd = c
  have hyl := hy.len_le
  rw [List.length_map] at hyl
  simp only [Proofs.Try.f39, resvV, shs, zts, sos, sls, zss, eqs, sx, sb1, sb2, sb3, sb4, sb5, sb6, ↓reduceIte, Nat.reduceAdd, Nat.reduceMul, Nat.reduceDiv, Nat.reduceEqDiff, Nat.reduceLT, Nat.reduceLeDiff, reduceCtorEq, Int.reduceEq, Int.reduceNe, Int.reduceLT, Int.reduceLE, Int.reduceAdd, Int.reduceSub, Int.reduceMul, Int.reduceNeg, Int.reduceToNat, Int.cast_ofNat_Int, Int.natCast_zero, Int.natCast_one, Int.toNat_natCast, Nat.reduceBEq, nz, hy.len, hy.sl, List.length_map]
  refine CallK.pure ⟨rfl, rfl⟩ rfl (within g 0 2147483647 M) ?_
  by_cases hg : g < 0 ∨ 2147483647 < g
  · rw [resvE, if_pos hg] at hc
    have c1 : (0 ≤ g ∧ g ≤ 2147483647) = False := eq_false (by omega)
    subst hc
    simp only [shs, zts, sos, sls, zss, eqs, sx, sb1, sb2, sb3, sb4, sb5, sb6, ↓reduceIte, Nat.reduceAdd, Nat.reduceMul, Nat.reduceDiv, Nat.reduceEqDiff, Nat.reduceLT, Nat.reduceLeDiff, reduceCtorEq, Int.reduceEq, Int.reduceNe, Int.reduceLT, Int.reduceLE, Int.reduceAdd, Int.reduceSub, Int.reduceMul, Int.reduceNeg, Int.reduceToNat, Int.cast_ofNat_Int, Int.natCast_zero, Int.natCast_one, Int.toNat_natCast, Nat.reduceBEq, nz, c1]
  rw [resvE, if_neg hg] at hc
  have c1 : (0 ≤ g ∧ g ≤ 2147483647) = True := eq_true (by omega)
  simp only [shs, zts, sos, sls, zss, eqs, sx, sb1, sb2, sb3, sb4, sb5, sb6, ↓reduceIte, Nat.reduceAdd, Nat.reduceMul, Nat.reduceDiv, Nat.reduceEqDiff, Nat.reduceLT, Nat.reduceLeDiff, reduceCtorEq, Int.reduceEq, Int.reduceNe, Int.reduceLT, Int.reduceLE, Int.reduceAdd, Int.reduceSub, Int.reduceMul, Int.reduceNeg, Int.reduceToNat, Int.cast_ofNat_Int, Int.natCast_zero, Int.natCast_one, Int.toNat_natCast, Nat.reduceBEq, nz, hy.len, hy.sl, List.length_map, c1]
  generalize hck : ck l (-1) = e0 at hc
  refine LoopK.go (X := Nat × Nat × Int) (fun x => ([(1, true, .ptr 8 0 0 0), (3, true, .v (.int .i64 x.2.2)), (11, true, .v y), (12, true, .v (.int .i64 l.length)), (13, true, .v (.int .i64 x.2.1))], [(8, .box [.v (.int .i64 g), .v y, .v (.int .i64 kd), .v (.int .i64 hd)] none)], M))
    (fun x => (x.1 + x.2.1 = l.length ∧ ((x.2.1 = 0 ∧ x.2.2 = -1) ∨ (0 < x.2.1 ∧ 0 ≤ x.2.2))) ∧ ck (l.drop x.2.1) x.2.2 = e0) (fun x => x.1) (l.length, 0, -1) ⟨⟨rfl, .inl ⟨rfl, rfl⟩⟩, hck⟩ (Ent.of ?_) ?_
  · simp only [sx, sb1, sb2, sb3, sb4, sb5, sb6, ↓reduceIte, Nat.reduceAdd, Nat.reduceMul, Nat.reduceDiv, Nat.reduceEqDiff, Nat.reduceLT, Nat.reduceLeDiff, reduceCtorEq, Int.reduceEq, Int.reduceNe, Int.reduceLT, Int.reduceLE, Int.reduceAdd, Int.reduceSub, Int.reduceMul, Int.reduceNeg, Int.reduceToNat, Int.cast_ofNat_Int, Int.natCast_zero, Int.natCast_one, Int.toNat_natCast, Nat.reduceBEq]
  rintro ⟨f, i, last⟩ ⟨⟨h1, h3⟩, h2⟩
  simp only at h1 h2 h3
  by_cases hil : i < l.length
  · have d1 : ((i : Int) < (l.length : Int)) = True := eq_true (by omega)
    obtain ⟨⟨a, b⟩, hx, hd'⟩ := drop_at (l := l) (i := i) hil
    rw [hd'] at h2
    simp only [ck] at h2
    have g0 := hy.cell (i := i) (e := [.int .i64 a, .int .i64 b]) (by rw [List.getElem?_map, hx]; rfl) (off := 0) (by omega)
    have g1 := hy.cell (i := i) (e := [.int .i64 a, .int .i64 b]) (by rw [List.getElem?_map, hx]; rfl) (off := 1) (by omega)
    have i0 := hy.ix (i := (i : Int)) (by omega) (by rw [List.length_map]; omega)
    simp only [List.getD_cons_zero, List.getD_cons_succ] at g0 g1
    simp only [shs, zts, sos, sls, zss, eqs, sx, sb1, sb2, sb3, sb4, sb5, sb6, ↓reduceIte, Nat.reduceAdd, Nat.reduceMul, Nat.reduceDiv, Nat.reduceEqDiff, Nat.reduceLT, Nat.reduceLeDiff, reduceCtorEq, Int.reduceEq, Int.reduceNe, Int.reduceLT, Int.reduceLE, Int.reduceAdd, Int.reduceSub, Int.reduceMul, Int.reduceNeg, Int.reduceToNat, Int.cast_ofNat_Int, Int.natCast_zero, Int.natCast_one, Int.toNat_natCast, Nat.reduceBEq, d1, hy.len, hy.sl, List.length_map, i0, g0.1, g1.1, g0.2.1, g1.2.1, i0.2, nz, inK, lo, hi]
    refine ⟨fun _ => trivial, CallK.pure ⟨rfl, rfl⟩ rfl (within a 0 7 M) ?_⟩
    by_cases hw1 : 0 ≤ a ∧ a ≤ 7
    · have d2 : (0 ≤ a ∧ a ≤ 7) = True := eq_true hw1
      simp only [shs, zts, sos, sls, zss, eqs, sx, sb1, sb2, sb3, sb4, sb5, sb6, ↓reduceIte, Nat.reduceAdd, Nat.reduceMul, Nat.reduceDiv, Nat.reduceEqDiff, Nat.reduceLT, Nat.reduceLeDiff, reduceCtorEq, Int.reduceEq, Int.reduceNe, Int.reduceLT, Int.reduceLE, Int.reduceAdd, Int.reduceSub, Int.reduceMul, Int.reduceNeg, Int.reduceToNat, Int.cast_ofNat_Int, Int.natCast_zero, Int.natCast_one, Int.toNat_natCast, Nat.reduceBEq, nz, d2]
      refine CallK.pure ⟨rfl, rfl⟩ rfl (within b 1 1000 M) ?_
      by_cases hw2 : 1 ≤ b ∧ b ≤ 1000
      · have d3 : (1 ≤ b ∧ b ≤ 1000) = True := eq_true hw2
        rw [if_neg (by omega)] at h2
        simp only [shs, zts, sos, sls, zss, eqs, sx, sb1, sb2, sb3, sb4, sb5, sb6, ↓reduceIte, Nat.reduceAdd, Nat.reduceMul, Nat.reduceDiv, Nat.reduceEqDiff, Nat.reduceLT, Nat.reduceLeDiff, reduceCtorEq, Int.reduceEq, Int.reduceNe, Int.reduceLT, Int.reduceLE, Int.reduceAdd, Int.reduceSub, Int.reduceMul, Int.reduceNeg, Int.reduceToNat, Int.cast_ofNat_Int, Int.natCast_zero, Int.natCast_one, Int.toNat_natCast, Nat.reduceBEq, nz, d3, inK, lo, hi]
        refine ⟨fun h => ?_, fun h => ⟨by omega, (f - 1, i + 1, a), ⟨⟨⟨by simp only; omega, .inr ⟨by simp, by simp only; omega⟩⟩, by simp only; rw [if_neg (by omega)] at h2; exact h2⟩, by simp only; omega⟩, Ent.of ?_⟩⟩
        · rw [if_pos h] at h2
          subst h2
          rw [if_pos (by decide)] at hc
          rw [hc]
        · simp only [sx, sb1, sb2, sb3, sb4, sb5, sb6, ↓reduceIte, Nat.reduceAdd, Nat.reduceMul, Nat.reduceDiv, Nat.reduceEqDiff, Nat.reduceLT, Nat.reduceLeDiff, reduceCtorEq, Int.reduceEq, Int.reduceNe, Int.reduceLT, Int.reduceLE, Int.reduceAdd, Int.reduceSub, Int.reduceMul, Int.reduceNeg, Int.reduceToNat, Int.cast_ofNat_Int, Int.natCast_zero, Int.natCast_one, Int.toNat_natCast, Nat.reduceBEq, Int.natCast_add]
      · have d3 : (1 ≤ b ∧ b ≤ 1000) = False := eq_false hw2
        rw [if_pos (by omega)] at h2
        subst h2
        rw [if_pos (by decide)] at hc
        subst hc
        simp only [shs, zts, sos, sls, zss, eqs, sx, sb1, sb2, sb3, sb4, sb5, sb6, ↓reduceIte, Nat.reduceAdd, Nat.reduceMul, Nat.reduceDiv, Nat.reduceEqDiff, Nat.reduceLT, Nat.reduceLeDiff, reduceCtorEq, Int.reduceEq, Int.reduceNe, Int.reduceLT, Int.reduceLE, Int.reduceAdd, Int.reduceSub, Int.reduceMul, Int.reduceNeg, Int.reduceToNat, Int.cast_ofNat_Int, Int.natCast_zero, Int.natCast_one, Int.toNat_natCast, Nat.reduceBEq, nz, d3]
    · have d2 : (0 ≤ a ∧ a ≤ 7) = False := eq_false hw1
      rw [if_pos (.inl hw1)] at h2
      subst h2
      rw [if_pos (by decide)] at hc
      subst hc
      simp only [shs, zts, sos, sls, zss, eqs, sx, sb1, sb2, sb3, sb4, sb5, sb6, ↓reduceIte, Nat.reduceAdd, Nat.reduceMul, Nat.reduceDiv, Nat.reduceEqDiff, Nat.reduceLT, Nat.reduceLeDiff, reduceCtorEq, Int.reduceEq, Int.reduceNe, Int.reduceLT, Int.reduceLE, Int.reduceAdd, Int.reduceSub, Int.reduceMul, Int.reduceNeg, Int.reduceToNat, Int.cast_ofNat_Int, Int.natCast_zero, Int.natCast_one, Int.toNat_natCast, Nat.reduceBEq, nz, d2]
  · have d1 : ((i : Int) < (l.length : Int)) = False := eq_false (by omega)
    have hd' : l.drop i = [] := List.drop_eq_nil_of_le (by omega)
    rw [hd'] at h2
    simp only [ck] at h2
    subst h2
    rw [if_neg (by decide)] at hc
    have hll : (last < 0) = (l = []) := by
      apply propext
      rw [← List.length_eq_zero_iff]
      omega
    have hky := ky_nn hd l (ck_nil hck)
    have hkf := ky_fi hd l 0 (ck_nil hck)
    unfold kE at hc
    by_cases hk0 : kd = 0
    · subst hk0
      rw [if_pos (.inl rfl)] at hc
      by_cases hh : hd = 0
      · have d2 : (hd = 0) = True := eq_true hh
        rw [if_neg (by simp [hh, allB0])] at hc
        subst hc
        simp only [shs, zts, sos, sls, zss, eqs, sx, sb1, sb2, sb3, sb4, sb5, sb6, ↓reduceIte, Nat.reduceAdd, Nat.reduceMul, Nat.reduceDiv, Nat.reduceEqDiff, Nat.reduceLT, Nat.reduceLeDiff, reduceCtorEq, Int.reduceEq, Int.reduceNe, Int.reduceLT, Int.reduceLE, Int.reduceAdd, Int.reduceSub, Int.reduceMul, Int.reduceNeg, Int.reduceToNat, Int.cast_ofNat_Int, Int.natCast_zero, Int.natCast_one, Int.toNat_natCast, Nat.reduceBEq, nz, d1, d2]
      · have d2 : (hd = 0) = False := eq_false hh
        rw [if_pos (.inl hh)] at hc
        subst hc
        simp only [shs, zts, sos, sls, zss, eqs, sx, sb1, sb2, sb3, sb4, sb5, sb6, ↓reduceIte, Nat.reduceAdd, Nat.reduceMul, Nat.reduceDiv, Nat.reduceEqDiff, Nat.reduceLT, Nat.reduceLeDiff, reduceCtorEq, Int.reduceEq, Int.reduceNe, Int.reduceLT, Int.reduceLE, Int.reduceAdd, Int.reduceSub, Int.reduceMul, Int.reduceNeg, Int.reduceToNat, Int.cast_ofNat_Int, Int.natCast_zero, Int.natCast_one, Int.toNat_natCast, Nat.reduceBEq, nz, d1, d2]
    · have d0 : (kd = 0) = False := eq_false hk0
      simp only [shs, zts, sos, sls, zss, eqs, sx, sb1, sb2, sb3, sb4, sb5, sb6, ↓reduceIte, Nat.reduceAdd, Nat.reduceMul, Nat.reduceDiv, Nat.reduceEqDiff, Nat.reduceLT, Nat.reduceLeDiff, reduceCtorEq, Int.reduceEq, Int.reduceNe, Int.reduceLT, Int.reduceLE, Int.reduceAdd, Int.reduceSub, Int.reduceMul, Int.reduceNeg, Int.reduceToNat, Int.cast_ofNat_Int, Int.natCast_zero, Int.natCast_one, Int.toNat_natCast, Nat.reduceBEq, nz, d1, d0]
      refine CallK.pure ⟨rfl, rfl⟩ rfl (shared kd M) ?_
      cases hA : allB kd with
      | true =>
        have hkp : (0 < kd) = True := eq_true (by
          unfold allB at hA
          simp at hA
          omega)
        rw [if_pos (.inr hA)] at hc
        by_cases hh : hd = 0
        · have d2 : (hd = 0) = True := eq_true hh
          simp only [shs, zts, sos, sls, zss, eqs, sx, sb1, sb2, sb3, sb4, sb5, sb6, ↓reduceIte, Nat.reduceAdd, Nat.reduceMul, Nat.reduceDiv, Nat.reduceEqDiff, Nat.reduceLT, Nat.reduceLeDiff, reduceCtorEq, Int.reduceEq, Int.reduceNe, Int.reduceLT, Int.reduceLE, Int.reduceAdd, Int.reduceSub, Int.reduceMul, Int.reduceNeg, Int.reduceToNat, Int.cast_ofNat_Int, Int.natCast_zero, Int.natCast_one, Int.toNat_natCast, Nat.reduceBEq, nz, d2, hkp, hll]
          exact ⟨fun h => by rw [if_pos (.inr ⟨hA, h⟩)] at hc; rw [hc], fun h => by rw [if_neg (by simp [hh, h])] at hc; rw [hc]⟩
        · have d2 : (hd = 0) = False := eq_false hh
          rw [if_pos (.inl hh)] at hc
          subst hc
          simp only [shs, zts, sos, sls, zss, eqs, sx, sb1, sb2, sb3, sb4, sb5, sb6, ↓reduceIte, Nat.reduceAdd, Nat.reduceMul, Nat.reduceDiv, Nat.reduceEqDiff, Nat.reduceLT, Nat.reduceLeDiff, reduceCtorEq, Int.reduceEq, Int.reduceNe, Int.reduceLT, Int.reduceLE, Int.reduceAdd, Int.reduceSub, Int.reduceMul, Int.reduceNeg, Int.reduceToNat, Int.cast_ofNat_Int, Int.natCast_zero, Int.natCast_one, Int.toNat_natCast, Nat.reduceBEq, nz, d2]
      | false =>
        rw [if_neg (by simp [hk0, hA])] at hc
        simp only [shs, zts, sos, sls, zss, eqs, sx, sb1, sb2, sb3, sb4, sb5, sb6, ↓reduceIte, Nat.reduceAdd, Nat.reduceMul, Nat.reduceDiv, Nat.reduceEqDiff, Nat.reduceLT, Nat.reduceLeDiff, reduceCtorEq, Int.reduceEq, Int.reduceNe, Int.reduceLT, Int.reduceLE, Int.reduceAdd, Int.reduceSub, Int.reduceMul, Int.reduceNeg, Int.reduceToNat, Int.cast_ofNat_Int, Int.natCast_zero, Int.natCast_one, Int.toNat_natCast, Nat.reduceBEq, nz]
        refine CallK.pure ⟨rfl, rfl⟩ rfl (rkind kd M) ?_
        cases hK : kindB kd with
        | false =>
          rw [if_pos hK] at hc
          subst hc
          simp only [shs, zts, sos, sls, zss, eqs, sx, sb1, sb2, sb3, sb4, sb5, sb6, ↓reduceIte, Nat.reduceAdd, Nat.reduceMul, Nat.reduceDiv, Nat.reduceEqDiff, Nat.reduceLT, Nat.reduceLeDiff, reduceCtorEq, Int.reduceEq, Int.reduceNe, Int.reduceLT, Int.reduceLE, Int.reduceAdd, Int.reduceSub, Int.reduceMul, Int.reduceNeg, Int.reduceToNat, Int.cast_ofNat_Int, Int.natCast_zero, Int.natCast_one, Int.toNat_natCast, Nat.reduceBEq, nz]
        | true =>
          rw [if_neg (by simp [hK])] at hc
          simp only [shs, zts, sos, sls, zss, eqs, sx, sb1, sb2, sb3, sb4, sb5, sb6, ↓reduceIte, Nat.reduceAdd, Nat.reduceMul, Nat.reduceDiv, Nat.reduceEqDiff, Nat.reduceLT, Nat.reduceLeDiff, reduceCtorEq, Int.reduceEq, Int.reduceNe, Int.reduceLT, Int.reduceLE, Int.reduceAdd, Int.reduceSub, Int.reduceMul, Int.reduceNeg, Int.reduceToNat, Int.cast_ofNat_Int, Int.natCast_zero, Int.natCast_one, Int.toNat_natCast, Nat.reduceBEq, nz]
          refine CallK.pure ⟨rfl, rfl⟩ rfl (key g y kd hd hd l M hy) ?_
          simp only [shs, zts, sos, sls, zss, eqs, sx, sb1, sb2, sb3, sb4, sb5, sb6, ↓reduceIte, Nat.reduceAdd, Nat.reduceMul, Nat.reduceDiv, Nat.reduceEqDiff, Nat.reduceLT, Nat.reduceLeDiff, reduceCtorEq, Int.reduceEq, Int.reduceNe, Int.reduceLT, Int.reduceLE, Int.reduceAdd, Int.reduceSub, Int.reduceMul, Int.reduceNeg, Int.reduceToNat, Int.cast_ofNat_Int, Int.natCast_zero, Int.natCast_one, Int.toNat_natCast, Nat.reduceBEq, nz]
          refine ⟨fun h => ?_, fun h => ?_⟩
          · rw [if_pos (by omega)] at hc
            rw [hc]
          · rw [if_neg (by omega)] at hc
            rw [hc]

/-- is the reservation a hand's? -/
def hasB (l : List (Int × Int)) (k h w : Int) : Bool := if allB k = true then decide (0 ≤ fi w l 0) else (decide (k ≠ 0) && decide (h = w))
theorem allB_ne {k : Int} (h : allB k = true) : k ≠ 0 ∧ 0 < k := by
  unfold allB at h
  simp at h
  omega
theorem has (g : Int) (y : Value) (kd hd w : Int) (l : List (Int × Int)) (M : Mem) (hy : RowM M y 2 (l.map encR)) :
    Meets Proofs.Try.prog 82 [resvV g y kd hd, .v (.int .i64 w)] M fun r _ _ => r = .v (.bool (hasB l kd hd w)) := by
  refine Meets.of_body [0,1,2,4] Proofs.Try.func82 rfl (by kernel_rfl) rfl fun w0 => ?_
  simp only [Proofs.Try.f82, resvV, shs, zts, sos, sls, zss, eqs, sx, sb1, sb2, sb3, sb4, sb5, sb6, ↓reduceIte, Nat.reduceAdd, Nat.reduceMul, Nat.reduceDiv, Nat.reduceEqDiff, Nat.reduceLT, Nat.reduceLeDiff, reduceCtorEq, Int.reduceEq, Int.reduceNe, Int.reduceLT, Int.reduceLE, Int.reduceAdd, Int.reduceSub, Int.reduceMul, Int.reduceNeg, Int.reduceToNat, Int.cast_ofNat_Int, Int.natCast_zero, Int.natCast_one, Int.toNat_natCast, Nat.reduceBEq, nz]
  by_cases hk0 : kd = 0
  · subst hk0
    simp only [shs, zts, sos, sls, zss, eqs, sx, sb1, sb2, sb3, sb4, sb5, sb6, ↓reduceIte, Nat.reduceAdd, Nat.reduceMul, Nat.reduceDiv, Nat.reduceEqDiff, Nat.reduceLT, Nat.reduceLeDiff, reduceCtorEq, Int.reduceEq, Int.reduceNe, Int.reduceLT, Int.reduceLE, Int.reduceAdd, Int.reduceSub, Int.reduceMul, Int.reduceNeg, Int.reduceToNat, Int.cast_ofNat_Int, Int.natCast_zero, Int.natCast_one, Int.toNat_natCast, Nat.reduceBEq, nz, hasB, allB0]
  · have d0 : (kd = 0) = False := eq_false hk0
    simp only [shs, zts, sos, sls, zss, eqs, sx, sb1, sb2, sb3, sb4, sb5, sb6, ↓reduceIte, Nat.reduceAdd, Nat.reduceMul, Nat.reduceDiv, Nat.reduceEqDiff, Nat.reduceLT, Nat.reduceLeDiff, reduceCtorEq, Int.reduceEq, Int.reduceNe, Int.reduceLT, Int.reduceLE, Int.reduceAdd, Int.reduceSub, Int.reduceMul, Int.reduceNeg, Int.reduceToNat, Int.cast_ofNat_Int, Int.natCast_zero, Int.natCast_one, Int.toNat_natCast, Nat.reduceBEq, nz, d0]
    refine CallK.pure ⟨rfl, rfl⟩ rfl (all kd M) ?_
    cases hA : allB kd with
    | true =>
      simp only [shs, zts, sos, sls, zss, eqs, sx, sb1, sb2, sb3, sb4, sb5, sb6, ↓reduceIte, Nat.reduceAdd, Nat.reduceMul, Nat.reduceDiv, Nat.reduceEqDiff, Nat.reduceLT, Nat.reduceLeDiff, reduceCtorEq, Int.reduceEq, Int.reduceNe, Int.reduceLT, Int.reduceLE, Int.reduceAdd, Int.reduceSub, Int.reduceMul, Int.reduceNeg, Int.reduceToNat, Int.cast_ofNat_Int, Int.natCast_zero, Int.natCast_one, Int.toNat_natCast, Nat.reduceBEq, nz]
      refine CallK.pure ⟨rfl, rfl⟩ rfl (find g y kd hd w l M hy) ?_
      by_cases hf : 0 ≤ fi w l 0
      · have d1 : (0 ≤ fi w l 0) = True := eq_true hf
        have d2 : (fi w l 0 < 0) = False := eq_false (by omega)
        simp only [shs, zts, sos, sls, zss, eqs, sx, sb1, sb2, sb3, sb4, sb5, sb6, ↓reduceIte, Nat.reduceAdd, Nat.reduceMul, Nat.reduceDiv, Nat.reduceEqDiff, Nat.reduceLT, Nat.reduceLeDiff, reduceCtorEq, Int.reduceEq, Int.reduceNe, Int.reduceLT, Int.reduceLE, Int.reduceAdd, Int.reduceSub, Int.reduceMul, Int.reduceNeg, Int.reduceToNat, Int.cast_ofNat_Int, Int.natCast_zero, Int.natCast_one, Int.toNat_natCast, Nat.reduceBEq, nz, d1, d2, hasB, hA]
      · have d1 : (0 ≤ fi w l 0) = False := eq_false hf
        have d2 : (fi w l 0 < 0) = True := eq_true (by omega)
        simp only [shs, zts, sos, sls, zss, eqs, sx, sb1, sb2, sb3, sb4, sb5, sb6, ↓reduceIte, Nat.reduceAdd, Nat.reduceMul, Nat.reduceDiv, Nat.reduceEqDiff, Nat.reduceLT, Nat.reduceLeDiff, reduceCtorEq, Int.reduceEq, Int.reduceNe, Int.reduceLT, Int.reduceLE, Int.reduceAdd, Int.reduceSub, Int.reduceMul, Int.reduceNeg, Int.reduceToNat, Int.cast_ofNat_Int, Int.natCast_zero, Int.natCast_one, Int.toNat_natCast, Nat.reduceBEq, nz, d1, d2, hasB, hA]
        refine CallK.pure ⟨rfl, rfl⟩ rfl (all kd M) ?_
        simp only [shs, zts, sos, sls, zss, eqs, sx, sb1, sb2, sb3, sb4, sb5, sb6, ↓reduceIte, Nat.reduceAdd, Nat.reduceMul, Nat.reduceDiv, Nat.reduceEqDiff, Nat.reduceLT, Nat.reduceLeDiff, reduceCtorEq, Int.reduceEq, Int.reduceNe, Int.reduceLT, Int.reduceLE, Int.reduceAdd, Int.reduceSub, Int.reduceMul, Int.reduceNeg, Int.reduceToNat, Int.cast_ofNat_Int, Int.natCast_zero, Int.natCast_one, Int.toNat_natCast, Nat.reduceBEq, nz, hA]
    | false =>
      simp only [shs, zts, sos, sls, zss, eqs, sx, sb1, sb2, sb3, sb4, sb5, sb6, ↓reduceIte, Nat.reduceAdd, Nat.reduceMul, Nat.reduceDiv, Nat.reduceEqDiff, Nat.reduceLT, Nat.reduceLeDiff, reduceCtorEq, Int.reduceEq, Int.reduceNe, Int.reduceLT, Int.reduceLE, Int.reduceAdd, Int.reduceSub, Int.reduceMul, Int.reduceNeg, Int.reduceToNat, Int.cast_ofNat_Int, Int.natCast_zero, Int.natCast_one, Int.toNat_natCast, Nat.reduceBEq, nz]
      refine CallK.pure ⟨rfl, rfl⟩ rfl (all kd M) ?_
      have d3 : decide (kd ≠ 0) = true := decide_eq_true hk0
      simp only [shs, zts, sos, sls, zss, eqs, sx, sb1, sb2, sb3, sb4, sb5, sb6, ↓reduceIte, Nat.reduceAdd, Nat.reduceMul, Nat.reduceDiv, Nat.reduceEqDiff, Nat.reduceLT, Nat.reduceLeDiff, reduceCtorEq, Int.reduceEq, Int.reduceNe, Int.reduceLT, Int.reduceLE, Int.reduceAdd, Int.reduceSub, Int.reduceMul, Int.reduceNeg, Int.reduceToNat, Int.cast_ofNat_Int, Int.natCast_zero, Int.natCast_one, Int.toNat_natCast, Nat.reduceBEq, nz, hA, hasB, d3]
theorem rhas (g : Int) (y : Value) (kd hd w : Int) (l : List (Int × Int)) (M : Mem) (hy : RowM M y 2 (l.map encR)) (hl : ∀ x ∈ l, 1 ≤ x.2) (hk : 0 ≤ kd) :
    Meets Proofs.Try.prog 117 [resvV g y kd hd, .v (.int .i64 w)] M fun r _ _ => r = .v (.bool (hasB l kd hd w)) := by
  refine Meets.of_body [0,1,2,4,7] Proofs.Try.func117 rfl (by kernel_rfl) rfl fun w0 => ?_
  have hkf := ky_fi w l 0 hl
  simp only [Proofs.Try.f117, resvV, shs, zts, sos, sls, zss, eqs, sx, sb1, sb2, sb3, sb4, sb5, sb6, ↓reduceIte, Nat.reduceAdd, Nat.reduceMul, Nat.reduceDiv, Nat.reduceEqDiff, Nat.reduceLT, Nat.reduceLeDiff, reduceCtorEq, Int.reduceEq, Int.reduceNe, Int.reduceLT, Int.reduceLE, Int.reduceAdd, Int.reduceSub, Int.reduceMul, Int.reduceNeg, Int.reduceToNat, Int.cast_ofNat_Int, Int.natCast_zero, Int.natCast_one, Int.toNat_natCast, Nat.reduceBEq, nz]
  refine CallK.pure ⟨rfl, rfl⟩ rfl (shared kd M) ?_
  cases hA : allB kd with
  | true =>
    simp only [shs, zts, sos, sls, zss, eqs, sx, sb1, sb2, sb3, sb4, sb5, sb6, ↓reduceIte, Nat.reduceAdd, Nat.reduceMul, Nat.reduceDiv, Nat.reduceEqDiff, Nat.reduceLT, Nat.reduceLeDiff, reduceCtorEq, Int.reduceEq, Int.reduceNe, Int.reduceLT, Int.reduceLE, Int.reduceAdd, Int.reduceSub, Int.reduceMul, Int.reduceNeg, Int.reduceToNat, Int.cast_ofNat_Int, Int.natCast_zero, Int.natCast_one, Int.toNat_natCast, Nat.reduceBEq, nz]
    refine CallK.pure ⟨rfl, rfl⟩ rfl (key g y kd hd w l M hy) ?_
    simp only [shs, zts, sos, sls, zss, eqs, sx, sb1, sb2, sb3, sb4, sb5, sb6, ↓reduceIte, Nat.reduceAdd, Nat.reduceMul, Nat.reduceDiv, Nat.reduceEqDiff, Nat.reduceLT, Nat.reduceLeDiff, reduceCtorEq, Int.reduceEq, Int.reduceNe, Int.reduceLT, Int.reduceLE, Int.reduceAdd, Int.reduceSub, Int.reduceMul, Int.reduceNeg, Int.reduceToNat, Int.cast_ofNat_Int, Int.natCast_zero, Int.natCast_one, Int.toNat_natCast, Nat.reduceBEq, nz, hasB, hA, hkf]
  | false =>
    have d1 : (0 < kd) = (¬ kd = 0) := by apply propext; omega
    simp only [shs, zts, sos, sls, zss, eqs, sx, sb1, sb2, sb3, sb4, sb5, sb6, ↓reduceIte, Nat.reduceAdd, Nat.reduceMul, Nat.reduceDiv, Nat.reduceEqDiff, Nat.reduceLT, Nat.reduceLeDiff, reduceCtorEq, Int.reduceEq, Int.reduceNe, Int.reduceLT, Int.reduceLE, Int.reduceAdd, Int.reduceSub, Int.reduceMul, Int.reduceNeg, Int.reduceToNat, Int.cast_ofNat_Int, Int.natCast_zero, Int.natCast_one, Int.toNat_natCast, Nat.reduceBEq, nz, hasB, hA, d1, ne_eq]

/-- may it be done? -/
def mayB (l : List (Int × Int)) (k h w : Int) (wr : Bool) : Bool :=
  if k = 0 then true else if k = 1 then (!wr || hasB l k h w) else if k = 3 then hasB l k h w else if k = 5 ∨ k = 7 then (!wr || decide (0 ≤ fi w l 0)) else decide (0 ≤ fi w l 0)
def mayE (g : Int) (l : List (Int × Int)) (k h w : Int) : Int := if resvE g l k h ≠ 0 then resvE g l k h else if whoB w = true then 0 else 1
end Go.X.Rv
