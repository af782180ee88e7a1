/- woollaw.TreeVerifies returns true. Conditions: none. -/
import Derived.Test.YtkhadbanpfngnaaTreeV
set_option linter.unusedSimpArgs false
set_option linter.unusedVariables false
set_option maxHeartbeats 4000000
set_option maxRecDepth 20000
namespace Go.X.Tv
open Go Go.X Go.X.Pol Go.X.Pl Go.X.Rp Go.X.Pd Go.X.Md Go.X.Mv Go.X.Pt

theorem says (root n i : Int) (t : List UInt8) (y : Value) (l : List (Bool × Int)) (M : Mem) (_ : inK .i64 root) (_ : inK .i64 n) (_ : inK .i64 i) (_ : t.length ≤ maxLen) (hy : RowM M y 2 (l.map encSt)) (hl : ∀ s ∈ l, inK .i64 s.2) :
    Meets Proofs.Try.prog 5 [.v (.int .i64 root), .v (.int .i64 n), .v (.int .i64 i), .v (.string ⟨t.toArray⟩), .v y] M fun r _ _ => r = .v (.bool true) := by
  refine Meets.of_body [0,1,2,3,4,10,11,12,13,14,15,16,17,27,43,48,73,103,108] Proofs.Try.func5 rfl (by kernel_rfl) rfl fun w => ?_
  simp only [Proofs.Try.f5, shs, zts, sos, sls, zss, sx, sb1, sb2, sb3, sb4, sb5, ↓reduceIte, Nat.reduceAdd, Nat.reduceMul, Nat.reduceDiv, Nat.reduceEqDiff, Nat.reduceLT, Nat.reduceLeDiff, reduceCtorEq, Int.reduceEq, Int.reduceNe, Int.reduceLT, Int.reduceLE, Int.reduceAdd, Int.reduceSub, Int.reduceMul, Int.reduceNeg, Int.reduceToNat, Int.cast_ofNat_Int, Int.natCast_zero, Int.natCast_one, Int.toNat_natCast, Nat.reduceBEq]
  by_cases h1 : ((n < 1 ∨ 32 < n) ∨ i < 0) ∨ n ≤ i
  · have e : tvE n i t = 1 := if_pos h1
    have c1 := verify_bad root n i t y M (by rw [e]; decide)
    rw [e] at c1
    refine CallK.pure ⟨rfl, rfl⟩ rfl c1 ?_
    simp only [shs, zts, sos, sls, zss, sx, sb1, sb2, sb3, sb4, sb5, ↓reduceIte, Nat.reduceAdd, Nat.reduceMul, Nat.reduceDiv, Nat.reduceEqDiff, Nat.reduceLT, Nat.reduceLeDiff, reduceCtorEq, Int.reduceEq, Int.reduceNe, Int.reduceLT, Int.reduceLE, Int.reduceAdd, Int.reduceSub, Int.reduceMul, Int.reduceNeg, Int.reduceToNat, Int.cast_ofNat_Int, Int.natCast_zero, Int.natCast_one, Int.toNat_natCast, Nat.reduceBEq]
    exact fun h => by omega
  have d1 : (n < 1) = False := eq_false (by omega)
  have d2 : (32 < n) = False := eq_false (by omega)
  have d3 : (i < 0) = False := eq_false (by omega)
  have d4 : (n ≤ i) = False := eq_false (by omega)
  by_cases h2 : 64 < (t.length : Int)
  · have e : tvE n i t = 2 := by rw [tvE, if_neg h1, if_pos h2]
    have c1 := verify_bad root n i t y M (by rw [e]; decide)
    rw [e] at c1
    have d5 : (64 < (t.length : Int)) = True := eq_true h2
    refine CallK.pure ⟨rfl, rfl⟩ rfl c1 ?_
    simp only [shs, zts, sos, sls, zss, sx, sb1, sb2, sb3, sb4, sb5, ↓reduceIte, Nat.reduceAdd, Nat.reduceMul, Nat.reduceDiv, Nat.reduceEqDiff, Nat.reduceLT, Nat.reduceLeDiff, reduceCtorEq, Int.reduceEq, Int.reduceNe, Int.reduceLT, Int.reduceLE, Int.reduceAdd, Int.reduceSub, Int.reduceMul, Int.reduceNeg, Int.reduceToNat, Int.cast_ofNat_Int, Int.natCast_zero, Int.natCast_one, Int.toNat_natCast, Nat.reduceBEq, d1, d2, d3, d4, d5]
  have d5 : (64 < (t.length : Int)) = False := eq_false h2
  obtain ⟨n, rfl⟩ : ∃ k : Nat, n = k := ⟨n.toNat, by omega⟩
  obtain ⟨i, rfl⟩ : ∃ k : Nat, i = k := ⟨i.toNat, by omega⟩
  refine CallK.pure ⟨rfl, rfl⟩ rfl (verify root n i t y l M (by omega) (by omega) (by omega) (by omega) hy hl) ?_
  rw [bu_sd n (by omega) i (by omega) (by omega) (by omega)]
  have hsl := sd_len 32 n i
  generalize hc : rf root (sd 32 n i) l (prf G (108 :: t) 1) = c
  have hG : prf 1073741907 (108 :: t) 1 ≤ 1073741824 := prf_le 1073741907 (by omega) (by omega) (108 :: t) 1 (by omega)
  simp only [shs, zts, sos, sls, zss, sx, sb1, sb2, sb3, sb4, sb5, ↓reduceIte, Nat.reduceAdd, Nat.reduceMul, Nat.reduceDiv, Nat.reduceEqDiff, Nat.reduceLT, Nat.reduceLeDiff, reduceCtorEq, Int.reduceEq, Int.reduceNe, Int.reduceLT, Int.reduceLE, Int.reduceAdd, Int.reduceSub, Int.reduceMul, Int.reduceNeg, Int.reduceToNat, Int.cast_ofNat_Int, Int.natCast_zero, Int.natCast_one, Int.toNat_natCast, Nat.reduceBEq, d1, d2, d3, d4, d5]
  refine CallK.row Ctx.id rfl rfl (rsides n i M (by omega) (by omega) (by omega)) fun v1 M1 hM1 hv1 => ?_
  generalize sd 32 n i = S at *
  replace hy := hy.le hM1
  have hyl := hy.len_le
  rw [List.length_map] at hyl
  simp only [shs, zts, sos, sls, zss, sx, sb1, sb2, sb3, sb4, sb5, ↓reduceIte, Nat.reduceAdd, Nat.reduceMul, Nat.reduceDiv, Nat.reduceEqDiff, Nat.reduceLT, Nat.reduceLeDiff, reduceCtorEq, Int.reduceEq, Int.reduceNe, Int.reduceLT, Int.reduceLE, Int.reduceAdd, Int.reduceSub, Int.reduceMul, Int.reduceNeg, Int.reduceToNat, Int.cast_ofNat_Int, Int.natCast_zero, Int.natCast_one, Int.toNat_natCast, Nat.reduceBEq, hv1.len, hv1.sl, hy.len, hy.sl, List.length_map]
  refine ⟨by omega, CallK.pure ⟨rfl, rfl⟩ rfl (rprint 1073741907 (108 :: t) M1 (by omega) (by omega) (by simp only [maxLen, List.length_cons]; omega)) ?_⟩
  by_cases hlen : S.length = l.length
  · have dl : ((S.length : Int) = (l.length : Int)) = True := eq_true (by omega)
    simp only [shs, zts, sos, sls, zss, sx, sb1, sb2, sb3, sb4, sb5, ↓reduceIte, Nat.reduceAdd, Nat.reduceMul, Nat.reduceDiv, Nat.reduceEqDiff, Nat.reduceLT, Nat.reduceLeDiff, reduceCtorEq, Int.reduceEq, Int.reduceNe, Int.reduceLT, Int.reduceLE, Int.reduceAdd, Int.reduceSub, Int.reduceMul, Int.reduceNeg, Int.reduceToNat, Int.cast_ofNat_Int, Int.natCast_zero, Int.natCast_one, Int.toNat_natCast, Nat.reduceBEq, dl]
    refine LoopK.go (X := Nat × Nat × Nat) (fun x => ([(0, true, .v (.int .i64 root)), (4, true, .v y), (11, true, .v (.bool c)), (12, true, .v (.int .i64 0)), (14, true, .v v1), (15, true, .v (.bool true)), (16, true, .v (.int .i64 (x.2.2 : Int))), (17, true, .v (.int .i64 (x.2.1 : Int)))], [], M1))
      (fun x => (x.1 + x.2.1 = l.length ∧ x.2.2 ≤ 1073741824) ∧ rf root (S.drop x.2.1) (l.drop x.2.1) x.2.2 = c) (fun x => x.1) (l.length, 0, prf 1073741907 (108 :: t) 1) ⟨⟨rfl, hG⟩, hc⟩ (Ent.of ?_) ?_
    · simp only [sx, sb1, sb2, sb3, sb4, sb5, ↓reduceIte, Nat.reduceAdd, Nat.reduceMul, Nat.reduceDiv, Nat.reduceEqDiff, Nat.reduceLT, Nat.reduceLeDiff, reduceCtorEq, Int.reduceEq, Int.reduceNe, Int.reduceLT, Int.reduceLE, Int.reduceAdd, Int.reduceSub, Int.reduceMul, Int.reduceNeg, Int.reduceToNat, Int.cast_ofNat_Int, Int.natCast_zero, Int.natCast_one, Int.toNat_natCast, Nat.reduceBEq]
    rintro ⟨f, k, p⟩ ⟨⟨h3, h4⟩, h5⟩
    simp only at h3 h4 h5
    by_cases hk : k < l.length
    · have dk : ((k : Int) < (l.length : Int)) = True := eq_true (by omega)
      obtain ⟨⟨b, s⟩, hb, hd⟩ := drop_at (l := l) (i := k) hk
      obtain ⟨b', hb', hd'⟩ := drop_at (l := S) (i := k) (by omega)
      rw [hd, hd'] at h5
      simp only [rf] at h5
      have g0 := hy.cell (i := k) (e := [.bool b, .int .i64 s]) (by rw [List.getElem?_map, hb]; rfl) (off := 0) (by omega)
      have g1 := hy.cell (i := k) (e := [.bool b, .int .i64 s]) (by rw [List.getElem?_map, hb]; rfl) (off := 1) (by omega)
      have i0 := hy.ix (i := (k : Int)) (by omega) (by rw [List.length_map]; omega)
      have g2 := hv1.el1 hb' rfl
      have i2 := hv1.ix (i := (k : Int)) (by omega) (by rw [List.length_map]; omega)
      have h10 : ((1 : Nat) ≠ 0) = True := by simp
      simp only [List.getD_cons_zero, List.getD_cons_succ] at g0 g1
      simp only [shs, zts, sos, sls, zss, sx, sb1, sb2, sb3, sb4, sb5, ↓reduceIte, Nat.reduceAdd, Nat.reduceMul, Nat.reduceDiv, Nat.reduceEqDiff, Nat.reduceLT, Nat.reduceLeDiff, reduceCtorEq, Int.reduceEq, Int.reduceNe, Int.reduceLT, Int.reduceLE, Int.reduceAdd, Int.reduceSub, Int.reduceMul, Int.reduceNeg, Int.reduceToNat, Int.cast_ofNat_Int, Int.natCast_zero, Int.natCast_one, Int.toNat_natCast, Nat.reduceBEq, hy.len, hy.sl, List.length_map, dk]
      refine DrawK.quiet (by kernel_rfl) (by kernel_rfl) ?_
      by_cases hbd : b = b' ∧ good s
      · rw [if_pos hbd] at h5
        obtain ⟨rfl, hs⟩ := hbd
        unfold good at hs
        obtain ⟨s, rfl⟩ : ∃ k : Nat, s = k := ⟨s.toNat, by omega⟩
        have c4 : (0 ≤ (s : Int)) = True := eq_true (by omega)
        have c5 : ((s : Int) ≤ 2147483647) = True := eq_true (by omega)
        cases b with
        | true =>
          simp only [shs, zts, sos, sls, zss, sx, sb1, sb2, sb3, sb4, sb5, ↓reduceIte, Nat.reduceAdd, Nat.reduceMul, Nat.reduceDiv, Nat.reduceEqDiff, Nat.reduceLT, Nat.reduceLeDiff, reduceCtorEq, Int.reduceEq, Int.reduceNe, Int.reduceLT, Int.reduceLE, Int.reduceAdd, Int.reduceSub, Int.reduceMul, Int.reduceNeg, Int.reduceToNat, Int.cast_ofNat_Int, Int.natCast_zero, Int.natCast_one, Int.toNat_natCast, Nat.reduceBEq, c4, c5, hy.len, hy.sl, List.length_map, g0.1, g1.1, g2.1, i0, i2, g0.2.1, g1.2.1, g2.2, i0.2, h10, beq_self_eq_true]
          have hq := prf_le G (by decide) (by decide) (saidN s p) 1 (by omega)
          refine CallK.pure ⟨rfl, rfl⟩ rfl (rsaid s p M1 (by omega) (by omega)) ?_
          simp only [shs, zts, sos, sls, zss, sx, sb1, sb2, sb3, sb4, sb5, ↓reduceIte, Nat.reduceAdd, Nat.reduceMul, Nat.reduceDiv, Nat.reduceEqDiff, Nat.reduceLT, Nat.reduceLeDiff, reduceCtorEq, Int.reduceEq, Int.reduceNe, Int.reduceLT, Int.reduceLE, Int.reduceAdd, Int.reduceSub, Int.reduceMul, Int.reduceNeg, Int.reduceToNat, Int.cast_ofNat_Int, Int.natCast_zero, Int.natCast_one, Int.toNat_natCast, Nat.reduceBEq]
          refine CallK.pure ⟨rfl, rfl⟩ rfl (rprint 1073741907 (saidN s p) M1 (by omega) (by omega) (by simp only [maxLen, saidN_len]; omega)) ?_
          simp only [shs, zts, sos, sls, zss, sx, sb1, sb2, sb3, sb4, sb5, ↓reduceIte, Nat.reduceAdd, Nat.reduceMul, Nat.reduceDiv, Nat.reduceEqDiff, Nat.reduceLT, Nat.reduceLeDiff, reduceCtorEq, Int.reduceEq, Int.reduceNe, Int.reduceLT, Int.reduceLE, Int.reduceAdd, Int.reduceSub, Int.reduceMul, Int.reduceNeg, Int.reduceToNat, Int.cast_ofNat_Int, Int.natCast_zero, Int.natCast_one, Int.toNat_natCast, Nat.reduceBEq, inK, lo, hi]
          refine ⟨by omega, (f - 1, k + 1, prf 1073741907 (saidN s p) 1), ⟨⟨⟨by simp only; omega, hq⟩, h5⟩, by simp only; omega⟩, Ent.of ?_⟩
          simp only [sx, sb1, sb2, sb3, sb4, sb5, ↓reduceIte, Nat.reduceAdd, Nat.reduceMul, Nat.reduceDiv, Nat.reduceEqDiff, Nat.reduceLT, Nat.reduceLeDiff, reduceCtorEq, Int.reduceEq, Int.reduceNe, Int.reduceLT, Int.reduceLE, Int.reduceAdd, Int.reduceSub, Int.reduceMul, Int.reduceNeg, Int.reduceToNat, Int.cast_ofNat_Int, Int.natCast_zero, Int.natCast_one, Int.toNat_natCast, Nat.reduceBEq, Int.natCast_add]
        | false =>
          simp only [shs, zts, sos, sls, zss, sx, sb1, sb2, sb3, sb4, sb5, ↓reduceIte, Nat.reduceAdd, Nat.reduceMul, Nat.reduceDiv, Nat.reduceEqDiff, Nat.reduceLT, Nat.reduceLeDiff, reduceCtorEq, Int.reduceEq, Int.reduceNe, Int.reduceLT, Int.reduceLE, Int.reduceAdd, Int.reduceSub, Int.reduceMul, Int.reduceNeg, Int.reduceToNat, Int.cast_ofNat_Int, Int.natCast_zero, Int.natCast_one, Int.toNat_natCast, Nat.reduceBEq, c4, c5, hy.len, hy.sl, List.length_map, g0.1, g1.1, g2.1, i0, i2, g0.2.1, g1.2.1, g2.2, i0.2, h10, beq_self_eq_true]
          have hq := prf_le G (by decide) (by decide) (saidN p s) 1 (by omega)
          refine CallK.pure ⟨rfl, rfl⟩ rfl (rsaid p s M1 (by omega) (by omega)) ?_
          simp only [shs, zts, sos, sls, zss, sx, sb1, sb2, sb3, sb4, sb5, ↓reduceIte, Nat.reduceAdd, Nat.reduceMul, Nat.reduceDiv, Nat.reduceEqDiff, Nat.reduceLT, Nat.reduceLeDiff, reduceCtorEq, Int.reduceEq, Int.reduceNe, Int.reduceLT, Int.reduceLE, Int.reduceAdd, Int.reduceSub, Int.reduceMul, Int.reduceNeg, Int.reduceToNat, Int.cast_ofNat_Int, Int.natCast_zero, Int.natCast_one, Int.toNat_natCast, Nat.reduceBEq]
          refine CallK.pure ⟨rfl, rfl⟩ rfl (rprint 1073741907 (saidN p s) M1 (by omega) (by omega) (by simp only [maxLen, saidN_len]; omega)) ?_
          simp only [shs, zts, sos, sls, zss, sx, sb1, sb2, sb3, sb4, sb5, ↓reduceIte, Nat.reduceAdd, Nat.reduceMul, Nat.reduceDiv, Nat.reduceEqDiff, Nat.reduceLT, Nat.reduceLeDiff, reduceCtorEq, Int.reduceEq, Int.reduceNe, Int.reduceLT, Int.reduceLE, Int.reduceAdd, Int.reduceSub, Int.reduceMul, Int.reduceNeg, Int.reduceToNat, Int.cast_ofNat_Int, Int.natCast_zero, Int.natCast_one, Int.toNat_natCast, Nat.reduceBEq, inK, lo, hi]
          refine ⟨by omega, (f - 1, k + 1, prf 1073741907 (saidN p s) 1), ⟨⟨⟨by simp only; omega, hq⟩, h5⟩, by simp only; omega⟩, Ent.of ?_⟩
          simp only [sx, sb1, sb2, sb3, sb4, sb5, ↓reduceIte, Nat.reduceAdd, Nat.reduceMul, Nat.reduceDiv, Nat.reduceEqDiff, Nat.reduceLT, Nat.reduceLeDiff, reduceCtorEq, Int.reduceEq, Int.reduceNe, Int.reduceLT, Int.reduceLE, Int.reduceAdd, Int.reduceSub, Int.reduceMul, Int.reduceNeg, Int.reduceToNat, Int.cast_ofNat_Int, Int.natCast_zero, Int.natCast_one, Int.toNat_natCast, Nat.reduceBEq, Int.natCast_add]
      · rw [if_neg hbd] at h5
        subst h5
        simp only [shs, zts, sos, sls, zss, sx, sb1, sb2, sb3, sb4, sb5, ↓reduceIte, Nat.reduceAdd, Nat.reduceMul, Nat.reduceDiv, Nat.reduceEqDiff, Nat.reduceLT, Nat.reduceLeDiff, reduceCtorEq, Int.reduceEq, Int.reduceNe, Int.reduceLT, Int.reduceLE, Int.reduceAdd, Int.reduceSub, Int.reduceMul, Int.reduceNeg, Int.reduceToNat, Int.cast_ofNat_Int, Int.natCast_zero, Int.natCast_one, Int.toNat_natCast, Nat.reduceBEq, hy.len, hy.sl, List.length_map, g0.1, g1.1, g2.1, i0, i2, g0.2.1, g1.2.1, g2.2, i0.2, h10]
        have hB : (b == b' && decide (0 ≤ s) && decide (s ≤ 2147483647)) = false := by
          rw [Bool.and_eq_false_iff, Bool.and_eq_false_iff]
          by_cases e1 : b = b'
          · by_cases e2 : 0 ≤ s
            · right
              exact decide_eq_false (fun e3 => hbd ⟨e1, e2, e3⟩)
            · left; right
              exact decide_eq_false e2
          · left; left
            exact beq_false_of_ne e1
        refine ⟨fun _ => by rw [hB]; rfl, fun h => (hbd ⟨eq_of_beq h.1.1, h.1.2, h.2⟩).elim⟩
    · have dk : ((k : Int) < (l.length : Int)) = False := eq_false (by omega)
      have hd : l.drop k = [] := List.drop_eq_nil_of_le (by omega)
      have hd' : S.drop k = [] := List.drop_eq_nil_of_le (by omega)
      rw [hd, hd'] at h5
      simp only [rf] at h5
      simp only [shs, zts, sos, sls, zss, sx, sb1, sb2, sb3, sb4, sb5, ↓reduceIte, Nat.reduceAdd, Nat.reduceMul, Nat.reduceDiv, Nat.reduceEqDiff, Nat.reduceLT, Nat.reduceLeDiff, reduceCtorEq, Int.reduceEq, Int.reduceNe, Int.reduceLT, Int.reduceLE, Int.reduceAdd, Int.reduceSub, Int.reduceMul, Int.reduceNeg, Int.reduceToNat, Int.cast_ofNat_Int, Int.natCast_zero, Int.natCast_one, Int.toNat_natCast, Nat.reduceBEq, hy.len, hy.sl, List.length_map, dk, h5]
      rw [beq_self_eq_true]
  · have dl : ((S.length : Int) = (l.length : Int)) = False := eq_false (by omega)
    rw [rf_len root S l _ hlen] at hc
    subst hc
    simp only [shs, zts, sos, sls, zss, sx, sb1, sb2, sb3, sb4, sb5, ↓reduceIte, Nat.reduceAdd, Nat.reduceMul, Nat.reduceDiv, Nat.reduceEqDiff, Nat.reduceLT, Nat.reduceLeDiff, reduceCtorEq, Int.reduceEq, Int.reduceNe, Int.reduceLT, Int.reduceLE, Int.reduceAdd, Int.reduceSub, Int.reduceMul, Int.reduceNeg, Int.reduceToNat, Int.cast_ofNat_Int, Int.natCast_zero, Int.natCast_one, Int.toNat_natCast, Nat.reduceBEq, dl]
    refine LoopK.go (X := Unit) (fun x => ([(0, true, .v (.int .i64 root)), (4, true, .v y), (11, true, .v (.bool false)), (12, true, .v (.int .i64 0)), (14, true, .v v1), (15, true, .v (.bool false)), (16, true, .v (.int .i64 ((prf 1073741907 (108 :: t) 1 : Nat) : Int))), (17, true, .v (.int .i64 0))], [], M1)) (fun _ => True) (fun _ => 0) () trivial (Ent.of ?_) ?_
    · simp only [sx, sb1, sb2, sb3, sb4, sb5, ↓reduceIte, Nat.reduceAdd, Nat.reduceMul, Nat.reduceDiv, Nat.reduceEqDiff, Nat.reduceLT, Nat.reduceLeDiff, reduceCtorEq, Int.reduceEq, Int.reduceNe, Int.reduceLT, Int.reduceLE, Int.reduceAdd, Int.reduceSub, Int.reduceMul, Int.reduceNeg, Int.reduceToNat, Int.cast_ofNat_Int, Int.natCast_zero, Int.natCast_one, Int.toNat_natCast, Nat.reduceBEq]
    intro _ _
    simp only [shs, zts, sos, sls, zss, sx, sb1, sb2, sb3, sb4, sb5, ↓reduceIte, Nat.reduceAdd, Nat.reduceMul, Nat.reduceDiv, Nat.reduceEqDiff, Nat.reduceLT, Nat.reduceLeDiff, reduceCtorEq, Int.reduceEq, Int.reduceNe, Int.reduceLT, Int.reduceLE, Int.reduceAdd, Int.reduceSub, Int.reduceMul, Int.reduceNeg, Int.reduceToNat, Int.cast_ofNat_Int, Int.natCast_zero, Int.natCast_one, Int.toNat_natCast, Nat.reduceBEq, hy.len, hy.sl]
end Go.X.Tv
