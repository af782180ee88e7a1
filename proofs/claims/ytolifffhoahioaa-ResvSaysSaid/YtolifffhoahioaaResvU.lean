/- The law ResvSays. Conditions: none. -/
import Derived.Test.YtolifffhoahioaaResvV
set_option linter.unusedSimpArgs false
set_option linter.unusedVariables false
set_option maxHeartbeats 4000000
set_option maxRecDepth 20000
namespace Go.X.Rv
open Go Go.X Go.X.Rp Go.X.Sl

theorem same (g g' : Int) (v v' : Value) (k k' h h' : Int) (l l' : List (Int × Int)) (M : Mem) (hv : RowM M v 2 (l.map encR)) (hv' : RowM M v' 2 (l'.map encR)) (e1 : g = g') (e2 : k = k') (e3 : h = h') (e4 : l = l') :
    Meets Proofs.Try.prog 90 [rsv g (.v v) k h, rsv g' (.v v') k' h'] M fun r _ _ => r = .v (.bool true) := by
  refine Meets.of_body [0,1,2,3,4] Proofs.Try.func90 rfl (by kernel_rfl) rfl fun w => ?_
  have c1 : (g = g') = True := eq_true e1
  have c2 : (k = k') = True := eq_true e2
  have c3 : (h = h') = True := eq_true e3
  simp only [Proofs.Try.f90, rsv, shs, zts, sos, sls, zss, eqs, sx, sb1, sb2, sb3, sb4, sb5, sb6, ↓reduceIte, Nat.reduceAdd, Nat.reduceMul, Nat.reduceDiv, Nat.reduceEqDiff, Nat.reduceLT, Nat.reduceLeDiff, reduceCtorEq, Int.reduceEq, Int.reduceNe, Int.reduceLT, Int.reduceLE, Int.reduceAdd, Int.reduceSub, Int.reduceMul, Int.reduceNeg, Int.reduceToNat, Int.cast_ofNat_Int, Int.natCast_zero, Int.natCast_one, Int.toNat_natCast, Nat.reduceBEq, nzs, c1, c2, c3]
  refine CallK.pure ⟨rfl, rfl⟩ rfl (eqR v v' l l' M hv hv') ?_
  rw [decide_eq_true e4]
  simp only [shs, zts, sos, sls, zss, eqs, sx, sb1, sb2, sb3, sb4, sb5, sb6, ↓reduceIte, Nat.reduceAdd, Nat.reduceMul, Nat.reduceDiv, Nat.reduceEqDiff, Nat.reduceLT, Nat.reduceLeDiff, reduceCtorEq, Int.reduceEq, Int.reduceNe, Int.reduceLT, Int.reduceLE, Int.reduceAdd, Int.reduceSub, Int.reduceMul, Int.reduceNeg, Int.reduceToNat, Int.cast_ofNat_Int, Int.natCast_zero, Int.natCast_one, Int.toNat_natCast, Nat.reduceBEq, nzs]
theorem right (S : RS) (g : Int) (y v : Value) (kd hd : Int) (l : List (Int × Int)) (cl a1 a2 a3 a4 : Int) (M : Mem) (hy : RowM M y 2 (l.map encR)) (hv : RowM M v 2 (S.2.2.1.map encR)) (hbad : resvE g l kd hd ≠ 0 → S = zr (resvE g l kd hd))
    (hR : resvE g l kd hd = 0 → Meets Proofs.Try.prog 91 [rsv g (.v y) kd hd, .v (.int .i64 cl), .v (.int .i64 a1), .v (.int .i64 a2), .v (.int .i64 a3), .v (.int .i64 a4)] M (resR S)) :
    Meets Proofs.Try.prog 40 [rsv S.2.1 (.v v) S.2.2.2.1 S.2.2.2.2, .v (.int .i64 S.1), rsv g (.v y) kd hd, .v (.int .i64 cl), .v (.int .i64 a1), .v (.int .i64 a2), .v (.int .i64 a3), .v (.int .i64 a4)] M fun r _ _ => r = .v (.bool true) := by
  refine Meets.of_body [0,1,2,3,4,5,6,7,8,10,16,17,18,19,23] Proofs.Try.func40 rfl (by kernel_rfl) rfl fun w => ?_
  simp only [Proofs.Try.f40, rsv, shs, zts, sos, sls, zss, eqs, sx, sb1, sb2, sb3, sb4, sb5, sb6, ↓reduceIte, Nat.reduceAdd, Nat.reduceMul, Nat.reduceDiv, Nat.reduceEqDiff, Nat.reduceLT, Nat.reduceLeDiff, reduceCtorEq, Int.reduceEq, Int.reduceNe, Int.reduceLT, Int.reduceLE, Int.reduceAdd, Int.reduceSub, Int.reduceMul, Int.reduceNeg, Int.reduceToNat, Int.cast_ofNat_Int, Int.natCast_zero, Int.natCast_one, Int.toNat_natCast, Nat.reduceBEq, nzs]
  refine CallK.pure ⟨rfl, rfl⟩ rfl (resv g y kd hd l M hy) ?_
  by_cases he : resvE g l kd hd = 0
  rotate_left
  · have c1 : (resvE g l kd hd = 0) = False := eq_false he
    have hS := hbad he
    subst hS
    simp only [shs, zts, sos, sls, zss, eqs, sx, sb1, sb2, sb3, sb4, sb5, sb6, ↓reduceIte, Nat.reduceAdd, Nat.reduceMul, Nat.reduceDiv, Nat.reduceEqDiff, Nat.reduceLT, Nat.reduceLeDiff, reduceCtorEq, Int.reduceEq, Int.reduceNe, Int.reduceLT, Int.reduceLE, Int.reduceAdd, Int.reduceSub, Int.reduceMul, Int.reduceNeg, Int.reduceToNat, Int.cast_ofNat_Int, Int.natCast_zero, Int.natCast_one, Int.toNat_natCast, Nat.reduceBEq, nzs, c1, zr]
    refine CallK.pure ⟨rfl, rfl⟩ rfl (same 0 0 v (.slice none 0 0) 0 0 0 0 [] [] M hv (RowM.nil _ _) rfl rfl rfl rfl) ?_
    simp only [shs, zts, sos, sls, zss, eqs, sx, sb1, sb2, sb3, sb4, sb5, sb6, ↓reduceIte, Nat.reduceAdd, Nat.reduceMul, Nat.reduceDiv, Nat.reduceEqDiff, Nat.reduceLT, Nat.reduceLeDiff, reduceCtorEq, Int.reduceEq, Int.reduceNe, Int.reduceLT, Int.reduceLE, Int.reduceAdd, Int.reduceSub, Int.reduceMul, Int.reduceNeg, Int.reduceToNat, Int.cast_ofNat_Int, Int.natCast_zero, Int.natCast_one, Int.toNat_natCast, Nat.reduceBEq, nzs]
  simp only [shs, zts, sos, sls, zss, eqs, sx, sb1, sb2, sb3, sb4, sb5, sb6, ↓reduceIte, Nat.reduceAdd, Nat.reduceMul, Nat.reduceDiv, Nat.reduceEqDiff, Nat.reduceLT, Nat.reduceLeDiff, reduceCtorEq, Int.reduceEq, Int.reduceNe, Int.reduceLT, Int.reduceLE, Int.reduceAdd, Int.reduceSub, Int.reduceMul, Int.reduceNeg, Int.reduceToNat, Int.cast_ofNat_Int, Int.natCast_zero, Int.natCast_one, Int.toNat_natCast, Nat.reduceBEq, nzs, he]
  refine CallK.row (ctxT S) rfl rfl (hR he) fun v2 M2 hM2 hv2 => ?_
  have o2 := hv2.one
  simp only [rsT, rsv, shs, zts, sos, sls, zss, eqs, sx, sb1, sb2, sb3, sb4, sb5, sb6, ↓reduceIte, Nat.reduceAdd, Nat.reduceMul, Nat.reduceDiv, Nat.reduceEqDiff, Nat.reduceLT, Nat.reduceLeDiff, reduceCtorEq, Int.reduceEq, Int.reduceNe, Int.reduceLT, Int.reduceLE, Int.reduceAdd, Int.reduceSub, Int.reduceMul, Int.reduceNeg, Int.reduceToNat, Int.cast_ofNat_Int, Int.natCast_zero, Int.natCast_one, Int.toNat_natCast, Nat.reduceBEq, nzs, o2]
  refine CallK.pure ⟨rfl, rfl⟩ rfl (same _ _ v v2 _ _ _ _ _ _ M2 (hv.le hM2) hv2 rfl rfl rfl rfl) ?_
  simp only [shs, zts, sos, sls, zss, eqs, sx, sb1, sb2, sb3, sb4, sb5, sb6, ↓reduceIte, Nat.reduceAdd, Nat.reduceMul, Nat.reduceDiv, Nat.reduceEqDiff, Nat.reduceLT, Nat.reduceLeDiff, reduceCtorEq, Int.reduceEq, Int.reduceNe, Int.reduceLT, Int.reduceLE, Int.reduceAdd, Int.reduceSub, Int.reduceMul, Int.reduceNeg, Int.reduceToNat, Int.cast_ofNat_Int, Int.natCast_zero, Int.natCast_one, Int.toNat_natCast, Nat.reduceBEq, nzs]
theorem says (g : Int) (y : Value) (kd hd : Int) (l : List (Int × Int)) (wh a b c : Int) (M : Mem) (hy : RowM M y 2 (l.map encR)) :
    Meets Proofs.Try.prog 6 [rsv g (.v y) kd hd, .v (.int .i64 wh), .v (.int .i64 a), .v (.int .i64 b), .v (.int .i64 c)] M fun r _ _ => r = .v (.bool true) := by
  refine Meets.of_body [0,1,2,3,4,5,10,11,12,13,14,15,16,17,18,19,20,70] Proofs.Try.func6 rfl (by kernel_rfl) rfl fun w => ?_
  have kE : ∀ key, resvE g l kd hd ≠ 0 → keyE g l kd hd wh key = resvE g l kd hd := fun key he => by unfold keyE; rw [if_pos he]
  have b1 : resvE g l kd hd ≠ 0 → regS g l kd hd wh a b = zr (resvE g l kd hd) := fun he => by unfold regS; rw [if_pos he]
  have f1 := register g y kd hd wh a b l
  have t1 := right1 g y kd hd wh a b 0 l
  generalize regS g l kd hd wh a b = S1 at b1 f1 t1
  have b2 : resvE g l kd hd ≠ 0 → rsvS g l kd hd wh a b = zr (resvE g l kd hd) := fun he => by unfold rsvS; rw [if_pos (by rw [kE a he]; exact he), kE a he]
  have f2 := reserve g y kd hd wh a b l
  have t2 := right2 g y kd hd wh a b 0 l
  generalize rsvS g l kd hd wh a b = S2 at b2 f2 t2
  have b3 : resvE g l kd hd ≠ 0 → relS g l kd hd wh a b = zr (resvE g l kd hd) := fun he => by unfold relS; rw [if_pos (by rw [kE a he]; exact he), kE a he]
  have f3 := release g y kd hd wh a b l
  have t3 := right3 g y kd hd wh a b 0 l
  generalize relS g l kd hd wh a b = S3 at b3 f3 t3
  have b4 : resvE g l kd hd ≠ 0 → clrS g l kd hd wh a = zr (resvE g l kd hd) := fun he => by unfold clrS; rw [if_pos (by rw [kE a he]; exact he), kE a he]
  have f4 := clear g y kd hd wh a l
  have t4 := right4 g y kd hd wh a 0 0 l
  generalize clrS g l kd hd wh a = S4 at b4 f4 t4
  have b5 : resvE g l kd hd ≠ 0 → preS g l kd hd wh a b c = zr (resvE g l kd hd) := fun he => by unfold preS; rw [if_pos (by rw [kE a he]; exact he), kE a he]
  have f5 := preempt g y kd hd wh a b c l
  have t5 := right5 g y kd hd wh a b c l
  generalize preS g l kd hd wh a b c = S5 at b5 f5 t5
  simp only [Proofs.Try.f6, rsv, shs, zts, sos, sls, zss, eqs, sx, sb1, sb2, sb3, sb4, sb5, sb6, ↓reduceIte, Nat.reduceAdd, Nat.reduceMul, Nat.reduceDiv, Nat.reduceEqDiff, Nat.reduceLT, Nat.reduceLeDiff, reduceCtorEq, Int.reduceEq, Int.reduceNe, Int.reduceLT, Int.reduceLE, Int.reduceAdd, Int.reduceSub, Int.reduceMul, Int.reduceNeg, Int.reduceToNat, Int.cast_ofNat_Int, Int.natCast_zero, Int.natCast_one, Int.toNat_natCast, Nat.reduceBEq, nzs]
  refine CallK.row (ctxT S1) rfl rfl (f1 M hy) fun v1 M1 h1 hv1 => ?_
  have hy1 := hy.le h1
  have o1 := hv1.one
  simp only [rsT, rsv, shs, zts, sos, sls, zss, eqs, sx, sb1, sb2, sb3, sb4, sb5, sb6, ↓reduceIte, Nat.reduceAdd, Nat.reduceMul, Nat.reduceDiv, Nat.reduceEqDiff, Nat.reduceLT, Nat.reduceLeDiff, reduceCtorEq, Int.reduceEq, Int.reduceNe, Int.reduceLT, Int.reduceLE, Int.reduceAdd, Int.reduceSub, Int.reduceMul, Int.reduceNeg, Int.reduceToNat, Int.cast_ofNat_Int, Int.natCast_zero, Int.natCast_one, Int.toNat_natCast, Nat.reduceBEq, nzs, o1]
  refine CallK.row (ctxT S2) rfl rfl (f2 M1 hy1) fun v2 M2 h2 hv2 => ?_
  have hy2 := hy1.le h2
  have o2 := hv2.one
  simp only [rsT, rsv, shs, zts, sos, sls, zss, eqs, sx, sb1, sb2, sb3, sb4, sb5, sb6, ↓reduceIte, Nat.reduceAdd, Nat.reduceMul, Nat.reduceDiv, Nat.reduceEqDiff, Nat.reduceLT, Nat.reduceLeDiff, reduceCtorEq, Int.reduceEq, Int.reduceNe, Int.reduceLT, Int.reduceLE, Int.reduceAdd, Int.reduceSub, Int.reduceMul, Int.reduceNeg, Int.reduceToNat, Int.cast_ofNat_Int, Int.natCast_zero, Int.natCast_one, Int.toNat_natCast, Nat.reduceBEq, nzs, o2]
  refine CallK.row (ctxT S3) rfl rfl (f3 M2 hy2) fun v3 M3 h3 hv3 => ?_
  have hy3 := hy2.le h3
  have o3 := hv3.one
  simp only [rsT, rsv, shs, zts, sos, sls, zss, eqs, sx, sb1, sb2, sb3, sb4, sb5, sb6, ↓reduceIte, Nat.reduceAdd, Nat.reduceMul, Nat.reduceDiv, Nat.reduceEqDiff, Nat.reduceLT, Nat.reduceLeDiff, reduceCtorEq, Int.reduceEq, Int.reduceNe, Int.reduceLT, Int.reduceLE, Int.reduceAdd, Int.reduceSub, Int.reduceMul, Int.reduceNeg, Int.reduceToNat, Int.cast_ofNat_Int, Int.natCast_zero, Int.natCast_one, Int.toNat_natCast, Nat.reduceBEq, nzs, o3]
  refine CallK.row (ctxT S4) rfl rfl (f4 M3 hy3) fun v4 M4 h4 hv4 => ?_
  have hy4 := hy3.le h4
  have o4 := hv4.one
  simp only [rsT, rsv, shs, zts, sos, sls, zss, eqs, sx, sb1, sb2, sb3, sb4, sb5, sb6, ↓reduceIte, Nat.reduceAdd, Nat.reduceMul, Nat.reduceDiv, Nat.reduceEqDiff, Nat.reduceLT, Nat.reduceLeDiff, reduceCtorEq, Int.reduceEq, Int.reduceNe, Int.reduceLT, Int.reduceLE, Int.reduceAdd, Int.reduceSub, Int.reduceMul, Int.reduceNeg, Int.reduceToNat, Int.cast_ofNat_Int, Int.natCast_zero, Int.natCast_one, Int.toNat_natCast, Nat.reduceBEq, nzs, o4]
  refine CallK.row (ctxT S5) rfl rfl (f5 M4 hy4) fun v5 M5 h5 hv5 => ?_
  have hy5 := hy4.le h5
  have o5 := hv5.one
  simp only [rsT, rsv, shs, zts, sos, sls, zss, eqs, sx, sb1, sb2, sb3, sb4, sb5, sb6, ↓reduceIte, Nat.reduceAdd, Nat.reduceMul, Nat.reduceDiv, Nat.reduceEqDiff, Nat.reduceLT, Nat.reduceLeDiff, reduceCtorEq, Int.reduceEq, Int.reduceNe, Int.reduceLT, Int.reduceLE, Int.reduceAdd, Int.reduceSub, Int.reduceMul, Int.reduceNeg, Int.reduceToNat, Int.cast_ofNat_Int, Int.natCast_zero, Int.natCast_one, Int.toNat_natCast, Nat.reduceBEq, nzs, o5]
  have q1 := (((hv1.le h2).le h3).le h4).le h5
  have q2 := ((hv2.le h3).le h4).le h5
  have q3 := (hv3.le h4).le h5
  have q4 := hv4.le h5
  refine DrawK.quiet (by kernel_rfl) (by kernel_rfl) ?_
  simp only [shs, zts, sos, sls, zss, eqs, sx, sb1, sb2, sb3, sb4, sb5, sb6, ↓reduceIte, Nat.reduceAdd, Nat.reduceMul, Nat.reduceDiv, Nat.reduceEqDiff, Nat.reduceLT, Nat.reduceLeDiff, reduceCtorEq, Int.reduceEq, Int.reduceNe, Int.reduceLT, Int.reduceLE, Int.reduceAdd, Int.reduceSub, Int.reduceMul, Int.reduceNeg, Int.reduceToNat, Int.cast_ofNat_Int, Int.natCast_zero, Int.natCast_one, Int.toNat_natCast, Nat.reduceBEq, nzs]
  refine ⟨_, ⟨⟨rfl, rfl⟩, check g y kd hd l M5 hy5⟩, _, ⟨⟨rfl, rfl⟩, resv g y kd hd l M5 hy5⟩, ?_⟩
  simp only [shs, zts, sos, sls, zss, eqs, sx, sb1, sb2, sb3, sb4, sb5, sb6, ↓reduceIte, Nat.reduceAdd, Nat.reduceMul, Nat.reduceDiv, Nat.reduceEqDiff, Nat.reduceLT, Nat.reduceLeDiff, reduceCtorEq, Int.reduceEq, Int.reduceNe, Int.reduceLT, Int.reduceLE, Int.reduceAdd, Int.reduceSub, Int.reduceMul, Int.reduceNeg, Int.reduceToNat, Int.cast_ofNat_Int, Int.natCast_zero, Int.natCast_one, Int.toNat_natCast, Nat.reduceBEq, nzs]
  refine ⟨_, ⟨⟨rfl, rfl⟩, check (-1) (.slice none 0 0) 0 0 [] M5 (RowM.nil _ _)⟩, ?_⟩
  have e1 : resvE (-1) [] 0 0 = 1 := rfl
  simp only [shs, zts, sos, sls, zss, eqs, sx, sb1, sb2, sb3, sb4, sb5, sb6, ↓reduceIte, Nat.reduceAdd, Nat.reduceMul, Nat.reduceDiv, Nat.reduceEqDiff, Nat.reduceLT, Nat.reduceLeDiff, reduceCtorEq, Int.reduceEq, Int.reduceNe, Int.reduceLT, Int.reduceLE, Int.reduceAdd, Int.reduceSub, Int.reduceMul, Int.reduceNeg, Int.reduceToNat, Int.cast_ofNat_Int, Int.natCast_zero, Int.natCast_one, Int.toNat_natCast, Nat.reduceBEq, nzs, e1]
  refine CallK.pure ⟨rfl, rfl⟩ rfl (right S1 g y v1 kd hd l 1 wh a b 0 M5 hy5 q1 b1 fun he => t1 M5 hy5 he) ?_
  simp only [shs, zts, sos, sls, zss, eqs, sx, sb1, sb2, sb3, sb4, sb5, sb6, ↓reduceIte, Nat.reduceAdd, Nat.reduceMul, Nat.reduceDiv, Nat.reduceEqDiff, Nat.reduceLT, Nat.reduceLeDiff, reduceCtorEq, Int.reduceEq, Int.reduceNe, Int.reduceLT, Int.reduceLE, Int.reduceAdd, Int.reduceSub, Int.reduceMul, Int.reduceNeg, Int.reduceToNat, Int.cast_ofNat_Int, Int.natCast_zero, Int.natCast_one, Int.toNat_natCast, Nat.reduceBEq, nzs]
  refine CallK.pure ⟨rfl, rfl⟩ rfl (right S2 g y v2 kd hd l 2 wh a b 0 M5 hy5 q2 b2 fun he => t2 M5 hy5 he) ?_
  simp only [shs, zts, sos, sls, zss, eqs, sx, sb1, sb2, sb3, sb4, sb5, sb6, ↓reduceIte, Nat.reduceAdd, Nat.reduceMul, Nat.reduceDiv, Nat.reduceEqDiff, Nat.reduceLT, Nat.reduceLeDiff, reduceCtorEq, Int.reduceEq, Int.reduceNe, Int.reduceLT, Int.reduceLE, Int.reduceAdd, Int.reduceSub, Int.reduceMul, Int.reduceNeg, Int.reduceToNat, Int.cast_ofNat_Int, Int.natCast_zero, Int.natCast_one, Int.toNat_natCast, Nat.reduceBEq, nzs]
  refine CallK.pure ⟨rfl, rfl⟩ rfl (right S3 g y v3 kd hd l 3 wh a b 0 M5 hy5 q3 b3 fun he => t3 M5 hy5 he) ?_
  simp only [shs, zts, sos, sls, zss, eqs, sx, sb1, sb2, sb3, sb4, sb5, sb6, ↓reduceIte, Nat.reduceAdd, Nat.reduceMul, Nat.reduceDiv, Nat.reduceEqDiff, Nat.reduceLT, Nat.reduceLeDiff, reduceCtorEq, Int.reduceEq, Int.reduceNe, Int.reduceLT, Int.reduceLE, Int.reduceAdd, Int.reduceSub, Int.reduceMul, Int.reduceNeg, Int.reduceToNat, Int.cast_ofNat_Int, Int.natCast_zero, Int.natCast_one, Int.toNat_natCast, Nat.reduceBEq, nzs]
  refine CallK.pure ⟨rfl, rfl⟩ rfl (right S4 g y v4 kd hd l 4 wh a 0 0 M5 hy5 q4 b4 fun he => t4 M5 hy5 he) ?_
  simp only [shs, zts, sos, sls, zss, eqs, sx, sb1, sb2, sb3, sb4, sb5, sb6, ↓reduceIte, Nat.reduceAdd, Nat.reduceMul, Nat.reduceDiv, Nat.reduceEqDiff, Nat.reduceLT, Nat.reduceLeDiff, reduceCtorEq, Int.reduceEq, Int.reduceNe, Int.reduceLT, Int.reduceLE, Int.reduceAdd, Int.reduceSub, Int.reduceMul, Int.reduceNeg, Int.reduceToNat, Int.cast_ofNat_Int, Int.natCast_zero, Int.natCast_one, Int.toNat_natCast, Nat.reduceBEq, nzs]
  refine CallK.pure ⟨rfl, rfl⟩ rfl (right S5 g y v5 kd hd l 5 wh a b c M5 hy5 hv5 b5 fun he => t5 M5 hy5 he) ?_
  simp only [shs, zts, sos, sls, zss, eqs, sx, sb1, sb2, sb3, sb4, sb5, sb6, ↓reduceIte, Nat.reduceAdd, Nat.reduceMul, Nat.reduceDiv, Nat.reduceEqDiff, Nat.reduceLT, Nat.reduceLeDiff, reduceCtorEq, Int.reduceEq, Int.reduceNe, Int.reduceLT, Int.reduceLE, Int.reduceAdd, Int.reduceSub, Int.reduceMul, Int.reduceNeg, Int.reduceToNat, Int.cast_ofNat_Int, Int.natCast_zero, Int.natCast_one, Int.toNat_natCast, Nat.reduceBEq, nzs]
theorem law (q : Int × (Value × List (Int × Int)) × Int × Int) (wh a b c : Int) (M : Mem)
    (h : inK .i64 q.1 ∧ (RowM M q.2.1.1 2 (q.2.1.2.map encR) ∧ ∀ x ∈ q.2.1.2, inK .i64 x.1 ∧ inK .i64 x.2) ∧ inK .i64 q.2.2.1 ∧ inK .i64 q.2.2.2)
    (_ : inK .i64 wh) (_ : inK .i64 a) (_ : inK .i64 b) (_ : inK .i64 c) :
    Meets Proofs.Try.prog 6 [rsv q.1 (.v q.2.1.1) q.2.2.1 q.2.2.2, .v (.int .i64 wh), .v (.int .i64 a), .v (.int .i64 b), .v (.int .i64 c)] M fun r _ _ => r = .v (.bool true) :=
  says q.1 q.2.1.1 q.2.2.1 q.2.2.2 q.2.1.2 wh a b c M h.2.1.1
end Go.X.Rv
