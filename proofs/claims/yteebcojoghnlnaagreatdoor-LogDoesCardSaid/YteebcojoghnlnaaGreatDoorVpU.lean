/- Deeds: what log.Do answers; the law LogDoes returns true. Conditions: none. -/
import Derived.Test.YteebcojoghnlnaaGreatDoorMg23
namespace Go.X.Bg
end Go.X.Bg
namespace Go.X.Nm
end Go.X.Nm
namespace Go.X.Bp
end Go.X.Bp
namespace Go.X.Sb
end Go.X.Sb
set_option linter.unusedSimpArgs false
set_option linter.unusedVariables false
set_option maxHeartbeats 4000000
set_option maxRecDepth 20000
namespace Go.X.Vo
open Go Go.X Go.RowKit Go.X.Bg Go.X.Nm Go.X.Bp Go.X.Sb

def doL (bag : List It) (l : List Vol) (o : OpT) : St × Int := if Lg.opE o ≠ 0 then (zSt, Lg.opE o) else doA bag l o
theorem opE_kind {o : OpT} (h : Lg.opE o = 0) : 1 ≤ o.1 ∧ o.1 ≤ 5 := by
  unfold Lg.opE at h
  split at h
  · cases h
  · omega
theorem ldo (b v : Value) (bag : List It) (ws : List WV) (o : OpT) (M : Mem) (hb : RowM M b 4 (bag.map Bg.encT)) (hv : VolsM M v ws) :
    Meets Proofs.Tryz.prog 23 [stV b v, opT o] M (StM (fun s => .tup [s, .v (.int .i64 (doL bag (ws.map (·.2)) o).2)]) (doL bag (ws.map (·.2)) o).1) := by
  refine Meets.of_body [0,1,2,3,4,5,6,10,14,15,25,33,45] Proofs.Tryz.func23 rfl (by kernel_rfl) rfl fun w => ?_
  have hC := Lg.checkW o M
  simp only [Lg.opV] at hC
  generalize hc : doL bag (ws.map (·.2)) o = c
  unfold doL at hc
  simp only [Proofs.Tryz.f23, stV, opT, shs, zts, sos, sls, zss, eqs, sx, sb1, sb2, sb3, sb4, sb5, sb6, sb7, ↓reduceIte, Nat.reduceAdd, Nat.reduceMul, Nat.reduceDiv, Nat.reduceEqDiff, Nat.reduceLT, Nat.reduceLeDiff, reduceCtorEq, Int.reduceEq, Int.reduceNe, Int.reduceLT, Int.reduceLE, Int.reduceAdd, Int.reduceSub, Int.reduceMul, Int.reduceNeg, Int.reduceToNat, Int.cast_ofNat_Int, Int.natCast_zero, Int.natCast_one, Int.toNat_natCast, Nat.reduceBEq, nzs, hb.one, hv.row.one]
  refine CallK.pure ⟨rfl, rfl⟩ rfl hC ?_
  by_cases h1 : Lg.opE o = 0
  rotate_left
  · have c1 := eq_false h1
    rw [if_pos h1] at hc
    subst hc
    simp only [shs, zts, sos, sls, zss, eqs, sx, sb1, sb2, sb3, sb4, sb5, sb6, sb7, ↓reduceIte, Nat.reduceAdd, Nat.reduceMul, Nat.reduceDiv, Nat.reduceEqDiff, Nat.reduceLT, Nat.reduceLeDiff, reduceCtorEq, Int.reduceEq, Int.reduceNe, Int.reduceLT, Int.reduceLE, Int.reduceAdd, Int.reduceSub, Int.reduceMul, Int.reduceNeg, Int.reduceToNat, Int.cast_ofNat_Int, Int.natCast_zero, Int.natCast_one, Int.toNat_natCast, Nat.reduceBEq, nzs, c1]
    exact ⟨_, _, [], rfl, rfl, RowM.nil _ _, zero_volsM _ |>.2⟩
  rw [if_neg (fun h => h h1)] at hc
  obtain ⟨hk1, hk2⟩ := opE_kind h1
  obtain ⟨k, n, to, a, s⟩ := o
  simp only at hk1 hk2
  simp only [shs, zts, sos, sls, zss, eqs, sx, sb1, sb2, sb3, sb4, sb5, sb6, sb7, ↓reduceIte, Nat.reduceAdd, Nat.reduceMul, Nat.reduceDiv, Nat.reduceEqDiff, Nat.reduceLT, Nat.reduceLeDiff, reduceCtorEq, Int.reduceEq, Int.reduceNe, Int.reduceLT, Int.reduceLE, Int.reduceAdd, Int.reduceSub, Int.reduceMul, Int.reduceNeg, Int.reduceToNat, Int.cast_ofNat_Int, Int.natCast_zero, Int.natCast_one, Int.toNat_natCast, Nat.reduceBEq, nzs, h1]
  by_cases e1 : k = 1
  · have c1 := eq_true e1
    have hM := make b v bag ws n a M hb hv
    rw [show doA bag (ws.map (·.2)) (k, n, to, a, s) = makeA bag (ws.map (·.2)) n a by unfold doA; rw [if_pos e1]] at hc
    rw [hc] at hM
    simp only [stV] at hM
    simp only [shs, zts, sos, sls, zss, eqs, sx, sb1, sb2, sb3, sb4, sb5, sb6, sb7, ↓reduceIte, Nat.reduceAdd, Nat.reduceMul, Nat.reduceDiv, Nat.reduceEqDiff, Nat.reduceLT, Nat.reduceLeDiff, reduceCtorEq, Int.reduceEq, Int.reduceNe, Int.reduceLT, Int.reduceLE, Int.reduceAdd, Int.reduceSub, Int.reduceMul, Int.reduceNeg, Int.reduceToNat, Int.cast_ofNat_Int, Int.natCast_zero, Int.natCast_one, Int.toNat_natCast, Nat.reduceBEq, nzs, c1]
    refine CallK.stM (T := fun s => .tup [s, .v (.int .i64 c.2)]) (fun _ _ => rfl) rfl rfl hM fun b1 v1 ws1 M1 hM1 hw1 hb1 hv1 => ?_
    simp only [shs, zts, sos, sls, zss, eqs, sx, sb1, sb2, sb3, sb4, sb5, sb6, sb7, ↓reduceIte, Nat.reduceAdd, Nat.reduceMul, Nat.reduceDiv, Nat.reduceEqDiff, Nat.reduceLT, Nat.reduceLeDiff, reduceCtorEq, Int.reduceEq, Int.reduceNe, Int.reduceLT, Int.reduceLE, Int.reduceAdd, Int.reduceSub, Int.reduceMul, Int.reduceNeg, Int.reduceToNat, Int.cast_ofNat_Int, Int.natCast_zero, Int.natCast_one, Int.toNat_natCast, Nat.reduceBEq, nzs, stV, hb1.one, hv1.row.one]
    exact ⟨b1, v1, ws1, rfl, hw1, hb1, hv1⟩
  have c1 := eq_false e1
  by_cases e2 : k = 2
  · have c2 := eq_true e2
    have hM := vdrop b v bag ws n M hb hv
    rw [show doA bag (ws.map (·.2)) (k, n, to, a, s) = dropA bag (ws.map (·.2)) n by unfold doA; rw [if_neg e1, if_pos e2]] at hc
    rw [hc] at hM
    simp only [stV] at hM
    simp only [shs, zts, sos, sls, zss, eqs, sx, sb1, sb2, sb3, sb4, sb5, sb6, sb7, ↓reduceIte, Nat.reduceAdd, Nat.reduceMul, Nat.reduceDiv, Nat.reduceEqDiff, Nat.reduceLT, Nat.reduceLeDiff, reduceCtorEq, Int.reduceEq, Int.reduceNe, Int.reduceLT, Int.reduceLE, Int.reduceAdd, Int.reduceSub, Int.reduceMul, Int.reduceNeg, Int.reduceToNat, Int.cast_ofNat_Int, Int.natCast_zero, Int.natCast_one, Int.toNat_natCast, Nat.reduceBEq, nzs, c1, c2]
    refine CallK.stM (T := fun s => .tup [s, .v (.int .i64 c.2)]) (fun _ _ => rfl) rfl rfl hM fun b1 v1 ws1 M1 hM1 hw1 hb1 hv1 => ?_
    simp only [shs, zts, sos, sls, zss, eqs, sx, sb1, sb2, sb3, sb4, sb5, sb6, sb7, ↓reduceIte, Nat.reduceAdd, Nat.reduceMul, Nat.reduceDiv, Nat.reduceEqDiff, Nat.reduceLT, Nat.reduceLeDiff, reduceCtorEq, Int.reduceEq, Int.reduceNe, Int.reduceLT, Int.reduceLE, Int.reduceAdd, Int.reduceSub, Int.reduceMul, Int.reduceNeg, Int.reduceToNat, Int.cast_ofNat_Int, Int.natCast_zero, Int.natCast_one, Int.toNat_natCast, Nat.reduceBEq, nzs, stV, hb1.one, hv1.row.one]
    exact ⟨b1, v1, ws1, rfl, hw1, hb1, hv1⟩
  have c2 := eq_false e2
  by_cases e3 : k = 3
  · have c3 := eq_true e3
    have hM := vwrite b v bag ws n a s M hb hv
    rw [show doA bag (ws.map (·.2)) (k, n, to, a, s) = writeA bag (ws.map (·.2)) n a s by unfold doA; rw [if_neg e1, if_neg e2, if_neg (by omega), if_neg (by omega)]] at hc
    rw [hc] at hM
    simp only [stV] at hM
    simp only [shs, zts, sos, sls, zss, eqs, sx, sb1, sb2, sb3, sb4, sb5, sb6, sb7, ↓reduceIte, Nat.reduceAdd, Nat.reduceMul, Nat.reduceDiv, Nat.reduceEqDiff, Nat.reduceLT, Nat.reduceLeDiff, reduceCtorEq, Int.reduceEq, Int.reduceNe, Int.reduceLT, Int.reduceLE, Int.reduceAdd, Int.reduceSub, Int.reduceMul, Int.reduceNeg, Int.reduceToNat, Int.cast_ofNat_Int, Int.natCast_zero, Int.natCast_one, Int.toNat_natCast, Nat.reduceBEq, nzs, c1, c2, c3]
    refine CallK.stM (T := fun s => .tup [s, .v (.int .i64 c.2)]) (fun _ _ => rfl) rfl rfl hM fun b1 v1 ws1 M1 hM1 hw1 hb1 hv1 => ?_
    simp only [shs, zts, sos, sls, zss, eqs, sx, sb1, sb2, sb3, sb4, sb5, sb6, sb7, ↓reduceIte, Nat.reduceAdd, Nat.reduceMul, Nat.reduceDiv, Nat.reduceEqDiff, Nat.reduceLT, Nat.reduceLeDiff, reduceCtorEq, Int.reduceEq, Int.reduceNe, Int.reduceLT, Int.reduceLE, Int.reduceAdd, Int.reduceSub, Int.reduceMul, Int.reduceNeg, Int.reduceToNat, Int.cast_ofNat_Int, Int.natCast_zero, Int.natCast_one, Int.toNat_natCast, Nat.reduceBEq, nzs, stV, hb1.one, hv1.row.one]
    exact ⟨b1, v1, ws1, rfl, hw1, hb1, hv1⟩
  have c3 := eq_false e3
  by_cases e4 : k = 4
  · have c4 := eq_true e4
    have hM := (vtrim b v bag ws n a M hb hv).mono (fun r H M' _ h => h.weak)
    rw [show doA bag (ws.map (·.2)) (k, n, to, a, s) = trimA bag (ws.map (·.2)) n a by unfold doA; rw [if_neg e1, if_neg e2, if_neg (by omega), if_pos e4]] at hc
    rw [hc] at hM
    simp only [stV] at hM
    simp only [shs, zts, sos, sls, zss, eqs, sx, sb1, sb2, sb3, sb4, sb5, sb6, sb7, ↓reduceIte, Nat.reduceAdd, Nat.reduceMul, Nat.reduceDiv, Nat.reduceEqDiff, Nat.reduceLT, Nat.reduceLeDiff, reduceCtorEq, Int.reduceEq, Int.reduceNe, Int.reduceLT, Int.reduceLE, Int.reduceAdd, Int.reduceSub, Int.reduceMul, Int.reduceNeg, Int.reduceToNat, Int.cast_ofNat_Int, Int.natCast_zero, Int.natCast_one, Int.toNat_natCast, Nat.reduceBEq, nzs, c1, c2, c3, c4]
    refine CallK.stM (T := fun s => .tup [s, .v (.int .i64 c.2)]) (fun _ _ => rfl) rfl rfl hM fun b1 v1 ws1 M1 hM1 hw1 hb1 hv1 => ?_
    simp only [shs, zts, sos, sls, zss, eqs, sx, sb1, sb2, sb3, sb4, sb5, sb6, sb7, ↓reduceIte, Nat.reduceAdd, Nat.reduceMul, Nat.reduceDiv, Nat.reduceEqDiff, Nat.reduceLT, Nat.reduceLeDiff, reduceCtorEq, Int.reduceEq, Int.reduceNe, Int.reduceLT, Int.reduceLE, Int.reduceAdd, Int.reduceSub, Int.reduceMul, Int.reduceNeg, Int.reduceToNat, Int.cast_ofNat_Int, Int.natCast_zero, Int.natCast_one, Int.toNat_natCast, Nat.reduceBEq, nzs, stV, hb1.one, hv1.row.one]
    exact ⟨b1, v1, ws1, rfl, hw1, hb1, hv1⟩
  have c4 := eq_false e4
  have hM := vclone b v bag ws n to M hb hv
  rw [show doA bag (ws.map (·.2)) (k, n, to, a, s) = cloneA bag (ws.map (·.2)) n to by unfold doA; rw [if_neg e1, if_neg e2, if_pos (by show k = 5; omega)]] at hc
  rw [hc] at hM
  simp only [stV] at hM
  simp only [shs, zts, sos, sls, zss, eqs, sx, sb1, sb2, sb3, sb4, sb5, sb6, sb7, ↓reduceIte, Nat.reduceAdd, Nat.reduceMul, Nat.reduceDiv, Nat.reduceEqDiff, Nat.reduceLT, Nat.reduceLeDiff, reduceCtorEq, Int.reduceEq, Int.reduceNe, Int.reduceLT, Int.reduceLE, Int.reduceAdd, Int.reduceSub, Int.reduceMul, Int.reduceNeg, Int.reduceToNat, Int.cast_ofNat_Int, Int.natCast_zero, Int.natCast_one, Int.toNat_natCast, Nat.reduceBEq, nzs, c1, c2, c3, c4]
  refine CallK.stM (T := fun s => .tup [s, .v (.int .i64 c.2)]) (fun _ _ => rfl) rfl rfl hM fun b1 v1 ws1 M1 hM1 hw1 hb1 hv1 => ?_
  simp only [shs, zts, sos, sls, zss, eqs, sx, sb1, sb2, sb3, sb4, sb5, sb6, sb7, ↓reduceIte, Nat.reduceAdd, Nat.reduceMul, Nat.reduceDiv, Nat.reduceEqDiff, Nat.reduceLT, Nat.reduceLeDiff, reduceCtorEq, Int.reduceEq, Int.reduceNe, Int.reduceLT, Int.reduceLE, Int.reduceAdd, Int.reduceSub, Int.reduceMul, Int.reduceNeg, Int.reduceToNat, Int.cast_ofNat_Int, Int.natCast_zero, Int.natCast_one, Int.toNat_natCast, Nat.reduceBEq, nzs, stV, hb1.one, hv1.row.one]
  exact ⟨b1, v1, ws1, rfl, hw1, hb1, hv1⟩
theorem logDoesW (b v : Value) (bag : List It) (ws : List WV) (o : OpT) (M : Mem) (hb : RowM M b 4 (bag.map Bg.encT)) (hv : VolsM M v ws) :
    Meets Proofs.Tryz.prog 6 [stV b v, opT o] M fun r _ _ => r = .v (.bool true) := by
  refine Meets.of_body [0,1,2,3,4,5,6,7,8,9,19] Proofs.Tryz.func6 rfl (by kernel_rfl) rfl fun w => ?_
  have hL := ldo b v bag ws o M hb hv
  have hD : ∀ M', Meets _ _ _ M' _ := fun M' => Lg.deedW o M'
  have hR : ∀ M', M.le M' → Meets _ _ _ M' _ := fun M' h => rdo b v bag ws o M' (hb.le h) (hv.le h)
  simp only [stV, opT] at hL hR
  simp only [Lg.opV] at hD
  have hL2 : Lg.opE o = 0 → doL bag (ws.map (·.2)) o = doA bag (ws.map (·.2)) o := fun h => if_neg (fun h' => h' h)
  have hL3 : Lg.opE o ≠ 0 → doL bag (ws.map (·.2)) o = (zSt, Lg.opE o) := fun h => if_pos h
  generalize doL bag (ws.map (·.2)) o = A at *
  generalize doA bag (ws.map (·.2)) o = D at *
  simp only [Proofs.Tryz.f6, stV, opT, shs, zts, sos, sls, zss, eqs, sx, sb1, sb2, sb3, sb4, sb5, sb6, sb7, ↓reduceIte, Nat.reduceAdd, Nat.reduceMul, Nat.reduceDiv, Nat.reduceEqDiff, Nat.reduceLT, Nat.reduceLeDiff, reduceCtorEq, Int.reduceEq, Int.reduceNe, Int.reduceLT, Int.reduceLE, Int.reduceAdd, Int.reduceSub, Int.reduceMul, Int.reduceNeg, Int.reduceToNat, Int.cast_ofNat_Int, Int.natCast_zero, Int.natCast_one, Int.toNat_natCast, Nat.reduceBEq, nzs, hb.one, hv.row.one]
  refine CallK.stM (T := fun s => .tup [s, .v (.int .i64 A.2)]) (fun _ _ => rfl) rfl rfl hL fun b1 v1 ws1 M1 hM1 hw1 hb1 hv1 => ?_
  simp only [shs, zts, sos, sls, zss, eqs, sx, sb1, sb2, sb3, sb4, sb5, sb6, sb7, ↓reduceIte, Nat.reduceAdd, Nat.reduceMul, Nat.reduceDiv, Nat.reduceEqDiff, Nat.reduceLT, Nat.reduceLeDiff, reduceCtorEq, Int.reduceEq, Int.reduceNe, Int.reduceLT, Int.reduceLE, Int.reduceAdd, Int.reduceSub, Int.reduceMul, Int.reduceNeg, Int.reduceToNat, Int.cast_ofNat_Int, Int.natCast_zero, Int.natCast_one, Int.toNat_natCast, Nat.reduceBEq, nzs, stV, hb1.one, hv1.row.one]
  refine CallK.pure ⟨rfl, rfl⟩ rfl (hD M1) ?_
  by_cases h1 : Lg.opE o = 0
  rotate_left
  · have c1 := eq_false h1
    have e1 := hL3 h1
    subst e1
    have t1 := told b1 v1 (.slice none 0 0) (.slice none 0 0) (Lg.opE o) [] ws1 [] M1 hw1 hb1 (zero_volsM M1).1 hv1 (zero_volsM M1).2
    simp only [stV] at t1
    simp only [shs, zts, sos, sls, zss, eqs, sx, sb1, sb2, sb3, sb4, sb5, sb6, sb7, ↓reduceIte, Nat.reduceAdd, Nat.reduceMul, Nat.reduceDiv, Nat.reduceEqDiff, Nat.reduceLT, Nat.reduceLeDiff, reduceCtorEq, Int.reduceEq, Int.reduceNe, Int.reduceLT, Int.reduceLE, Int.reduceAdd, Int.reduceSub, Int.reduceMul, Int.reduceNeg, Int.reduceToNat, Int.cast_ofNat_Int, Int.natCast_zero, Int.natCast_one, Int.toNat_natCast, Nat.reduceBEq, nzs, c1]
    refine CallK.pure ⟨rfl, rfl⟩ rfl t1 ?_
    simp only [shs, zts, sos, sls, zss, eqs, sx, sb1, sb2, sb3, sb4, sb5, sb6, sb7, ↓reduceIte, Nat.reduceAdd, Nat.reduceMul, Nat.reduceDiv, Nat.reduceEqDiff, Nat.reduceLT, Nat.reduceLeDiff, reduceCtorEq, Int.reduceEq, Int.reduceNe, Int.reduceLT, Int.reduceLE, Int.reduceAdd, Int.reduceSub, Int.reduceMul, Int.reduceNeg, Int.reduceToNat, Int.cast_ofNat_Int, Int.natCast_zero, Int.natCast_one, Int.toNat_natCast, Nat.reduceBEq, nzs]
  have e1 := hL2 h1
  subst e1
  simp only [shs, zts, sos, sls, zss, eqs, sx, sb1, sb2, sb3, sb4, sb5, sb6, sb7, ↓reduceIte, Nat.reduceAdd, Nat.reduceMul, Nat.reduceDiv, Nat.reduceEqDiff, Nat.reduceLT, Nat.reduceLeDiff, reduceCtorEq, Int.reduceEq, Int.reduceNe, Int.reduceLT, Int.reduceLE, Int.reduceAdd, Int.reduceSub, Int.reduceMul, Int.reduceNeg, Int.reduceToNat, Int.cast_ofNat_Int, Int.natCast_zero, Int.natCast_one, Int.toNat_natCast, Nat.reduceBEq, nzs, h1]
  refine CallK.stM (T := fun s => .tup [s, .v (.int .i64 A.2)]) (fun _ _ => rfl) rfl rfl (hR M1 hM1) fun b2 v2 ws2 M2 hM2 hw2 hb2 hv2 => ?_
  simp only [shs, zts, sos, sls, zss, eqs, sx, sb1, sb2, sb3, sb4, sb5, sb6, sb7, ↓reduceIte, Nat.reduceAdd, Nat.reduceMul, Nat.reduceDiv, Nat.reduceEqDiff, Nat.reduceLT, Nat.reduceLeDiff, reduceCtorEq, Int.reduceEq, Int.reduceNe, Int.reduceLT, Int.reduceLE, Int.reduceAdd, Int.reduceSub, Int.reduceMul, Int.reduceNeg, Int.reduceToNat, Int.cast_ofNat_Int, Int.natCast_zero, Int.natCast_one, Int.toNat_natCast, Nat.reduceBEq, nzs, stV, hb2.one, hv2.row.one]
  have t1 := told b1 v1 b2 v2 A.2 A.1.1 ws1 ws2 M2 (hw1.trans hw2.symm) (hb1.le hM2) hb2 (hv1.le hM2) hv2
  simp only [stV] at t1
  refine CallK.pure ⟨rfl, rfl⟩ rfl t1 ?_
  simp only [shs, zts, sos, sls, zss, eqs, sx, sb1, sb2, sb3, sb4, sb5, sb6, sb7, ↓reduceIte, Nat.reduceAdd, Nat.reduceMul, Nat.reduceDiv, Nat.reduceEqDiff, Nat.reduceLT, Nat.reduceLeDiff, reduceCtorEq, Int.reduceEq, Int.reduceNe, Int.reduceLT, Int.reduceLE, Int.reduceAdd, Int.reduceSub, Int.reduceMul, Int.reduceNeg, Int.reduceToNat, Int.cast_ofNat_Int, Int.natCast_zero, Int.natCast_one, Int.toNat_natCast, Nat.reduceBEq, nzs]
theorem logDoesL (a0 : StA) (o : OpT) (M : Mem) (h0 : StAOk M a0) (_ : inK .i64 o.1 ∧ o.2.1.length ≤ reachBytes ∧ o.2.2.1.length ≤ reachBytes ∧ inK .i64 o.2.2.2.1 ∧ o.2.2.2.2.length ≤ reachBytes) :
    Meets Proofs.Tryz.prog 6 [.agg [.v a0.1.1, .v a0.2.1], .agg [.v (.int .i64 o.1), .v (.string ⟨o.2.1.toArray⟩), .v (.string ⟨o.2.2.1.toArray⟩), .v (.int .i64 o.2.2.2.1), .v (.string ⟨o.2.2.2.2.toArray⟩)]] M fun r _ _ => r = .v (.bool true) :=
  logDoesW a0.1.1 a0.2.1 a0.1.2 (wsA a0) o M h0.1.1 (volsA h0.2.1 fun x hx => (h0.2.2.2 x hx).2.1)
end Go.X.Vo

