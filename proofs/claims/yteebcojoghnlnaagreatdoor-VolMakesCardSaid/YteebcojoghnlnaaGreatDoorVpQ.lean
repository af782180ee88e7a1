/- Volumes: the laws VolWrites and VolMakes return true. Conditions: none. -/
import Derived.Test.YteebcojoghnlnaaGreatDoorMg22
import Derived.Test.YteebcojoghnlnaaGreatDoorMg20
namespace Go.X.Bg
end Go.X.Bg
namespace Go.X.Nm
end Go.X.Nm
namespace Go.X.Bp
end Go.X.Bp
namespace Go.X.Sb
end Go.X.Sb
set_option linter.unusedSimpArgs false
set_option linter.unusedVariables false
set_option maxHeartbeats 4000000
set_option maxRecDepth 20000
namespace Go.X.Vo
open Go Go.X Go.RowKit Go.X.Bg Go.X.Nm Go.X.Bp Go.X.Sb

theorem makesW (b v : Value) (bag : List It) (ws : List WV) (n to : List UInt8) (k : Int) (M : Mem) (hb : RowM M b 4 (bag.map Bg.encT)) (hv : VolsM M v ws) :
    Meets Proofs.Tryz.prog 4 [stV b v, .v (.string ⟨n.toArray⟩), .v (.string ⟨to.toArray⟩), .v (.int .i64 k)] M fun r _ _ => r = .v (.bool true) := by
  refine Meets.of_body [0,1,2,3,4,8,9,10,11,12,13,14,15,16,17,18,19,20] Proofs.Tryz.func4 rfl (by kernel_rfl) rfl fun w => ?_
  have m1 := make b v bag ws n k M hb hv
  simp only [stV] at m1
  have d1 : ∀ M', M.le M' → Meets _ _ _ M' _ := fun M' h => vdrop b v bag ws n M' (hb.le h) (hv.le h)
  have c1 : ∀ M', M.le M' → Meets _ _ _ M' _ := fun M' h => vclone b v bag ws n to M' (hb.le h) (hv.le h)
  have r1 : ∀ M', M.le M' → Meets _ _ _ M' _ := fun M' h => rdo b v bag ws (1, n, [], k, []) M' (hb.le h) (hv.le h)
  have r2 : ∀ M', M.le M' → Meets _ _ _ M' _ := fun M' h => rdo b v bag ws (2, n, [], 0, []) M' (hb.le h) (hv.le h)
  have r3 : ∀ M', M.le M' → Meets _ _ _ M' _ := fun M' h => rdo b v bag ws (5, n, to, 0, []) M' (hb.le h) (hv.le h)
  simp only [stV, opT] at d1 c1 r1 r2 r3
  rw [show doA bag (ws.map (·.2)) (1, n, [], k, []) = makeA bag (ws.map (·.2)) n k from rfl] at r1
  rw [show doA bag (ws.map (·.2)) (2, n, [], 0, []) = dropA bag (ws.map (·.2)) n from rfl] at r2
  rw [show doA bag (ws.map (·.2)) (5, n, to, 0, []) = cloneA bag (ws.map (·.2)) n to from rfl] at r3
  generalize makeA bag (ws.map (·.2)) n k = A1 at *
  generalize dropA bag (ws.map (·.2)) n = A2 at *
  generalize cloneA bag (ws.map (·.2)) n to = A3 at *
  simp only [Proofs.Tryz.f4, stV, shs, zts, sos, sls, zss, eqs, sx, sb1, sb2, sb3, sb4, sb5, sb6, sb7, ↓reduceIte, Nat.reduceAdd, Nat.reduceMul, Nat.reduceDiv, Nat.reduceEqDiff, Nat.reduceLT, Nat.reduceLeDiff, reduceCtorEq, Int.reduceEq, Int.reduceNe, Int.reduceLT, Int.reduceLE, Int.reduceAdd, Int.reduceSub, Int.reduceMul, Int.reduceNeg, Int.reduceToNat, Int.cast_ofNat_Int, Int.natCast_zero, Int.natCast_one, Int.toNat_natCast, Nat.reduceBEq, nzs, hb.one, hv.row.one]
  refine CallK.stM (T := fun s => .tup [s, .v (.int .i64 A1.2)]) (fun _ _ => rfl) rfl rfl m1 fun b1 v1 ws1 M1 hM1 hw1 hb1 hv1 => ?_
  simp only [shs, zts, sos, sls, zss, eqs, sx, sb1, sb2, sb3, sb4, sb5, sb6, sb7, ↓reduceIte, Nat.reduceAdd, Nat.reduceMul, Nat.reduceDiv, Nat.reduceEqDiff, Nat.reduceLT, Nat.reduceLeDiff, reduceCtorEq, Int.reduceEq, Int.reduceNe, Int.reduceLT, Int.reduceLE, Int.reduceAdd, Int.reduceSub, Int.reduceMul, Int.reduceNeg, Int.reduceToNat, Int.cast_ofNat_Int, Int.natCast_zero, Int.natCast_one, Int.toNat_natCast, Nat.reduceBEq, nzs, stV, hb1.one, hv1.row.one]
  refine CallK.stM (T := fun s => .tup [s, .v (.int .i64 A2.2)]) (fun _ _ => rfl) rfl rfl (d1 M1 hM1) fun b2 v2 ws2 M2 hM2 hw2 hb2 hv2 => ?_
  have h2 := hM1.trans hM2
  simp only [shs, zts, sos, sls, zss, eqs, sx, sb1, sb2, sb3, sb4, sb5, sb6, sb7, ↓reduceIte, Nat.reduceAdd, Nat.reduceMul, Nat.reduceDiv, Nat.reduceEqDiff, Nat.reduceLT, Nat.reduceLeDiff, reduceCtorEq, Int.reduceEq, Int.reduceNe, Int.reduceLT, Int.reduceLE, Int.reduceAdd, Int.reduceSub, Int.reduceMul, Int.reduceNeg, Int.reduceToNat, Int.cast_ofNat_Int, Int.natCast_zero, Int.natCast_one, Int.toNat_natCast, Nat.reduceBEq, nzs, stV, hb2.one, hv2.row.one]
  refine CallK.stM (T := fun s => .tup [s, .v (.int .i64 A3.2)]) (fun _ _ => rfl) rfl rfl (c1 M2 h2) fun b3 v3 ws3 M3 hM3 hw3 hb3 hv3 => ?_
  have h3 := h2.trans hM3
  simp only [shs, zts, sos, sls, zss, eqs, sx, sb1, sb2, sb3, sb4, sb5, sb6, sb7, ↓reduceIte, Nat.reduceAdd, Nat.reduceMul, Nat.reduceDiv, Nat.reduceEqDiff, Nat.reduceLT, Nat.reduceLeDiff, reduceCtorEq, Int.reduceEq, Int.reduceNe, Int.reduceLT, Int.reduceLE, Int.reduceAdd, Int.reduceSub, Int.reduceMul, Int.reduceNeg, Int.reduceToNat, Int.cast_ofNat_Int, Int.natCast_zero, Int.natCast_one, Int.toNat_natCast, Nat.reduceBEq, nzs, stV, hb3.one, hv3.row.one]
  refine CallK.stM (T := fun s => .tup [s, .v (.int .i64 A1.2)]) (fun _ _ => rfl) rfl rfl (r1 M3 h3) fun b4 v4 ws4 M4 hM4 hw4 hb4 hv4 => ?_
  have h4 := h3.trans hM4
  simp only [shs, zts, sos, sls, zss, eqs, sx, sb1, sb2, sb3, sb4, sb5, sb6, sb7, ↓reduceIte, Nat.reduceAdd, Nat.reduceMul, Nat.reduceDiv, Nat.reduceEqDiff, Nat.reduceLT, Nat.reduceLeDiff, reduceCtorEq, Int.reduceEq, Int.reduceNe, Int.reduceLT, Int.reduceLE, Int.reduceAdd, Int.reduceSub, Int.reduceMul, Int.reduceNeg, Int.reduceToNat, Int.cast_ofNat_Int, Int.natCast_zero, Int.natCast_one, Int.toNat_natCast, Nat.reduceBEq, nzs, stV, hb4.one, hv4.row.one]
  refine CallK.stM (T := fun s => .tup [s, .v (.int .i64 A2.2)]) (fun _ _ => rfl) rfl rfl (r2 M4 h4) fun b5 v5 ws5 M5 hM5 hw5 hb5 hv5 => ?_
  have h5 := h4.trans hM5
  simp only [shs, zts, sos, sls, zss, eqs, sx, sb1, sb2, sb3, sb4, sb5, sb6, sb7, ↓reduceIte, Nat.reduceAdd, Nat.reduceMul, Nat.reduceDiv, Nat.reduceEqDiff, Nat.reduceLT, Nat.reduceLeDiff, reduceCtorEq, Int.reduceEq, Int.reduceNe, Int.reduceLT, Int.reduceLE, Int.reduceAdd, Int.reduceSub, Int.reduceMul, Int.reduceNeg, Int.reduceToNat, Int.cast_ofNat_Int, Int.natCast_zero, Int.natCast_one, Int.toNat_natCast, Nat.reduceBEq, nzs, stV, hb5.one, hv5.row.one]
  refine CallK.stM (T := fun s => .tup [s, .v (.int .i64 A3.2)]) (fun _ _ => rfl) rfl rfl (r3 M5 h5) fun b6 v6 ws6 M6 hM6 hw6 hb6 hv6 => ?_
  simp only [shs, zts, sos, sls, zss, eqs, sx, sb1, sb2, sb3, sb4, sb5, sb6, sb7, ↓reduceIte, Nat.reduceAdd, Nat.reduceMul, Nat.reduceDiv, Nat.reduceEqDiff, Nat.reduceLT, Nat.reduceLeDiff, reduceCtorEq, Int.reduceEq, Int.reduceNe, Int.reduceLT, Int.reduceLE, Int.reduceAdd, Int.reduceSub, Int.reduceMul, Int.reduceNeg, Int.reduceToNat, Int.cast_ofNat_Int, Int.natCast_zero, Int.natCast_one, Int.toNat_natCast, Nat.reduceBEq, nzs, stV, hb6.one, hv6.row.one]
  have t1 := told b1 v1 b4 v4 A1.2 A1.1.1 ws1 ws4 M6 (hw1.trans hw4.symm) (hb1.le (((((hM2.trans hM3).trans hM4).trans hM5)).trans hM6)) (hb4.le (hM5.trans hM6)) (hv1.le (((((hM2.trans hM3).trans hM4).trans hM5)).trans hM6)) (hv4.le (hM5.trans hM6))
  have t2 := told b2 v2 b5 v5 A2.2 A2.1.1 ws2 ws5 M6 (hw2.trans hw5.symm) (hb2.le ((((hM3.trans hM4).trans hM5)).trans hM6)) (hb5.le hM6) (hv2.le ((((hM3.trans hM4).trans hM5)).trans hM6)) (hv5.le hM6)
  have t3 := told b3 v3 b6 v6 A3.2 A3.1.1 ws3 ws6 M6 (hw3.trans hw6.symm) (hb3.le (((hM4.trans hM5)).trans hM6)) hb6 (hv3.le (((hM4.trans hM5)).trans hM6)) hv6
  simp only [stV] at t1 t2 t3
  refine CallK.pure ⟨rfl, rfl⟩ rfl t1 ?_
  simp only [shs, zts, sos, sls, zss, eqs, sx, sb1, sb2, sb3, sb4, sb5, sb6, sb7, ↓reduceIte, Nat.reduceAdd, Nat.reduceMul, Nat.reduceDiv, Nat.reduceEqDiff, Nat.reduceLT, Nat.reduceLeDiff, reduceCtorEq, Int.reduceEq, Int.reduceNe, Int.reduceLT, Int.reduceLE, Int.reduceAdd, Int.reduceSub, Int.reduceMul, Int.reduceNeg, Int.reduceToNat, Int.cast_ofNat_Int, Int.natCast_zero, Int.natCast_one, Int.toNat_natCast, Nat.reduceBEq, nzs]
  refine CallK.pure ⟨rfl, rfl⟩ rfl t2 ?_
  simp only [shs, zts, sos, sls, zss, eqs, sx, sb1, sb2, sb3, sb4, sb5, sb6, sb7, ↓reduceIte, Nat.reduceAdd, Nat.reduceMul, Nat.reduceDiv, Nat.reduceEqDiff, Nat.reduceLT, Nat.reduceLeDiff, reduceCtorEq, Int.reduceEq, Int.reduceNe, Int.reduceLT, Int.reduceLE, Int.reduceAdd, Int.reduceSub, Int.reduceMul, Int.reduceNeg, Int.reduceToNat, Int.cast_ofNat_Int, Int.natCast_zero, Int.natCast_one, Int.toNat_natCast, Nat.reduceBEq, nzs]
  refine CallK.pure ⟨rfl, rfl⟩ rfl t3 ?_
  simp only [shs, zts, sos, sls, zss, eqs, sx, sb1, sb2, sb3, sb4, sb5, sb6, sb7, ↓reduceIte, Nat.reduceAdd, Nat.reduceMul, Nat.reduceDiv, Nat.reduceEqDiff, Nat.reduceLT, Nat.reduceLeDiff, reduceCtorEq, Int.reduceEq, Int.reduceNe, Int.reduceLT, Int.reduceLE, Int.reduceAdd, Int.reduceSub, Int.reduceMul, Int.reduceNeg, Int.reduceToNat, Int.cast_ofNat_Int, Int.natCast_zero, Int.natCast_one, Int.toNat_natCast, Nat.reduceBEq, nzs]
abbrev StAOk (M : Mem) (a0 : StA) : Prop := (RowM M a0.1.1 4 (a0.1.2.map fun a => [Value.int .i64 a.1] ++ ([Value.int .i64 a.2.1] ++ ([Value.string ⟨a.2.2.1.toArray⟩] ++ [Value.int .i64 a.2.2.2]))) ∧ a0.1.2.length * 40 ≤ reachBytes ∧ ∀ x ∈ a0.1.2, inK .i64 x.1 ∧ inK .i64 x.2.1 ∧ x.2.2.1.length ≤ reachBytes ∧ inK .i64 x.2.2.2) ∧
      RowM M a0.2.1 2 (a0.2.2.map fun a => [Value.string ⟨a.1.toArray⟩] ++ [a.2.1]) ∧ a0.2.2.length * 40 ≤ reachBytes ∧ ∀ x ∈ a0.2.2, x.1.length ≤ reachBytes ∧ RowM M x.2.1 3 (x.2.2.map fun a => [Value.bool a.1] ++ ([Value.int .i64 a.2.1] ++ [Value.int .i64 a.2.2])) ∧ x.2.2.length * 24 ≤ reachBytes ∧ ∀ y ∈ x.2.2, True ∧ inK .i64 y.2.1 ∧ inK .i64 y.2.2
theorem makesL (a0 : StA) (n to : List UInt8) (k : Int) (M : Mem) (h0 : StAOk M a0) (_ : n.length ≤ reachBytes) (_ : to.length ≤ reachBytes) (_ : inK .i64 k) :
    Meets Proofs.Tryz.prog 4 [.agg [.v a0.1.1, .v a0.2.1], .v (.string ⟨n.toArray⟩), .v (.string ⟨to.toArray⟩), .v (.int .i64 k)] M fun r _ _ => r = .v (.bool true) :=
  makesW a0.1.1 a0.2.1 a0.1.2 (wsA a0) n to k M h0.1.1 (volsA h0.2.1 fun x hx => (h0.2.2.2 x hx).2.1)
end Go.X.Vo

