/- Volumes: the laws VolWrites and VolMakes return true. Conditions: none. -/
import Derived.Test.YteebcojoghnlnaaGreatDoorMg21
import Derived.Test.YteebcojoghnlnaaGreatDoorMg19
namespace Go.X.Bg
end Go.X.Bg
namespace Go.X.Nm
end Go.X.Nm
namespace Go.X.Bp
end Go.X.Bp
namespace Go.X.Sb
end Go.X.Sb
set_option linter.unusedSimpArgs false
set_option linter.unusedVariables false
set_option maxHeartbeats 4000000
set_option maxRecDepth 20000
namespace Go.X.Vo
open Go Go.X Go.RowKit Go.X.Bg Go.X.Nm Go.X.Bp Go.X.Sb

theorem writesW (b v : Value) (bag : List It) (ws : List WV) (n : List UInt8) (a : Int) (s : List UInt8) (M : Mem) (hb : RowM M b 4 (bag.map Bg.encT)) (hv : VolsM M v ws) :
    Meets Proofs.Tryz.prog 3 [stV b v, .v (.string ⟨n.toArray⟩), .v (.int .i64 a), .v (.string ⟨s.toArray⟩)] M fun r _ _ => r = .v (.bool true) := by
  refine Meets.of_body [0,1,2,3,4,8,9,10,11,12,13,14,15,16] Proofs.Tryz.func3 rfl (by kernel_rfl) rfl fun w => ?_
  have m1 := (vtrim b v bag ws n a M hb hv).mono (fun r H M' _ h => h.weak)
  have d1 : ∀ M', M.le M' → Meets _ _ _ M' _ := fun M' h => vwrite b v bag ws n a s M' (hb.le h) (hv.le h)
  have r1 : ∀ M', M.le M' → Meets _ _ _ M' _ := fun M' h => rdo b v bag ws (4, n, [], a, []) M' (hb.le h) (hv.le h)
  have r2 : ∀ M', M.le M' → Meets _ _ _ M' _ := fun M' h => rdo b v bag ws (3, n, [], a, s) M' (hb.le h) (hv.le h)
  simp only [stV, opT] at m1 d1 r1 r2
  rw [show doA bag (ws.map (·.2)) (4, n, [], a, []) = trimA bag (ws.map (·.2)) n a from rfl] at r1
  rw [show doA bag (ws.map (·.2)) (3, n, [], a, s) = writeA bag (ws.map (·.2)) n a s from rfl] at r2
  generalize trimA bag (ws.map (·.2)) n a = A1 at *
  generalize writeA bag (ws.map (·.2)) n a s = A2 at *
  simp only [Proofs.Tryz.f3, stV, shs, zts, sos, sls, zss, eqs, sx, sb1, sb2, sb3, sb4, sb5, sb6, sb7, ↓reduceIte, Nat.reduceAdd, Nat.reduceMul, Nat.reduceDiv, Nat.reduceEqDiff, Nat.reduceLT, Nat.reduceLeDiff, reduceCtorEq, Int.reduceEq, Int.reduceNe, Int.reduceLT, Int.reduceLE, Int.reduceAdd, Int.reduceSub, Int.reduceMul, Int.reduceNeg, Int.reduceToNat, Int.cast_ofNat_Int, Int.natCast_zero, Int.natCast_one, Int.toNat_natCast, Nat.reduceBEq, nzs, hb.one, hv.row.one]
  refine CallK.stM (T := fun s => .tup [s, .v (.int .i64 A1.2)]) (fun _ _ => rfl) rfl rfl m1 fun b1 v1 ws1 M1 hM1 hw1 hb1 hv1 => ?_
  simp only [shs, zts, sos, sls, zss, eqs, sx, sb1, sb2, sb3, sb4, sb5, sb6, sb7, ↓reduceIte, Nat.reduceAdd, Nat.reduceMul, Nat.reduceDiv, Nat.reduceEqDiff, Nat.reduceLT, Nat.reduceLeDiff, reduceCtorEq, Int.reduceEq, Int.reduceNe, Int.reduceLT, Int.reduceLE, Int.reduceAdd, Int.reduceSub, Int.reduceMul, Int.reduceNeg, Int.reduceToNat, Int.cast_ofNat_Int, Int.natCast_zero, Int.natCast_one, Int.toNat_natCast, Nat.reduceBEq, nzs, stV, hb1.one, hv1.row.one]
  refine CallK.stM (T := fun s => .tup [s, .v (.int .i64 A2.2)]) (fun _ _ => rfl) rfl rfl (d1 M1 hM1) fun b2 v2 ws2 M2 hM2 hw2 hb2 hv2 => ?_
  have h2 := hM1.trans hM2
  simp only [shs, zts, sos, sls, zss, eqs, sx, sb1, sb2, sb3, sb4, sb5, sb6, sb7, ↓reduceIte, Nat.reduceAdd, Nat.reduceMul, Nat.reduceDiv, Nat.reduceEqDiff, Nat.reduceLT, Nat.reduceLeDiff, reduceCtorEq, Int.reduceEq, Int.reduceNe, Int.reduceLT, Int.reduceLE, Int.reduceAdd, Int.reduceSub, Int.reduceMul, Int.reduceNeg, Int.reduceToNat, Int.cast_ofNat_Int, Int.natCast_zero, Int.natCast_one, Int.toNat_natCast, Nat.reduceBEq, nzs, stV, hb2.one, hv2.row.one]
  refine CallK.stM (T := fun s => .tup [s, .v (.int .i64 A1.2)]) (fun _ _ => rfl) rfl rfl (r1 M2 h2) fun b3 v3 ws3 M3 hM3 hw3 hb3 hv3 => ?_
  have h3 := h2.trans hM3
  simp only [shs, zts, sos, sls, zss, eqs, sx, sb1, sb2, sb3, sb4, sb5, sb6, sb7, ↓reduceIte, Nat.reduceAdd, Nat.reduceMul, Nat.reduceDiv, Nat.reduceEqDiff, Nat.reduceLT, Nat.reduceLeDiff, reduceCtorEq, Int.reduceEq, Int.reduceNe, Int.reduceLT, Int.reduceLE, Int.reduceAdd, Int.reduceSub, Int.reduceMul, Int.reduceNeg, Int.reduceToNat, Int.cast_ofNat_Int, Int.natCast_zero, Int.natCast_one, Int.toNat_natCast, Nat.reduceBEq, nzs, stV, hb3.one, hv3.row.one]
  refine CallK.stM (T := fun s => .tup [s, .v (.int .i64 A2.2)]) (fun _ _ => rfl) rfl rfl (r2 M3 h3) fun b4 v4 ws4 M4 hM4 hw4 hb4 hv4 => ?_
  simp only [shs, zts, sos, sls, zss, eqs, sx, sb1, sb2, sb3, sb4, sb5, sb6, sb7, ↓reduceIte, Nat.reduceAdd, Nat.reduceMul, Nat.reduceDiv, Nat.reduceEqDiff, Nat.reduceLT, Nat.reduceLeDiff, reduceCtorEq, Int.reduceEq, Int.reduceNe, Int.reduceLT, Int.reduceLE, Int.reduceAdd, Int.reduceSub, Int.reduceMul, Int.reduceNeg, Int.reduceToNat, Int.cast_ofNat_Int, Int.natCast_zero, Int.natCast_one, Int.toNat_natCast, Nat.reduceBEq, nzs, stV, hb4.one, hv4.row.one]
  have t1 := told b1 v1 b3 v3 A1.2 A1.1.1 ws1 ws3 M4 (hw1.trans hw3.symm) (hb1.le ((hM2.trans hM3).trans hM4)) (hb3.le hM4) (hv1.le ((hM2.trans hM3).trans hM4)) (hv3.le hM4)
  have t2 := told b2 v2 b4 v4 A2.2 A2.1.1 ws2 ws4 M4 (hw2.trans hw4.symm) (hb2.le (hM3.trans hM4)) hb4 (hv2.le (hM3.trans hM4)) hv4
  simp only [stV] at t1 t2
  refine CallK.pure ⟨rfl, rfl⟩ rfl t1 ?_
  simp only [shs, zts, sos, sls, zss, eqs, sx, sb1, sb2, sb3, sb4, sb5, sb6, sb7, ↓reduceIte, Nat.reduceAdd, Nat.reduceMul, Nat.reduceDiv, Nat.reduceEqDiff, Nat.reduceLT, Nat.reduceLeDiff, reduceCtorEq, Int.reduceEq, Int.reduceNe, Int.reduceLT, Int.reduceLE, Int.reduceAdd, Int.reduceSub, Int.reduceMul, Int.reduceNeg, Int.reduceToNat, Int.cast_ofNat_Int, Int.natCast_zero, Int.natCast_one, Int.toNat_natCast, Nat.reduceBEq, nzs]
  refine CallK.pure ⟨rfl, rfl⟩ rfl t2 ?_
  simp only [shs, zts, sos, sls, zss, eqs, sx, sb1, sb2, sb3, sb4, sb5, sb6, sb7, ↓reduceIte, Nat.reduceAdd, Nat.reduceMul, Nat.reduceDiv, Nat.reduceEqDiff, Nat.reduceLT, Nat.reduceLeDiff, reduceCtorEq, Int.reduceEq, Int.reduceNe, Int.reduceLT, Int.reduceLE, Int.reduceAdd, Int.reduceSub, Int.reduceMul, Int.reduceNeg, Int.reduceToNat, Int.cast_ofNat_Int, Int.natCast_zero, Int.natCast_one, Int.toNat_natCast, Nat.reduceBEq, nzs]
abbrev StAOk (M : Mem) (a0 : StA) : Prop := (RowM M a0.1.1 4 (a0.1.2.map fun a => [Value.int .i64 a.1] ++ ([Value.int .i64 a.2.1] ++ ([Value.string ⟨a.2.2.1.toArray⟩] ++ [Value.int .i64 a.2.2.2]))) ∧ a0.1.2.length * 40 ≤ reachBytes ∧ ∀ x ∈ a0.1.2, inK .i64 x.1 ∧ inK .i64 x.2.1 ∧ x.2.2.1.length ≤ reachBytes ∧ inK .i64 x.2.2.2) ∧
      RowM M a0.2.1 2 (a0.2.2.map fun a => [Value.string ⟨a.1.toArray⟩] ++ [a.2.1]) ∧ a0.2.2.length * 40 ≤ reachBytes ∧ ∀ x ∈ a0.2.2, x.1.length ≤ reachBytes ∧ RowM M x.2.1 3 (x.2.2.map fun a => [Value.bool a.1] ++ ([Value.int .i64 a.2.1] ++ [Value.int .i64 a.2.2])) ∧ x.2.2.length * 24 ≤ reachBytes ∧ ∀ y ∈ x.2.2, True ∧ inK .i64 y.2.1 ∧ inK .i64 y.2.2
theorem writesL (a0 : StA) (n : List UInt8) (a : Int) (s : List UInt8) (M : Mem) (h0 : StAOk M a0) (_ : n.length ≤ reachBytes) (_ : inK .i64 a) (_ : s.length ≤ reachBytes) :
    Meets Proofs.Tryz.prog 3 [.agg [.v a0.1.1, .v a0.2.1], .v (.string ⟨n.toArray⟩), .v (.int .i64 a), .v (.string ⟨s.toArray⟩)] M fun r _ _ => r = .v (.bool true) :=
  writesW a0.1.1 a0.2.1 a0.1.2 (wsA a0) n a s M h0.1.1 (volsA h0.2.1 fun x hx => (h0.2.2.2 x hx).2.1)
end Go.X.Vo

