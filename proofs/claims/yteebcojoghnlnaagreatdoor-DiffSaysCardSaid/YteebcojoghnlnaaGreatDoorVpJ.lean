/- Volumes: the law DiffSays returns true. Conditions: none. -/
import Derived.Test.YteebcojoghnlnaaGreatDoorMg22
namespace Go.X.Bg
end Go.X.Bg
namespace Go.X.Nm
end Go.X.Nm
namespace Go.X.Bp
end Go.X.Bp
namespace Go.X.Sb
end Go.X.Sb
set_option linter.unusedSimpArgs false
set_option linter.unusedVariables false
set_option maxHeartbeats 4000000
set_option maxRecDepth 20000
namespace Go.X.Vo
open Go Go.X Go.RowKit Go.X.Bg Go.X.Nm Go.X.Bp Go.X.Sb

theorem eqJJ (x y : Value) (l m : List Nat) (M : Mem) (hx : RowM M x 1 (l.map encJ)) (hy : RowM M y 1 (m.map encJ)) (h : l = m) : Meets Proofs.Tryz.prog 21 [.v x, .v y] M fun r _ _ => r = .v (.bool true) := by
  subst h
  have e : l.map encJ = (l.map fun k : Nat => (k : Int)).map encI := by rw [List.map_map]; rfl
  rw [e] at hx hy
  have := eqJ x y _ _ M hx hy
  rw [decide_eq_true rfl] at this
  exact this
theorem same0 (b v : Value) (ws : List WV) (M : Mem) (h : ws.map (·.2) = zSt.2) (hb : RowM M b 4 (zSt.1.map Bg.encT)) (hv : VolsM M v ws) :
    Meets Proofs.Tryz.prog 20 [stV b v, .agg [.v (.slice none 0 0), .v (.slice none 0 0)]] M fun r _ _ => r = .v (.bool true) :=
  samest b v (.slice none 0 0) (.slice none 0 0) [] ws [] M h hb (zero_volsM M).1 hv (zero_volsM M).2
theorem diffW (b v : Value) (bag : List It) (ws : List WV) (n m : Txt) (y : Value) (at' : List Int) (M : Mem) (hb : RowM M b 4 (bag.map Bg.encT)) (hv : VolsM M v ws) (hy : RowM M y 1 (at'.map encI)) :
    Meets Proofs.Tryz.prog 5 [stV b v, .v (.string ⟨n.toArray⟩), .v (.string ⟨m.toArray⟩), .v y] M fun r _ _ => r = .v (.bool true) := by
  refine Meets.of_body [0,1,2,3,4,8,9,10,11,12,13,14,15,16,17,18,19,20,22,23,24,57,59,93,100,102,103,104,119,132,138,139,140,141,151,166,181] Proofs.Tryz.func5 rfl (by kernel_rfl) rfl fun w => ?_
  have hD := Meets.rows (vdiff b v bag ws n m M hb hv)
  have hC : ∀ M', M.le M' → Meets _ _ _ M' _ := fun M' h => vcopy b v bag ws n m y at' M' (hb.le h) (hv.le h) (hy.le h)
  have hS : ∀ M', M.le M' → Meets _ _ _ M' _ := fun M' h => rstate b v bag ws M' (hb.le h) (hv.le h)
  have hV1 : ∀ M', M.le M' → Meets _ _ _ M' _ := fun M' h => rvol b v ws n M' (hv.le h)
  have hV2 : ∀ M', M.le M' → Meets _ _ _ M' _ := fun M' h => rvol b v ws m M' (hv.le h)
  have hDE : diffE bag (ws.map (·.2)) n m = if blkE bag (ws.map (·.2)) n ≠ 0 then blkE bag (ws.map (·.2)) n else if blkE bag (ws.map (·.2)) m ≠ 0 then blkE bag (ws.map (·.2)) m else if (blks (ws.map (·.2)) n).length ≠ (blks (ws.map (·.2)) m).length then 11 else 0 := rfl
  have hDL : diffL bag (ws.map (·.2)) n m = if diffE bag (ws.map (·.2)) n m = 0 then dfL (blks (ws.map (·.2)) n) (blks (ws.map (·.2)) m) (blks (ws.map (·.2)) n).length else [] := rfl
  have hCA : cpA bag (ws.map (·.2)) n m at' = if blkE bag (ws.map (·.2)) n ≠ 0 then (zSt, blkE bag (ws.map (·.2)) n) else if blkE bag (ws.map (·.2)) m ≠ 0 then (zSt, blkE bag (ws.map (·.2)) m) else cpS (blks (ws.map (·.2)) n) n m at' (bag, ws.map (·.2)) := rfl
  simp only [stV] at hD hC hS hV1 hV2
  generalize diffL bag (ws.map (·.2)) n m = L at *
  generalize diffE bag (ws.map (·.2)) n m = e at *
  generalize cpA bag (ws.map (·.2)) n m at' = C at *
  simp only [Proofs.Tryz.f5, stV, shs, zts, sos, sls, zss, eqs, sx, sb1, sb2, sb3, sb4, sb5, sb6, sb7, ↓reduceIte, Nat.reduceAdd, Nat.reduceMul, Nat.reduceDiv, Nat.reduceEqDiff, Nat.reduceLT, Nat.reduceLeDiff, reduceCtorEq, Int.reduceEq, Int.reduceNe, Int.reduceLT, Int.reduceLE, Int.reduceAdd, Int.reduceSub, Int.reduceMul, Int.reduceNeg, Int.reduceToNat, Int.cast_ofNat_Int, Int.natCast_zero, Int.natCast_one, Int.toNat_natCast, Nat.reduceBEq, nzs, hb.one, hv.row.one]
  refine CallK.row (T := fun s => .tup [s, .v (.int .i64 e)]) (Ctx.fst _) rfl rfl hD fun u M1 hM1 hu => ?_
  simp only [shs, zts, sos, sls, zss, eqs, sx, sb1, sb2, sb3, sb4, sb5, sb6, sb7, ↓reduceIte, Nat.reduceAdd, Nat.reduceMul, Nat.reduceDiv, Nat.reduceEqDiff, Nat.reduceLT, Nat.reduceLeDiff, reduceCtorEq, Int.reduceEq, Int.reduceNe, Int.reduceLT, Int.reduceLE, Int.reduceAdd, Int.reduceSub, Int.reduceMul, Int.reduceNeg, Int.reduceToNat, Int.cast_ofNat_Int, Int.natCast_zero, Int.natCast_one, Int.toNat_natCast, Nat.reduceBEq, nzs, hb.one, hv.row.one]
  refine CallK.stM (T := fun s => .tup [s, .v (.int .i64 C.2)]) (fun _ _ => rfl) rfl rfl (hC M1 hM1) fun b1 v1 ws1 M2 hM2 hw1 hb1 hv1 => ?_
  have h02 := hM1.trans hM2
  have hu2 := hu.le hM2
  simp only [shs, zts, sos, sls, zss, eqs, sx, sb1, sb2, sb3, sb4, sb5, sb6, sb7, ↓reduceIte, Nat.reduceAdd, Nat.reduceMul, Nat.reduceDiv, Nat.reduceEqDiff, Nat.reduceLT, Nat.reduceLeDiff, reduceCtorEq, Int.reduceEq, Int.reduceNe, Int.reduceLT, Int.reduceLE, Int.reduceAdd, Int.reduceSub, Int.reduceMul, Int.reduceNeg, Int.reduceToNat, Int.cast_ofNat_Int, Int.natCast_zero, Int.natCast_one, Int.toNat_natCast, Nat.reduceBEq, nzs, stV, hb1.one, hv1.row.one, hb.one, hv.row.one]
  refine CallK.pure ⟨rfl, rfl⟩ rfl (hS M2 h02) ?_
  simp only [shs, zts, sos, sls, zss, eqs, sx, sb1, sb2, sb3, sb4, sb5, sb6, sb7, ↓reduceIte, Nat.reduceAdd, Nat.reduceMul, Nat.reduceDiv, Nat.reduceEqDiff, Nat.reduceLT, Nat.reduceLeDiff, reduceCtorEq, Int.reduceEq, Int.reduceNe, Int.reduceLT, Int.reduceLE, Int.reduceAdd, Int.reduceSub, Int.reduceMul, Int.reduceNeg, Int.reduceToNat, Int.cast_ofNat_Int, Int.natCast_zero, Int.natCast_one, Int.toNat_natCast, Nat.reduceBEq, nzs, hb.one, hv.row.one]
  refine DrawK.ent (X := Unit) (fun _ => True) (fun _ => ([(1, true, .v (.string ⟨n.toArray⟩)), (2, true, .v (.string ⟨m.toArray⟩)), (3, true, .v y), (4, true, .ptr 32 0 0 0), (9, true, .v u), (10, true, .v (.int .i64 e)), (11, true, .ptr 88 0 0 0), (12, true, .v (.int .i64 C.2)), (13, true, .v (.int .i64 (stE bag (ws.map (·.2))))), (14, true, .v (.int .i64 (volIx (ws.map (·.2)) n))), (15, true, .v (.int .i64 (volIx (ws.map (·.2)) m)))], [(88, .box [.v b1, .v v1] none), (32, .box [.v b, .v v] none)], M2)) ?_ ?_
  · refine DrawK.held [32] (tk [0, 1, 3, 4] (.one 2 (.one 5 (tk [6, 7] .done)))) (by kernel_rfl) (by kernel_rfl) fun xs => ?_
    simp only [shs, zts, sos, sls, zss, eqs, sx, sb1, sb2, sb3, sb4, sb5, sb6, sb7, ↓reduceIte, Nat.reduceAdd, Nat.reduceMul, Nat.reduceDiv, Nat.reduceEqDiff, Nat.reduceLT, Nat.reduceLeDiff, reduceCtorEq, Int.reduceEq, Int.reduceNe, Int.reduceLT, Int.reduceLE, Int.reduceAdd, Int.reduceSub, Int.reduceMul, Int.reduceNeg, Int.reduceToNat, Int.cast_ofNat_Int, Int.natCast_zero, Int.natCast_one, Int.toNat_natCast, Nat.reduceBEq, nzs, se1, se2, tks, hb.one, hv.row.one]
    refine CallK.pure ⟨rfl, rfl⟩ rfl (hV1 M2 h02) ?_
    simp only [shs, zts, sos, sls, zss, eqs, sx, sb1, sb2, sb3, sb4, sb5, sb6, sb7, ↓reduceIte, Nat.reduceAdd, Nat.reduceMul, Nat.reduceDiv, Nat.reduceEqDiff, Nat.reduceLT, Nat.reduceLeDiff, reduceCtorEq, Int.reduceEq, Int.reduceNe, Int.reduceLT, Int.reduceLE, Int.reduceAdd, Int.reduceSub, Int.reduceMul, Int.reduceNeg, Int.reduceToNat, Int.cast_ofNat_Int, Int.natCast_zero, Int.natCast_one, Int.toNat_natCast, Nat.reduceBEq, nzs, se1, se2, tks, hb.one, hv.row.one]
    refine CallK.pure ⟨rfl, rfl⟩ rfl (hV2 M2 h02) ?_
    simp only [shs, zts, sos, sls, zss, eqs, sx, sb1, sb2, sb3, sb4, sb5, sb6, sb7, ↓reduceIte, Nat.reduceAdd, Nat.reduceMul, Nat.reduceDiv, Nat.reduceEqDiff, Nat.reduceLT, Nat.reduceLeDiff, reduceCtorEq, Int.reduceEq, Int.reduceNe, Int.reduceLT, Int.reduceLE, Int.reduceAdd, Int.reduceSub, Int.reduceMul, Int.reduceNeg, Int.reduceToNat, Int.cast_ofNat_Int, Int.natCast_zero, Int.natCast_one, Int.toNat_natCast, Nat.reduceBEq, nzs, se1, se2, tks]
    first
      | exact Ent.heap (HEnt.untie (k := 88) rfl) (Ent.heap (HEnt.untie (k := 32) rfl) (Ent.of (by simp only [sx, sb1, sb2, sb3, sb4, sb5, sb6, sb7, ↓reduceIte, Nat.reduceAdd, Nat.reduceMul, Nat.reduceDiv, Nat.reduceEqDiff, Nat.reduceLT, Nat.reduceLeDiff, reduceCtorEq, Int.reduceEq, Int.reduceNe, Int.reduceLT, Int.reduceLE, Int.reduceAdd, Int.reduceSub, Int.reduceMul, Int.reduceNeg, Int.reduceToNat, Int.cast_ofNat_Int, Int.natCast_zero, Int.natCast_one, Int.toNat_natCast, Nat.reduceBEq, hset])))
      | exact ⟨(), Ent.heap (HEnt.untie (k := 88) rfl) (Ent.heap (HEnt.untie (k := 32) rfl) (Ent.of (by simp only [sx, sb1, sb2, sb3, sb4, sb5, sb6, sb7, ↓reduceIte, Nat.reduceAdd, Nat.reduceMul, Nat.reduceDiv, Nat.reduceEqDiff, Nat.reduceLT, Nat.reduceLeDiff, reduceCtorEq, Int.reduceEq, Int.reduceNe, Int.reduceLT, Int.reduceLE, Int.reduceAdd, Int.reduceSub, Int.reduceMul, Int.reduceNeg, Int.reduceToNat, Int.cast_ofNat_Int, Int.natCast_zero, Int.natCast_one, Int.toNat_natCast, Nat.reduceBEq, hset])))⟩
      | done
  rintro _ _
  have hul := hu2.len
  rw [List.length_map] at hul
  -- an error
  by_cases h1 : stE bag (ws.map (·.2)) = 0
  rotate_left
  · have c1 := eq_false h1
    have q1 : blkE bag (ws.map (·.2)) n = stE bag (ws.map (·.2)) := if_pos h1
    rw [q1, if_pos h1] at hDE hCA
    subst hDE hCA
    rw [if_neg h1] at hDL
    subst hDL
    rw [List.length_nil] at hul
    have hs0 := same0 b1 v1 ws1 M2 hw1 hb1 hv1
    simp only [stV] at hs0
    simp only [shs, zts, sos, sls, zss, eqs, sx, sb1, sb2, sb3, sb4, sb5, sb6, sb7, ↓reduceIte, Nat.reduceAdd, Nat.reduceMul, Nat.reduceDiv, Nat.reduceEqDiff, Nat.reduceLT, Nat.reduceLeDiff, reduceCtorEq, Int.reduceEq, Int.reduceNe, Int.reduceLT, Int.reduceLE, Int.reduceAdd, Int.reduceSub, Int.reduceMul, Int.reduceNeg, Int.reduceToNat, Int.cast_ofNat_Int, Int.natCast_zero, Int.natCast_one, Int.toNat_natCast, Nat.reduceBEq, nzs, c1, hul, hu2.sl, hb1.one, hv1.row.one]
    refine CallK.pure ⟨rfl, rfl⟩ rfl hs0 ?_
    simp only [shs, zts, sos, sls, zss, eqs, sx, sb1, sb2, sb3, sb4, sb5, sb6, sb7, ↓reduceIte, Nat.reduceAdd, Nat.reduceMul, Nat.reduceDiv, Nat.reduceEqDiff, Nat.reduceLT, Nat.reduceLeDiff, reduceCtorEq, Int.reduceEq, Int.reduceNe, Int.reduceLT, Int.reduceLE, Int.reduceAdd, Int.reduceSub, Int.reduceMul, Int.reduceNeg, Int.reduceToNat, Int.cast_ofNat_Int, Int.natCast_zero, Int.natCast_one, Int.toNat_natCast, Nat.reduceBEq, nzs]
  by_cases h2 : volIx (ws.map (·.2)) n < 0
  · have c2 := eq_true h2
    have q1 : blkE bag (ws.map (·.2)) n = 4 := by unfold blkE; rw [if_neg (fun h => h h1), if_pos h2]
    rw [q1, if_pos (by decide)] at hDE hCA
    subst hDE hCA
    rw [if_neg (by decide)] at hDL
    subst hDL
    rw [List.length_nil] at hul
    have hs0 := same0 b1 v1 ws1 M2 hw1 hb1 hv1
    simp only [stV] at hs0
    simp only [shs, zts, sos, sls, zss, eqs, sx, sb1, sb2, sb3, sb4, sb5, sb6, sb7, ↓reduceIte, Nat.reduceAdd, Nat.reduceMul, Nat.reduceDiv, Nat.reduceEqDiff, Nat.reduceLT, Nat.reduceLeDiff, reduceCtorEq, Int.reduceEq, Int.reduceNe, Int.reduceLT, Int.reduceLE, Int.reduceAdd, Int.reduceSub, Int.reduceMul, Int.reduceNeg, Int.reduceToNat, Int.cast_ofNat_Int, Int.natCast_zero, Int.natCast_one, Int.toNat_natCast, Nat.reduceBEq, nzs, h1, c2, hul, hu2.sl, hb1.one, hv1.row.one]
    refine CallK.pure ⟨rfl, rfl⟩ rfl hs0 ?_
    simp only [shs, zts, sos, sls, zss, eqs, sx, sb1, sb2, sb3, sb4, sb5, sb6, sb7, ↓reduceIte, Nat.reduceAdd, Nat.reduceMul, Nat.reduceDiv, Nat.reduceEqDiff, Nat.reduceLT, Nat.reduceLeDiff, reduceCtorEq, Int.reduceEq, Int.reduceNe, Int.reduceLT, Int.reduceLE, Int.reduceAdd, Int.reduceSub, Int.reduceMul, Int.reduceNeg, Int.reduceToNat, Int.cast_ofNat_Int, Int.natCast_zero, Int.natCast_one, Int.toNat_natCast, Nat.reduceBEq, nzs]
  have q1 : blkE bag (ws.map (·.2)) n = 0 := by unfold blkE; rw [if_neg (fun h => h h1), if_neg h2]
  have c2 := eq_false h2
  rw [q1, if_neg (fun h => h rfl)] at hDE hCA
  by_cases h3 : volIx (ws.map (·.2)) m < 0
  · have c3 := eq_true h3
    have q2 : blkE bag (ws.map (·.2)) m = 4 := by unfold blkE; rw [if_neg (fun h => h h1), if_pos h3]
    rw [q2, if_pos (by decide)] at hDE hCA
    subst hDE hCA
    rw [if_neg (by decide)] at hDL
    subst hDL
    rw [List.length_nil] at hul
    have hs0 := same0 b1 v1 ws1 M2 hw1 hb1 hv1
    simp only [stV] at hs0
    simp only [shs, zts, sos, sls, zss, eqs, sx, sb1, sb2, sb3, sb4, sb5, sb6, sb7, ↓reduceIte, Nat.reduceAdd, Nat.reduceMul, Nat.reduceDiv, Nat.reduceEqDiff, Nat.reduceLT, Nat.reduceLeDiff, reduceCtorEq, Int.reduceEq, Int.reduceNe, Int.reduceLT, Int.reduceLE, Int.reduceAdd, Int.reduceSub, Int.reduceMul, Int.reduceNeg, Int.reduceToNat, Int.cast_ofNat_Int, Int.natCast_zero, Int.natCast_one, Int.toNat_natCast, Nat.reduceBEq, nzs, h1, c2, c3, hul, hu2.sl, hb1.one, hv1.row.one]
    refine CallK.pure ⟨rfl, rfl⟩ rfl hs0 ?_
    simp only [shs, zts, sos, sls, zss, eqs, sx, sb1, sb2, sb3, sb4, sb5, sb6, sb7, ↓reduceIte, Nat.reduceAdd, Nat.reduceMul, Nat.reduceDiv, Nat.reduceEqDiff, Nat.reduceLT, Nat.reduceLeDiff, reduceCtorEq, Int.reduceEq, Int.reduceNe, Int.reduceLT, Int.reduceLE, Int.reduceAdd, Int.reduceSub, Int.reduceMul, Int.reduceNeg, Int.reduceToNat, Int.cast_ofNat_Int, Int.natCast_zero, Int.natCast_one, Int.toNat_natCast, Nat.reduceBEq, nzs]
  have c3 := eq_false h3
  have q2 : blkE bag (ws.map (·.2)) m = 0 := by unfold blkE; rw [if_neg (fun h => h h1), if_neg h3]
  rw [q2, if_neg (fun h => h rfl)] at hDE hCA
  obtain ⟨j1, x1, k1, k2, k3, k4⟩ := volIx_at h2
  obtain ⟨j2, x2, r1, r2, r3, r4⟩ := volIx_at h3
  rw [blks_at k1 k4] at hDE hCA hDL
  rw [blks_at r1 r4] at hDE hDL
  have hv2 := hv.le h02
  obtain ⟨_, g1, i0⟩ := vol_at hv2 k2
  obtain ⟨_, f1, j0⟩ := vol_at hv2 r2
  have hx1 := hv2.blk x1 (List.mem_of_getElem? k2)
  have hx2 := hv2.blk x2 (List.mem_of_getElem? r2)
  rw [k1] at c2
  rw [r1] at c3
  rw [k1, r1]
  have hx32 : x1.2.2.length ≤ 32 := ((volsE_ok (stE_ok h1).2.1).2 x1.2 (List.mem_of_getElem? k4)).1
  have hsrt := vols_srt (stE_ok h1).2.1
  have hyl := hy.len_le
  rw [List.length_map] at hyl
  rcases Decidable.em (x1.2.2.length = x2.2.2.length) with h4 | h4
  case' inl =>
    have c4 : ((x1.2.2.length : Int) = (x2.2.2.length : Int)) = True := eq_true (by omega)
    rw [if_neg (fun h => h h4)] at hDE
    subst hDE
    rw [if_pos rfl] at hDL
    simp only [shs, zts, sos, sls, zss, eqs, sx, sb1, sb2, sb3, sb4, sb5, sb6, sb7, ↓reduceIte, Nat.reduceAdd, Nat.reduceMul, Nat.reduceDiv, Nat.reduceEqDiff, Nat.reduceLT, Nat.reduceLeDiff, reduceCtorEq, Int.reduceEq, Int.reduceNe, Int.reduceLT, Int.reduceLE, Int.reduceAdd, Int.reduceSub, Int.reduceMul, Int.reduceNeg, Int.reduceToNat, Int.cast_ofNat_Int, Int.natCast_zero, Int.natCast_one, Int.toNat_natCast, Nat.reduceBEq, nzs, h1, c2, c3, i0, i0.2, g1.1, g1.2, j0, j0.2, f1.1, f1.2, hx1.len, hx1.sl, hx2.len, hx2.sl, List.length_map, c4]
    refine LoopK.nilRow 17 100 1 rfl rfl rfl (LoopK.go (X := Nat) (fun i => ([(1, true, .v (.string ⟨n.toArray⟩)), (2, true, .v (.string ⟨m.toArray⟩)), (3, true, .v y), (4, true, .ptr 32 0 0 0), (9, true, .v u), (10, true, .v (.int .i64 0)), (11, true, .ptr 88 0 0 0), (12, true, .v (.int .i64 C.2)), (15, true, .v (.int .i64 j2)), (16, true, .v x1.1), (17, true, .own 800), (102, true, .v (.int .i64 x1.2.2.length)), (103, true, .v (.int .i64 i))], [(800, .row 1 ((dfL x1.2.2 x2.2.2 i).map encJ)), (88, .box [.v b1, .v v1] none), (32, .box [.v b, .v v] none)], M2))
      (fun i => i ≤ x1.2.2.length) (fun i => x1.2.2.length - i) 0 (Nat.zero_le _) (Ent.of ?_) ?_)
    · simp only [sx, sb1, sb2, sb3, sb4, sb5, sb6, sb7, ↓reduceIte, Nat.reduceAdd, Nat.reduceMul, Nat.reduceDiv, Nat.reduceEqDiff, Nat.reduceLT, Nat.reduceLeDiff, reduceCtorEq, Int.reduceEq, Int.reduceNe, Int.reduceLT, Int.reduceLE, Int.reduceAdd, Int.reduceSub, Int.reduceMul, Int.reduceNeg, Int.reduceToNat, Int.cast_ofNat_Int, Int.natCast_zero, Int.natCast_one, Int.toNat_natCast, Nat.reduceBEq, Int.natCast_zero, dfL, List.range_zero, List.filter_nil, List.map_nil]
    intro i n1
    by_cases hil : i < x1.2.2.length
    · have d1 : ((i : Int) < (x1.2.2.length : Int)) = True := eq_true (by omega)
      obtain ⟨p, hp, _⟩ := l_drop_at (l := x1.2.2) (i := i) hil
      obtain ⟨q, hq, _⟩ := l_drop_at (l := x2.2.2) (i := i) (by omega)
      obtain ⟨y0, y1, y2, yi⟩ := id_at hx1 hp
      obtain ⟨z0, z1, z2, zi⟩ := id_at hx2 hq
      have hsucc := dfL_succ x1.2.2 x2.2.2 i
      rw [hp, hq] at hsucc
      simp only [shs, zts, sos, sls, zss, eqs, sx, sb1, sb2, sb3, sb4, sb5, sb6, sb7, ↓reduceIte, Nat.reduceAdd, Nat.reduceMul, Nat.reduceDiv, Nat.reduceEqDiff, Nat.reduceLT, Nat.reduceLeDiff, reduceCtorEq, Int.reduceEq, Int.reduceNe, Int.reduceLT, Int.reduceLE, Int.reduceAdd, Int.reduceSub, Int.reduceMul, Int.reduceNeg, Int.reduceToNat, Int.cast_ofNat_Int, Int.natCast_zero, Int.natCast_one, Int.toNat_natCast, Nat.reduceBEq, nzs, d1]
      refine DrawK.quiet (by kernel_rfl) (by kernel_rfl) ?_
      simp only [shs, zts, sos, sls, zss, eqs, sx, sb1, sb2, sb3, sb4, sb5, sb6, sb7, ↓reduceIte, Nat.reduceAdd, Nat.reduceMul, Nat.reduceDiv, Nat.reduceEqDiff, Nat.reduceLT, Nat.reduceLeDiff, reduceCtorEq, Int.reduceEq, Int.reduceNe, Int.reduceLT, Int.reduceLE, Int.reduceAdd, Int.reduceSub, Int.reduceMul, Int.reduceNeg, Int.reduceToNat, Int.cast_ofNat_Int, Int.natCast_zero, Int.natCast_one, Int.toNat_natCast, Nat.reduceBEq, nzs, j0, j0.2, f1.1, f1.2, yi, yi.2, y0.1, y0.2, y1.1, y1.2, y2.1, y2.2, zi, zi.2, z0.1, z0.2, z1.1, z1.2, z2.1, z2.2]
      have hlen := dfL_len x1.2.2 x2.2.2 i
      refine ⟨fun hne => ⟨?_, by simp only [inK, lo, hi]; omega, i + 1, ⟨by omega, by omega⟩, ?_⟩, fun he => ⟨by simp only [inK, lo, hi]; omega, i + 1, ⟨by omega, by omega⟩, Ent.of ?_⟩⟩
      · rw [List.length_map]
        omega
      · have hpq : ¬ some p = some q := fun e => by
          rw [Option.some.inj e] at hne
          exact hne (by rw [beq_self_eq_true]) rfl rfl
        rw [if_neg hpq] at hsucc
        have hm : (dfL x1.2.2 x2.2.2 i).map encJ ++ [[.int .i64 (i : Int)]] = (dfL x1.2.2 x2.2.2 (i + 1)).map encJ := by rw [hsucc, List.map_append]; rfl
        rw [hm]
        refine Ent.rekey 17 100 984 1 _ rfl rfl rfl rfl (Ent.of ?_)
        simp only [sx, sb1, sb2, sb3, sb4, sb5, sb6, sb7, ↓reduceIte, Nat.reduceAdd, Nat.reduceMul, Nat.reduceDiv, Nat.reduceEqDiff, Nat.reduceLT, Nat.reduceLeDiff, reduceCtorEq, Int.reduceEq, Int.reduceNe, Int.reduceLT, Int.reduceLE, Int.reduceAdd, Int.reduceSub, Int.reduceMul, Int.reduceNeg, Int.reduceToNat, Int.cast_ofNat_Int, Int.natCast_zero, Int.natCast_one, Int.toNat_natCast, Nat.reduceBEq, Int.natCast_add]
      · have hpq : some p = some q := by
          obtain ⟨e1, e2, e3⟩ := he
          obtain ⟨p0, p1, p2⟩ := p
          obtain ⟨q0, q1, q2⟩ := q
          simp only at e1 e2 e3
          rw [beq_iff_eq.1 e1, e2, e3]
        rw [if_pos hpq, List.append_nil] at hsucc
        simp only [sx, sb1, sb2, sb3, sb4, sb5, sb6, sb7, ↓reduceIte, Nat.reduceAdd, Nat.reduceMul, Nat.reduceDiv, Nat.reduceEqDiff, Nat.reduceLT, Nat.reduceLeDiff, reduceCtorEq, Int.reduceEq, Int.reduceNe, Int.reduceLT, Int.reduceLE, Int.reduceAdd, Int.reduceSub, Int.reduceMul, Int.reduceNeg, Int.reduceToNat, Int.cast_ofNat_Int, Int.natCast_zero, Int.natCast_one, Int.toNat_natCast, Nat.reduceBEq, Int.natCast_add, hsucc]
    have d1 : ((i : Int) < (x1.2.2.length : Int)) = False := eq_false (by omega)
    have ei : i = x1.2.2.length := by omega
    subst ei
    simp only [shs, zts, sos, sls, zss, eqs, sx, sb1, sb2, sb3, sb4, sb5, sb6, sb7, ↓reduceIte, Nat.reduceAdd, Nat.reduceMul, Nat.reduceDiv, Nat.reduceEqDiff, Nat.reduceLT, Nat.reduceLeDiff, reduceCtorEq, Int.reduceEq, Int.reduceNe, Int.reduceLT, Int.reduceLE, Int.reduceAdd, Int.reduceSub, Int.reduceMul, Int.reduceNeg, Int.reduceToNat, Int.cast_ofNat_Int, Int.natCast_zero, Int.natCast_one, Int.toNat_natCast, Nat.reduceBEq, nzs, d1]
    refine CallK.lend (k := 800) rfl rfl rfl (fun _ => rfl) (fun v M3 hM3 hv => eqJJ u v L _ M3 (hu2.le hM3) hv hDL) ?_
    simp only [shs, zts, sos, sls, zss, eqs, sx, sb1, sb2, sb3, sb4, sb5, sb6, sb7, ↓reduceIte, Nat.reduceAdd, Nat.reduceMul, Nat.reduceDiv, Nat.reduceEqDiff, Nat.reduceLT, Nat.reduceLeDiff, reduceCtorEq, Int.reduceEq, Int.reduceNe, Int.reduceLT, Int.reduceLE, Int.reduceAdd, Int.reduceSub, Int.reduceMul, Int.reduceNeg, Int.reduceToNat, Int.cast_ofNat_Int, Int.natCast_zero, Int.natCast_one, Int.toNat_natCast, Nat.reduceBEq, nzs, hb.one, hv.row.one]
  case' inr =>
    have c4 : ((x1.2.2.length : Int) = (x2.2.2.length : Int)) = False := eq_false (by omega)
    rw [if_pos h4] at hDE
    subst hDE
    rw [if_neg (by decide)] at hDL
    subst hDL
    rw [List.length_nil] at hul
    simp only [shs, zts, sos, sls, zss, eqs, sx, sb1, sb2, sb3, sb4, sb5, sb6, sb7, ↓reduceIte, Nat.reduceAdd, Nat.reduceMul, Nat.reduceDiv, Nat.reduceEqDiff, Nat.reduceLT, Nat.reduceLeDiff, reduceCtorEq, Int.reduceEq, Int.reduceNe, Int.reduceLT, Int.reduceLE, Int.reduceAdd, Int.reduceSub, Int.reduceMul, Int.reduceNeg, Int.reduceToNat, Int.cast_ofNat_Int, Int.natCast_zero, Int.natCast_one, Int.toNat_natCast, Nat.reduceBEq, nzs, h1, c2, c3, i0, i0.2, g1.1, g1.2, j0, j0.2, f1.1, f1.2, hx1.len, hx1.sl, hx2.len, hx2.sl, List.length_map, c4, hul, hu2.sl, hb.one, hv.row.one]
  all_goals
    have hT := texts b v bag ws M2 (hb.le h02) hv2 h1
    simp only [stV] at hT
    refine CallK.ownN (T := fun (_ : List (List UInt8 × Value)) f => f 0) (P := fun es _ => [.mp (encL encN es)]) (fun x f f' ν ν' h => h 0 (by decide)) (fun x f f' ν ν' h => ⟨fun w y hy => hy, trivial⟩) rfl rfl hT rfl fun es M3 hM3 hes => ?_
    simp only [shs, zts, sos, sls, zss, eqs, sx, sb1, sb2, sb3, sb4, sb5, sb6, sb7, ↓reduceIte, Nat.reduceAdd, Nat.reduceMul, Nat.reduceDiv, Nat.reduceEqDiff, Nat.reduceLT, Nat.reduceLeDiff, reduceCtorEq, Int.reduceEq, Int.reduceNe, Int.reduceLT, Int.reduceLE, Int.reduceAdd, Int.reduceSub, Int.reduceMul, Int.reduceNeg, Int.reduceToNat, Int.cast_ofNat_Int, Int.natCast_zero, Int.natCast_one, Int.toNat_natCast, Nat.reduceBEq, sp1, sp2, sp3, nzs, shA1, shA2, hdel]
    obtain ⟨t, ht, htr⟩ := txt_fnd hes hsrt k2
    rw [k3] at ht
    refine ⟨rfl, OpK.lookup (KeyT.string (by kernel_rfl)) (key := n) (kt := 9) (et := 51) (z := .slice none 0 0) rfl rfl rfl (by kernel_rfl) Proofs.Tryz.zeroValue51 rfl rfl (fun _ => rfl) rfl ?_⟩
    rw [ht]
    have h03 := h02.trans hM3
    simp only [shs, zts, sos, sls, zss, eqs, sx, sb1, sb2, sb3, sb4, sb5, sb6, sb7, ↓reduceIte, Nat.reduceAdd, Nat.reduceMul, Nat.reduceDiv, Nat.reduceEqDiff, Nat.reduceLT, Nat.reduceLeDiff, reduceCtorEq, Int.reduceEq, Int.reduceNe, Int.reduceLT, Int.reduceLE, Int.reduceAdd, Int.reduceSub, Int.reduceMul, Int.reduceNeg, Int.reduceToNat, Int.cast_ofNat_Int, Int.natCast_zero, Int.natCast_one, Int.toNat_natCast, Nat.reduceBEq, nzs, hb.one, hv.row.one, (hy.le h03).len, hy.sl, List.length_map]
    have hlk : lookV (bag, ws.map (·.2)) n = some (x1.2.2.map (obs bag)) := look_get (A := (bag, ws.map (·.2))) k1 k4
    refine LoopK.go (X := Nat × Value × Value × List It × List WV × Mem) (fun z => ([(2, true, .v (.string ⟨m.toArray⟩)), (11, true, .ptr 88 0 0 0), (12, true, .v (.int .i64 C.2)), (16, true, .v x1.1), (19, true, .v t), (20, true, .ptr 160 0 0 0), (138, true, .v y), (139, true, .v (.int .i64 at'.length)), (140, true, .v (.int .i64 z.1))],
        [(160, .box [.v z.2.1, .v z.2.2.1] none), (88, .box [.v b1, .v v1] none)], z.2.2.2.2.2))
      (fun z => (z.1 ≤ at'.length ∧ M3.le z.2.2.2.2.2) ∧ ((RowM z.2.2.2.2.2 z.2.1 4 (z.2.2.2.1.map Bg.encT) ∧ VolsM z.2.2.2.2.2 z.2.2.1 z.2.2.2.2.1) ∧ cpS x1.2.2 n m (at'.drop z.1) (z.2.2.2.1, z.2.2.2.2.1.map (·.2)) = C) ∧ stE z.2.2.2.1 (z.2.2.2.2.1.map (·.2)) = 0 ∧ lookV (z.2.2.2.1, z.2.2.2.2.1.map (·.2)) n = some (x1.2.2.map (obs bag))) (fun z => at'.length - z.1) (0, b, v, bag, ws, M3) ⟨⟨Nat.zero_le _, Mem.le.refl _⟩, ⟨⟨hb.le h03, hv.le h03⟩, hCA.symm⟩, h1, hlk⟩ (Ent.of ?_) ?_
    · simp only [sx, sb1, sb2, sb3, sb4, sb5, sb6, sb7, ↓reduceIte, Nat.reduceAdd, Nat.reduceMul, Nat.reduceDiv, Nat.reduceEqDiff, Nat.reduceLT, Nat.reduceLeDiff, reduceCtorEq, Int.reduceEq, Int.reduceNe, Int.reduceLT, Int.reduceLE, Int.reduceAdd, Int.reduceSub, Int.reduceMul, Int.reduceNeg, Int.reduceToNat, Int.cast_ofNat_Int, Int.natCast_zero, Int.natCast_one, Int.toNat_natCast, Nat.reduceBEq, Int.natCast_zero]
    rintro ⟨i, b4, v4, bag4, ws4, N⟩ ⟨⟨n1, nM⟩, ⟨⟨n2, n3⟩, n4⟩, n5, n6⟩
    simp only at n1 nM n2 n3 n4 n5 n6
    have hbN := hb1.le (hM3.trans nM)
    have hvN := hv1.le (hM3.trans nM)
    by_cases hil : i < at'.length
    rotate_left
    · have d1 : ((i : Int) < (at'.length : Int)) = False := eq_false (by omega)
      rw [List.drop_eq_nil_of_le (by omega)] at n4
      simp only [cpS] at n4
      subst n4
      have hto := told b1 v1 b4 v4 0 bag4 ws1 ws4 N hw1 hbN n2 hvN n3
      simp only [stV] at hto
      simp only [shs, zts, sos, sls, zss, eqs, sx, sb1, sb2, sb3, sb4, sb5, sb6, sb7, ↓reduceIte, Nat.reduceAdd, Nat.reduceMul, Nat.reduceDiv, Nat.reduceEqDiff, Nat.reduceLT, Nat.reduceLeDiff, reduceCtorEq, Int.reduceEq, Int.reduceNe, Int.reduceLT, Int.reduceLE, Int.reduceAdd, Int.reduceSub, Int.reduceMul, Int.reduceNeg, Int.reduceToNat, Int.cast_ofNat_Int, Int.natCast_zero, Int.natCast_one, Int.toNat_natCast, Nat.reduceBEq, nzs, d1, n2.one, n3.row.one, hb1.one, hv1.row.one]
      refine CallK.pure ⟨rfl, rfl⟩ rfl hto ?_
      simp only [shs, zts, sos, sls, zss, eqs, sx, sb1, sb2, sb3, sb4, sb5, sb6, sb7, ↓reduceIte, Nat.reduceAdd, Nat.reduceMul, Nat.reduceDiv, Nat.reduceEqDiff, Nat.reduceLT, Nat.reduceLeDiff, reduceCtorEq, Int.reduceEq, Int.reduceNe, Int.reduceLT, Int.reduceLE, Int.reduceAdd, Int.reduceSub, Int.reduceMul, Int.reduceNeg, Int.reduceToNat, Int.cast_ofNat_Int, Int.natCast_zero, Int.natCast_one, Int.toNat_natCast, Nat.reduceBEq, nzs]
    have d1 : ((i : Int) < (at'.length : Int)) = True := eq_true (by omega)
    obtain ⟨p, hp, hd⟩ := l_drop_at (l := at') (i := i) hil
    rw [hd] at n4
    have hyN := hy.le (h03.trans nM)
    have hxN := hx1.le (hM3.trans nM)
    have htN := htr.le nM
    have p0 := hyN.el1 (enc := encI) (l := at') hp rfl
    have ix := hyN.ix (i := (i : Int)) (by omega) (by rw [List.length_map]; omega)
    simp only [cpS] at n4
    by_cases h5 : p < 0 ∨ (x1.2.2.length : Int) ≤ p
    · rw [if_pos h5] at n4
      subst n4
      have hs0 := same0 b1 v1 ws1 N hw1 hbN hvN
      simp only [stV] at hs0
      by_cases h6 : p < 0
      · have c6 := eq_true h6
        simp only [shs, zts, sos, sls, zss, eqs, sx, sb1, sb2, sb3, sb4, sb5, sb6, sb7, ↓reduceIte, Nat.reduceAdd, Nat.reduceMul, Nat.reduceDiv, Nat.reduceEqDiff, Nat.reduceLT, Nat.reduceLeDiff, reduceCtorEq, Int.reduceEq, Int.reduceNe, Int.reduceLT, Int.reduceLE, Int.reduceAdd, Int.reduceSub, Int.reduceMul, Int.reduceNeg, Int.reduceToNat, Int.cast_ofNat_Int, Int.natCast_zero, Int.natCast_one, Int.toNat_natCast, Nat.reduceBEq, nzs, d1, ix, ix.2, p0.1, p0.2, c6, hb1.one, hv1.row.one]
        refine CallK.pure ⟨rfl, rfl⟩ rfl hs0 ?_
        simp only [shs, zts, sos, sls, zss, eqs, sx, sb1, sb2, sb3, sb4, sb5, sb6, sb7, ↓reduceIte, Nat.reduceAdd, Nat.reduceMul, Nat.reduceDiv, Nat.reduceEqDiff, Nat.reduceLT, Nat.reduceLeDiff, reduceCtorEq, Int.reduceEq, Int.reduceNe, Int.reduceLT, Int.reduceLE, Int.reduceAdd, Int.reduceSub, Int.reduceMul, Int.reduceNeg, Int.reduceToNat, Int.cast_ofNat_Int, Int.natCast_zero, Int.natCast_one, Int.toNat_natCast, Nat.reduceBEq, nzs]
      · have c6 := eq_false h6
        have c7 : ((x1.2.2.length : Int) ≤ p) = True := eq_true (by omega)
        simp only [shs, zts, sos, sls, zss, eqs, sx, sb1, sb2, sb3, sb4, sb5, sb6, sb7, ↓reduceIte, Nat.reduceAdd, Nat.reduceMul, Nat.reduceDiv, Nat.reduceEqDiff, Nat.reduceLT, Nat.reduceLeDiff, reduceCtorEq, Int.reduceEq, Int.reduceNe, Int.reduceLT, Int.reduceLE, Int.reduceAdd, Int.reduceSub, Int.reduceMul, Int.reduceNeg, Int.reduceToNat, Int.cast_ofNat_Int, Int.natCast_zero, Int.natCast_one, Int.toNat_natCast, Nat.reduceBEq, nzs, d1, ix, ix.2, p0.1, p0.2, c6, hxN.len, hxN.sl, List.length_map, c7, hb1.one, hv1.row.one]
        refine CallK.pure ⟨rfl, rfl⟩ rfl hs0 ?_
        simp only [shs, zts, sos, sls, zss, eqs, sx, sb1, sb2, sb3, sb4, sb5, sb6, sb7, ↓reduceIte, Nat.reduceAdd, Nat.reduceMul, Nat.reduceDiv, Nat.reduceEqDiff, Nat.reduceLT, Nat.reduceLeDiff, reduceCtorEq, Int.reduceEq, Int.reduceNe, Int.reduceLT, Int.reduceLE, Int.reduceAdd, Int.reduceSub, Int.reduceMul, Int.reduceNeg, Int.reduceToNat, Int.cast_ofNat_Int, Int.natCast_zero, Int.natCast_one, Int.toNat_natCast, Nat.reduceBEq, nzs]
    rw [if_neg h5] at n4
    have c6 : (p < 0) = False := eq_false (by omega)
    have c7 : ((x1.2.2.length : Int) ≤ p) = False := eq_false (by omega)
    obtain ⟨k, rfl⟩ : ∃ k : Nat, p = k := ⟨p.toNat, by omega⟩
    obtain ⟨id, hid, _⟩ := l_drop_at (l := x1.2.2) (i := k) (by omega)
    obtain ⟨y0, y1, y2, yi⟩ := id_at hxN hid
    rw [Int.toNat_natCast, hid, Option.getD_some] at n4
    have hXk : (x1.2.2.map (obs bag))[k]? = some (obs bag id) := by rw [List.getElem?_map, hid]; rfl
    have hrd := rd_look n5 n6 hXk
    have hs0 : ∀ N', N.le N' → (ws1.map (·.2) = zSt.2) → C.1 = zSt → Meets Proofs.Tryz.prog 20 [stV b1 v1, .agg [.v (.slice none 0 0), .v (.slice none 0 0)]] N' fun r _ _ => r = .v (.bool true) := fun N' h h0 hz => same0 b1 v1 ws1 N' h0 (by rw [← hz]; exact hbN.le h) (hvN.le h)
    simp only [stV] at hs0
    cases hq : id.1 with
    | true =>
      have hob : obs bag id = some (txtId bag id) := if_pos hq
      rw [hob] at hXk hrd
      rw [Option.getD_some] at hrd
      rw [hq] at y0 n4
      simp only [if_true] at n4
      rw [hrd] at n4
      have htE : tE bag id = 43 :: txtId bag id := if_pos hq
      have hcell := htN.el1 (enc := encS) (l := x1.2.2.map (tE bag)) (x := tE bag id) (i := k) (c := .string ⟨(43 :: txtId bag id).toArray⟩) (by rw [List.getElem?_map, hid]; rfl) (by rw [htE]; rfl)
      have hix := htN.ix (i := (k : Int)) (by omega) (by rw [List.length_map, List.length_map]; omega)
      have hR := rdo b4 v4 bag4 ws4 (3, m, [], (k : Int), txtId bag id) N n2 n3
      rw [show doA bag4 (ws4.map (·.2)) (3, m, [], (k : Int), txtId bag id) = writeA bag4 (ws4.map (·.2)) m (k : Int) (txtId bag id) from rfl] at hR
      have hlw := look_writeA (bag := bag4) (l := ws4.map (·.2)) (n := m) (s := txtId bag id) (j := k)
      have hrt := writeA_right bag4 (ws4.map (·.2)) m (k : Int) (txtId bag id)
      simp only [stV, opT] at hR
      generalize writeA bag4 (ws4.map (·.2)) m (k : Int) (txtId bag id) = A at *
      generalize txtId bag id = tx at *
      have ed : List.take (tx.length + 1 - 1) tx = tx := List.take_of_length_le (by omega)
      simp only [shs, zts, sos, sls, zss, eqs, sx, sb1, sb2, sb3, sb4, sb5, sb6, sb7, ↓reduceIte, Nat.reduceAdd, Nat.reduceMul, Nat.reduceDiv, Nat.reduceEqDiff, Nat.reduceLT, Nat.reduceLeDiff, reduceCtorEq, Int.reduceEq, Int.reduceNe, Int.reduceLT, Int.reduceLE, Int.reduceAdd, Int.reduceSub, Int.reduceMul, Int.reduceNeg, Int.reduceToNat, Int.cast_ofNat_Int, Int.natCast_zero, Int.natCast_one, Int.toNat_natCast, Nat.reduceBEq, nzs, d1, ix, ix.2, p0.1, p0.2, c6, hxN.len, hxN.sl, List.length_map, c7, yi, yi.2, y0.1, y0.2]
      refine DrawK.held [] (tk [0, 1, 2, 3, 4, 5] (.one 6 (tk [7] (.one 8 .done)))) (by kernel_rfl) (by kernel_rfl) fun xs => ?_
      simp only [shs, zts, sos, sls, zss, eqs, sx, sb1, sb2, sb3, sb4, sb5, sb6, sb7, ↓reduceIte, Nat.reduceAdd, Nat.reduceMul, Nat.reduceDiv, Nat.reduceEqDiff, Nat.reduceLT, Nat.reduceLeDiff, reduceCtorEq, Int.reduceEq, Int.reduceNe, Int.reduceLT, Int.reduceLE, Int.reduceAdd, Int.reduceSub, Int.reduceMul, Int.reduceNeg, Int.reduceToNat, Int.cast_ofNat_Int, Int.natCast_zero, Int.natCast_one, Int.toNat_natCast, Nat.reduceBEq, nzs, se1, se2, tks, hix, hix.2, hcell.1, hcell.2, ed, n2.one, n3.row.one]
      refine ⟨⟨by omega, Int.le_refl _⟩, CallK.stM (T := fun s => .tup [s, .v (.int .i64 A.2)]) (fun _ _ => rfl) rfl rfl hR fun b5 v5 ws5 M5 hM5 hw5 hb5 hv5 => ?_⟩
      · skip
        have h46 := nM.trans hM5
        by_cases h8 : A.2 = 0
        rotate_left
        · have c8 := eq_false h8
          rw [if_pos h8] at n4
          subst n4
          have hz := hs0 M5 hM5 hw1 rfl
          simp only [shs, zts, sos, sls, zss, eqs, sx, sb1, sb2, sb3, sb4, sb5, sb6, sb7, ↓reduceIte, Nat.reduceAdd, Nat.reduceMul, Nat.reduceDiv, Nat.reduceEqDiff, Nat.reduceLT, Nat.reduceLeDiff, reduceCtorEq, Int.reduceEq, Int.reduceNe, Int.reduceLT, Int.reduceLE, Int.reduceAdd, Int.reduceSub, Int.reduceMul, Int.reduceNeg, Int.reduceToNat, Int.cast_ofNat_Int, Int.natCast_zero, Int.natCast_one, Int.toNat_natCast, Nat.reduceBEq, nzs, stV, c8, hb1.one, hv1.row.one, hb5.one, hv5.row.one]
          refine CallK.pure ⟨rfl, rfl⟩ rfl hz ?_
          simp only [shs, zts, sos, sls, zss, eqs, sx, sb1, sb2, sb3, sb4, sb5, sb6, sb7, ↓reduceIte, Nat.reduceAdd, Nat.reduceMul, Nat.reduceDiv, Nat.reduceEqDiff, Nat.reduceLT, Nat.reduceLeDiff, reduceCtorEq, Int.reduceEq, Int.reduceNe, Int.reduceLT, Int.reduceLE, Int.reduceAdd, Int.reduceSub, Int.reduceMul, Int.reduceNeg, Int.reduceToNat, Int.cast_ofNat_Int, Int.natCast_zero, Int.natCast_one, Int.toNat_natCast, Nat.reduceBEq, nzs]
        · rw [if_neg (fun h => h h8)] at n4
          obtain ⟨X, hX1, _, hX2⟩ := hlw h8
          have hln : lookV A.1 n = some (x1.2.2.map (obs bag)) := by
            rw [hX2 n]
            split
            · rename_i e
              rw [← e, n6] at hX1
              rw [← Option.some.inj hX1, set_same hXk]
            · exact n6
          have hw5' : ws5.map (·.2) = A.1.2 := hw5
          simp only [shs, zts, sos, sls, zss, eqs, sx, sb1, sb2, sb3, sb4, sb5, sb6, sb7, ↓reduceIte, Nat.reduceAdd, Nat.reduceMul, Nat.reduceDiv, Nat.reduceEqDiff, Nat.reduceLT, Nat.reduceLeDiff, reduceCtorEq, Int.reduceEq, Int.reduceNe, Int.reduceLT, Int.reduceLE, Int.reduceAdd, Int.reduceSub, Int.reduceMul, Int.reduceNeg, Int.reduceToNat, Int.cast_ofNat_Int, Int.natCast_zero, Int.natCast_one, Int.toNat_natCast, Nat.reduceBEq, nzs, stV, h8, hb5.one, hv5.row.one, inK, lo, hi]
          refine ⟨by omega, (i + 1, b5, v5, A.1.1, ws5, M5), ⟨⟨⟨by simp only; omega, h46⟩, ⟨⟨hb5, hv5⟩, by simp only [hw5']; exact n4⟩, by simp only [hw5']; exact hrt, by simp only [hw5']; exact hln⟩, by simp only; omega⟩, Ent.heap (HEnt.untie (k := 160) rfl) (Ent.heap (HEnt.untie (k := 88) rfl) (Ent.of ?_))⟩
          simp only [sx, sb1, sb2, sb3, sb4, sb5, sb6, sb7, ↓reduceIte, Nat.reduceAdd, Nat.reduceMul, Nat.reduceDiv, Nat.reduceEqDiff, Nat.reduceLT, Nat.reduceLeDiff, reduceCtorEq, Int.reduceEq, Int.reduceNe, Int.reduceLT, Int.reduceLE, Int.reduceAdd, Int.reduceSub, Int.reduceMul, Int.reduceNeg, Int.reduceToNat, Int.cast_ofNat_Int, Int.natCast_zero, Int.natCast_one, Int.toNat_natCast, Nat.reduceBEq, Int.natCast_add, hset]
    | false =>
      have hob : obs bag id = none := if_neg (by rw [hq]; decide)
      rw [hob] at hXk
      rw [hq] at y0 n4
      simp only [Bool.false_eq_true, if_false] at n4
      have hR := rdo b4 v4 bag4 ws4 (4, m, [], (k : Int), []) N n2 n3
      rw [show doA bag4 (ws4.map (·.2)) (4, m, [], (k : Int), []) = trimA bag4 (ws4.map (·.2)) m (k : Int) from rfl] at hR
      have hlw := look_trimA (bag := bag4) (l := ws4.map (·.2)) (n := m) (j := k)
      have hrt := trimA_right bag4 (ws4.map (·.2)) m (k : Int)
      simp only [stV, opT] at hR
      generalize trimA bag4 (ws4.map (·.2)) m (k : Int) = A at *
      simp only [shs, zts, sos, sls, zss, eqs, sx, sb1, sb2, sb3, sb4, sb5, sb6, sb7, ↓reduceIte, Nat.reduceAdd, Nat.reduceMul, Nat.reduceDiv, Nat.reduceEqDiff, Nat.reduceLT, Nat.reduceLeDiff, reduceCtorEq, Int.reduceEq, Int.reduceNe, Int.reduceLT, Int.reduceLE, Int.reduceAdd, Int.reduceSub, Int.reduceMul, Int.reduceNeg, Int.reduceToNat, Int.cast_ofNat_Int, Int.natCast_zero, Int.natCast_one, Int.toNat_natCast, Nat.reduceBEq, nzs, d1, ix, ix.2, p0.1, p0.2, c6, hxN.len, hxN.sl, List.length_map, c7, yi, yi.2, y0.1, y0.2, n2.one, n3.row.one]
      refine CallK.stM (T := fun s => .tup [s, .v (.int .i64 A.2)]) (fun _ _ => rfl) rfl rfl hR fun b5 v5 ws5 M5 hM5 hw5 hb5 hv5 => ?_
      · skip
        have h46 := nM.trans hM5
        by_cases h8 : A.2 = 0
        rotate_left
        · have c8 := eq_false h8
          rw [if_pos h8] at n4
          subst n4
          have hz := hs0 M5 hM5 hw1 rfl
          simp only [shs, zts, sos, sls, zss, eqs, sx, sb1, sb2, sb3, sb4, sb5, sb6, sb7, ↓reduceIte, Nat.reduceAdd, Nat.reduceMul, Nat.reduceDiv, Nat.reduceEqDiff, Nat.reduceLT, Nat.reduceLeDiff, reduceCtorEq, Int.reduceEq, Int.reduceNe, Int.reduceLT, Int.reduceLE, Int.reduceAdd, Int.reduceSub, Int.reduceMul, Int.reduceNeg, Int.reduceToNat, Int.cast_ofNat_Int, Int.natCast_zero, Int.natCast_one, Int.toNat_natCast, Nat.reduceBEq, nzs, stV, c8, hb1.one, hv1.row.one, hb5.one, hv5.row.one]
          refine CallK.pure ⟨rfl, rfl⟩ rfl hz ?_
          simp only [shs, zts, sos, sls, zss, eqs, sx, sb1, sb2, sb3, sb4, sb5, sb6, sb7, ↓reduceIte, Nat.reduceAdd, Nat.reduceMul, Nat.reduceDiv, Nat.reduceEqDiff, Nat.reduceLT, Nat.reduceLeDiff, reduceCtorEq, Int.reduceEq, Int.reduceNe, Int.reduceLT, Int.reduceLE, Int.reduceAdd, Int.reduceSub, Int.reduceMul, Int.reduceNeg, Int.reduceToNat, Int.cast_ofNat_Int, Int.natCast_zero, Int.natCast_one, Int.toNat_natCast, Nat.reduceBEq, nzs]
        · rw [if_neg (fun h => h h8)] at n4
          obtain ⟨X, hX1, _, hX2⟩ := hlw h8
          have hln : lookV A.1 n = some (x1.2.2.map (obs bag)) := by
            rw [hX2 n]
            split
            · rename_i e
              rw [← e, n6] at hX1
              rw [← Option.some.inj hX1, set_same hXk]
            · exact n6
          have hw5' : ws5.map (·.2) = A.1.2 := hw5
          simp only [shs, zts, sos, sls, zss, eqs, sx, sb1, sb2, sb3, sb4, sb5, sb6, sb7, ↓reduceIte, Nat.reduceAdd, Nat.reduceMul, Nat.reduceDiv, Nat.reduceEqDiff, Nat.reduceLT, Nat.reduceLeDiff, reduceCtorEq, Int.reduceEq, Int.reduceNe, Int.reduceLT, Int.reduceLE, Int.reduceAdd, Int.reduceSub, Int.reduceMul, Int.reduceNeg, Int.reduceToNat, Int.cast_ofNat_Int, Int.natCast_zero, Int.natCast_one, Int.toNat_natCast, Nat.reduceBEq, nzs, stV, h8, hb5.one, hv5.row.one, inK, lo, hi]
          refine ⟨by omega, (i + 1, b5, v5, A.1.1, ws5, M5), ⟨⟨⟨by simp only; omega, h46⟩, ⟨⟨hb5, hv5⟩, by simp only [hw5']; exact n4⟩, by simp only [hw5']; exact hrt, by simp only [hw5']; exact hln⟩, by simp only; omega⟩, Ent.of ?_⟩
          simp only [sx, sb1, sb2, sb3, sb4, sb5, sb6, sb7, ↓reduceIte, Nat.reduceAdd, Nat.reduceMul, Nat.reduceDiv, Nat.reduceEqDiff, Nat.reduceLT, Nat.reduceLeDiff, reduceCtorEq, Int.reduceEq, Int.reduceNe, Int.reduceLT, Int.reduceLE, Int.reduceAdd, Int.reduceSub, Int.reduceMul, Int.reduceNeg, Int.reduceToNat, Int.cast_ofNat_Int, Int.natCast_zero, Int.natCast_one, Int.toNat_natCast, Nat.reduceBEq, Int.natCast_add, hset]
theorem diffSaysL (a0 : StA) (n m : Txt) (y : Value × List Int) (M : Mem) (h0 : StAOk M a0) (_ : n.length ≤ reachBytes) (_ : m.length ≤ reachBytes) (hy : RowM M y.1 1 (y.2.map fun a => [Value.int .i64 a]) ∧ y.2.length * 8 ≤ reachBytes ∧ ∀ x ∈ y.2, inK .i64 x) :
    Meets Proofs.Tryz.prog 5 [.agg [.v a0.1.1, .v a0.2.1], .v (.string ⟨n.toArray⟩), .v (.string ⟨m.toArray⟩), .v y.1] M fun r _ _ => r = .v (.bool true) :=
  diffW a0.1.1 a0.2.1 a0.1.2 (wsA a0) n m y.1 y.2 M h0.1.1 (volsA h0.2.1 fun x hx => (h0.2.2.2 x hx).2.1) hy.1
end Go.X.Vo

