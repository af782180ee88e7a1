/- Contracts of functions and the logic that they are proved in (3 texts in one). Conditions: none. -/
import Derived.Test.YteebcojoghnlnaaMg18
import Derived.Test.YteebcojoghnlnaaMg13
import Derived.Test.YteebcojoghnlnaaMg10
import Derived.Test.YteebcojoghnlnaaMg14
import Derived.Test.YteebcojoghnlnaaMg16
namespace Go.X.Bg
end Go.X.Bg
namespace Go.X.Nm
end Go.X.Nm
namespace Go.X.Bp
end Go.X.Bp
namespace Go.X.Sb
end Go.X.Sb
set_option linter.unusedSimpArgs false
set_option linter.unusedVariables false
set_option maxHeartbeats 4000000
set_option maxRecDepth 20000
namespace Go.X.Vo
open Go Go.X Go.RowKit Go.X.Bg Go.X.Nm Go.X.Bp Go.X.Sb

theorem vclone (b v : Value) (bag : List It) (ws : List WV) (n to : List UInt8) (M : Mem) (hb : RowM M b 4 (bag.map Bg.encT)) (hv : VolsM M v ws) :
    Meets Proofs.Try.prog 10 [stV b v, .v (.string ⟨n.toArray⟩), .v (.string ⟨to.toArray⟩)] M (StM (fun s => .tup [s, .v (.int .i64 (cloneA bag (ws.map (·.2)) n to).2)]) (cloneA bag (ws.map (·.2)) n to).1) := by
  refine Meets.settleM (Ctx.fst _) ?_
  refine Meets.of_body [0,1,2,3,6,7,8,9,10,11,13,14,18,25,31,41,42,43,44,52] Proofs.Try.func10 rfl (by kernel_rfl) rfl fun w => ?_
  generalize hc : cloneA bag (ws.map (·.2)) n to = c
  unfold cloneA at hc
  have hC := vcheck b v bag ws M hb hv
  have hF := find b v ws n M hv
  simp only [stV] at hC hF
  simp only [Proofs.Try.f10, stV, shs, zts, sos, sls, zss, eqs, sx, sb1, sb2, sb3, sb4, sb5, sb6, sb7, ↓reduceIte, Nat.reduceAdd, Nat.reduceMul, Nat.reduceDiv, Nat.reduceEqDiff, Nat.reduceLT, Nat.reduceLeDiff, reduceCtorEq, Int.reduceEq, Int.reduceNe, Int.reduceLT, Int.reduceLE, Int.reduceAdd, Int.reduceSub, Int.reduceMul, Int.reduceNeg, Int.reduceToNat, Int.cast_ofNat_Int, Int.natCast_zero, Int.natCast_one, Int.toNat_natCast, Nat.reduceBEq, nzs]
  refine CallK.pure ⟨rfl, rfl⟩ rfl hC ?_
  by_cases h1 : stE bag (ws.map (·.2)) = 0
  rotate_left
  · have c1 := eq_false h1
    rw [if_pos h1] at hc
    subst hc
    simp only [shs, zts, sos, sls, zss, eqs, sx, sb1, sb2, sb3, sb4, sb5, sb6, sb7, ↓reduceIte, Nat.reduceAdd, Nat.reduceMul, Nat.reduceDiv, Nat.reduceEqDiff, Nat.reduceLT, Nat.reduceLeDiff, reduceCtorEq, Int.reduceEq, Int.reduceNe, Int.reduceLT, Int.reduceLE, Int.reduceAdd, Int.reduceSub, Int.reduceMul, Int.reduceNeg, Int.reduceToNat, Int.cast_ofNat_Int, Int.natCast_zero, Int.natCast_one, Int.toNat_natCast, Nat.reduceBEq, nzs, c1]
    exact stO_zero _ _ _
  rw [if_neg (fun h => h h1)] at hc
  obtain ⟨hB, hV, _⟩ := stE_ok h1
  have hVo := volsE_ok hV
  have hbl := bag_len hB
  have hsrt := vols_srt hV
  rw [List.length_map] at hVo
  have hli : ∀ w ∈ ws, w.2.2.length ≤ 32 := fun w hw => (hVo.2 w.2 (List.mem_map_of_mem hw)).1
  simp only [shs, zts, sos, sls, zss, eqs, sx, sb1, sb2, sb3, sb4, sb5, sb6, sb7, ↓reduceIte, Nat.reduceAdd, Nat.reduceMul, Nat.reduceDiv, Nat.reduceEqDiff, Nat.reduceLT, Nat.reduceLeDiff, reduceCtorEq, Int.reduceEq, Int.reduceNe, Int.reduceLT, Int.reduceLE, Int.reduceAdd, Int.reduceSub, Int.reduceMul, Int.reduceNeg, Int.reduceToNat, Int.cast_ofNat_Int, Int.natCast_zero, Int.natCast_one, Int.toNat_natCast, Nat.reduceBEq, nzs, h1]
  refine CallK.pure ⟨rfl, rfl⟩ rfl hF ?_
  by_cases h2 : volIx (ws.map (·.2)) n < 0
  · have c2 := eq_true h2
    rw [if_pos h2] at hc
    subst hc
    simp only [shs, zts, sos, sls, zss, eqs, sx, sb1, sb2, sb3, sb4, sb5, sb6, sb7, ↓reduceIte, Nat.reduceAdd, Nat.reduceMul, Nat.reduceDiv, Nat.reduceEqDiff, Nat.reduceLT, Nat.reduceLeDiff, reduceCtorEq, Int.reduceEq, Int.reduceNe, Int.reduceLT, Int.reduceLE, Int.reduceAdd, Int.reduceSub, Int.reduceMul, Int.reduceNeg, Int.reduceToNat, Int.cast_ofNat_Int, Int.natCast_zero, Int.natCast_one, Int.toNat_natCast, Nat.reduceBEq, nzs, c2]
    exact stO_zero _ _ _
  have c2 := eq_false h2
  rw [if_neg h2] at hc
  obtain ⟨i, x, k1, k2, k3, k4⟩ := volIx_at h2
  have hFr := vfresh b v ws to M hv hVo.1
  simp only [stV] at hFr
  rw [k1] at c2 hc ⊢
  simp only [Int.toNat_natCast] at hc
  simp only [shs, zts, sos, sls, zss, eqs, sx, sb1, sb2, sb3, sb4, sb5, sb6, sb7, ↓reduceIte, Nat.reduceAdd, Nat.reduceMul, Nat.reduceDiv, Nat.reduceEqDiff, Nat.reduceLT, Nat.reduceLeDiff, reduceCtorEq, Int.reduceEq, Int.reduceNe, Int.reduceLT, Int.reduceLE, Int.reduceAdd, Int.reduceSub, Int.reduceMul, Int.reduceNeg, Int.reduceToNat, Int.cast_ofNat_Int, Int.natCast_zero, Int.natCast_one, Int.toNat_natCast, Nat.reduceBEq, nzs, c2]
  refine CallK.pure ⟨rfl, rfl⟩ rfl hFr ?_
  by_cases h4 : freshE (ws.map (·.2)) to = 0
  rotate_left
  · have c4 := eq_false h4
    rw [if_pos h4] at hc
    subst hc
    simp only [shs, zts, sos, sls, zss, eqs, sx, sb1, sb2, sb3, sb4, sb5, sb6, sb7, ↓reduceIte, Nat.reduceAdd, Nat.reduceMul, Nat.reduceDiv, Nat.reduceEqDiff, Nat.reduceLT, Nat.reduceLeDiff, reduceCtorEq, Int.reduceEq, Int.reduceNe, Int.reduceLT, Int.reduceLE, Int.reduceAdd, Int.reduceSub, Int.reduceMul, Int.reduceNeg, Int.reduceToNat, Int.cast_ofNat_Int, Int.natCast_zero, Int.natCast_one, Int.toNat_natCast, Nat.reduceBEq, nzs, c4]
    exact stO_zero _ _ _
  rw [if_neg (fun h => h h4)] at hc
  subst hc
  have hcp := copied b v bag ws M hb hv (by omega) (by omega) (fun w hw => Nat.le_trans (hli w hw) (by omega))
  simp only [stV] at hcp
  simp only [shs, zts, sos, sls, zss, eqs, sx, sb1, sb2, sb3, sb4, sb5, sb6, sb7, ↓reduceIte, Nat.reduceAdd, Nat.reduceMul, Nat.reduceDiv, Nat.reduceEqDiff, Nat.reduceLT, Nat.reduceLeDiff, reduceCtorEq, Int.reduceEq, Int.reduceNe, Int.reduceLT, Int.reduceLE, Int.reduceAdd, Int.reduceSub, Int.reduceMul, Int.reduceNeg, Int.reduceToNat, Int.cast_ofNat_Int, Int.natCast_zero, Int.natCast_one, Int.toNat_natCast, Nat.reduceBEq, nzs, h4]
  refine CallK.stF (T := fun s => s) (fun _ _ => rfl) rfl rfl hcp fun b2 v2 ws2 M2 hM2 hw2 hS => ?_
  have hw2' : ws2.map (·.2) = ws.map (·.2) := hw2
  obtain ⟨x2, hx2, e2⟩ := ws_at hw2' k4
  have hx2m := List.mem_of_getElem? hx2
  obtain ⟨_, g1, i0⟩ := vol_at hS.volsM hx2
  have hblk := hS.blk x2 hx2m
  have hbll := hblk.row.len_le
  have hl2 := ws_len hw2'
  have hil : i < ws.length := (List.getElem?_eq_some_iff.1 k2).1
  have hl32 : x2.2.2.length ≤ 32 := by rw [e2]; exact hli x (List.mem_of_getElem? k2)
  have hrf0 : ∀ z ∈ bag, 0 ≤ z.2.2.2 ∧ z.2.2.2 ≤ 1000000 := fun z hz => by
    have := (oneE_ok (bag_ok hB z hz)).2.2
    omega
  rw [List.length_map] at hbll
  simp only [shs, zts, sos, sls, zss, eqs, sx, sb1, sb2, sb3, sb4, sb5, sb6, sb7, ↓reduceIte, Nat.reduceAdd, Nat.reduceMul, Nat.reduceDiv, Nat.reduceEqDiff, Nat.reduceLT, Nat.reduceLeDiff, reduceCtorEq, Int.reduceEq, Int.reduceNe, Int.reduceLT, Int.reduceLE, Int.reduceAdd, Int.reduceSub, Int.reduceMul, Int.reduceNeg, Int.reduceToNat, Int.cast_ofNat_Int, Int.natCast_zero, Int.natCast_one, Int.toNat_natCast, Nat.reduceBEq, nzs, stV, hS.bag.row.one, hS.vols.row.one, i0, i0.2, g1.1, g1.2, hblk.row.len, hblk.row.sl, List.length_map]
  refine LoopK.go (X := Nat × Mem) (fun z => ([(2, true, .v (.string ⟨to.toArray⟩)), (3, true, .ptr 24 0 0 0), (6, true, .ptr 48 0 0 0), (9, true, .v (.int .i64 i)), (11, true, .ptr 88 0 0 0), (41, true, .v x2.1), (42, true, .v (.int .i64 x2.2.2.length)), (43, true, .v (.int .i64 z.1))],
      [(88, .box [.v b2, .v v2] none), (48, .box [.v (.slice none 0 0), .v (.slice none 0 0)] none), (24, .box [.v b, .v v] none)], z.2))
    (fun z => (z.1 ≤ x2.2.2.length ∧ M.le z.2) ∧ StF M z.2 b2 v2 ((x2.2.2.take z.1).foldl incId bag) ws2) (fun z => x2.2.2.length - z.1) (0, M2) ⟨⟨Nat.zero_le _, hM2⟩, hS⟩ (Ent.of ?_) ?_
  · simp only [sx, sb1, sb2, sb3, sb4, sb5, sb6, sb7, ↓reduceIte, Nat.reduceAdd, Nat.reduceMul, Nat.reduceDiv, Nat.reduceEqDiff, Nat.reduceLT, Nat.reduceLeDiff, reduceCtorEq, Int.reduceEq, Int.reduceNe, Int.reduceLT, Int.reduceLE, Int.reduceAdd, Int.reduceSub, Int.reduceMul, Int.reduceNeg, Int.reduceToNat, Int.cast_ofNat_Int, Int.natCast_zero, Int.natCast_one, Int.toNat_natCast, Nat.reduceBEq, Int.natCast_zero]
  rintro ⟨j, N⟩ ⟨⟨n1, nM⟩, n2⟩
  simp only at n1 nM n2
  have hblkN := n2.blk x2 hx2m
  by_cases hjl : j < x2.2.2.length
  · have d1 : ((j : Int) < (x2.2.2.length : Int)) = True := eq_true (by omega)
    obtain ⟨y, hy, _⟩ := l_drop_at (l := x2.2.2) (i := j) hjl
    obtain ⟨y0, y1, y2, yi⟩ := id_at hblkN.row hy
    have hst := foldl_take incId bag hy
    have hrf := incIds_ref (x2.2.2.take j) hrf0
    have htl : (x2.2.2.take j).length ≤ 32 := by rw [List.length_take]; omega
    have hblen := incIds_len (x2.2.2.take j) bag
    generalize (x2.2.2.take j).foldl incId bag = bj at *
    have hFi := Bg.find b2 bj y N n2.bag.row
    simp only [idV] at hFi
    simp only [shs, zts, sos, sls, zss, eqs, sx, sb1, sb2, sb3, sb4, sb5, sb6, sb7, ↓reduceIte, Nat.reduceAdd, Nat.reduceMul, Nat.reduceDiv, Nat.reduceEqDiff, Nat.reduceLT, Nat.reduceLeDiff, reduceCtorEq, Int.reduceEq, Int.reduceNe, Int.reduceLT, Int.reduceLE, Int.reduceAdd, Int.reduceSub, Int.reduceMul, Int.reduceNeg, Int.reduceToNat, Int.cast_ofNat_Int, Int.natCast_zero, Int.natCast_one, Int.toNat_natCast, Nat.reduceBEq, nzs, d1, yi, yi.2, y0.1, y0.2, y1.1, y1.2, y2.1, y2.2]
    refine CallK.pure ⟨rfl, rfl⟩ rfl hFi ?_
    rw [show fidx (isId y) bj 0 = idIx bj y from rfl]
    by_cases h5 : 0 ≤ idIx bj y
    · have d2 := eq_true h5
      rcases fidx_sp (isId y) bj 0 with ⟨q1, _⟩ | ⟨k, z, q1, q2, q3, _⟩
      · rw [show idIx bj y = fidx (isId y) bj 0 from rfl, q1] at h5; exact absurd h5 (by decide)
      rw [Nat.zero_add] at q1
      replace q1 : idIx bj y = (k : Int) := q1
      have e3 : incId bj y = setR bj k (z.2.2.2 + 1) := by
        unfold incId
        rw [if_pos h5, q1, Int.toNat_natCast, atI_at q2]
      rw [e3] at hst
      have hzr := hrf z (List.mem_of_getElem? q2)
      have hkl := (List.getElem?_eq_some_iff.1 q2).1
      obtain ⟨_, ⟨_, z3⟩, zi⟩ := it_at n2.bag.row q2
      have hg := getD_it q2
      rw [q1] at d2 ⊢
      simp only [shs, zts, sos, sls, zss, eqs, sx, sb1, sb2, sb3, sb4, sb5, sb6, sb7, ↓reduceIte, Nat.reduceAdd, Nat.reduceMul, Nat.reduceDiv, Nat.reduceEqDiff, Nat.reduceLT, Nat.reduceLeDiff, reduceCtorEq, Int.reduceEq, Int.reduceNe, Int.reduceLT, Int.reduceLE, Int.reduceAdd, Int.reduceSub, Int.reduceMul, Int.reduceNeg, Int.reduceToNat, Int.cast_ofNat_Int, Int.natCast_zero, Int.natCast_one, Int.toNat_natCast, Nat.reduceBEq, nzs, d2, zi, zi.2, z3.1, z3.2, stRD_ea, inK, lo, hi]
      refine ⟨by omega, ?_⟩
      refine OpK.turnF (es := bj.map Bg.encT) rfl rfl (of_eq_true so3) rfl rfl rfl rfl (by rw [sh3]; rfl) n2.bag n2.fb (by rw [List.length_map]; exact hkl) (Nat.le_refl 4) fun M4 hb4 hr4 => ?_
      have hr5 : RowF M4 b2 4 ((setR bj k (z.2.2.2 + 1)).map Bg.encT) := by
        rw [hg] at hr4
        rw [← setR_map q2]
        exact hr4
      have hS4 := n2.turnBag hb4 hr5
      have hM4 := le_but nM n2.fb hb4
      simp only [shs, zts, sos, sls, zss, eqs, sx, sb1, sb2, sb3, sb4, sb5, sb6, sb7, ↓reduceIte, Nat.reduceAdd, Nat.reduceMul, Nat.reduceDiv, Nat.reduceEqDiff, Nat.reduceLT, Nat.reduceLeDiff, reduceCtorEq, Int.reduceEq, Int.reduceNe, Int.reduceLT, Int.reduceLE, Int.reduceAdd, Int.reduceSub, Int.reduceMul, Int.reduceNeg, Int.reduceToNat, Int.cast_ofNat_Int, Int.natCast_zero, Int.natCast_one, Int.toNat_natCast, Nat.reduceBEq, nzs, inK, lo, hi]
      refine ⟨by omega, (j + 1, M4), ⟨⟨⟨by simp only; omega, hM4⟩, by simp only [hst]; exact hS4⟩, by simp only; omega⟩, Ent.of ?_⟩
      simp only [sx, sb1, sb2, sb3, sb4, sb5, sb6, sb7, ↓reduceIte, Nat.reduceAdd, Nat.reduceMul, Nat.reduceDiv, Nat.reduceEqDiff, Nat.reduceLT, Nat.reduceLeDiff, reduceCtorEq, Int.reduceEq, Int.reduceNe, Int.reduceLT, Int.reduceLE, Int.reduceAdd, Int.reduceSub, Int.reduceMul, Int.reduceNeg, Int.reduceToNat, Int.cast_ofNat_Int, Int.natCast_zero, Int.natCast_one, Int.toNat_natCast, Nat.reduceBEq, Int.natCast_add]
    · have d2 := eq_false h5
      have e3 : incId bj y = bj := if_neg h5
      rw [e3] at hst
      simp only [shs, zts, sos, sls, zss, eqs, sx, sb1, sb2, sb3, sb4, sb5, sb6, sb7, ↓reduceIte, Nat.reduceAdd, Nat.reduceMul, Nat.reduceDiv, Nat.reduceEqDiff, Nat.reduceLT, Nat.reduceLeDiff, reduceCtorEq, Int.reduceEq, Int.reduceNe, Int.reduceLT, Int.reduceLE, Int.reduceAdd, Int.reduceSub, Int.reduceMul, Int.reduceNeg, Int.reduceToNat, Int.cast_ofNat_Int, Int.natCast_zero, Int.natCast_one, Int.toNat_natCast, Nat.reduceBEq, nzs, d2, inK, lo, hi]
      refine ⟨by omega, (j + 1, N), ⟨⟨⟨by simp only; omega, nM⟩, by simp only [hst]; exact n2⟩, by simp only; omega⟩, Ent.of ?_⟩
      simp only [sx, sb1, sb2, sb3, sb4, sb5, sb6, sb7, ↓reduceIte, Nat.reduceAdd, Nat.reduceMul, Nat.reduceDiv, Nat.reduceEqDiff, Nat.reduceLT, Nat.reduceLeDiff, reduceCtorEq, Int.reduceEq, Int.reduceNe, Int.reduceLT, Int.reduceLE, Int.reduceAdd, Int.reduceSub, Int.reduceMul, Int.reduceNeg, Int.reduceToNat, Int.cast_ofNat_Int, Int.natCast_zero, Int.natCast_one, Int.toNat_natCast, Nat.reduceBEq, Int.natCast_add]
  · have d1 : ((j : Int) < (x2.2.2.length : Int)) = False := eq_false (by omega)
    rw [List.take_of_length_le (by omega)] at n2
    obtain ⟨_, gN, iN⟩ := vol_at n2.volsM hx2
    simp only [shs, zts, sos, sls, zss, eqs, sx, sb1, sb2, sb3, sb4, sb5, sb6, sb7, ↓reduceIte, Nat.reduceAdd, Nat.reduceMul, Nat.reduceDiv, Nat.reduceEqDiff, Nat.reduceLT, Nat.reduceLeDiff, reduceCtorEq, Int.reduceEq, Int.reduceNe, Int.reduceLT, Int.reduceLE, Int.reduceAdd, Int.reduceSub, Int.reduceMul, Int.reduceNeg, Int.reduceToNat, Int.cast_ofNat_Int, Int.natCast_zero, Int.natCast_one, Int.toNat_natCast, Nat.reduceBEq, nzs, d1]
    refine DrawK.heldT 10 [88] (tk [0, 1, 2, 4, 3, 5, 6, 7] (.one 8 (tk [9] .done))) (by kernel_rfl) (by kernel_rfl) fun xs => ?_
    simp only [shs, zts, sos, sls, zss, eqs, sx, sb1, sb2, sb3, sb4, sb5, sb6, sb7, ↓reduceIte, Nat.reduceAdd, Nat.reduceMul, Nat.reduceDiv, Nat.reduceEqDiff, Nat.reduceLT, Nat.reduceLeDiff, reduceCtorEq, Int.reduceEq, Int.reduceNe, Int.reduceLT, Int.reduceLE, Int.reduceAdd, Int.reduceSub, Int.reduceMul, Int.reduceNeg, Int.reduceToNat, Int.cast_ofNat_Int, Int.natCast_zero, Int.natCast_one, Int.toNat_natCast, Nat.reduceBEq, nzs, se1, se2, tks, iN, iN.2, gN.1, gN.2]
    refine CallK.rowF Ctx.id rfl rfl (cloneI x2.1 x2.2.2 N hblkN.row (by omega)) fun u M3 hM3 hu huf => ?_
    simp only [shs, zts, sos, sls, zss, eqs, sx, sb1, sb2, sb3, sb4, sb5, sb6, sb7, ↓reduceIte, Nat.reduceAdd, Nat.reduceMul, Nat.reduceDiv, Nat.reduceEqDiff, Nat.reduceLT, Nat.reduceLeDiff, reduceCtorEq, Int.reduceEq, Int.reduceNe, Int.reduceLT, Int.reduceLE, Int.reduceAdd, Int.reduceSub, Int.reduceMul, Int.reduceNeg, Int.reduceToNat, Int.cast_ofNat_Int, Int.natCast_zero, Int.natCast_one, Int.toNat_natCast, Nat.reduceBEq, sp1, sp2, sp3, nzs, se1, se2, tks, oneVs hu.row.sl, hu.row.one]
    refine ⟨hM3, ?_⟩
    refine CallK.claim (A := fun s => [.agg [.v b2, s], wvV (u, to, x2.2.2)]) 1000 (hA_add b2 (wvV (u, to, x2.2.2)) rfl) rfl (n2.vols.le hM3) n2.fv rfl rfl fun M4 hb4 => ?_
    refine CallK.lendR (A := fun s => [.agg [.v b2, s], wvV (u, to, x2.2.2)]) (T := fun s => .agg [.v b2, s]) 8000 (hA_add b2 (wvV (u, to, x2.2.2)) rfl) (hT_agg b2) rfl rfl rfl (fun M6 _ => add b2 ws2 (u, to, x2.2.2) M6 n2.bag.row.one (fun w hw => (n2.blk w hw).row.one) hu.row.one (by rw [hw2']; exact hsrt) (by omega)) rfl ?_
    obtain ⟨q1, q2, q3⟩ := n2.added (n := to) nM hM3 hu huf hb4
    simp only [shs, zts, sos, sls, zss, eqs, sx, sb1, sb2, sb3, sb4, sb5, sb6, sb7, ↓reduceIte, Nat.reduceAdd, Nat.reduceMul, Nat.reduceDiv, Nat.reduceEqDiff, Nat.reduceLT, Nat.reduceLeDiff, reduceCtorEq, Int.reduceEq, Int.reduceNe, Int.reduceLT, Int.reduceLE, Int.reduceAdd, Int.reduceSub, Int.reduceMul, Int.reduceNeg, Int.reduceToNat, Int.cast_ofNat_Int, Int.natCast_zero, Int.natCast_one, Int.toNat_natCast, Nat.reduceBEq, sp1, sp2, sp3, nzs, se1, se2, tks, n2.bag.row.one]
    refine ⟨.v b2, .own 584, insW ws2 (u, to, x2.2.2), rfl, ?_, fun k h => (by cases h), ⟨?_, rfl⟩, q3⟩
    · rw [insW_map, hw2']
      simp only [cloneS, volAt_at k4, e2]
    · simp only [cloneS, volAt_at k4]
      rw [e2] at q2
      exact q2
end Go.X.Vo

namespace Go.X.Vo
open Go Go.X Go.RowKit Go.X.Bg Go.X.Nm Go.X.Bp Go.X.Sb

def encJ (k : Nat) : List Value := [.int .i64 (k : Int)]
/-- the places where two lists of ids differ -/
def dfL (x y : List Id3) (n : Nat) : List Nat := (List.range n).filter fun i => !decide (x[i]? = y[i]?)
theorem dfL_succ (x y : List Id3) (n : Nat) : dfL x y (n + 1) = dfL x y n ++ if x[n]? = y[n]? then [] else [n] := by
  unfold dfL
  rw [List.range_succ, List.filter_append]
  congr 1
  by_cases h : x[n]? = y[n]?
  · rw [if_pos h, List.filter_cons, decide_eq_true h]; rfl
  · rw [if_neg h, List.filter_cons, decide_eq_false h]; rfl
theorem dfL_len (x y : List Id3) (n : Nat) : (dfL x y n).length ≤ n := Nat.le_trans (List.length_filter_le _ _) (by rw [List.length_range]; exact Nat.le_refl _)
def diffE (bag : List It) (l : List Vol) (a b : Txt) : Int := if blkE bag l a ≠ 0 then blkE bag l a else if blkE bag l b ≠ 0 then blkE bag l b else if (blks l a).length ≠ (blks l b).length then 11 else 0
def diffL (bag : List It) (l : List Vol) (a b : Txt) : List Nat := if diffE bag l a b = 0 then dfL (blks l a) (blks l b) (blks l a).length else []
theorem blk32 {bag : List It} {l : List Vol} {n : Txt} (h : blkE bag l n = 0) : (blks l n).length ≤ 32 := by
  unfold blkE at h
  by_cases h1 : stE bag l = 0
  · rw [if_neg (fun h => h h1)] at h
    by_cases h2 : volIx l n < 0
    · rw [if_pos h2] at h; cases h
    · obtain ⟨j, x, e, hx, _⟩ := volIx_get h2
      rw [blks_at e hx]
      exact ((volsE_ok (stE_ok h1).2.1).2 x (List.mem_of_getElem? hx)).1
  · rw [if_pos h1] at h; exact absurd h h1
theorem vdiff (b v : Value) (bag : List It) (ws : List WV) (n m : Txt) (M : Mem) (hb : RowM M b 4 (bag.map Bg.encT)) (hv : VolsM M v ws) :
    Meets Proofs.Try.prog 13 [stV b v, .v (.string ⟨n.toArray⟩), .v (.string ⟨m.toArray⟩)] M (OwnR (fun s => .tup [s, .v (.int .i64 (diffE bag (ws.map (·.2)) n m))]) 1 ((diffL bag (ws.map (·.2)) n m).map encJ)) := by
  refine Meets.nilOr (Ctx.fst _) ?_
  refine Meets.of_body [0,1,2,3,6,7,8,9,10,11,12,20,29,35,37,38,39,49] Proofs.Try.func13 rfl (by kernel_rfl) rfl fun w => ?_
  have hB1 := Meets.rows (blocks b v bag ws n M hb hv)
  have hB2 : ∀ M', M.le M' → Meets _ _ _ M' _ := fun M' h => Meets.rows (blocks b v bag ws m M' (hb.le h) (hv.le h))
  generalize hL : diffL bag (ws.map (·.2)) n m = L
  generalize hE : diffE bag (ws.map (·.2)) n m = e
  unfold diffL at hL
  rw [hE] at hL
  unfold diffE at hE
  unfold blkL at hB1 hB2
  have h32 := blk32 (bag := bag) (l := ws.map (·.2)) (n := n)
  generalize blkE bag (ws.map (·.2)) n = e1 at *
  generalize blkE bag (ws.map (·.2)) m = e2 at *
  generalize blks (ws.map (·.2)) n = x at *
  generalize blks (ws.map (·.2)) m = y at *
  simp only [stV] at hB1 hB2
  simp only [Proofs.Try.f13, stV, shs, zts, sos, sls, zss, eqs, sx, sb1, sb2, sb3, sb4, sb5, sb6, sb7, ↓reduceIte, Nat.reduceAdd, Nat.reduceMul, Nat.reduceDiv, Nat.reduceEqDiff, Nat.reduceLT, Nat.reduceLeDiff, reduceCtorEq, Int.reduceEq, Int.reduceNe, Int.reduceLT, Int.reduceLE, Int.reduceAdd, Int.reduceSub, Int.reduceMul, Int.reduceNeg, Int.reduceToNat, Int.cast_ofNat_Int, Int.natCast_zero, Int.natCast_one, Int.toNat_natCast, Nat.reduceBEq, nzs, hb.one, hv.row.one]
  refine CallK.row (T := fun s => .tup [s, .v (.int .i64 e1)]) (Ctx.fst _) rfl rfl hB1 fun u M1 hM1 hu => ?_
  by_cases h1 : e1 = 0
  rotate_left
  · have c1 := eq_false h1
    rw [if_pos h1] at hE
    subst hE
    rw [if_neg h1] at hL
    subst hL
    simp only [shs, zts, sos, sls, zss, eqs, sx, sb1, sb2, sb3, sb4, sb5, sb6, sb7, ↓reduceIte, Nat.reduceAdd, Nat.reduceMul, Nat.reduceDiv, Nat.reduceEqDiff, Nat.reduceLT, Nat.reduceLeDiff, reduceCtorEq, Int.reduceEq, Int.reduceNe, Int.reduceLT, Int.reduceLE, Int.reduceAdd, Int.reduceSub, Int.reduceMul, Int.reduceNeg, Int.reduceToNat, Int.cast_ofNat_Int, Int.natCast_zero, Int.natCast_one, Int.toNat_natCast, Nat.reduceBEq, nzs, c1]
  subst h1
  rw [if_neg (fun h => h rfl)] at hE
  rw [if_pos rfl] at hu
  simp only [shs, zts, sos, sls, zss, eqs, sx, sb1, sb2, sb3, sb4, sb5, sb6, sb7, ↓reduceIte, Nat.reduceAdd, Nat.reduceMul, Nat.reduceDiv, Nat.reduceEqDiff, Nat.reduceLT, Nat.reduceLeDiff, reduceCtorEq, Int.reduceEq, Int.reduceNe, Int.reduceLT, Int.reduceLE, Int.reduceAdd, Int.reduceSub, Int.reduceMul, Int.reduceNeg, Int.reduceToNat, Int.cast_ofNat_Int, Int.natCast_zero, Int.natCast_one, Int.toNat_natCast, Nat.reduceBEq, nzs]
  refine CallK.row (T := fun s => .tup [s, .v (.int .i64 e2)]) (Ctx.fst _) rfl rfl (hB2 M1 hM1) fun t M2 hM2 ht => ?_
  by_cases h2 : e2 = 0
  rotate_left
  · have c2 := eq_false h2
    rw [if_pos h2] at hE
    subst hE
    rw [if_neg h2] at hL
    subst hL
    simp only [shs, zts, sos, sls, zss, eqs, sx, sb1, sb2, sb3, sb4, sb5, sb6, sb7, ↓reduceIte, Nat.reduceAdd, Nat.reduceMul, Nat.reduceDiv, Nat.reduceEqDiff, Nat.reduceLT, Nat.reduceLeDiff, reduceCtorEq, Int.reduceEq, Int.reduceNe, Int.reduceLT, Int.reduceLE, Int.reduceAdd, Int.reduceSub, Int.reduceMul, Int.reduceNeg, Int.reduceToNat, Int.cast_ofNat_Int, Int.natCast_zero, Int.natCast_one, Int.toNat_natCast, Nat.reduceBEq, nzs, c2]
  subst h2
  rw [if_neg (fun h => h rfl)] at hE
  rw [if_pos rfl] at ht
  have hu2 := hu.le hM2
  have hx32 := h32 rfl
  by_cases h3 : x.length = y.length
  rotate_left
  · have c3 : ((x.length : Int) = (y.length : Int)) = False := eq_false (by omega)
    rw [if_pos h3] at hE
    subst hE
    rw [if_neg (by decide)] at hL
    subst hL
    simp only [shs, zts, sos, sls, zss, eqs, sx, sb1, sb2, sb3, sb4, sb5, sb6, sb7, ↓reduceIte, Nat.reduceAdd, Nat.reduceMul, Nat.reduceDiv, Nat.reduceEqDiff, Nat.reduceLT, Nat.reduceLeDiff, reduceCtorEq, Int.reduceEq, Int.reduceNe, Int.reduceLT, Int.reduceLE, Int.reduceAdd, Int.reduceSub, Int.reduceMul, Int.reduceNeg, Int.reduceToNat, Int.cast_ofNat_Int, Int.natCast_zero, Int.natCast_one, Int.toNat_natCast, Nat.reduceBEq, nzs, hu2.len, hu2.sl, ht.len, ht.sl, List.length_map, c3]
  have c3 : ((x.length : Int) = (y.length : Int)) = True := eq_true (by omega)
  rw [if_neg (fun h => h h3)] at hE
  subst hE
  rw [if_pos rfl] at hL
  simp only [shs, zts, sos, sls, zss, eqs, sx, sb1, sb2, sb3, sb4, sb5, sb6, sb7, ↓reduceIte, Nat.reduceAdd, Nat.reduceMul, Nat.reduceDiv, Nat.reduceEqDiff, Nat.reduceLT, Nat.reduceLeDiff, reduceCtorEq, Int.reduceEq, Int.reduceNe, Int.reduceLT, Int.reduceLE, Int.reduceAdd, Int.reduceSub, Int.reduceMul, Int.reduceNeg, Int.reduceToNat, Int.cast_ofNat_Int, Int.natCast_zero, Int.natCast_one, Int.toNat_natCast, Nat.reduceBEq, nzs, hu2.len, hu2.sl, ht.len, ht.sl, List.length_map, c3]
  refine LoopK.nilRow 11 100 1 rfl rfl rfl (LoopK.go (X := Nat) (fun i => ([(8, true, .v u), (10, true, .v t), (11, true, .own 800), (37, true, .v (.int .i64 x.length)), (38, true, .v (.int .i64 i))], [(800, .row 1 ((dfL x y i).map encJ))], M2))
    (fun i => i ≤ x.length) (fun i => x.length - i) 0 (Nat.zero_le _) (Ent.of ?_) ?_)
  · simp only [sx, sb1, sb2, sb3, sb4, sb5, sb6, sb7, ↓reduceIte, Nat.reduceAdd, Nat.reduceMul, Nat.reduceDiv, Nat.reduceEqDiff, Nat.reduceLT, Nat.reduceLeDiff, reduceCtorEq, Int.reduceEq, Int.reduceNe, Int.reduceLT, Int.reduceLE, Int.reduceAdd, Int.reduceSub, Int.reduceMul, Int.reduceNeg, Int.reduceToNat, Int.cast_ofNat_Int, Int.natCast_zero, Int.natCast_one, Int.toNat_natCast, Nat.reduceBEq, Int.natCast_zero, dfL, List.range_zero, List.filter_nil, List.map_nil]
  intro i n1
  by_cases hil : i < x.length
  rotate_left
  · have d1 : ((i : Int) < (x.length : Int)) = False := eq_false (by omega)
    have ei : i = x.length := by omega
    subst ei
    rw [hL]
    simp only [shs, zts, sos, sls, zss, eqs, sx, sb1, sb2, sb3, sb4, sb5, sb6, sb7, ↓reduceIte, Nat.reduceAdd, Nat.reduceMul, Nat.reduceDiv, Nat.reduceEqDiff, Nat.reduceLT, Nat.reduceLeDiff, reduceCtorEq, Int.reduceEq, Int.reduceNe, Int.reduceLT, Int.reduceLE, Int.reduceAdd, Int.reduceSub, Int.reduceMul, Int.reduceNeg, Int.reduceToNat, Int.cast_ofNat_Int, Int.natCast_zero, Int.natCast_one, Int.toNat_natCast, Nat.reduceBEq, nzs, d1]
    exact .inr ⟨800, rfl, rfl⟩
  have d1 : ((i : Int) < (x.length : Int)) = True := eq_true (by omega)
  obtain ⟨p, hp, _⟩ := l_drop_at (l := x) (i := i) hil
  obtain ⟨q, hq, _⟩ := l_drop_at (l := y) (i := i) (by omega)
  obtain ⟨y0, y1, y2, yi⟩ := id_at hu2 hp
  obtain ⟨z0, z1, z2, zi⟩ := id_at ht hq
  have hsucc := dfL_succ x y i
  rw [hp, hq] at hsucc
  simp only [shs, zts, sos, sls, zss, eqs, sx, sb1, sb2, sb3, sb4, sb5, sb6, sb7, ↓reduceIte, Nat.reduceAdd, Nat.reduceMul, Nat.reduceDiv, Nat.reduceEqDiff, Nat.reduceLT, Nat.reduceLeDiff, reduceCtorEq, Int.reduceEq, Int.reduceNe, Int.reduceLT, Int.reduceLE, Int.reduceAdd, Int.reduceSub, Int.reduceMul, Int.reduceNeg, Int.reduceToNat, Int.cast_ofNat_Int, Int.natCast_zero, Int.natCast_one, Int.toNat_natCast, Nat.reduceBEq, nzs, d1]
  refine DrawK.quiet (by kernel_rfl) (by kernel_rfl) ?_
  simp only [shs, zts, sos, sls, zss, eqs, sx, sb1, sb2, sb3, sb4, sb5, sb6, sb7, ↓reduceIte, Nat.reduceAdd, Nat.reduceMul, Nat.reduceDiv, Nat.reduceEqDiff, Nat.reduceLT, Nat.reduceLeDiff, reduceCtorEq, Int.reduceEq, Int.reduceNe, Int.reduceLT, Int.reduceLE, Int.reduceAdd, Int.reduceSub, Int.reduceMul, Int.reduceNeg, Int.reduceToNat, Int.cast_ofNat_Int, Int.natCast_zero, Int.natCast_one, Int.toNat_natCast, Nat.reduceBEq, nzs, yi, yi.2, y0.1, y0.2, y1.1, y1.2, y2.1, y2.2, zi, zi.2, z0.1, z0.2, z1.1, z1.2, z2.1, z2.2]
  have hlen := dfL_len x y i
  refine ⟨fun hne => ⟨?_, by simp only [inK, lo, hi]; omega, i + 1, ⟨by omega, by omega⟩, ?_⟩, fun he => ⟨by simp only [inK, lo, hi]; omega, i + 1, ⟨by omega, by omega⟩, Ent.of ?_⟩⟩
  · rw [List.length_map]
    omega
  · have hpq : ¬ some p = some q := fun e => by
      rw [Option.some.inj e] at hne
      exact hne (by rw [beq_self_eq_true]) rfl rfl
    rw [if_neg hpq] at hsucc
    have hm : (dfL x y i).map encJ ++ [[.int .i64 (i : Int)]] = (dfL x y (i + 1)).map encJ := by rw [hsucc, List.map_append]; rfl
    rw [hm]
    refine Ent.rekey 11 100 424 1 _ rfl rfl rfl rfl (Ent.of ?_)
    simp only [sx, sb1, sb2, sb3, sb4, sb5, sb6, sb7, ↓reduceIte, Nat.reduceAdd, Nat.reduceMul, Nat.reduceDiv, Nat.reduceEqDiff, Nat.reduceLT, Nat.reduceLeDiff, reduceCtorEq, Int.reduceEq, Int.reduceNe, Int.reduceLT, Int.reduceLE, Int.reduceAdd, Int.reduceSub, Int.reduceMul, Int.reduceNeg, Int.reduceToNat, Int.cast_ofNat_Int, Int.natCast_zero, Int.natCast_one, Int.toNat_natCast, Nat.reduceBEq, Int.natCast_add]
  · have hpq : some p = some q := by
      obtain ⟨e1, e2, e3⟩ := he
      obtain ⟨p0, p1, p2⟩ := p
      obtain ⟨q0, q1, q2⟩ := q
      simp only at e1 e2 e3
      rw [beq_iff_eq.1 e1, e2, e3]
    rw [if_pos hpq, List.append_nil] at hsucc
    simp only [sx, sb1, sb2, sb3, sb4, sb5, sb6, sb7, ↓reduceIte, Nat.reduceAdd, Nat.reduceMul, Nat.reduceDiv, Nat.reduceEqDiff, Nat.reduceLT, Nat.reduceLeDiff, reduceCtorEq, Int.reduceEq, Int.reduceNe, Int.reduceLT, Int.reduceLE, Int.reduceAdd, Int.reduceSub, Int.reduceMul, Int.reduceNeg, Int.reduceToNat, Int.cast_ofNat_Int, Int.natCast_zero, Int.natCast_one, Int.toNat_natCast, Nat.reduceBEq, Int.natCast_add, hsucc]
/-! ### copies -/
def cpS (x : List Id3) (n m : Txt) : List Int → St → St × Int
  | [], A => (A, 0)
  | i :: r, A =>
    if i < 0 ∨ (x.length : Int) ≤ i then (zSt, 1) else
    if (if ((x[i.toNat]?).getD hole).1 = true then writeA A.1 A.2 m i (rdS A.1 A.2 n i) else trimA A.1 A.2 m i).2 ≠ 0 then (zSt, (if ((x[i.toNat]?).getD hole).1 = true then writeA A.1 A.2 m i (rdS A.1 A.2 n i) else trimA A.1 A.2 m i).2) else
    cpS x n m r (if ((x[i.toNat]?).getD hole).1 = true then writeA A.1 A.2 m i (rdS A.1 A.2 n i) else trimA A.1 A.2 m i).1
def cpA (bag : List It) (l : List Vol) (n m : Txt) (at' : List Int) : St × Int :=
  if blkE bag l n ≠ 0 then (zSt, blkE bag l n) else if blkE bag l m ≠ 0 then (zSt, blkE bag l m) else cpS (blks l n) n m at' (bag, l)
theorem vcopy (b v : Value) (bag : List It) (ws : List WV) (n m : Txt) (y : Value) (at' : List Int) (M : Mem) (hb : RowM M b 4 (bag.map Bg.encT)) (hv : VolsM M v ws) (hy : RowM M y 1 (at'.map encI)) :
    Meets Proofs.Try.prog 17 [stV b v, .v (.string ⟨n.toArray⟩), .v (.string ⟨m.toArray⟩), .v y] M (StM (fun s => .tup [s, .v (.int .i64 (cpA bag (ws.map (·.2)) n m at').2)]) (cpA bag (ws.map (·.2)) n m at').1) := by
  refine Meets.of_body [0,1,2,3,4,8,9,10,11,13,14,16,17,18,27,37,42,43,44,45,55,61,85] Proofs.Try.func17 rfl (by kernel_rfl) rfl fun w => ?_
  have hB1 := Meets.rows (blocks b v bag ws n M hb hv)
  have hB2 : ∀ M', M.le M' → Meets _ _ _ M' _ := fun M' h => Meets.rows (blocks b v bag ws m M' (hb.le h) (hv.le h))
  generalize hc : cpA bag (ws.map (·.2)) n m at' = c
  unfold cpA at hc
  unfold blkL at hB1 hB2
  have h32 := blk32 (bag := bag) (l := ws.map (·.2)) (n := n)
  have hok : blkE bag (ws.map (·.2)) n = 0 → stE bag (ws.map (·.2)) = 0 := fun h => by
    unfold blkE at h
    by_cases h1 : stE bag (ws.map (·.2)) = 0
    · exact h1
    · rw [if_pos h1] at h; exact h
  generalize blkE bag (ws.map (·.2)) n = e1 at *
  generalize blkE bag (ws.map (·.2)) m = e2 at *
  generalize blks (ws.map (·.2)) n = x at *
  generalize blks (ws.map (·.2)) m = x2 at *
  simp only [stV] at hB1 hB2
  simp only [Proofs.Try.f17, stV, shs, zts, sos, sls, zss, eqs, sx, sb1, sb2, sb3, sb4, sb5, sb6, sb7, ↓reduceIte, Nat.reduceAdd, Nat.reduceMul, Nat.reduceDiv, Nat.reduceEqDiff, Nat.reduceLT, Nat.reduceLeDiff, reduceCtorEq, Int.reduceEq, Int.reduceNe, Int.reduceLT, Int.reduceLE, Int.reduceAdd, Int.reduceSub, Int.reduceMul, Int.reduceNeg, Int.reduceToNat, Int.cast_ofNat_Int, Int.natCast_zero, Int.natCast_one, Int.toNat_natCast, Nat.reduceBEq, nzs, hb.one, hv.row.one]
  refine CallK.row (T := fun s => .tup [s, .v (.int .i64 e1)]) (Ctx.fst _) rfl rfl hB1 fun u M1 hM1 hu => ?_
  by_cases h1 : e1 = 0
  rotate_left
  · have c1 := eq_false h1
    rw [if_pos h1] at hc
    subst hc
    simp only [shs, zts, sos, sls, zss, eqs, sx, sb1, sb2, sb3, sb4, sb5, sb6, sb7, ↓reduceIte, Nat.reduceAdd, Nat.reduceMul, Nat.reduceDiv, Nat.reduceEqDiff, Nat.reduceLT, Nat.reduceLeDiff, reduceCtorEq, Int.reduceEq, Int.reduceNe, Int.reduceLT, Int.reduceLE, Int.reduceAdd, Int.reduceSub, Int.reduceMul, Int.reduceNeg, Int.reduceToNat, Int.cast_ofNat_Int, Int.natCast_zero, Int.natCast_one, Int.toNat_natCast, Nat.reduceBEq, nzs, c1]
    exact ⟨_, _, [], rfl, rfl, RowM.nil _ _, zero_volsM _ |>.2⟩
  subst h1
  rw [if_neg (fun h => h rfl)] at hc
  rw [if_pos rfl] at hu
  simp only [shs, zts, sos, sls, zss, eqs, sx, sb1, sb2, sb3, sb4, sb5, sb6, sb7, ↓reduceIte, Nat.reduceAdd, Nat.reduceMul, Nat.reduceDiv, Nat.reduceEqDiff, Nat.reduceLT, Nat.reduceLeDiff, reduceCtorEq, Int.reduceEq, Int.reduceNe, Int.reduceLT, Int.reduceLE, Int.reduceAdd, Int.reduceSub, Int.reduceMul, Int.reduceNeg, Int.reduceToNat, Int.cast_ofNat_Int, Int.natCast_zero, Int.natCast_one, Int.toNat_natCast, Nat.reduceBEq, nzs, hb.one, hv.row.one]
  refine CallK.row (T := fun s => .tup [s, .v (.int .i64 e2)]) (Ctx.fst _) rfl rfl (hB2 M1 hM1) fun t M2 hM2 ht => ?_
  by_cases h2 : e2 = 0
  rotate_left
  · have c2 := eq_false h2
    rw [if_pos h2] at hc
    subst hc
    simp only [shs, zts, sos, sls, zss, eqs, sx, sb1, sb2, sb3, sb4, sb5, sb6, sb7, ↓reduceIte, Nat.reduceAdd, Nat.reduceMul, Nat.reduceDiv, Nat.reduceEqDiff, Nat.reduceLT, Nat.reduceLeDiff, reduceCtorEq, Int.reduceEq, Int.reduceNe, Int.reduceLT, Int.reduceLE, Int.reduceAdd, Int.reduceSub, Int.reduceMul, Int.reduceNeg, Int.reduceToNat, Int.cast_ofNat_Int, Int.natCast_zero, Int.natCast_one, Int.toNat_natCast, Nat.reduceBEq, nzs, c2]
    exact ⟨_, _, [], rfl, rfl, RowM.nil _ _, zero_volsM _ |>.2⟩
  subst h2
  rw [if_neg (fun h => h rfl)] at hc
  have h12 := hM1.trans hM2
  have hb2 := hb.le h12
  have hv2 := hv.le h12
  have hs := hok rfl
  obtain ⟨hB, hV, _⟩ := stE_ok hs
  have hVo := volsE_ok hV
  have hbl := bag_len hB
  rw [List.length_map] at hVo
  have hli : ∀ w ∈ ws, w.2.2.length ≤ 32 := fun w hw => (hVo.2 w.2 (List.mem_map_of_mem hw)).1
  have hcp := (copied b v bag ws M2 hb2 hv2 (by omega) (by omega) (fun w hw => Nat.le_trans (hli w hw) (by omega))).mono (fun r H M' _ h => h.weak)
  simp only [stV] at hcp
  have hyl := hy.len_le
  rw [List.length_map] at hyl
  simp only [shs, zts, sos, sls, zss, eqs, sx, sb1, sb2, sb3, sb4, sb5, sb6, sb7, ↓reduceIte, Nat.reduceAdd, Nat.reduceMul, Nat.reduceDiv, Nat.reduceEqDiff, Nat.reduceLT, Nat.reduceLeDiff, reduceCtorEq, Int.reduceEq, Int.reduceNe, Int.reduceLT, Int.reduceLE, Int.reduceAdd, Int.reduceSub, Int.reduceMul, Int.reduceNeg, Int.reduceToNat, Int.cast_ofNat_Int, Int.natCast_zero, Int.natCast_one, Int.toNat_natCast, Nat.reduceBEq, nzs, hb.one, hv.row.one]
  refine CallK.stM (T := fun s => s) (fun _ _ => rfl) rfl rfl hcp fun b3 v3 ws3 M3 hM3 hw3 hb3 hv3 => ?_
  have h23 := h12.trans hM3
  simp only [shs, zts, sos, sls, zss, eqs, sx, sb1, sb2, sb3, sb4, sb5, sb6, sb7, ↓reduceIte, Nat.reduceAdd, Nat.reduceMul, Nat.reduceDiv, Nat.reduceEqDiff, Nat.reduceLT, Nat.reduceLeDiff, reduceCtorEq, Int.reduceEq, Int.reduceNe, Int.reduceLT, Int.reduceLE, Int.reduceAdd, Int.reduceSub, Int.reduceMul, Int.reduceNeg, Int.reduceToNat, Int.cast_ofNat_Int, Int.natCast_zero, Int.natCast_one, Int.toNat_natCast, Nat.reduceBEq, nzs, stV, hb3.one, hv3.row.one, (hy.le h23).len, hy.sl, List.length_map]
  have hw3' : ws3.map (·.2) = ws.map (·.2) := hw3
  refine LoopK.go (X := Nat × Value × Value × List It × List WV × Mem) (fun z => ([(1, true, .v (.string ⟨n.toArray⟩)), (2, true, .v (.string ⟨m.toArray⟩)), (8, true, .ptr 64 0 0 0), (10, true, .v u), (14, true, .ptr 112 0 0 0), (42, true, .v y), (43, true, .v (.int .i64 at'.length)), (44, true, .v (.int .i64 z.1))],
      [(112, .box [.v z.2.1, .v z.2.2.1] none), (64, .box [.v (.slice none 0 0), .v (.slice none 0 0)] none)], z.2.2.2.2.2))
    (fun z => (z.1 ≤ at'.length ∧ M3.le z.2.2.2.2.2) ∧ (RowM z.2.2.2.2.2 z.2.1 4 (z.2.2.2.1.map Bg.encT) ∧ VolsM z.2.2.2.2.2 z.2.2.1 z.2.2.2.2.1) ∧ cpS x n m (at'.drop z.1) (z.2.2.2.1, z.2.2.2.2.1.map (·.2)) = c) (fun z => at'.length - z.1) (0, b3, v3, bag, ws3, M3) ⟨⟨Nat.zero_le _, Mem.le.refl _⟩, ⟨hb3, hv3⟩, by simp only [List.drop_zero, hw3']; exact hc⟩ (Ent.of ?_) ?_
  · simp only [sx, sb1, sb2, sb3, sb4, sb5, sb6, sb7, ↓reduceIte, Nat.reduceAdd, Nat.reduceMul, Nat.reduceDiv, Nat.reduceEqDiff, Nat.reduceLT, Nat.reduceLeDiff, reduceCtorEq, Int.reduceEq, Int.reduceNe, Int.reduceLT, Int.reduceLE, Int.reduceAdd, Int.reduceSub, Int.reduceMul, Int.reduceNeg, Int.reduceToNat, Int.cast_ofNat_Int, Int.natCast_zero, Int.natCast_one, Int.toNat_natCast, Nat.reduceBEq, Int.natCast_zero]
  rintro ⟨i, b4, v4, bag4, ws4, N⟩ ⟨⟨n1, nM⟩, ⟨n2, n3⟩, n4⟩
  simp only at n1 nM n2 n3 n4
  by_cases hil : i < at'.length
  rotate_left
  · have d1 : ((i : Int) < (at'.length : Int)) = False := eq_false (by omega)
    rw [List.drop_eq_nil_of_le (by omega)] at n4
    simp only [cpS] at n4
    subst n4
    simp only [shs, zts, sos, sls, zss, eqs, sx, sb1, sb2, sb3, sb4, sb5, sb6, sb7, ↓reduceIte, Nat.reduceAdd, Nat.reduceMul, Nat.reduceDiv, Nat.reduceEqDiff, Nat.reduceLT, Nat.reduceLeDiff, reduceCtorEq, Int.reduceEq, Int.reduceNe, Int.reduceLT, Int.reduceLE, Int.reduceAdd, Int.reduceSub, Int.reduceMul, Int.reduceNeg, Int.reduceToNat, Int.cast_ofNat_Int, Int.natCast_zero, Int.natCast_one, Int.toNat_natCast, Nat.reduceBEq, nzs, d1, n2.one, n3.row.one]
    exact ⟨b4, v4, ws4, rfl, rfl, n2, n3⟩
  have d1 : ((i : Int) < (at'.length : Int)) = True := eq_true (by omega)
  obtain ⟨p, hp, hd⟩ := l_drop_at (l := at') (i := i) hil
  rw [hd] at n4
  have hyN := hy.le (h23.trans nM)
  have huN := hu.le ((hM2.trans hM3).trans nM)
  have g0 := hyN.el1 (enc := encI) (l := at') hp rfl
  have ix := hyN.ix (i := (i : Int)) (by omega) (by rw [List.length_map]; omega)
  simp only [cpS] at n4
  have hx32 := h32 rfl
  by_cases h3 : p < 0
  · have c3 := eq_true h3
    rw [if_pos (.inl h3)] at n4
    subst n4
    simp only [shs, zts, sos, sls, zss, eqs, sx, sb1, sb2, sb3, sb4, sb5, sb6, sb7, ↓reduceIte, Nat.reduceAdd, Nat.reduceMul, Nat.reduceDiv, Nat.reduceEqDiff, Nat.reduceLT, Nat.reduceLeDiff, reduceCtorEq, Int.reduceEq, Int.reduceNe, Int.reduceLT, Int.reduceLE, Int.reduceAdd, Int.reduceSub, Int.reduceMul, Int.reduceNeg, Int.reduceToNat, Int.cast_ofNat_Int, Int.natCast_zero, Int.natCast_one, Int.toNat_natCast, Nat.reduceBEq, nzs, d1, ix, ix.2, g0.1, g0.2, c3]
    exact ⟨_, _, [], rfl, rfl, RowM.nil _ _, zero_volsM _ |>.2⟩
  have c3 := eq_false h3
  by_cases h4 : (x.length : Int) ≤ p
  · have c4 := eq_true h4
    rw [if_pos (.inr h4)] at n4
    subst n4
    simp only [shs, zts, sos, sls, zss, eqs, sx, sb1, sb2, sb3, sb4, sb5, sb6, sb7, ↓reduceIte, Nat.reduceAdd, Nat.reduceMul, Nat.reduceDiv, Nat.reduceEqDiff, Nat.reduceLT, Nat.reduceLeDiff, reduceCtorEq, Int.reduceEq, Int.reduceNe, Int.reduceLT, Int.reduceLE, Int.reduceAdd, Int.reduceSub, Int.reduceMul, Int.reduceNeg, Int.reduceToNat, Int.cast_ofNat_Int, Int.natCast_zero, Int.natCast_one, Int.toNat_natCast, Nat.reduceBEq, nzs, d1, ix, ix.2, g0.1, g0.2, c3, huN.len, huN.sl, List.length_map, c4]
    exact ⟨_, _, [], rfl, rfl, RowM.nil _ _, zero_volsM _ |>.2⟩
  have c4 := eq_false h4
  rw [if_neg (by omega)] at n4
  obtain ⟨k, rfl⟩ : ∃ k : Nat, p = k := ⟨p.toNat, by omega⟩
  obtain ⟨id, hid, _⟩ := l_drop_at (l := x) (i := k) (by omega)
  obtain ⟨y0, y1, y2, yi⟩ := id_at huN hid
  rw [Int.toNat_natCast, hid, Option.getD_some] at n4
  have hRd := read b4 v4 bag4 ws4 n (k : Int) N n2 n3
  have hWr := vwrite b4 v4 bag4 ws4 m (k : Int) (rdS bag4 (ws4.map (·.2)) n (k : Int)) N n2 n3
  have hTr := (vtrim b4 v4 bag4 ws4 m (k : Int) N n2 n3).mono (fun r H M' _ h => h.weak)
  simp only [stV] at hRd hWr hTr
  generalize rdS bag4 (ws4.map (·.2)) n (k : Int) = rs at *
  generalize plE bag4 (ws4.map (·.2)) n (k : Int) = pe at *
  generalize writeA bag4 (ws4.map (·.2)) m (k : Int) rs = A1 at *
  generalize trimA bag4 (ws4.map (·.2)) m (k : Int) = A2 at *
  have hEnd : ∀ (A : St × Int), True := fun _ => trivial
  cases hq : id.1 with
  | true =>
    rw [hq] at y0 n4
    simp only [if_true] at n4
    simp only [shs, zts, sos, sls, zss, eqs, sx, sb1, sb2, sb3, sb4, sb5, sb6, sb7, ↓reduceIte, Nat.reduceAdd, Nat.reduceMul, Nat.reduceDiv, Nat.reduceEqDiff, Nat.reduceLT, Nat.reduceLeDiff, reduceCtorEq, Int.reduceEq, Int.reduceNe, Int.reduceLT, Int.reduceLE, Int.reduceAdd, Int.reduceSub, Int.reduceMul, Int.reduceNeg, Int.reduceToNat, Int.cast_ofNat_Int, Int.natCast_zero, Int.natCast_one, Int.toNat_natCast, Nat.reduceBEq, nzs, d1, ix, ix.2, g0.1, g0.2, c3, huN.len, huN.sl, List.length_map, c4, yi, yi.2, y0.1, y0.2, n2.one, n3.row.one]
    refine CallK.pure ⟨rfl, rfl⟩ rfl hRd ?_
    simp only [shs, zts, sos, sls, zss, eqs, sx, sb1, sb2, sb3, sb4, sb5, sb6, sb7, ↓reduceIte, Nat.reduceAdd, Nat.reduceMul, Nat.reduceDiv, Nat.reduceEqDiff, Nat.reduceLT, Nat.reduceLeDiff, reduceCtorEq, Int.reduceEq, Int.reduceNe, Int.reduceLT, Int.reduceLE, Int.reduceAdd, Int.reduceSub, Int.reduceMul, Int.reduceNeg, Int.reduceToNat, Int.cast_ofNat_Int, Int.natCast_zero, Int.natCast_one, Int.toNat_natCast, Nat.reduceBEq, nzs, n2.one, n3.row.one]
    refine CallK.stM (T := fun s => .tup [s, .v (.int .i64 A1.2)]) (fun _ _ => rfl) rfl rfl hWr fun b5 v5 ws5 M5 hM5 hw5 hb5 hv5 => ?_
    by_cases h5 : A1.2 = 0
    rotate_left
    · have c5 := eq_false h5
      rw [if_pos h5] at n4
      subst n4
      simp only [shs, zts, sos, sls, zss, eqs, sx, sb1, sb2, sb3, sb4, sb5, sb6, sb7, ↓reduceIte, Nat.reduceAdd, Nat.reduceMul, Nat.reduceDiv, Nat.reduceEqDiff, Nat.reduceLT, Nat.reduceLeDiff, reduceCtorEq, Int.reduceEq, Int.reduceNe, Int.reduceLT, Int.reduceLE, Int.reduceAdd, Int.reduceSub, Int.reduceMul, Int.reduceNeg, Int.reduceToNat, Int.cast_ofNat_Int, Int.natCast_zero, Int.natCast_one, Int.toNat_natCast, Nat.reduceBEq, nzs, stV, c5, hb5.one, hv5.row.one]
      exact ⟨_, _, [], rfl, rfl, RowM.nil _ _, zero_volsM _ |>.2⟩
    rw [if_neg (fun h => h h5)] at n4
    simp only [shs, zts, sos, sls, zss, eqs, sx, sb1, sb2, sb3, sb4, sb5, sb6, sb7, ↓reduceIte, Nat.reduceAdd, Nat.reduceMul, Nat.reduceDiv, Nat.reduceEqDiff, Nat.reduceLT, Nat.reduceLeDiff, reduceCtorEq, Int.reduceEq, Int.reduceNe, Int.reduceLT, Int.reduceLE, Int.reduceAdd, Int.reduceSub, Int.reduceMul, Int.reduceNeg, Int.reduceToNat, Int.cast_ofNat_Int, Int.natCast_zero, Int.natCast_one, Int.toNat_natCast, Nat.reduceBEq, nzs, stV, h5, hb5.one, hv5.row.one, inK, lo, hi]
    refine ⟨by omega, (i + 1, b5, v5, A1.1.1, ws5, M5), ⟨⟨⟨by simp only; omega, nM.trans hM5⟩, ⟨hb5, hv5⟩, by simp only [hw5]; exact n4⟩, by simp only; omega⟩, Ent.of ?_⟩
    simp only [sx, sb1, sb2, sb3, sb4, sb5, sb6, sb7, ↓reduceIte, Nat.reduceAdd, Nat.reduceMul, Nat.reduceDiv, Nat.reduceEqDiff, Nat.reduceLT, Nat.reduceLeDiff, reduceCtorEq, Int.reduceEq, Int.reduceNe, Int.reduceLT, Int.reduceLE, Int.reduceAdd, Int.reduceSub, Int.reduceMul, Int.reduceNeg, Int.reduceToNat, Int.cast_ofNat_Int, Int.natCast_zero, Int.natCast_one, Int.toNat_natCast, Nat.reduceBEq, Int.natCast_add]
  | false =>
    rw [hq] at y0 n4
    simp only [Bool.false_eq_true, if_false] at n4
    simp only [shs, zts, sos, sls, zss, eqs, sx, sb1, sb2, sb3, sb4, sb5, sb6, sb7, ↓reduceIte, Nat.reduceAdd, Nat.reduceMul, Nat.reduceDiv, Nat.reduceEqDiff, Nat.reduceLT, Nat.reduceLeDiff, reduceCtorEq, Int.reduceEq, Int.reduceNe, Int.reduceLT, Int.reduceLE, Int.reduceAdd, Int.reduceSub, Int.reduceMul, Int.reduceNeg, Int.reduceToNat, Int.cast_ofNat_Int, Int.natCast_zero, Int.natCast_one, Int.toNat_natCast, Nat.reduceBEq, nzs, d1, ix, ix.2, g0.1, g0.2, c3, huN.len, huN.sl, List.length_map, c4, yi, yi.2, y0.1, y0.2, n2.one, n3.row.one]
    refine CallK.stM (T := fun s => .tup [s, .v (.int .i64 A2.2)]) (fun _ _ => rfl) rfl rfl hTr fun b5 v5 ws5 M5 hM5 hw5 hb5 hv5 => ?_
    by_cases h5 : A2.2 = 0
    rotate_left
    · have c5 := eq_false h5
      rw [if_pos h5] at n4
      subst n4
      simp only [shs, zts, sos, sls, zss, eqs, sx, sb1, sb2, sb3, sb4, sb5, sb6, sb7, ↓reduceIte, Nat.reduceAdd, Nat.reduceMul, Nat.reduceDiv, Nat.reduceEqDiff, Nat.reduceLT, Nat.reduceLeDiff, reduceCtorEq, Int.reduceEq, Int.reduceNe, Int.reduceLT, Int.reduceLE, Int.reduceAdd, Int.reduceSub, Int.reduceMul, Int.reduceNeg, Int.reduceToNat, Int.cast_ofNat_Int, Int.natCast_zero, Int.natCast_one, Int.toNat_natCast, Nat.reduceBEq, nzs, stV, c5, hb5.one, hv5.row.one]
      exact ⟨_, _, [], rfl, rfl, RowM.nil _ _, zero_volsM _ |>.2⟩
    rw [if_neg (fun h => h h5)] at n4
    simp only [shs, zts, sos, sls, zss, eqs, sx, sb1, sb2, sb3, sb4, sb5, sb6, sb7, ↓reduceIte, Nat.reduceAdd, Nat.reduceMul, Nat.reduceDiv, Nat.reduceEqDiff, Nat.reduceLT, Nat.reduceLeDiff, reduceCtorEq, Int.reduceEq, Int.reduceNe, Int.reduceLT, Int.reduceLE, Int.reduceAdd, Int.reduceSub, Int.reduceMul, Int.reduceNeg, Int.reduceToNat, Int.cast_ofNat_Int, Int.natCast_zero, Int.natCast_one, Int.toNat_natCast, Nat.reduceBEq, nzs, stV, h5, hb5.one, hv5.row.one, inK, lo, hi]
    refine ⟨by omega, (i + 1, b5, v5, A2.1.1, ws5, M5), ⟨⟨⟨by simp only; omega, nM.trans hM5⟩, ⟨hb5, hv5⟩, by simp only [hw5]; exact n4⟩, by simp only; omega⟩, Ent.of ?_⟩
    simp only [sx, sb1, sb2, sb3, sb4, sb5, sb6, sb7, ↓reduceIte, Nat.reduceAdd, Nat.reduceMul, Nat.reduceDiv, Nat.reduceEqDiff, Nat.reduceLT, Nat.reduceLeDiff, reduceCtorEq, Int.reduceEq, Int.reduceNe, Int.reduceLT, Int.reduceLE, Int.reduceAdd, Int.reduceSub, Int.reduceMul, Int.reduceNeg, Int.reduceToNat, Int.cast_ofNat_Int, Int.natCast_zero, Int.natCast_one, Int.toNat_natCast, Nat.reduceBEq, Int.natCast_add]
end Go.X.Vo

namespace Go.X.Vo
open Go Go.X Go.RowKit Go.X.Bg Go.X.Nm Go.X.Bp Go.X.Sb

theorem rc_ne : ∀ (f : Nat) (a b : List Nat) (x : Nat), a.length = b.length → x ∈ (Ts.rc f a b).1 → a[x]? ≠ b[x]?
  | 0, a, b, x, _, h => by simp [Ts.rc] at h
  | f + 1, a, b, x, hl, h => by
    simp only [Ts.rc] at h
    split at h
    · simp at h
    rename_i ht
    split at h
    · rename_i h1
      simp only [List.mem_singleton] at h
      subst h
      intro e
      refine ht ?_
      match a, b, h1, hl, e with
      | [p], [q], _, _, e =>
        simp only [List.getElem?_cons_zero, Option.some.injEq] at e
        rw [e]
    · rcases List.mem_append.1 h with h | h
      · have := rc_ne f _ _ x (by rw [List.length_take, List.length_take, hl]) h
        intro e
        refine this ?_
        rw [List.getElem?_take, List.getElem?_take, e]
      · obtain ⟨y, hy, rfl⟩ := List.mem_map.1 h
        have := rc_ne f _ _ y (by rw [List.length_drop, List.length_drop, hl]) hy
        intro e
        refine this ?_
        rw [List.getElem?_drop, List.getElem?_drop, Nat.add_comm _ y, e]
theorem found_ne {p q : List Txt} (h : Ts.cmE p q = 0) {x : Nat} (hx : x ∈ (Ts.cmR p q).1) : p[x]? ≠ q[x]? := by
  unfold Ts.cmR at hx
  rw [if_pos h] at hx
  have hl := (Ts.cmE_ok h).2
  have := rc_ne 32 _ _ x (by rw [Ts.lv0_len, Ts.lv0_len, hl]) hx
  intro e
  refine this ?_
  unfold Ts.lv0
  rw [List.getElem?_map, List.getElem?_map, e]
/-! ### how many volumes -/
theorem write_len {bag : List It} {l : List Vol} {n s : Txt} {j : Int} (h : (writeA bag l n j s).2 = 0) : (writeA bag l n j s).1.2.length = l.length := by
  unfold writeA at h ⊢
  split
  · rename_i h1; rw [if_pos h1] at h; exact absurd h h1
  rename_i h1
  rw [if_neg h1] at h
  unfold writeS at h ⊢
  split
  · rename_i h2; rw [if_pos h2] at h; exact absurd h h2
  · exact setV_len
theorem insV_len (l : List Vol) (x : Vol) : (insV l x).length = l.length + 1 := by
  obtain ⟨a, b, e1, e2⟩ := insV_mid l x
  rw [e2, e1]
  simp only [List.length_append, List.length_cons]
  omega
theorem make_len {bag : List It} {l : List Vol} {n : Txt} {k : Int} (h : (makeA bag l n k).2 = 0) : (makeA bag l n k).1.2.length = l.length + 1 := by
  unfold makeA at h ⊢
  split
  · rename_i h1; rw [if_pos h1] at h; exact absurd h h1
  rename_i h1
  rw [if_neg h1] at h
  split
  · rename_i h2; rw [if_pos h2] at h; cases h
  rename_i h2
  rw [if_neg h2] at h
  split
  · rename_i h3; rw [if_pos h3] at h; exact absurd h h3
  · exact insV_len _ _
theorem stor_len (n : Txt) : ∀ (r : List Txt) (i : Nat) (A B : St), stor n r i A = some B → B.2.length = A.2.length
  | [], _, A, B, h => by simp only [stor, Option.some.injEq] at h; rw [h]
  | t :: r, i, A, B, h => by
    rw [stor] at h
    by_cases h1 : (writeA A.1 A.2 n (i : Int) t).2 = 0
    · rw [if_neg (fun h => h h1)] at h
      rw [stor_len n r (i + 1) _ B h, write_len h1]
    · rw [if_pos h1] at h; cases h
theorem stoT_len {A B : St} {n s : Txt} {k : Nat} (h : stoT A n s = (B, k, true)) : B.2.length = A.2.length + 1 := by
  unfold stoT at h
  by_cases h1 : 600 < s.length
  · rw [if_pos h1] at h; cases h
  rw [if_neg h1] at h
  by_cases h2 : 32 < (chop 600 s).length ∨ (chop 600 s).length = 0
  · rw [if_pos h2] at h; cases h
  rw [if_neg h2] at h
  by_cases h3 : (makeA A.1 A.2 n ((chop 600 s).length : Int)).2 = 0
  rotate_left
  · rw [if_pos h3] at h; cases h
  rw [if_neg (fun h => h h3)] at h
  cases hs : stor n (chop 600 s) 0 (makeA A.1 A.2 n ((chop 600 s).length : Int)).1 with
  | none => rw [hs] at h; cases h
  | some B' =>
    rw [hs] at h
    simp only [Prod.mk.injEq, and_true] at h
    obtain ⟨rfl, _⟩ := h
    rw [stor_len _ _ _ _ _ hs, make_len h3]
theorem look_no {A : St} {n : Txt} (h : lookV A n = none) : volIx A.2 n < 0 := by
  unfold lookV at h
  split at h
  · assumption
  · cases h
theorem clone_ok {A : St} {n to : Txt} {X : List (Option Txt)} (hA : stE A.1 A.2 = 0) (hX : lookV A n = some X) (hn : nmB to = true) (ht : lookV A to = none) (hl : A.2.length ≤ 5) : (cloneA A.1 A.2 n to).2 = 0 := by
  obtain ⟨i, x, e, _⟩ := look_some hX
  have hf : freshE A.2 to = 0 := by
    unfold freshE
    rw [if_neg (by rw [hn]; decide), if_neg (by have := look_no ht; omega), if_neg (by omega)]
  unfold cloneA
  rw [if_neg (fun h => h hA), if_neg (by rw [e]; omega), if_neg (fun h => h hf)]
/-! ### a text that lies in another volume can be written -/
theorem ref_small {A : St} (hA : stE A.1 A.2 = 0) {x : It} (hx : x ∈ A.1) : x.2.2.2 ≤ 192 := by
  have hr := rt_of hA
  have h1 := hr.cnt (kOf x)
  unfold refK at h1
  rw [itK_at (dk_of hr.ok) hx] at h1
  have h2 : (idsOf A.2).count (true, kOf x) ≤ (idsOf A.2).length := List.count_le_length
  have h3 := idsOf_len hr.len (fun v hv => (hr.vol v hv).1)
  have h4 : (((idsOf A.2).count (true, kOf x) : Nat) : Int) = x.2.2.2 := h1
  omega
theorem put_ok {A : St} (hA : stE A.1 A.2 = 0) {s : Txt} (hs : inBag A s) : (putG A.1 s).2.2 = 0 := by
  obtain ⟨z, hz, e⟩ := hs
  have hb := (stE_ok hA).1
  have ho := (oneE_ok (bag_ok hb z hz)).1.1
  rw [e] at ho
  unfold putG
  rw [if_neg (by omega)]
  rcases txtIx_cases A.1 s with ⟨_, k2⟩ | ⟨j, x, k1, k2, k3⟩
  · exact absurd e (k2 z hz)
  · have hr := ref_small hA (List.mem_of_getElem? k2)
    rw [k1, if_pos (by omega), atI_at k2, if_neg (by omega)]
theorem write_ok {A : St} {n m s : Txt} {X Y : List (Option Txt)} {j i : Nat} (hA : stE A.1 A.2 = 0) (hX : lookV A n = some X) (hj : j < X.length) (hY : lookV A m = some Y) (hi : Y[i]? = some (some s)) (hne : m ≠ n) : (writeA A.1 A.2 n (j : Int) s).2 = 0 := by
  have ht := trimA_ok (bag := A.1) (l := A.2) hA hX hj
  have hr := trimA_right A.1 A.2 n (j : Int)
  obtain ⟨X', hX', _, hlk⟩ := look_trimA ht
  have hm := hlk m
  rw [if_neg hne] at hm
  have hin := look_bag hr (hm.trans hY) hi
  have hp := put_ok hr hin
  have hpl := pl_look (bag := A.1) (l := A.2) hA hX hj
  unfold trimA at hp
  rw [if_neg (fun h => h hpl)] at hp
  unfold writeA
  rw [if_neg (fun h => h hpl)]
  unfold writeS
  have e : (trimS A.1 A.2 (volIx A.2 n).toNat (j : Int).toNat).1 = lessId A.1 (idAt A.2 (volIx A.2 n).toNat (j : Int).toNat) := rfl
  rw [e] at hp
  rw [if_neg (fun h => h hp)]
/-! ### copied back -/
def inA : Txt := [97]
def inB : Txt := [98]
def keepP (xs : List Id3) (P : List Txt) : Prop := xs.length = P.length ∧ ∀ (k : Nat) (id : Id3), xs[k]? = some id → id.1 = true
theorem cp_sp (xs : List Id3) (P : List Txt) (hxs : keepP xs P) : ∀ (D : List Nat) (A : St) (Y : List Txt), (∀ k ∈ D, k < P.length) → stE A.1 A.2 = 0 → lookV A inA = some (P.map some) → lookV A inB = some (Y.map some) → Y.length = P.length →
    ∃ (B : St) (Z : List Txt), cpS xs inA inB (D.map fun k : Nat => (k : Int)) A = (B, 0) ∧ stE B.1 B.2 = 0 ∧ lookV B inA = some (P.map some) ∧ lookV B inB = some (Z.map some) ∧ Z.length = P.length ∧ ∀ k, (k ∈ D → Z[k]? = P[k]?) ∧ (k ∉ D → Z[k]? = Y[k]? ∨ Z[k]? = P[k]?)
  | [], A, Y, _, hA, h1, h2, h3 => ⟨A, Y, rfl, hA, h1, h2, h3, fun k => ⟨(fun h => by cases h), fun _ => .inl rfl⟩⟩
  | k :: D, A, Y, hD, hA, h1, h2, h3 => by
    have hk := hD k (by simp)
    obtain ⟨id, hid⟩ : ∃ id, xs[k]? = some id := ⟨_, List.getElem?_eq_getElem (by rw [hxs.1]; exact hk)⟩
    obtain ⟨p, hp⟩ : ∃ p, P[k]? = some p := ⟨_, List.getElem?_eq_getElem hk⟩
    have his := hxs.2 k id hid
    have hPk : (P.map some)[k]? = some (some p) := by rw [List.getElem?_map, hp]; rfl
    have hrd := rd_look (bag := A.1) (l := A.2) hA h1 hPk
    have hw := write_ok (n := inB) (m := inA) (s := p) hA h2 (j := k) (by rw [List.length_map]; omega) h1 hPk (by decide)
    have hwr := writeA_right A.1 A.2 inB (k : Int) p
    obtain ⟨X', hX', _, hlk⟩ := look_writeA hw
    have hX2 : lookV A inB = some X' := hX'
    rw [h2] at hX2
    cases hX2
    have hA1 := hlk inA
    rw [if_neg (by decide)] at hA1
    have hA2 := hlk inB
    rw [if_pos rfl] at hA2
    have hset : (Y.map some).set k (some p) = (Y.set k p).map some := by rw [List.map_set]
    rw [hset] at hA2
    obtain ⟨B, Z, e1, e2, e3, e4, e5, e6⟩ := cp_sp xs P hxs D _ (Y.set k p) (fun q hq => hD q (by simp [hq])) hwr (hA1.trans h1) hA2 (by rw [List.length_set]; exact h3)
    refine ⟨B, Z, ?_, e2, e3, e4, e5, fun q => ⟨fun hq => ?_, fun hq => ?_⟩⟩
    · rw [List.map_cons, cpS, if_neg (by rw [hxs.1]; omega), Int.toNat_natCast, hid, Option.getD_some, if_pos his, hrd, Option.getD_some, if_neg (fun h => h hw)]
      exact e1
    · by_cases hqD : q ∈ D
      · exact (e6 q).1 hqD
      · have hqk : q = k := by
          rcases List.mem_cons.1 hq with h | h
          · exact h
          · exact absurd h hqD
        subst hqk
        rcases (e6 q).2 hqD with h | h
        · rw [h, List.getElem?_set_self (by omega), hp]
        · exact h
    · have hqD : q ∉ D := fun h => hq (by simp [h])
      have hqk : k ≠ q := fun e => hq (by simp [e])
      rcases (e6 q).2 hqD with h | h
      · left; rw [h, List.getElem?_set_ne hqk]
      · exact .inr h
theorem dfL_mem {x y : List Id3} {n k : Nat} : k ∈ dfL x y n ↔ k < n ∧ x[k]? ≠ y[k]? := by
  unfold dfL
  rw [List.mem_filter, List.mem_range]
  simp
/-- a written clone -/
structure Bk (A : St) (P Y : List Txt) : Prop where
  ok : stE A.1 A.2 = 0
  a : lookV A inA = some (P.map some)
  b : lookV A inB = some (Y.map some)
  len : Y.length = P.length
theorem Bk.write {A : St} {P Y : List Txt} (h : Bk A P Y) {j : Nat} {t : Txt} (hw : (writeA A.1 A.2 inB (j : Int) t).2 = 0) : ∃ Y', Bk (writeA A.1 A.2 inB (j : Int) t).1 P Y' := by
  obtain ⟨X', hX', _, hlk⟩ := look_writeA hw
  have hX2 : lookV A inB = some X' := hX'
  rw [h.b] at hX2
  cases hX2
  have h1 := hlk inA
  rw [if_neg (by decide)] at h1
  have h2 := hlk inB
  rw [if_pos rfl, show (Y.map some).set j (some t) = (Y.set j t).map some by rw [List.map_set]] at h2
  exact ⟨Y.set j t, writeA_right _ _ _ _ _, h1.trans h.a, h2, by rw [List.length_set]; exact h.len⟩
theorem blks_look {A : St} {n : Txt} {X : List (Option Txt)} (h : lookV A n = some X) : ¬ volIx A.2 n < 0 ∧ (blks A.2 n).map (obs A.1) = X := by
  obtain ⟨i, x, e, hx, _, hX⟩ := look_some h
  exact ⟨by rw [e]; omega, by rw [blks_at e hx]; exact hX⟩
theorem Bk.back {A : St} {P Y : List Txt} (h : Bk A P Y) : diffE A.1 A.2 inA inB = 0 ∧ (∀ k, P[k]? ≠ Y[k]? → k ∈ diffL A.1 A.2 inA inB) ∧
    ∃ B, cpA A.1 A.2 inA inB ((diffL A.1 A.2 inA inB).map fun k : Nat => (k : Int)) = (B, 0) ∧ stE B.1 B.2 = 0 ∧ lookV B inA = some (P.map some) ∧ lookV B inB = some (P.map some) := by
  obtain ⟨a1, a2⟩ := blks_look h.a
  obtain ⟨b1, b2⟩ := blks_look h.b
  have q1 : blkE A.1 A.2 inA = 0 := by unfold blkE; rw [if_neg (fun h' => h' h.ok), if_neg a1]
  have q2 : blkE A.1 A.2 inB = 0 := by unfold blkE; rw [if_neg (fun h' => h' h.ok), if_neg b1]
  have l1 : (blks A.2 inA).length = P.length := by have := congrArg List.length a2; rwa [List.length_map, List.length_map] at this
  have l2 : (blks A.2 inB).length = Y.length := by have := congrArg List.length b2; rwa [List.length_map, List.length_map] at this
  have hE : diffE A.1 A.2 inA inB = 0 := by
    unfold diffE
    rw [if_neg (fun h' => h' q1), if_neg (fun h' => h' q2), if_neg (by rw [l1, l2, h.len]; exact fun h => h rfl)]
  have hL : diffL A.1 A.2 inA inB = dfL (blks A.2 inA) (blks A.2 inB) P.length := by
    unfold diffL
    rw [if_pos hE, l1]
  have hab : ∀ k, (blks A.2 inA)[k]? = (blks A.2 inB)[k]? → P[k]? = Y[k]? := fun k e => by
    have e2 := congrArg (fun o => o.map (obs A.1)) e
    rw [← List.getElem?_map, ← List.getElem?_map, a2, b2] at e2
    rw [List.getElem?_map, List.getElem?_map] at e2
    cases hp : P[k]? <;> cases hy : Y[k]? <;> rw [hp, hy] at e2 <;> simp_all
  have hkp : keepP (blks A.2 inA) P := ⟨l1, fun k id hid => by
    have e := congrArg (fun l => l[k]?) a2
    simp only [List.getElem?_map, hid, Option.map_some] at e
    cases hp : P[k]? with
    | none => rw [hp] at e; cases e
    | some p =>
      rw [hp] at e
      simp only [Option.map_some, Option.some.injEq] at e
      unfold obs at e
      by_cases h1 : id.1 = true
      · exact h1
      · rw [if_neg h1] at e; cases e⟩
  have hDn : ∀ k ∈ diffL A.1 A.2 inA inB, k < P.length := fun k hk => by
    rw [hL] at hk
    exact (dfL_mem.1 hk).1
  obtain ⟨B, Z, e1, e2, e3, e4, e5, e6⟩ := cp_sp _ P hkp (diffL A.1 A.2 inA inB) A Y hDn h.ok h.a h.b h.len
  refine ⟨hE, fun k hk => ?_, B, ?_, e2, e3, ?_⟩
  · rw [hL, dfL_mem]
    have hkl : k < P.length := by
      rcases Nat.lt_or_ge k P.length with h1 | h1
      · exact h1
      · refine absurd ?_ hk
        rw [List.getElem?_eq_none h1, List.getElem?_eq_none (by rw [h.len]; exact h1)]
    exact ⟨hkl, fun e => hk (hab k e)⟩
  · unfold cpA
    rw [if_neg (fun h' => h' q1), if_neg (fun h' => h' q2)]
    exact e1
  · have : Z = P := by
      apply List.ext_getElem?
      intro k
      by_cases hk : k ∈ diffL A.1 A.2 inA inB
      · exact (e6 k).1 hk
      · rcases (e6 k).2 hk with h1 | h1
        · rw [h1]
          rw [hL, dfL_mem] at hk
          by_cases hkl : k < P.length
          · have : (blks A.2 inA)[k]? = (blks A.2 inB)[k]? := Decidable.of_not_not fun hn => hk ⟨hkl, hn⟩
            exact (hab k this).symm
          · rw [List.getElem?_eq_none (by rw [h.len]; omega), List.getElem?_eq_none (by omega)]
        · exact h1
    rw [e4, this]
theorem bk_begin {s : Txt} {A : St} {n : Nat} (h : stoT zSt inA s = (A, n, true)) : ((1 ≤ n ∧ n ≤ 32) ∧ (chop 600 s).length = n ∧ (chop 600 s).flatten = s) ∧ (cloneA A.1 A.2 inA inB).2 = 0 ∧ Bk (cloneA A.1 A.2 inA inB).1 (chop 600 s) (chop 600 s) := by
  obtain ⟨⟨⟨a0, a1⟩, a2, a3⟩, a4, a5, _, _⟩ := stoT_sp h
  have hla := a5 inA
  rw [if_pos rfl] at hla
  have hlb := a5 inB
  rw [if_neg (by decide)] at hlb
  have hlen := stoT_len h
  have hc := clone_ok (to := inB) a4 hla (by decide) (hlb.trans rfl) (by rw [hlen]; decide)
  obtain ⟨X, hX, hm⟩ := look_cloneA hc
  have hX2 : lookV A inA = some X := hX
  rw [hla] at hX2
  cases hX2
  have m1 := hm inA
  rw [if_neg (by decide)] at m1
  have m2 := hm inB
  rw [if_pos rfl] at m2
  exact ⟨⟨⟨a2, a3⟩, a1.symm, chop_flat 600 s a0⟩, hc, cloneA_right _ _ _ _, m1.trans hla, m2, rfl⟩
/-- texts of a right state's volume are short -/
theorem look_short {A : St} (hA : stE A.1 A.2 = 0) {n : Txt} {P : List Txt} (h : lookV A n = some (P.map some)) : ∀ t ∈ P, t.length ≤ 64 := fun t ht => by
  obtain ⟨j, hj⟩ := List.mem_iff_getElem?.1 ht
  obtain ⟨z, hz, e⟩ := look_bag hA h (j := j) (t := t) (by rw [List.getElem?_map, hj]; rfl)
  rw [← e]
  exact (oneE_ok (bag_ok (stE_ok hA).1 z hz)).1.1
end Go.X.Vo

