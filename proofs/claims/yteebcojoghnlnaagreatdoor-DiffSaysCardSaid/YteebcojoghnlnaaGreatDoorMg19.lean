/- Contracts of functions and the logic that they are proved in (5 texts in one). Conditions: none. -/
import Derived.Test.YteebcojoghnlnaaGreatDoorMg18
import Derived.Shelf.SlSortFuncK.WholeK
import Derived.Shelf.GgSortFunc.Tiny
import Derived.Deep.QuietTactic
import Derived.Test.YteebcojoghnlnaaGreatDoorBag
import Derived.Test.YteebcojoghnlnaaGreatDoorMg17
import Derived.Test.YteebcojoghnlnaaGreatDoorMg15
import Derived.Test.YteebcojoghnlnaaGreatDoorMg5
namespace Go.X.Bg
end Go.X.Bg
namespace Go.X.Nm
end Go.X.Nm
namespace Go.X.Bp
end Go.X.Bp
namespace Go.X.Sb
end Go.X.Sb
namespace Go.X.Rp
end Go.X.Rp
set_option linter.unusedSimpArgs false
set_option linter.unusedVariables false
set_option maxHeartbeats 4000000
set_option maxRecDepth 20000
namespace Go.X.Vo
open Go Go.X Go.RowKit Go.X.Bg Go.X.Nm Go.X.Bp Go.X.Sb

theorem stKO_zero (M0 : Mem) (e : Value) (H : HS) (M : Mem) : StKO M0 (fun s => .tup [s, .v e]) zSt (.tup [.agg [.v (.slice none 0 0), .v (.slice none 0 0)], .v e]) H M :=
  ⟨.v (.slice none 0 0), .v (.slice none 0 0), [], rfl, rfl, fun k h => (by cases h), ⟨⟨(zero_stK M0 M).bag, (zero_stK M0 M).fb⟩, ⟨(zero_stK M0 M).vols, (zero_stK M0 M).fv⟩⟩, fun w hw => (by cases hw), (zero_stK M0 M).ap⟩
theorem set_same {α : Type} {l : List α} {i : Nat} {x : α} (h : l[i]? = some x) : l.set i x = l := by
  apply List.ext_getElem?
  intro j
  rw [List.getElem?_set]
  split
  · rename_i e
    subst e
    rw [if_pos (List.getElem?_eq_some_iff.1 h).1, h]
  · rfl
theorem stKO_of {M0 M : Mem} {b v : Value} {bag : List It} {ws : List WV} {A : St} (T : SV → SV) (H : HS) (h : StF M0 M b v bag ws) (h1 : bag = A.1) (h2 : ws.map (·.2) = A.2) : StKO M0 T A (T (.agg [.v b, .v v])) H M := by
  subst h1
  exact ⟨.v b, .v v, ws, rfl, h2, fun k h => (by cases h), ⟨⟨h.bag, h.fb⟩, ⟨h.vols, h.fv⟩⟩, fun w hw => ⟨h.blk w hw, h.fw hw⟩, h.ap⟩
theorem idsl_set {l : List Id3} {a : Nat} (r : Id3) : (l.map encI3).set a (encI3 r) = (l.set a r).map encI3 := by rw [List.map_set]
theorem getD_id {l : List Id3} {i : Nat} {x : Id3} (h : l[i]? = some x) : (l.map encI3).getD i [] = [.bool x.1, .int .i64 x.2.1, .int .i64 x.2.2] := by
  rw [List.getD_eq_getElem?_getD, List.getElem?_map, h]
  rfl
theorem vtrim (b v : Value) (bag : List It) (ws : List WV) (n : List UInt8) (at' : Int) (M : Mem) (hb : RowM M b 4 (bag.map Bg.encT)) (hv : VolsM M v ws) :
    Meets Proofs.Tryz.prog 9 [stV b v, .v (.string ⟨n.toArray⟩), .v (.int .i64 at')] M (StK M (fun s => .tup [s, .v (.int .i64 (trimA bag (ws.map (·.2)) n at').2)]) (trimA bag (ws.map (·.2)) n at').1) := by
  refine Meets.settleF (Ctx.fst _) ?_
  refine Meets.of_body [0,1,2,3,6,7,8,9,10,11,20,36] Proofs.Tryz.func9 rfl (by kernel_rfl) rfl fun w => ?_
  generalize hc : trimA bag (ws.map (·.2)) n at' = c
  unfold trimA at hc
  have hP := place b v bag ws n at' M hb hv
  unfold plI at hP
  simp only [stV] at hP
  simp only [Proofs.Tryz.f9, stV, shs, zts, sos, sls, zss, eqs, sx, sb1, sb2, sb3, sb4, sb5, sb6, sb7, ↓reduceIte, Nat.reduceAdd, Nat.reduceMul, Nat.reduceDiv, Nat.reduceEqDiff, Nat.reduceLT, Nat.reduceLeDiff, reduceCtorEq, Int.reduceEq, Int.reduceNe, Int.reduceLT, Int.reduceLE, Int.reduceAdd, Int.reduceSub, Int.reduceMul, Int.reduceNeg, Int.reduceToNat, Int.cast_ofNat_Int, Int.natCast_zero, Int.natCast_one, Int.toNat_natCast, Nat.reduceBEq, nzs]
  refine CallK.pure ⟨rfl, rfl⟩ rfl hP ?_
  by_cases h1 : plE bag (ws.map (·.2)) n at' = 0
  rotate_left
  · have c1 := eq_false h1
    rw [if_pos h1] at hc
    subst hc
    simp only [shs, zts, sos, sls, zss, eqs, sx, sb1, sb2, sb3, sb4, sb5, sb6, sb7, ↓reduceIte, Nat.reduceAdd, Nat.reduceMul, Nat.reduceDiv, Nat.reduceEqDiff, Nat.reduceLT, Nat.reduceLeDiff, reduceCtorEq, Int.reduceEq, Int.reduceNe, Int.reduceLT, Int.reduceLE, Int.reduceAdd, Int.reduceSub, Int.reduceMul, Int.reduceNeg, Int.reduceToNat, Int.cast_ofNat_Int, Int.natCast_zero, Int.natCast_one, Int.toNat_natCast, Nat.reduceBEq, nzs, c1]
    exact stKO_zero _ _ _ _
  rw [if_neg (fun h => h h1)] at hc
  subst hc
  obtain ⟨hs, h2, h3, h4⟩ := plE_ok h1
  obtain ⟨i, x, k1, k2, k3, k4⟩ := volIx_at h2
  have hbk := blks_at k1 k4
  rw [hbk] at h4
  obtain ⟨m, rfl⟩ : ∃ m : Nat, at' = m := ⟨at'.toNat, by omega⟩
  obtain ⟨hB, hV, _⟩ := stE_ok hs
  have hVo := volsE_ok hV
  have hbl := bag_len hB
  rw [List.length_map] at hVo
  have hli : ∀ w ∈ ws, w.2.2.length ≤ 32 := fun w hw => (hVo.2 w.2 (List.mem_map_of_mem hw)).1
  have hcp := copied b v bag ws M hb hv (by omega) (by omega) (fun w hw => Nat.le_trans (hli w hw) (by omega))
  simp only [stV] at hcp
  rw [k1]
  simp only [shs, zts, sos, sls, zss, eqs, sx, sb1, sb2, sb3, sb4, sb5, sb6, sb7, ↓reduceIte, Nat.reduceAdd, Nat.reduceMul, Nat.reduceDiv, Nat.reduceEqDiff, Nat.reduceLT, Nat.reduceLeDiff, reduceCtorEq, Int.reduceEq, Int.reduceNe, Int.reduceLT, Int.reduceLE, Int.reduceAdd, Int.reduceSub, Int.reduceMul, Int.reduceNeg, Int.reduceToNat, Int.cast_ofNat_Int, Int.natCast_zero, Int.natCast_one, Int.toNat_natCast, Nat.reduceBEq, nzs, h1, if_true, Int.toNat_natCast]
  refine CallK.stF (T := fun s => s) (fun _ _ => rfl) rfl rfl hcp fun b2 v2 ws2 M2 hM2 hw2 hS => ?_
  obtain ⟨x2, hx2, e2⟩ := ws_at hw2 k4
  obtain ⟨_, g1, i0⟩ := vol_at hS.volsM hx2
  have hx2m := List.mem_of_getElem? hx2
  have hblk := hS.blk x2 hx2m
  have hml : m < x.2.2.length := by omega
  obtain ⟨id, hid, _⟩ := l_drop_at (l := x.2.2) (i := m) hml
  have hid2 : x2.2.2[m]? = some id := by rw [e2]; exact hid
  obtain ⟨y0, y1, y2, yi⟩ := id_at hblk.row hid2
  have hgo := goI_ok ((volsE_ok hV).2 x.2 (List.mem_of_getElem? k4)).2.2 id (List.mem_of_getElem? hid)
  have hidAt : idAt (ws.map (·.2)) i m = id := by unfold idAt; rw [volAt_at k4, hid]; rfl
  have hset : (ws2.set i (x2.1, x2.2.1, x2.2.2.set m hole)).map (·.2) = setV (ws.map (·.2)) i m hole := by
    rw [setV_at k4, ← show ws2.map (·.2) = ws.map (·.2) from hw2, List.map_set, e2]
  have hml2 : m < (x2.2.2.map encI3).length := by rw [List.length_map, e2]; exact hml
  obtain ⟨q0, q1, q2⟩ := id
  simp only at y0 y1 y2
  cases q0 with
  | false =>
    have hq : q1 = 0 ∧ q2 = 0 := by
      unfold idE at hgo
      by_cases hz : q1 = 0 ∧ q2 = 0
      · exact hz
      · rw [if_pos ⟨rfl, hz⟩] at hgo; cases hgo
    obtain ⟨rfl, rfl⟩ := hq
    have hs2 : ws2.set i (x2.1, x2.2.1, x2.2.2.set m hole) = ws2 := by
      have e5 : x2.2.2.set m hole = x2.2.2 := set_same hid2
      rw [e5]
      exact set_same hx2
    rw [hs2] at hset
    simp only [shs, zts, sos, sls, zss, eqs, sx, sb1, sb2, sb3, sb4, sb5, sb6, sb7, ↓reduceIte, Nat.reduceAdd, Nat.reduceMul, Nat.reduceDiv, Nat.reduceEqDiff, Nat.reduceLT, Nat.reduceLeDiff, reduceCtorEq, Int.reduceEq, Int.reduceNe, Int.reduceLT, Int.reduceLE, Int.reduceAdd, Int.reduceSub, Int.reduceMul, Int.reduceNeg, Int.reduceToNat, Int.cast_ofNat_Int, Int.natCast_zero, Int.natCast_one, Int.toNat_natCast, Nat.reduceBEq, nzs, stV, hS.bag.row.one, hS.vols.row.one, i0, i0.2, g1.1, g1.2, yi, yi.2, y0.1, y0.2]
    exact stKO_of (fun s => .tup [s, .v (.int .i64 0)]) _ hS (by simp only [trimS, hidAt]; exact (if_neg (fun h => by cases h)).symm) hset
  | true =>
    have hD := drop b2 bag (true, q1, q2) M2 hS.bag.row
    simp only [idS] at hD
    simp only [shs, zts, sos, sls, zss, eqs, sx, sb1, sb2, sb3, sb4, sb5, sb6, sb7, ↓reduceIte, Nat.reduceAdd, Nat.reduceMul, Nat.reduceDiv, Nat.reduceEqDiff, Nat.reduceLT, Nat.reduceLeDiff, reduceCtorEq, Int.reduceEq, Int.reduceNe, Int.reduceLT, Int.reduceLE, Int.reduceAdd, Int.reduceSub, Int.reduceMul, Int.reduceNeg, Int.reduceToNat, Int.cast_ofNat_Int, Int.natCast_zero, Int.natCast_one, Int.toNat_natCast, Nat.reduceBEq, nzs, stV, hS.bag.row.one, hS.vols.row.one, i0, i0.2, g1.1, g1.2, yi, yi.2, y0.1, y0.2]
    refine DrawK.plan (tk [2, 3, 4] (.one 0 (.one 1 (.one 5 (tk [6, 7, 8, 9] (.one 10 .done)))))) (by kernel_rfl) (by kernel_rfl) ?_
    simp only [shs, zts, sos, sls, zss, eqs, sx, sb1, sb2, sb3, sb4, sb5, sb6, sb7, ↓reduceIte, Nat.reduceAdd, Nat.reduceMul, Nat.reduceDiv, Nat.reduceEqDiff, Nat.reduceLT, Nat.reduceLeDiff, reduceCtorEq, Int.reduceEq, Int.reduceNe, Int.reduceLT, Int.reduceLE, Int.reduceAdd, Int.reduceSub, Int.reduceMul, Int.reduceNeg, Int.reduceToNat, Int.cast_ofNat_Int, Int.natCast_zero, Int.natCast_one, Int.toNat_natCast, Nat.reduceBEq, nzs, se1, se2, tks, yi.2, y0.1, y0.2, y1.1, y1.2, y2.1, y2.2]
    refine CallK.own (T := fun s => .tup [s, .v (.int .i64 (dropS bag (true, q1, q2)).2)]) (Ctx.fst _) rfl rfl hD rfl fun M3 hM3 => ?_
    have hS3 := hS.le hM3
    simp only [shs, zts, sos, sls, zss, eqs, sx, sb1, sb2, sb3, sb4, sb5, sb6, sb7, ↓reduceIte, Nat.reduceAdd, Nat.reduceMul, Nat.reduceDiv, Nat.reduceEqDiff, Nat.reduceLT, Nat.reduceLeDiff, reduceCtorEq, Int.reduceEq, Int.reduceNe, Int.reduceLT, Int.reduceLE, Int.reduceAdd, Int.reduceSub, Int.reduceMul, Int.reduceNeg, Int.reduceToNat, Int.cast_ofNat_Int, Int.natCast_zero, Int.natCast_one, Int.toNat_natCast, Nat.reduceBEq, nzs, se1, se2, tks, hS.vols.row.one, stRD_ea]
    refine ⟨hM3, hM3, yi.2, ?_⟩
    have hget : (x2.2.2.map encI3).getD m [] = [.bool true, .int .i64 q1, .int .i64 q2] := getD_id hid2
    refine OpK.turnF (es := x2.2.2.map encI3) rfl rfl (of_eq_true so49) rfl rfl rfl rfl (by rw [sh49]; rfl) (hS3.blk x2 hx2m) (hS.fw hx2m) hml2 (by decide) fun M4 hb4 hr4 => ?_
    have hr5 : RowF M4 x2.1 3 ((x2.2.2.set m hole).map encI3) := by
      rw [hget] at hr4
      rw [← idsl_set]
      exact hr4
    have hS4 := hS3.turnB hx2 hb4 hr5
    have eA : (trimS bag (ws.map (·.2)) i m).1 = (dropS bag (true, q1, q2)).1 := by
      simp only [trimS, hidAt]
      rw [dropS_ok hB]
      exact if_pos rfl
    simp only [shs, zts, sos, sls, zss, eqs, sx, sb1, sb2, sb3, sb4, sb5, sb6, sb7, ↓reduceIte, Nat.reduceAdd, Nat.reduceMul, Nat.reduceDiv, Nat.reduceEqDiff, Nat.reduceLT, Nat.reduceLeDiff, reduceCtorEq, Int.reduceEq, Int.reduceNe, Int.reduceLT, Int.reduceLE, Int.reduceAdd, Int.reduceSub, Int.reduceMul, Int.reduceNeg, Int.reduceToNat, Int.cast_ofNat_Int, Int.natCast_zero, Int.natCast_one, Int.toNat_natCast, Nat.reduceBEq, nzs]
    refine ⟨hS.vols.row.one, .own 344, .v v2, _, rfl, hset, fun k _ h2 => (by cases h2), ⟨?_, ⟨hS4.vols, hS4.fv⟩⟩, fun w hw => ⟨hS4.blk w hw, hS4.fw hw⟩, (List.pairwise_cons.1 hS4.ap).2⟩
    rw [eA]
    rfl
theorem vwrite (b v : Value) (bag : List It) (ws : List WV) (n : List UInt8) (at' : Int) (s : List UInt8) (M : Mem) (hb : RowM M b 4 (bag.map Bg.encT)) (hv : VolsM M v ws) :
    Meets Proofs.Tryz.prog 10 [stV b v, .v (.string ⟨n.toArray⟩), .v (.int .i64 at'), .v (.string ⟨s.toArray⟩)] M (StM (fun t => .tup [t, .v (.int .i64 (writeA bag (ws.map (·.2)) n at' s).2)]) (writeA bag (ws.map (·.2)) n at' s).1) := by
  refine Meets.settleM (Ctx.fst _) ?_
  refine Meets.of_body [0,1,2,3,4,8,9,10,11,12,14,15,24,43] Proofs.Tryz.func10 rfl (by kernel_rfl) rfl fun w => ?_
  have hT := vtrim b v bag ws n at' M hb hv
  unfold trimA at hT
  generalize hc : writeA bag (ws.map (·.2)) n at' s = c
  unfold writeA at hc
  have hP := place b v bag ws n at' M hb hv
  unfold plI at hP
  simp only [stV] at hP hT
  simp only [Proofs.Tryz.f10, stV, shs, zts, sos, sls, zss, eqs, sx, sb1, sb2, sb3, sb4, sb5, sb6, sb7, ↓reduceIte, Nat.reduceAdd, Nat.reduceMul, Nat.reduceDiv, Nat.reduceEqDiff, Nat.reduceLT, Nat.reduceLeDiff, reduceCtorEq, Int.reduceEq, Int.reduceNe, Int.reduceLT, Int.reduceLE, Int.reduceAdd, Int.reduceSub, Int.reduceMul, Int.reduceNeg, Int.reduceToNat, Int.cast_ofNat_Int, Int.natCast_zero, Int.natCast_one, Int.toNat_natCast, Nat.reduceBEq, nzs]
  refine CallK.pure ⟨rfl, rfl⟩ rfl hP ?_
  by_cases h1 : plE bag (ws.map (·.2)) n at' = 0
  rotate_left
  · have c1 := eq_false h1
    rw [if_pos h1] at hc
    subst hc
    simp only [shs, zts, sos, sls, zss, eqs, sx, sb1, sb2, sb3, sb4, sb5, sb6, sb7, ↓reduceIte, Nat.reduceAdd, Nat.reduceMul, Nat.reduceDiv, Nat.reduceEqDiff, Nat.reduceLT, Nat.reduceLeDiff, reduceCtorEq, Int.reduceEq, Int.reduceNe, Int.reduceLT, Int.reduceLE, Int.reduceAdd, Int.reduceSub, Int.reduceMul, Int.reduceNeg, Int.reduceToNat, Int.cast_ofNat_Int, Int.natCast_zero, Int.natCast_one, Int.toNat_natCast, Nat.reduceBEq, nzs, c1]
    exact stO_zero _ _ _
  rw [if_neg (fun h => h h1)] at hc hT
  obtain ⟨hs, h2, h3, h4⟩ := plE_ok h1
  obtain ⟨i, x, k1, k2, k3, k4⟩ := volIx_at h2
  have hbk := blks_at k1 k4
  rw [hbk] at h4
  obtain ⟨m, rfl⟩ : ∃ m : Nat, at' = m := ⟨at'.toNat, by omega⟩
  obtain ⟨hB, hV, _⟩ := stE_ok hs
  rw [k1] at hc hT ⊢
  simp only [Int.toNat_natCast] at hc hT
  simp only [shs, zts, sos, sls, zss, eqs, sx, sb1, sb2, sb3, sb4, sb5, sb6, sb7, ↓reduceIte, Nat.reduceAdd, Nat.reduceMul, Nat.reduceDiv, Nat.reduceEqDiff, Nat.reduceLT, Nat.reduceLeDiff, reduceCtorEq, Int.reduceEq, Int.reduceNe, Int.reduceLT, Int.reduceLE, Int.reduceAdd, Int.reduceSub, Int.reduceMul, Int.reduceNeg, Int.reduceToNat, Int.cast_ofNat_Int, Int.natCast_zero, Int.natCast_one, Int.toNat_natCast, Nat.reduceBEq, nzs, h1, if_true]
  refine CallK.stF (T := fun t => .tup [t, .v (.int .i64 0)]) (fun _ _ => rfl) rfl rfl hT fun b2 v2 ws2 M2 hM2 hw2 hS => ?_
  have hml : m < x.2.2.length := by omega
  have hil := (List.getElem?_eq_some_iff.1 k4).1
  have hy : (trimS bag (ws.map (·.2)) i m).2[i]? = some (x.2.1, x.2.2.set m hole) := by
    show (setV (ws.map (·.2)) i m hole)[i]? = _
    rw [setV_at k4, List.getElem?_set_self hil]
  obtain ⟨x2, hx2, e2⟩ := ws_at hw2 hy
  have hx2m := List.mem_of_getElem? hx2
  obtain ⟨_, g1, i0⟩ := vol_at hS.volsM hx2
  have hblk := hS.blk x2 hx2m
  have hml2 : m < x2.2.2.length := by rw [e2, List.length_set]; exact hml
  obtain ⟨id, hid, _⟩ := l_drop_at (l := x2.2.2) (i := m) hml2
  obtain ⟨y0, y1, y2, yi⟩ := id_at hblk.row hid
  have hB2 : bagE (trimS bag (ws.map (·.2)) i m).1 = 0 := bagE_lessId hB _
  have hPu := put b2 (trimS bag (ws.map (·.2)) i m).1 s M2 hS.bag.row
  have hp : putS (trimS bag (ws.map (·.2)) i m).1 s = putG (trimS bag (ws.map (·.2)) i m).1 s := if_neg (fun h => h hB2)
  rw [hp] at hPu
  unfold writeS at hc
  change (if (putG (trimS bag (ws.map (·.2)) i m).1 s).2.2 ≠ 0 then (zSt, (putG (trimS bag (ws.map (·.2)) i m).1 s).2.2) else (((putG (trimS bag (ws.map (·.2)) i m).1 s).1, setV (ws.map (·.2)) i m (putG (trimS bag (ws.map (·.2)) i m).1 s).2.1), 0)) = c at hc
  simp only [shs, zts, sos, sls, zss, eqs, sx, sb1, sb2, sb3, sb4, sb5, sb6, sb7, ↓reduceIte, Nat.reduceAdd, Nat.reduceMul, Nat.reduceDiv, Nat.reduceEqDiff, Nat.reduceLT, Nat.reduceLeDiff, reduceCtorEq, Int.reduceEq, Int.reduceNe, Int.reduceLT, Int.reduceLE, Int.reduceAdd, Int.reduceSub, Int.reduceMul, Int.reduceNeg, Int.reduceToNat, Int.cast_ofNat_Int, Int.natCast_zero, Int.natCast_one, Int.toNat_natCast, Nat.reduceBEq, nzs, stV, hS.bag.row.one, hS.vols.row.one]
  refine CallK.own (putT_ctx _ _) rfl rfl hPu rfl fun M3 hM3 => ?_
  generalize putG (trimS bag (ws.map (·.2)) i m).1 s = pg at *
  obtain ⟨pl, pid, pe⟩ := pg
  simp only at hc
  have hS3 := hS.le hM3
  by_cases h5 : pe = 0
  rotate_left
  · have c5 := eq_false h5
    rw [if_pos h5] at hc
    subst hc
    simp only [shs, zts, sos, sls, zss, eqs, sx, sb1, sb2, sb3, sb4, sb5, sb6, sb7, ↓reduceIte, Nat.reduceAdd, Nat.reduceMul, Nat.reduceDiv, Nat.reduceEqDiff, Nat.reduceLT, Nat.reduceLeDiff, reduceCtorEq, Int.reduceEq, Int.reduceNe, Int.reduceLT, Int.reduceLE, Int.reduceAdd, Int.reduceSub, Int.reduceMul, Int.reduceNeg, Int.reduceToNat, Int.cast_ofNat_Int, Int.natCast_zero, Int.natCast_one, Int.toNat_natCast, Nat.reduceBEq, nzs, putT, idS, c5, hS.vols.row.one]
    exact stO_zero _ _ _
  rw [if_neg (fun h => h h5)] at hc
  subst hc
  simp only [shs, zts, sos, sls, zss, eqs, sx, sb1, sb2, sb3, sb4, sb5, sb6, sb7, ↓reduceIte, Nat.reduceAdd, Nat.reduceMul, Nat.reduceDiv, Nat.reduceEqDiff, Nat.reduceLT, Nat.reduceLeDiff, reduceCtorEq, Int.reduceEq, Int.reduceNe, Int.reduceLT, Int.reduceLE, Int.reduceAdd, Int.reduceSub, Int.reduceMul, Int.reduceNeg, Int.reduceToNat, Int.cast_ofNat_Int, Int.natCast_zero, Int.natCast_one, Int.toNat_natCast, Nat.reduceBEq, nzs, putT, idS, h5, hS.vols.row.one]
  have g1' := vol_at hS3.volsM hx2
  refine DrawK.heldT 12 [120] (tk [2, 6, 7, 8] (.one 0 (.one 1 (tk [3, 4, 5, 9] (.one 10 (tk [11] .done)))))) (by kernel_rfl) (by kernel_rfl) fun xs => ?_
  simp only [shs, zts, sos, sls, zss, eqs, sx, sb1, sb2, sb3, sb4, sb5, sb6, sb7, ↓reduceIte, Nat.reduceAdd, Nat.reduceMul, Nat.reduceDiv, Nat.reduceEqDiff, Nat.reduceLT, Nat.reduceLeDiff, reduceCtorEq, Int.reduceEq, Int.reduceNe, Int.reduceLT, Int.reduceLE, Int.reduceAdd, Int.reduceSub, Int.reduceMul, Int.reduceNeg, Int.reduceToNat, Int.cast_ofNat_Int, Int.natCast_zero, Int.natCast_one, Int.toNat_natCast, Nat.reduceBEq, nzs, se1, se2, tks, i0, i0.2, g1'.2.1.1, g1'.2.1.2, yi, yi.2, stRD_ea, hS.vols.row.one]
  have hml3 : m < (x2.2.2.map encI3).length := by rw [List.length_map]; exact hml2
  have hget : (x2.2.2.map encI3).getD m [] = [.bool id.1, .int .i64 id.2.1, .int .i64 id.2.2] := getD_id hid
  refine OpK.turnF (es := x2.2.2.map encI3) rfl rfl (of_eq_true so49) rfl rfl rfl rfl (by rw [sh49]; rfl) (hS3.blk x2 hx2m) (hS.fw hx2m) hml3 (Nat.le_refl 3) fun M4 hb4 hr4 => ?_
  have hr5 : RowF M4 x2.1 3 ((x2.2.2.set m pid).map encI3) := by
    rw [hget] at hr4
    rw [← idsl_set]
    exact hr4
  have hS4 := hS3.turnB hx2 hb4 hr5
  simp only [shs, zts, sos, sls, zss, eqs, sx, sb1, sb2, sb3, sb4, sb5, sb6, sb7, ↓reduceIte, Nat.reduceAdd, Nat.reduceMul, Nat.reduceDiv, Nat.reduceEqDiff, Nat.reduceLT, Nat.reduceLeDiff, reduceCtorEq, Int.reduceEq, Int.reduceNe, Int.reduceLT, Int.reduceLE, Int.reduceAdd, Int.reduceSub, Int.reduceMul, Int.reduceNeg, Int.reduceToNat, Int.cast_ofNat_Int, Int.natCast_zero, Int.natCast_one, Int.toNat_natCast, Nat.reduceBEq, nzs]
  refine ⟨hS.vols.row.one, .own 304, .v v2, _, rfl, ?_, fun k _ h2 => (by cases h2), ⟨rfl, hS4.vols.row⟩, fun w hw => (hS4.blk w hw).row⟩
  have hv2 : ws2.map (·.2) = setV (ws.map (·.2)) i m hole := hw2
  show (ws2.set i (x2.1, x2.2.1, x2.2.2.set m pid)).map (·.2) = setV (ws.map (·.2)) i m pid
  rw [List.map_set, hv2, setV_at k4, setV_at k4, List.set_set, e2, List.set_set]
end Go.X.Vo

namespace Go.Proofs
open Go.Shelf Go.RowKit Go.Lib Go.Sort
def Tryz.sl6_ren : Go.Shelf.Ren := ⟨fun | 6 => 109 | 10 => 156 | 11 => 157 | 12 => 158 | 13 => 159 | 14 => 160 | 24 => 193 | 25 => 194 | 26 => 195 | 27 => 196 | 28 => 197 | 29 => 198 | 30 => 199 | 31 => 200 | 32 => 201 | 33 => 202 | 34 => 212 | 35 => 213 | 36 => 214 | 37 => 215 | 38 => 216 | 39 => 222 | n => n, fun | 20 => 20 | 26 => 154 | 35 => 197 | 0 => 0 | 37 => 199 | 3 => 3 | 41 => 170 | 44 => 205 | 49 => 226 | 51 => 189 | 4 => 4 | 54 => 229 | 53 => 228 | 58 => 148 | 5 => 5 | 9 => 9 | 60 => 240 | 64 => 244 | 66 => 249 | 67 => 250 | 17 => 17 | 32 => 194 | 33 => 195 | 82 => 269 | 12 => 12 | 75 => 262 | 76 => 263 | 77 => 264 | 78 => 265 | 79 => 266 | 80 => 267 | n => n, fun | n => n⟩
theorem Tryz.sl6 : Go.Proofs.LaysGg.n6 Tryz.prog Tryz.sl6_ren := {
  mixed := by kernel_rfl,
  f6 := Tryz.func109.trans (congrArg some (by kernel_rfl)),
  f10 := Tryz.func156.trans (congrArg some (by kernel_rfl)),
  f11 := Tryz.func157.trans (congrArg some (by kernel_rfl)),
  f12 := Tryz.func158.trans (congrArg some (by kernel_rfl)),
  f13 := Tryz.func159.trans (congrArg some (by kernel_rfl)),
  f14 := Tryz.func160.trans (congrArg some (by kernel_rfl)),
  f24 := Tryz.func193.trans (congrArg some (by kernel_rfl)),
  f25 := Tryz.func194.trans (congrArg some (by kernel_rfl)),
  f26 := Tryz.func195.trans (congrArg some (by kernel_rfl)),
  f27 := Tryz.func196.trans (congrArg some (by kernel_rfl)),
  f28 := Tryz.func197.trans (congrArg some (by kernel_rfl)),
  f29 := Tryz.func198.trans (congrArg some (by kernel_rfl)),
  f30 := Tryz.func199.trans (congrArg some (by kernel_rfl)),
  f31 := Tryz.func200.trans (congrArg some (by kernel_rfl)),
  f32 := Tryz.func201.trans (congrArg some (by kernel_rfl)),
  f33 := Tryz.func202.trans (congrArg some (by kernel_rfl)),
  f34 := Tryz.func212.trans (congrArg some (by kernel_rfl)),
  f35 := Tryz.func213.trans (congrArg some (by kernel_rfl)),
  f36 := Tryz.func214.trans (congrArg some (by kernel_rfl)),
  f37 := Tryz.func215.trans (congrArg some (by kernel_rfl)),
  f38 := Tryz.func216.trans (congrArg some (by kernel_rfl)),
  f39 := Tryz.func222.trans (congrArg some (by kernel_rfl)),
  t0 := Tryz.underlying0,
  a0 := Tryz.isAgg0,
  z0 := Tryz.sizeOf0,
  v0 := Tryz.zeroValue0,
  i0 := by kernel_rfl,
  t3 := Tryz.underlying3,
  a3 := Tryz.isAgg3,
  z3 := Tryz.sizeOf3,
  v3 := Tryz.zeroValue3,
  i3 := by kernel_rfl,
  t4 := Tryz.underlying4,
  a4 := Tryz.isAgg4,
  z4 := Tryz.sizeOf4,
  v4 := Tryz.zeroValue4,
  i4 := by kernel_rfl,
  t5 := Tryz.underlying5,
  a5 := Tryz.isAgg5,
  z5 := Tryz.sizeOf5,
  v5 := Tryz.zeroValue5,
  i5 := by kernel_rfl,
  t9 := Tryz.underlying9,
  a9 := Tryz.isAgg9,
  z9 := Tryz.sizeOf9,
  v9 := Tryz.zeroValue9,
  i9 := by kernel_rfl,
  t12 := Tryz.underlying12,
  a12 := Tryz.isAgg12,
  z12 := Tryz.sizeOf12,
  v12 := Tryz.zeroValue12,
  i12 := by kernel_rfl,
  t17 := Tryz.underlying17,
  a17 := Tryz.isAgg17,
  z17 := Tryz.sizeOf17,
  v17 := Tryz.zeroValue17,
  i17 := by kernel_rfl,
  t20 := Tryz.underlying20,
  a20 := Tryz.isAgg20,
  z20 := Tryz.sizeOf20,
  v20 := Tryz.zeroValue20,
  i20 := by kernel_rfl,
  t26 := Tryz.underlying154,
  a26 := Tryz.isAgg154,
  z26 := Tryz.sizeOf154,
  v26 := Tryz.zeroValue154,
  i26 := by kernel_rfl,
  t32 := Tryz.underlying194,
  a32 := Tryz.isAgg194,
  z32 := Tryz.sizeOf194,
  v32 := Tryz.zeroValue194,
  i32 := by kernel_rfl,
  t33 := Tryz.underlying195,
  a33 := Tryz.isAgg195,
  z33 := Tryz.sizeOf195,
  v33 := Tryz.zeroValue195,
  i33 := by kernel_rfl,
  t35 := Tryz.underlying197,
  a35 := Tryz.isAgg197,
  z35 := Tryz.sizeOf197,
  v35 := Tryz.zeroValue197,
  i35 := by kernel_rfl,
  t37 := Tryz.underlying199,
  a37 := Tryz.isAgg199,
  z37 := Tryz.sizeOf199,
  v37 := Tryz.zeroValue199,
  i37 := by kernel_rfl,
  t41 := Tryz.underlying170,
  a41 := Tryz.isAgg170,
  z41 := Tryz.sizeOf170,
  v41 := Tryz.zeroValue170,
  i41 := by kernel_rfl,
  t44 := Tryz.underlying205,
  a44 := Tryz.isAgg205,
  z44 := Tryz.sizeOf205,
  v44 := Tryz.zeroValue205,
  i44 := by kernel_rfl,
  t49 := Tryz.underlying226,
  a49 := Tryz.isAgg226,
  z49 := Tryz.sizeOf226,
  v49 := Tryz.zeroValue226,
  i49 := by kernel_rfl,
  t51 := Tryz.underlying189,
  a51 := Tryz.isAgg189,
  z51 := Tryz.sizeOf189,
  v51 := Tryz.zeroValue189,
  i51 := by kernel_rfl,
  t53 := Tryz.underlying228,
  a53 := Tryz.isAgg228,
  z53 := Tryz.sizeOf228,
  v53 := Tryz.zeroValue228,
  i53 := by kernel_rfl,
  t54 := Tryz.underlying229,
  a54 := Tryz.isAgg229,
  z54 := Tryz.sizeOf229,
  v54 := Tryz.zeroValue229,
  i54 := by kernel_rfl,
  t58 := Tryz.underlying148,
  a58 := Tryz.isAgg148,
  z58 := Tryz.sizeOf148,
  v58 := Tryz.zeroValue148,
  i58 := by kernel_rfl,
  t60 := Tryz.underlying240,
  a60 := Tryz.isAgg240,
  z60 := Tryz.sizeOf240,
  v60 := Tryz.zeroValue240,
  i60 := by kernel_rfl,
  t64 := Tryz.underlying244,
  a64 := Tryz.isAgg244,
  z64 := Tryz.sizeOf244,
  v64 := Tryz.zeroValue244,
  i64 := by kernel_rfl,
  t66 := Tryz.underlying249,
  a66 := Tryz.isAgg249,
  z66 := Tryz.sizeOf249,
  v66 := Tryz.zeroValue249,
  i66 := by kernel_rfl,
  t67 := Tryz.underlying250,
  a67 := Tryz.isAgg250,
  z67 := Tryz.sizeOf250,
  v67 := Tryz.zeroValue250,
  i67 := by kernel_rfl,
  t75 := Tryz.underlying262,
  a75 := Tryz.isAgg262,
  z75 := Tryz.sizeOf262,
  v75 := Tryz.zeroValue262,
  i75 := by kernel_rfl,
  t76 := Tryz.underlying263,
  a76 := Tryz.isAgg263,
  z76 := Tryz.sizeOf263,
  v76 := Tryz.zeroValue263,
  i76 := by kernel_rfl,
  t77 := Tryz.underlying264,
  a77 := Tryz.isAgg264,
  z77 := Tryz.sizeOf264,
  v77 := Tryz.zeroValue264,
  i77 := by kernel_rfl,
  t78 := Tryz.underlying265,
  a78 := Tryz.isAgg265,
  z78 := Tryz.sizeOf265,
  v78 := Tryz.zeroValue265,
  i78 := by kernel_rfl,
  t79 := Tryz.underlying266,
  a79 := Tryz.isAgg266,
  z79 := Tryz.sizeOf266,
  v79 := Tryz.zeroValue266,
  i79 := by kernel_rfl,
  t80 := Tryz.underlying267,
  a80 := Tryz.isAgg267,
  z80 := Tryz.sizeOf267,
  v80 := Tryz.zeroValue267,
  i80 := by kernel_rfl,
  t82 := Tryz.underlying269,
  a82 := Tryz.isAgg269,
  z82 := Tryz.sizeOf269,
  v82 := Tryz.zeroValue269,
  i82 := by kernel_rfl }

set_option maxHeartbeats 2000000 in
/-- the closure of woolref.Put -/
theorem Tryz.putLess (blk off c Bs size : Nat) (W : World) (G1 G2 : Nat → Int) (hs : W.cell? ⟨Bs, 0, none⟩ = some (.slice (some ⟨blk, off, none⟩) size c))
    (hc : ∀ t, t < size → W.cell? ⟨blk, off + t * 4, none⟩ = some (.int .i64 (G1 t)) ∧ W.cell? ⟨blk, off + t * 4 + 1, none⟩ = some (.int .i64 (G2 t))) (i j : Nat) (hi : i < size) (hj : j < size) (_hsz : size < 4611686018427387904) :
    Calls Tryz.prog 163 #[.int .i64 i, .int .i64 j, .pointer (some ⟨Bs, 0, none⟩)] W fun e w' => e = .returned (.bool (decide (G1 i < G1 j ∨ (G1 i = G1 j ∧ G2 i < G2 j)))) ∧ ∃ q, w' = W.drewN q := by
  have ci := (hc i hi).1
  have cj := (hc j hj).1
  have ci2 := (hc i hi).2
  have cj2 := (hc j hj).2
  go_enter Tryz.func163, Tryz.ntmps163
  go_wp2
  rcases Int.lt_trichotomy (G1 i) (G1 j) with h | h | h
  · go_quiet (fail)
    go_wp2
    go_ret
    exact ⟨by simp [h], nq, rfl⟩
  · go_quiet (fail)
    go_wp2
    go_ret
    exact ⟨by simp [h], nq, rfl⟩
  · have h1 : ¬ G1 i < G1 j := Int.lt_asymm h
    have h2 : ¬ G1 i = G1 j := Int.ne_of_gt h
    go_quiet (fail)
    go_wp2
    go_ret
    exact ⟨by simp [h1, h2], nq, rfl⟩
end Go.Proofs

namespace Go.Proofs
open Go.Shelf Go.RowKit Go.Lib Go.Sort
noncomputable def Tryz.slT : TypeInfo := (Tryz.prog.info? 22).get (by kernel_rfl)
noncomputable def Tryz.slE : TypeInfo := (Tryz.prog.info? 107).get (by kernel_rfl)
theorem Tryz.slK (n : Nat) (h2 : 2 ≤ n) : Lib.swapperK n Tryz.slE 25 = 9 := by
  have a : Tryz.slE.hasPointers = true := by kernel_rfl
  have b : Tryz.slE.bytes = 40 := by kernel_rfl
  have c : (n == 0) = false := by simp; omega
  have d : (n == 1) = false := by simp; omega
  simp [Lib.swapperK, a, b, c, d]
end Go.Proofs
namespace Go.X.Bp
open Go Go.X Go.RowKit Go.X.Bg Go.X.Sb
def ltI (a b : It) : Bool := decide (cmpT a b < 0)
theorem swo : Sort.SWO ltI := by
  refine ⟨fun x => ?_, fun x y z h1 h2 => ?_, fun x y z h1 h2 => ?_⟩
  · simp [ltI, cmp_lt]
  · simp only [ltI, decide_eq_true_eq] at *
    exact cmp_trans h1 h2
  · simp only [ltI, decide_eq_false_iff_not, cmp_lt] at *
    omega
theorem encT_len (x : It) : (Bg.encT x).length = 4 := rfl
theorem srtLess (size : Nat) (hsz : size < 4611686018427387904) : LessC Proofs.Tryz.prog 163 Bg.encT 4 ltI size := fun W Bs blk c dk hdk h1 h2 i j hi hj => by
  refine (Proofs.Tryz.putLess blk 0 c Bs size W (fun t => dk[t]!.1) (fun t => dk[t]!.2.1) h1 (fun t ht => ⟨h2 t 0 ht (by omega), h2 t 1 ht (by omega)⟩) i j hi hj hsz).mono ?_
  rintro e w' ⟨rfl, q⟩
  refine ⟨?_, q⟩
  congr 2
  simp only [ltI, cmp_lt]
theorem sortC : SortC Proofs.Tryz.prog 109 163 22 Bg.encT 4 ltI := by
  refine ⟨fun p n c hn lb w => ?_, fun blk c d h2 hsz lb w hl hH hb => ?_⟩
  · have : ∃ f, Proofs.Tryz.prog.funcs.findIdx? (·.name == "internal/reflectlite" ++ ".Swapper$" ++ toString (Lib.swapperK n Proofs.Tryz.slE 25)) = some f := by
      rcases Nat.lt_or_ge n 1 with h | h
      · have : n = 0 := by omega
        subst this
        exact ⟨184, by kernel_rfl⟩
      · have : n = 1 := by omega
        subst this
        exact ⟨185, by kernel_rfl⟩
    obtain ⟨f, hf⟩ := this
    exact Proofs.Any.sort_Slice_tiny Proofs.Tryz.sl6 22 107 Proofs.Tryz.slT Proofs.Tryz.slE (by kernel_rfl) (by kernel_rfl) (by kernel_rfl) (by kernel_rfl) 25 (fun _ => by kernel_rfl) p n c hn f hf (.func 163) #[] lb w
  · exact Proofs.Any.sort_Slice_cells_sorted Proofs.Tryz.sl6 22 107 Proofs.Tryz.slT Proofs.Tryz.slE (by kernel_rfl) (by kernel_rfl) (by kernel_rfl) (by kernel_rfl) 25 (fun _ => by kernel_rfl) Bg.encT 4 encT_len (by kernel_rfl) (fun _ => by kernel_rfl)
      oneCell_it ltI swo 163 _ (Proofs.enters_of Proofs.Tryz.func163 (by kernel_rfl) rfl) blk 0 c d h2 hsz 192 (by rw [Proofs.Tryz.slK _ h2]; kernel_rfl) false
      (fun args W => run_callFunc_extern Proofs.Tryz.func192 (by kernel_rfl) (by kernel_rfl) (by kernel_rfl) (e := Extern.ReflectliteSwapper.swap false) (by kernel_rfl) args W) w hl hH hb

/-- the sorted row is the one where the new item stands at its place -/
theorem srt_unique {l l' : List It} (h1 : l'.Perm l) (h2 : l'.Pairwise (fun x y => ltI y x = false)) (h3 : l.Pairwise (fun a b => cmpT a b < 0)) : l' = l := by
  have hd : ∀ a b, a ∈ l → b ∈ l → cmpT a b = 0 → a = b := fun a b ha hb he => by
    obtain ⟨i, hi, rfl⟩ := List.mem_iff_getElem.1 ha
    obtain ⟨j, hj, rfl⟩ := List.mem_iff_getElem.1 hb
    rw [List.pairwise_iff_getElem] at h3
    rcases Nat.lt_trichotomy i j with h | h | h
    · have := h3 i j hi hj h
      omega
    · subst h; rfl
    · have := h3 j i hj hi h
      rw [cmp_lt] at this
      have h0 : ¬ cmpT l[i] l[j] < 0 := by omega
      unfold cmpT at he
      split at he <;> omega
  refine h1.eq_of_pairwise (le := fun x y => ltI y x = false) (fun a b ha hb h4 h5 => ?_) h2 (h3.imp fun {a b} h => ?_)
  · refine hd a b (h1.subset ha) hb ?_
    simp only [ltI, decide_eq_false_iff_not, cmp_lt] at h4 h5
    unfold cmpT
    split <;> omega
  · simp only [ltI, decide_eq_false_iff_not, cmp_lt] at *
    omega
theorem srt_ins {l l' : List It} {x : It} (hl : l.Pairwise (fun a b => cmpT a b < 0)) (hx : ∀ y ∈ l, ¬ (y.1 = x.1 ∧ y.2.1 = x.2.1)) (h1 : l'.Perm (l ++ [x])) (h2 : l'.Pairwise (fun x y => ltI y x = false)) : l' = insI l x :=
  srt_unique (h1.trans (insI_perm x l).symm) h2 (insI_srt x l hl hx)
end Go.X.Bp

namespace Go.X.Si
open Go Go.X Go.X.Rp

/-- where a number stands, or -1 -/
def ix (k : Int) : List Int → Nat → Int
  | [], _ => -1
  | x :: l, i => if k = x then (i : Int) else ix k l (i + 1)
theorem index (y : Value) (l : List Int) (k : Int) (M : Mem) (hy : RowM M y 1 (l.map encI)) :
    Meets Proofs.Tryz.prog 148 [.v y, .v (.int .i64 k)] M fun r _ _ => r = .v (.int .i64 (ix k l 0)) := by
  refine Meets.of_body [0,1,4,5,7,8,9,16] Proofs.Tryz.func148 rfl (by kernel_rfl) rfl fun w => ?_
  generalize hc : ix k l 0 = c
  have hyl := hy.len_le
  rw [List.length_map] at hyl
  simp only [Proofs.Tryz.f148, shs, zts, sos, sls, zss, eqs, sx, sb1, sb2, sb3, sb4, sb5, sb6, sb7, ↓reduceIte, Nat.reduceAdd, Nat.reduceMul, Nat.reduceDiv, Nat.reduceEqDiff, Nat.reduceLT, Nat.reduceLeDiff, reduceCtorEq, Int.reduceEq, Int.reduceNe, Int.reduceLT, Int.reduceLE, Int.reduceAdd, Int.reduceSub, Int.reduceMul, Int.reduceNeg, Int.reduceToNat, Int.cast_ofNat_Int, Int.natCast_zero, Int.natCast_one, Int.toNat_natCast, Nat.reduceBEq, hy.len, hy.sl, List.length_map]
  refine LoopK.go (X := Nat × Nat) (fun x => ([(0, true, .v y), (1, true, .v (.int .i64 k)), (7, true, .v (.int .i64 l.length)), (8, true, .v (.int .i64 x.2))], [], M))
    (fun x => x.1 + x.2 = l.length ∧ ix k (l.drop x.2) x.2 = c) (fun x => x.1) (l.length, 0) ⟨rfl, hc⟩ (Ent.of ?_) ?_
  · simp only [sx, sb1, sb2, sb3, sb4, sb5, sb6, sb7, ↓reduceIte, Nat.reduceAdd, Nat.reduceMul, Nat.reduceDiv, Nat.reduceEqDiff, Nat.reduceLT, Nat.reduceLeDiff, reduceCtorEq, Int.reduceEq, Int.reduceNe, Int.reduceLT, Int.reduceLE, Int.reduceAdd, Int.reduceSub, Int.reduceMul, Int.reduceNeg, Int.reduceToNat, Int.cast_ofNat_Int, Int.natCast_zero, Int.natCast_one, Int.toNat_natCast, Nat.reduceBEq]
  rintro ⟨f, i⟩ ⟨h1, h2⟩
  simp only at h1 h2
  simp only [shs, zts, sos, sls, zss, eqs, sx, sb1, sb2, sb3, sb4, sb5, sb6, sb7, ↓reduceIte, Nat.reduceAdd, Nat.reduceMul, Nat.reduceDiv, Nat.reduceEqDiff, Nat.reduceLT, Nat.reduceLeDiff, reduceCtorEq, Int.reduceEq, Int.reduceNe, Int.reduceLT, Int.reduceLE, Int.reduceAdd, Int.reduceSub, Int.reduceMul, Int.reduceNeg, Int.reduceToNat, Int.cast_ofNat_Int, Int.natCast_zero, Int.natCast_one, Int.toNat_natCast, Nat.reduceBEq]
  refine ⟨fun h3 => ?_, fun h3 => ?_⟩
  · obtain ⟨x, hx, hd⟩ := drop_at (l := l) (i := i) (by omega)
    have g1 := hy.el1 hx rfl
    have i1 := hy.ix (i := (i : Int)) (by omega) (by rw [List.length_map]; omega)
    rw [hd] at h2
    simp only [ix] at h2
    simp only [shs, zts, sos, sls, zss, eqs, sx, sb1, sb2, sb3, sb4, sb5, sb6, sb7, ↓reduceIte, Nat.reduceAdd, Nat.reduceMul, Nat.reduceDiv, Nat.reduceEqDiff, Nat.reduceLT, Nat.reduceLeDiff, reduceCtorEq, Int.reduceEq, Int.reduceNe, Int.reduceLT, Int.reduceLE, Int.reduceAdd, Int.reduceSub, Int.reduceMul, Int.reduceNeg, Int.reduceToNat, Int.cast_ofNat_Int, Int.natCast_zero, Int.natCast_one, Int.toNat_natCast, Nat.reduceBEq, g1.1, inK, lo, hi]
    refine ⟨i1, g1.2, fun h4 => ?_, fun h4 => ⟨by omega, (f - 1, i + 1), ⟨⟨by simp only; omega, by simp only; rw [if_neg h4] at h2; exact h2⟩, by simp only; omega⟩, Ent.of ?_⟩⟩
    · rw [if_pos h4] at h2
      rw [h2]
    · simp only [sx, sb1, sb2, sb3, sb4, sb5, sb6, sb7, ↓reduceIte, Nat.reduceAdd, Nat.reduceMul, Nat.reduceDiv, Nat.reduceEqDiff, Nat.reduceLT, Nat.reduceLeDiff, reduceCtorEq, Int.reduceEq, Int.reduceNe, Int.reduceLT, Int.reduceLE, Int.reduceAdd, Int.reduceSub, Int.reduceMul, Int.reduceNeg, Int.reduceToNat, Int.cast_ofNat_Int, Int.natCast_zero, Int.natCast_one, Int.toNat_natCast, Nat.reduceBEq, Int.natCast_add]
  · have hd : l.drop i = [] := List.drop_eq_nil_of_le (by omega)
    rw [hd] at h2
    simp only [ix] at h2
    rw [h2]
theorem contains (y : Value) (l : List Int) (k : Int) (M : Mem) (hy : RowM M y 1 (l.map encI)) :
    Meets Proofs.Tryz.prog 98 [.v y, .v (.int .i64 k)] M fun r _ _ => r = .v (.bool (decide (0 ≤ ix k l 0))) := by
  refine Meets.of_body [0,1,4] Proofs.Tryz.func98 rfl (by kernel_rfl) rfl fun w => ?_
  simp only [Proofs.Tryz.f98, shs, zts, sos, sls, zss, eqs, sx, sb1, sb2, sb3, sb4, sb5, sb6, sb7, ↓reduceIte, Nat.reduceAdd, Nat.reduceMul, Nat.reduceDiv, Nat.reduceEqDiff, Nat.reduceLT, Nat.reduceLeDiff, reduceCtorEq, Int.reduceEq, Int.reduceNe, Int.reduceLT, Int.reduceLE, Int.reduceAdd, Int.reduceSub, Int.reduceMul, Int.reduceNeg, Int.reduceToNat, Int.cast_ofNat_Int, Int.natCast_zero, Int.natCast_one, Int.toNat_natCast, Nat.reduceBEq]
  refine CallK.pure ⟨rfl, rfl⟩ rfl (index y l k M hy) ?_
  simp only [shs, zts, sos, sls, zss, eqs, sx, sb1, sb2, sb3, sb4, sb5, sb6, sb7, ↓reduceIte, Nat.reduceAdd, Nat.reduceMul, Nat.reduceDiv, Nat.reduceEqDiff, Nat.reduceLT, Nat.reduceLeDiff, reduceCtorEq, Int.reduceEq, Int.reduceNe, Int.reduceLT, Int.reduceLE, Int.reduceAdd, Int.reduceSub, Int.reduceMul, Int.reduceNeg, Int.reduceToNat, Int.cast_ofNat_Int, Int.natCast_zero, Int.natCast_one, Int.toNat_natCast, Nat.reduceBEq]
theorem ix_ge (k : Int) : ∀ (l : List Int) (i : Nat), (0 ≤ ix k l i) = (k ∈ l)
  | [], i => by simp [ix]
  | x :: l, i => by
    rw [ix, List.mem_cons]
    split
    · rename_i h
      exact propext ⟨fun _ => .inl h, fun _ => by omega⟩
    · rename_i h
      rw [ix_ge k l (i + 1)]
      exact propext ⟨fun a => .inr a, fun a => a.resolve_left h⟩
end Go.X.Si

namespace Go.X.Bp
open Go Go.X Go.RowKit Go.X.Bg Go.X.Sb

/-- the numbers of the first items that have this print -/
def usedN (l : List It) (s : Int) (n : Nat) : List Int := ((l.take n).filter (fun x => decide (x.1 = s))).map (·.2.1)
theorem usedN_succ {l : List It} {n : Nat} {x : It} (s : Int) (h : l[n]? = some x) : usedN l s (n + 1) = if x.1 = s then usedN l s n ++ [x.2.1] else usedN l s n := by
  unfold usedN
  rw [List.take_add_one, h, Option.toList_some, List.filter_append, List.map_append]
  split
  · rename_i h1; simp [h1]
  · rename_i h1; simp [h1]
theorem usedN_len (l : List It) (s : Int) (n : Nat) : (usedN l s n).length ≤ n := by
  unfold usedN
  rw [List.length_map]
  have h1 := List.length_filter_le (fun x : It => decide (x.1 = s)) (l.take n)
  have h2 := List.length_take_le n l
  omega
theorem usedN_has (l : List It) (s : Int) (n : Nat) : ((n : Int) ∈ usedN l s l.length) = (has l s n = true) := by
  unfold usedN
  rw [List.take_length]
  apply propext
  rw [has_iff]
  simp only [List.mem_map, List.mem_filter, decide_eq_true_eq]
  exact ⟨fun ⟨x, ⟨h1, h2⟩, h3⟩ => ⟨x, h1, h2, h3⟩, fun ⟨x, h1, h2, h3⟩ => ⟨x, ⟨h1, h2⟩, h3⟩⟩
theorem rput (y : Value) (l : List It) (s : List UInt8) (M : Mem) (hy : RowM M y 4 (l.map Bg.encT)) (hb : bagE l = 0) :
    Meets Proofs.Tryz.prog 114 [.v y, .v (.string ⟨s.toArray⟩)] M (OwnR (putT (putG l s).2.1 (putG l s).2.2) 4 ((putG l s).1.map Bg.encT)) := by
  have hes : ∀ q : List It, ∀ e ∈ q.map Bg.encT, e.length = 4 ∧ ∀ c ∈ e, c.oneCell' = true := fun q e he => by
    obtain ⟨x, hx, rfl⟩ := List.mem_map.1 he
    exact ⟨rfl, oneCell_it x⟩
  refine Meets.closeR (putT_ctx _ _) (hes _) ?_
  refine Meets.of_body [0,1,4,5,6,7,8,9,10,11,14,18,19,20,21,28,31,50,59,68] Proofs.Tryz.func114 rfl (by kernel_rfl) rfl fun w => ?_
  generalize hc : putG l s = c
  unfold putG at hc
  have hyl := hy.len_le
  rw [List.length_map] at hyl
  have hl64 := bag_len hb
  simp only [Proofs.Tryz.f114, shs, zts, sos, sls, zss, eqs, sx, sb1, sb2, sb3, sb4, sb5, sb6, sb7, ↓reduceIte, Nat.reduceAdd, Nat.reduceMul, Nat.reduceDiv, Nat.reduceEqDiff, Nat.reduceLT, Nat.reduceLeDiff, reduceCtorEq, Int.reduceEq, Int.reduceNe, Int.reduceLT, Int.reduceLE, Int.reduceAdd, Int.reduceSub, Int.reduceMul, Int.reduceNeg, Int.reduceToNat, Int.cast_ofNat_Int, Int.natCast_zero, Int.natCast_one, Int.toNat_natCast, Nat.reduceBEq, nzs]
  by_cases h2 : 64 < s.length
  · have c2 : ((64 : Int) < (s.length : Int)) = True := eq_true (by omega)
    rw [if_pos h2] at hc
    subst hc
    simp only [shs, zts, sos, sls, zss, eqs, sx, sb1, sb2, sb3, sb4, sb5, sb6, sb7, ↓reduceIte, Nat.reduceAdd, Nat.reduceMul, Nat.reduceDiv, Nat.reduceEqDiff, Nat.reduceLT, Nat.reduceLeDiff, reduceCtorEq, Int.reduceEq, Int.reduceNe, Int.reduceLT, Int.reduceLE, Int.reduceAdd, Int.reduceSub, Int.reduceMul, Int.reduceNeg, Int.reduceToNat, Int.cast_ofNat_Int, Int.natCast_zero, Int.natCast_one, Int.toNat_natCast, Nat.reduceBEq, nzs, c2, putT, idS, z3]
    exact fun h => absurd h (by omega)
  have c2 : ((64 : Int) < (s.length : Int)) = False := eq_false (by omega)
  have c2b : ((s.length : Int) ≤ 64) = True := eq_true (by omega)
  have hs : s.length ≤ maxLen := Nat.le_trans (Nat.le_of_not_lt h2) (by decide)
  rw [if_neg h2] at hc
  simp only [shs, zts, sos, sls, zss, eqs, sx, sb1, sb2, sb3, sb4, sb5, sb6, sb7, ↓reduceIte, Nat.reduceAdd, Nat.reduceMul, Nat.reduceDiv, Nat.reduceEqDiff, Nat.reduceLT, Nat.reduceLeDiff, reduceCtorEq, Int.reduceEq, Int.reduceNe, Int.reduceLT, Int.reduceLE, Int.reduceAdd, Int.reduceSub, Int.reduceMul, Int.reduceNeg, Int.reduceToNat, Int.cast_ofNat_Int, Int.natCast_zero, Int.natCast_one, Int.toNat_natCast, Nat.reduceBEq, nzs, c2, c2b]
  refine CallK.own Ctx.id rfl rfl (cloneB y l M hy (by omega)) rfl fun M1 hM1 => ?_
  simp only [shs, zts, sos, sls, zss, eqs, sx, sb1, sb2, sb3, sb4, sb5, sb6, sb7, ↓reduceIte, Nat.reduceAdd, Nat.reduceMul, Nat.reduceDiv, Nat.reduceEqDiff, Nat.reduceLT, Nat.reduceLeDiff, reduceCtorEq, Int.reduceEq, Int.reduceNe, Int.reduceLT, Int.reduceLE, Int.reduceAdd, Int.reduceSub, Int.reduceMul, Int.reduceNeg, Int.reduceToNat, Int.cast_ofNat_Int, Int.natCast_zero, Int.natCast_one, Int.toNat_natCast, Nat.reduceBEq, nzs, hdel, sigDrop, sigDropA]
  refine LoopK.nilRow 8 55 1 rfl rfl rfl ?_
  refine LoopK.go (X := Nat) (fun n => ([(0, true, .v y), (1, true, .v (.string ⟨s.toArray⟩)), (4, true, .v (.slice none 0 0)), (5, true, .ptr 40 0 0 0), (6, true, .v (.int .i64 0)), (7, true, .ptr 56 0 0 0), (8, true, .own 440), (18, true, .own 136), (19, true, .v (.int .i64 l.length)), (20, true, .v (.int .i64 (n : Int)))], [(440, .row 1 ((usedN l (sumT s) n).map encI)), (56, .box [.own 136] none), (136, .row 4 (l.map Bg.encT)), (40, .box [.v (.bool false), .v (.int .i64 0), .v (.int .i64 0)] none)], M1))
    (fun n => n ≤ l.length ∧ txtIx l s = fidx (fun x : It => decide (x.2.2.1 = s)) (l.drop n) n) (fun n => l.length - n) 0 ⟨Nat.zero_le _, rfl⟩ (Ent.of ?_) ?_
  · simp only [sx, sb1, sb2, sb3, sb4, sb5, sb6, sb7, ↓reduceIte, Nat.reduceAdd, Nat.reduceMul, Nat.reduceDiv, Nat.reduceEqDiff, Nat.reduceLT, Nat.reduceLeDiff, reduceCtorEq, Int.reduceEq, Int.reduceNe, Int.reduceLT, Int.reduceLE, Int.reduceAdd, Int.reduceSub, Int.reduceMul, Int.reduceNeg, Int.reduceToNat, Int.cast_ofNat_Int, Int.natCast_zero, Int.natCast_one, Int.toNat_natCast, Nat.reduceBEq, List.length_map, usedN, List.take_zero, List.filter_nil, List.map_nil, Int.natCast_zero]
  rintro n ⟨hn, hti⟩
  simp only [shs, zts, sos, sls, zss, eqs, sx, sb1, sb2, sb3, sb4, sb5, sb6, sb7, ↓reduceIte, Nat.reduceAdd, Nat.reduceMul, Nat.reduceDiv, Nat.reduceEqDiff, Nat.reduceLT, Nat.reduceLeDiff, reduceCtorEq, Int.reduceEq, Int.reduceNe, Int.reduceLT, Int.reduceLE, Int.reduceAdd, Int.reduceSub, Int.reduceMul, Int.reduceNeg, Int.reduceToNat, Int.cast_ofNat_Int, Int.natCast_zero, Int.natCast_one, Int.toNat_natCast, Nat.reduceBEq, nzs]
  refine ⟨fun h3 => ?_, fun h3 => ?_⟩
  · have hn' : n < l.length := by omega
    obtain ⟨x, hx, hd⟩ := Rp.drop_at (l := l) (i := n) hn'
    have hg := getD_it hx
    rw [hd] at hti
    simp only [fidx] at hti
    simp only [shs, zts, sos, sls, zss, eqs, sx, sb1, sb2, sb3, sb4, sb5, sb6, sb7, ↓reduceIte, Nat.reduceAdd, Nat.reduceMul, Nat.reduceDiv, Nat.reduceEqDiff, Nat.reduceLT, Nat.reduceLeDiff, reduceCtorEq, Int.reduceEq, Int.reduceNe, Int.reduceLT, Int.reduceLE, Int.reduceAdd, Int.reduceSub, Int.reduceMul, Int.reduceNeg, Int.reduceToNat, Int.cast_ofNat_Int, Int.natCast_zero, Int.natCast_one, Int.toNat_natCast, Nat.reduceBEq, nzs, hg, List.getD_cons_zero, List.getD_cons_succ, List.length_map]
    have hrf := (oneE_ok (bag_ok hb x (List.mem_of_getElem? hx))).2.2
    by_cases h4 : x.2.2.1 = s
    · rw [if_pos (decide_eq_true h4)] at hti
      rw [hti, atI_at hx, Int.toNat_natCast, if_pos (by omega)] at hc
      have c4 := eq_true h4
      by_cases h5 : x.2.2.2 = 1000000
      · rw [if_pos h5] at hc
        subst hc
        have c5 : ((1000000 : Int) ≤ x.2.2.2) = True := eq_true (by omega)
        have c5b : (x.2.2.2 < 1000000) = False := eq_false (by omega)
        simp only [shs, zts, sos, sls, zss, eqs, sx, sb1, sb2, sb3, sb4, sb5, sb6, sb7, ↓reduceIte, Nat.reduceAdd, Nat.reduceMul, Nat.reduceDiv, Nat.reduceEqDiff, Nat.reduceLT, Nat.reduceLeDiff, reduceCtorEq, Int.reduceEq, Int.reduceNe, Int.reduceLT, Int.reduceLE, Int.reduceAdd, Int.reduceSub, Int.reduceMul, Int.reduceNeg, Int.reduceToNat, Int.cast_ofNat_Int, Int.natCast_zero, Int.natCast_one, Int.toNat_natCast, Nat.reduceBEq, nzs, c4, c5, c5b, putT, idS, z3]
        exact ⟨⟨by omega, by omega⟩, by omega⟩
      · rw [if_neg h5] at hc
        subst hc
        have c5 : ((1000000 : Int) ≤ x.2.2.2) = False := eq_false (by omega)
        have c5b : (x.2.2.2 < 1000000) = True := eq_true (by omega)
        have hset := setR_map hx (x.2.2.2 + 1)
        simp only [shs, zts, sos, sls, zss, eqs, sx, sb1, sb2, sb3, sb4, sb5, sb6, sb7, ↓reduceIte, Nat.reduceAdd, Nat.reduceMul, Nat.reduceDiv, Nat.reduceEqDiff, Nat.reduceLT, Nat.reduceLeDiff, reduceCtorEq, Int.reduceEq, Int.reduceNe, Int.reduceLT, Int.reduceLE, Int.reduceAdd, Int.reduceSub, Int.reduceMul, Int.reduceNeg, Int.reduceToNat, Int.cast_ofNat_Int, Int.natCast_zero, Int.natCast_one, Int.toNat_natCast, Nat.reduceBEq, nzs, hg, List.getD_cons_zero, List.getD_cons_succ, c4, c5, c5b, List.length_map, hset]
        refine ⟨⟨by omega, by omega⟩, by omega, by simp only [inK, lo, hi]; omega, ⟨by omega, by omega⟩, by omega, DrawK.tail 7 (by kernel_rfl) (by kernel_rfl) ?_⟩
        simp only [shs, zts, sos, sls, zss, eqs, sx, sb1, sb2, sb3, sb4, sb5, sb6, sb7, ↓reduceIte, Nat.reduceAdd, Nat.reduceMul, Nat.reduceDiv, Nat.reduceEqDiff, Nat.reduceLT, Nat.reduceLeDiff, reduceCtorEq, Int.reduceEq, Int.reduceNe, Int.reduceLT, Int.reduceLE, Int.reduceAdd, Int.reduceSub, Int.reduceMul, Int.reduceNeg, Int.reduceToNat, Int.cast_ofNat_Int, Int.natCast_zero, Int.natCast_one, Int.toNat_natCast, Nat.reduceBEq, nzs, putT, idS]
        exact .inr (.inl ⟨136, rfl, rfl⟩)
    · have c4 := eq_false h4
      rw [if_neg (by simpa using h4)] at hti
      simp only [shs, zts, sos, sls, zss, eqs, sx, sb1, sb2, sb3, sb4, sb5, sb6, sb7, ↓reduceIte, Nat.reduceAdd, Nat.reduceMul, Nat.reduceDiv, Nat.reduceEqDiff, Nat.reduceLT, Nat.reduceLeDiff, reduceCtorEq, Int.reduceEq, Int.reduceNe, Int.reduceLT, Int.reduceLE, Int.reduceAdd, Int.reduceSub, Int.reduceMul, Int.reduceNeg, Int.reduceToNat, Int.cast_ofNat_Int, Int.natCast_zero, Int.natCast_one, Int.toNat_natCast, Nat.reduceBEq, nzs, c4]
      refine ⟨⟨by omega, by omega⟩, by omega, DrawK.quiet (by kernel_rfl) (by kernel_rfl) ?_⟩
      simp only [shs, zts, sos, sls, zss, eqs, sx, sb1, sb2, sb3, sb4, sb5, sb6, sb7, ↓reduceIte, Nat.reduceAdd, Nat.reduceMul, Nat.reduceDiv, Nat.reduceEqDiff, Nat.reduceLT, Nat.reduceLeDiff, reduceCtorEq, Int.reduceEq, Int.reduceNe, Int.reduceLT, Int.reduceLE, Int.reduceAdd, Int.reduceSub, Int.reduceMul, Int.reduceNeg, Int.reduceToNat, Int.cast_ofNat_Int, Int.natCast_zero, Int.natCast_one, Int.toNat_natCast, Nat.reduceBEq, nzs]
      refine ⟨_, ⟨⟨rfl, rfl⟩, rprintS s M1 hs⟩, ?_⟩
      simp only [shs, zts, sos, sls, zss, eqs, sx, sb1, sb2, sb3, sb4, sb5, sb6, sb7, ↓reduceIte, Nat.reduceAdd, Nat.reduceMul, Nat.reduceDiv, Nat.reduceEqDiff, Nat.reduceLT, Nat.reduceLeDiff, reduceCtorEq, Int.reduceEq, Int.reduceNe, Int.reduceLT, Int.reduceLE, Int.reduceAdd, Int.reduceSub, Int.reduceMul, Int.reduceNeg, Int.reduceToNat, Int.cast_ofNat_Int, Int.natCast_zero, Int.natCast_one, Int.toNat_natCast, Nat.reduceBEq, nzs]
      have hul := usedN_len l (sumT s) n
      have hus := usedN_succ (sumT s) hx
      refine ⟨fun h7 => ⟨⟨by rw [List.length_map]; omega, by rw [List.length_map]; omega⟩, by simp only [inK, lo, hi]; omega, n + 1, ⟨⟨by omega, hti⟩, by omega⟩, Ent.of ?_⟩, fun h7 => ⟨by simp only [inK, lo, hi]; omega, n + 1, ⟨⟨by omega, hti⟩, by omega⟩, Ent.of ?_⟩⟩
      · rw [if_pos h7] at hus
        rw [hus, List.map_append, show ([x.2.1].map encI) = [[Value.int IntKind.i64 x.2.1]] from rfl]
        simp only [sx, sb1, sb2, sb3, sb4, sb5, sb6, sb7, ↓reduceIte, Nat.reduceAdd, Nat.reduceMul, Nat.reduceDiv, Nat.reduceEqDiff, Nat.reduceLT, Nat.reduceLeDiff, reduceCtorEq, Int.reduceEq, Int.reduceNe, Int.reduceLT, Int.reduceLE, Int.reduceAdd, Int.reduceSub, Int.reduceMul, Int.reduceNeg, Int.reduceToNat, Int.cast_ofNat_Int, Int.natCast_zero, Int.natCast_one, Int.toNat_natCast, Nat.reduceBEq, Int.natCast_add]
      · rw [if_neg h7] at hus
        rw [hus]
        simp only [sx, sb1, sb2, sb3, sb4, sb5, sb6, sb7, ↓reduceIte, Nat.reduceAdd, Nat.reduceMul, Nat.reduceDiv, Nat.reduceEqDiff, Nat.reduceLT, Nat.reduceLeDiff, reduceCtorEq, Int.reduceEq, Int.reduceNe, Int.reduceLT, Int.reduceLE, Int.reduceAdd, Int.reduceSub, Int.reduceMul, Int.reduceNeg, Int.reduceToNat, Int.cast_ofNat_Int, Int.natCast_zero, Int.natCast_one, Int.toNat_natCast, Nat.reduceBEq, Int.natCast_add]
  · have hd : l.drop n = [] := List.drop_eq_nil_of_le (by omega)
    rw [hd] at hti
    simp only [fidx] at hti
    rw [hti, if_neg (by decide)] at hc
    have hnl : n = l.length := by omega
    subst hnl
    by_cases h6 : l.length = 64
    · have c6 : ((63 : Int) < (l.length : Int)) = True := eq_true (by omega)
      have c6b : ((l.length : Int) ≤ 63) = False := eq_false (by omega)
      rw [if_pos h6] at hc
      subst hc
      simp only [shs, zts, sos, sls, zss, eqs, sx, sb1, sb2, sb3, sb4, sb5, sb6, sb7, ↓reduceIte, Nat.reduceAdd, Nat.reduceMul, Nat.reduceDiv, Nat.reduceEqDiff, Nat.reduceLT, Nat.reduceLeDiff, reduceCtorEq, Int.reduceEq, Int.reduceNe, Int.reduceLT, Int.reduceLE, Int.reduceAdd, Int.reduceSub, Int.reduceMul, Int.reduceNeg, Int.reduceToNat, Int.cast_ofNat_Int, Int.natCast_zero, Int.natCast_one, Int.toNat_natCast, Nat.reduceBEq, nzs, hy.len, hy.sl, List.length_map, c6, c6b, putT, idS, z3]
      skip
    have c6 : ((63 : Int) < (l.length : Int)) = False := eq_false (by omega)
    have c6b : ((l.length : Int) ≤ 63) = True := eq_true (by omega)
    rw [if_neg h6] at hc
    subst hc
    simp only [shs, zts, sos, sls, zss, eqs, sx, sb1, sb2, sb3, sb4, sb5, sb6, sb7, ↓reduceIte, Nat.reduceAdd, Nat.reduceMul, Nat.reduceDiv, Nat.reduceEqDiff, Nat.reduceLT, Nat.reduceLeDiff, reduceCtorEq, Int.reduceEq, Int.reduceNe, Int.reduceLT, Int.reduceLE, Int.reduceAdd, Int.reduceSub, Int.reduceMul, Int.reduceNeg, Int.reduceToNat, Int.cast_ofNat_Int, Int.natCast_zero, Int.natCast_one, Int.toNat_natCast, Nat.reduceBEq, nzs, hy.len, hy.sl, List.length_map, c6, c6b]
    refine CallK.pure ⟨rfl, rfl⟩ rfl (rprintS s M1 hs) ?_
    simp only [shs, zts, sos, sls, zss, eqs, sx, sb1, sb2, sb3, sb4, sb5, sb6, sb7, ↓reduceIte, Nat.reduceAdd, Nat.reduceMul, Nat.reduceDiv, Nat.reduceEqDiff, Nat.reduceLT, Nat.reduceLeDiff, reduceCtorEq, Int.reduceEq, Int.reduceNe, Int.reduceLT, Int.reduceLE, Int.reduceAdd, Int.reduceSub, Int.reduceMul, Int.reduceNeg, Int.reduceToNat, Int.cast_ofNat_Int, Int.natCast_zero, Int.natCast_one, Int.toNat_natCast, Nat.reduceBEq, nzs]
    refine LoopK.go (X := Nat) (fun n => ([(0, true, .v y), (1, true, .v (.string ⟨s.toArray⟩)), (4, true, .v (.slice none 0 0)), (5, true, .ptr 40 0 0 0), (6, true, .v (.int .i64 0)), (7, true, .ptr 56 0 0 0), (8, true, .own 440), (11, true, .ptr 88 0 0 0)], [(88, .box [.v (.int .i64 (sumT s)), .v (.int .i64 (n : Int)), .v (.string ⟨s.toArray⟩), .v (.int .i64 1)] none), (440, .row 1 ((usedN l (sumT s) l.length).map encI)), (56, .box [.own 136] none), (136, .row 4 (l.map Bg.encT)), (40, .box [.v (.bool false), .v (.int .i64 0), .v (.int .i64 0)] none)], M1)) (fun n => ∀ m, m < n → has l (sumT s) m = true) (fun n => 65 - n) 0 (fun m hm => by omega) (Ent.of ?_) ?_
    · simp only [sx, sb1, sb2, sb3, sb4, sb5, sb6, sb7, ↓reduceIte, Nat.reduceAdd, Nat.reduceMul, Nat.reduceDiv, Nat.reduceEqDiff, Nat.reduceLT, Nat.reduceLeDiff, reduceCtorEq, Int.reduceEq, Int.reduceNe, Int.reduceLT, Int.reduceLE, Int.reduceAdd, Int.reduceSub, Int.reduceMul, Int.reduceNeg, Int.reduceToNat, Int.cast_ofNat_Int, Int.natCast_zero, Int.natCast_one, Int.toNat_natCast, Nat.reduceBEq, Int.natCast_zero]
    intro n hn
    have hpn := pig (sumT s) n l hn
    simp only [shs, zts, sos, sls, zss, eqs, sx, sb1, sb2, sb3, sb4, sb5, sb6, sb7, ↓reduceIte, Nat.reduceAdd, Nat.reduceMul, Nat.reduceDiv, Nat.reduceEqDiff, Nat.reduceLT, Nat.reduceLeDiff, reduceCtorEq, Int.reduceEq, Int.reduceNe, Int.reduceLT, Int.reduceLE, Int.reduceAdd, Int.reduceSub, Int.reduceMul, Int.reduceNeg, Int.reduceToNat, Int.cast_ofNat_Int, Int.natCast_zero, Int.natCast_one, Int.toNat_natCast, Nat.reduceBEq, nzs]
    have hcont : decide (0 ≤ Si.ix (n : Int) (usedN l (sumT s) l.length) 0) = has l (sumT s) n := by
      have := (Si.ix_ge (n : Int) (usedN l (sumT s) l.length) 0).trans (usedN_has l (sumT s) n)
      rw [Bool.eq_iff_iff, decide_eq_true_eq, this]
    refine CallK.lend (k := 440) rfl rfl rfl (fun _ => rfl) (fun v M3 hM3 hv => Si.contains v (usedN l (sumT s) l.length) (n : Int) M3 hv) ?_
    rw [hcont]
    cases hh : has l (sumT s) n with
    | true =>
      simp only [shs, zts, sos, sls, zss, eqs, sx, sb1, sb2, sb3, sb4, sb5, sb6, sb7, ↓reduceIte, Nat.reduceAdd, Nat.reduceMul, Nat.reduceDiv, Nat.reduceEqDiff, Nat.reduceLT, Nat.reduceLeDiff, reduceCtorEq, Int.reduceEq, Int.reduceNe, Int.reduceLT, Int.reduceLE, Int.reduceAdd, Int.reduceSub, Int.reduceMul, Int.reduceNeg, Int.reduceToNat, Int.cast_ofNat_Int, Int.natCast_zero, Int.natCast_one, Int.toNat_natCast, Nat.reduceBEq, nzs, inK, lo, hi]
      refine ⟨by omega, n + 1, ⟨fun m hm => ?_, by omega⟩, Ent.of ?_⟩
      · rcases Nat.lt_or_ge m n with hm' | hm'
        · exact hn m hm'
        · rw [show m = n by omega]; exact hh
      · simp only [sx, sb1, sb2, sb3, sb4, sb5, sb6, sb7, ↓reduceIte, Nat.reduceAdd, Nat.reduceMul, Nat.reduceDiv, Nat.reduceEqDiff, Nat.reduceLT, Nat.reduceLeDiff, reduceCtorEq, Int.reduceEq, Int.reduceNe, Int.reduceLT, Int.reduceLE, Int.reduceAdd, Int.reduceSub, Int.reduceMul, Int.reduceNeg, Int.reduceToNat, Int.cast_ofNat_Int, Int.natCast_zero, Int.natCast_one, Int.toNat_natCast, Nat.reduceBEq, Int.natCast_add]
    | false =>
      have hfn := freeN_of hn hh (by omega)
      rw [hfn]
      simp only [shs, zts, sos, sls, zss, eqs, sx, sb1, sb2, sb3, sb4, sb5, sb6, sb7, ↓reduceIte, Nat.reduceAdd, Nat.reduceMul, Nat.reduceDiv, Nat.reduceEqDiff, Nat.reduceLT, Nat.reduceLeDiff, reduceCtorEq, Int.reduceEq, Int.reduceNe, Int.reduceLT, Int.reduceLE, Int.reduceAdd, Int.reduceSub, Int.reduceMul, Int.reduceNeg, Int.reduceToNat, Int.cast_ofNat_Int, Int.natCast_zero, Int.natCast_one, Int.toNat_natCast, Nat.reduceBEq, nzs]
      have hrow : l.map Bg.encT ++ [[.int .i64 (sumT s), .int .i64 (n : Int), .string ⟨s.toArray⟩, .int .i64 1]] = (l ++ [(sumT s, (n : Int), s, 1)]).map Bg.encT := by
        rw [List.map_append]; rfl
      rw [hrow]
      refine ⟨⟨by rw [List.length_map]; omega, by rw [List.length_map]; omega⟩, ⟨rfl, OpK.openRow (k := 608) 1002 rfl (fun _ => rfl) (fun h => by simp at h) fun b cap sp r1 r2 => ?_⟩⟩
      refine OpK.mkIface (t := 22) rfl rfl rfl rfl (by kernel_rfl) ⟨107, by kernel_rfl⟩ ?_
      simp only [shs, zts, sos, sls, zss, eqs, sx, sb1, sb2, sb3, sb4, sb5, sb6, sb7, ↓reduceIte, Nat.reduceAdd, Nat.reduceMul, Nat.reduceDiv, Nat.reduceEqDiff, Nat.reduceLT, Nat.reduceLeDiff, reduceCtorEq, Int.reduceEq, Int.reduceNe, Int.reduceLT, Int.reduceLE, Int.reduceAdd, Int.reduceSub, Int.reduceMul, Int.reduceNeg, Int.reduceToNat, Int.cast_ofNat_Int, Int.natCast_zero, Int.natCast_one, Int.toNat_natCast, Nat.reduceBEq, sp1, sp2, sp3, nzs, so0]
      refine stepK.mkFn rfl rfl ?_
      simp only [shs, zts, sos, sls, zss, eqs, sx, sb1, sb2, sb3, sb4, sb5, sb6, sb7, ↓reduceIte, Nat.reduceAdd, Nat.reduceMul, Nat.reduceDiv, Nat.reduceEqDiff, Nat.reduceLT, Nat.reduceLeDiff, reduceCtorEq, Int.reduceEq, Int.reduceNe, Int.reduceLT, Int.reduceLE, Int.reduceAdd, Int.reduceSub, Int.reduceMul, Int.reduceNeg, Int.reduceToNat, Int.cast_ofNat_Int, Int.natCast_zero, Int.natCast_one, Int.toNat_natCast, Nat.reduceBEq, nzs, List.length_map] at r1 ⊢
      refine CallK.sortRow 8016 56 Bg.encT 4 ltI (l ++ [(sumT s, (n : Int), s, 1)]) (b := b) (cap := cap) (sp := sp) (tb := none) rfl rfl rfl encT_len rfl (by simp; omega) ⟨_, Proofs.Tryz.func109, by kernel_rfl, by kernel_rfl⟩ sortC (srtLess _ (by simp; omega)) fun l' p1 p2 => ?_
      have hlen := p1.length_eq
      have hl' := srt_ins (bag_srt hb) (fun y hy hh2 => by
        have := (has_iff l (sumT s) n).2 ⟨y, hy, hh2⟩
        rw [hh] at this
        cases this) p1 p2
      rw [← hl', ← hlen]
      simp only [shs, zts, sos, sls, zss, eqs, sx, sb1, sb2, sb3, sb4, sb5, sb6, sb7, ↓reduceIte, Nat.reduceAdd, Nat.reduceMul, Nat.reduceDiv, Nat.reduceEqDiff, Nat.reduceLT, Nat.reduceLeDiff, reduceCtorEq, Int.reduceEq, Int.reduceNe, Int.reduceLT, Int.reduceLE, Int.reduceAdd, Int.reduceSub, Int.reduceMul, Int.reduceNeg, Int.reduceToNat, Int.cast_ofNat_Int, Int.natCast_zero, Int.natCast_one, Int.toNat_natCast, Nat.reduceBEq, sp1, sp2, sp3, nzs, hset]
      refine DrawK.tail 7 (by kernel_rfl) (by kernel_rfl) ?_
      simp only [shs, zts, sos, sls, zss, eqs, sx, sb1, sb2, sb3, sb4, sb5, sb6, sb7, ↓reduceIte, Nat.reduceAdd, Nat.reduceMul, Nat.reduceDiv, Nat.reduceEqDiff, Nat.reduceLT, Nat.reduceLeDiff, reduceCtorEq, Int.reduceEq, Int.reduceNe, Int.reduceLT, Int.reduceLE, Int.reduceAdd, Int.reduceSub, Int.reduceMul, Int.reduceNeg, Int.reduceToNat, Int.cast_ofNat_Int, Int.natCast_zero, Int.natCast_one, Int.toNat_natCast, Nat.reduceBEq, nzs, putT, idS]
      refine .inr (.inr ⟨b, 8016, cap, sp, ?_, rfl, ?_⟩)
      · rw [List.length_map]
        rfl
      · rw [List.length_map, hlen]
        exact r1
end Go.X.Bp

