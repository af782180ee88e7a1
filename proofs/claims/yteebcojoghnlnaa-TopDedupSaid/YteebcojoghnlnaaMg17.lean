/- Contracts of functions and the logic that they are proved in (2 texts in one). Conditions: none. -/
import Derived.Test.YteebcojoghnlnaaMg16
import Derived.Test.YteebcojoghnlnaaMg14
import Derived.Test.YteebcojoghnlnaaMg10
namespace Go.X.Bg
end Go.X.Bg
namespace Go.X.Nm
end Go.X.Nm
namespace Go.X.Bp
end Go.X.Bp
namespace Go.X.Sb
end Go.X.Sb
set_option linter.unusedSimpArgs false
set_option linter.unusedVariables false
set_option maxHeartbeats 4000000
set_option maxRecDepth 20000
namespace Go.X.Vo
open Go Go.X Go.RowKit Go.X.Bg Go.X.Nm Go.X.Bp Go.X.Sb

theorem stKO_zero (M0 : Mem) (e : Value) (H : HS) (M : Mem) : StKO M0 (fun s => .tup [s, .v e]) zSt (.tup [.agg [.v (.slice none 0 0), .v (.slice none 0 0)], .v e]) H M :=
  ⟨.v (.slice none 0 0), .v (.slice none 0 0), [], rfl, rfl, fun k h => (by cases h), ⟨⟨(zero_stK M0 M).bag, (zero_stK M0 M).fb⟩, ⟨(zero_stK M0 M).vols, (zero_stK M0 M).fv⟩⟩, fun w hw => (by cases hw), (zero_stK M0 M).ap⟩
theorem set_same {α : Type} {l : List α} {i : Nat} {x : α} (h : l[i]? = some x) : l.set i x = l := by
  apply List.ext_getElem?
  intro j
  rw [List.getElem?_set]
  split
  · rename_i e
    subst e
    rw [if_pos (List.getElem?_eq_some_iff.1 h).1, h]
  · rfl
theorem stKO_of {M0 M : Mem} {b v : Value} {bag : List It} {ws : List WV} {A : St} (T : SV → SV) (H : HS) (h : StF M0 M b v bag ws) (h1 : bag = A.1) (h2 : ws.map (·.2) = A.2) : StKO M0 T A (T (.agg [.v b, .v v])) H M := by
  subst h1
  exact ⟨.v b, .v v, ws, rfl, h2, fun k h => (by cases h), ⟨⟨h.bag, h.fb⟩, ⟨h.vols, h.fv⟩⟩, fun w hw => ⟨h.blk w hw, h.fw hw⟩, h.ap⟩
theorem idsl_set {l : List Id3} {a : Nat} (r : Id3) : (l.map encI3).set a (encI3 r) = (l.set a r).map encI3 := by rw [List.map_set]
theorem getD_id {l : List Id3} {i : Nat} {x : Id3} (h : l[i]? = some x) : (l.map encI3).getD i [] = [.bool x.1, .int .i64 x.2.1, .int .i64 x.2.2] := by
  rw [List.getD_eq_getElem?_getD, List.getElem?_map, h]
  rfl
theorem vtrim (b v : Value) (bag : List It) (ws : List WV) (n : List UInt8) (at' : Int) (M : Mem) (hb : RowM M b 4 (bag.map Bg.encT)) (hv : VolsM M v ws) :
    Meets Proofs.Try.prog 41 [stV b v, .v (.string ⟨n.toArray⟩), .v (.int .i64 at')] M (StK M (fun s => .tup [s, .v (.int .i64 (trimA bag (ws.map (·.2)) n at').2)]) (trimA bag (ws.map (·.2)) n at').1) := by
  refine Meets.settleF (Ctx.fst _) ?_
  refine Meets.of_body [0,1,2,3,6,7,8,9,10,11,20,36] Proofs.Try.func41 rfl (by kernel_rfl) rfl fun w => ?_
  generalize hc : trimA bag (ws.map (·.2)) n at' = c
  unfold trimA at hc
  have hP := place b v bag ws n at' M hb hv
  unfold plI at hP
  simp only [stV] at hP
  simp only [Proofs.Try.f41, stV, shs, zts, sos, sls, zss, eqs, sx, sb1, sb2, sb3, sb4, sb5, sb6, sb7, ↓reduceIte, Nat.reduceAdd, Nat.reduceMul, Nat.reduceDiv, Nat.reduceEqDiff, Nat.reduceLT, Nat.reduceLeDiff, reduceCtorEq, Int.reduceEq, Int.reduceNe, Int.reduceLT, Int.reduceLE, Int.reduceAdd, Int.reduceSub, Int.reduceMul, Int.reduceNeg, Int.reduceToNat, Int.cast_ofNat_Int, Int.natCast_zero, Int.natCast_one, Int.toNat_natCast, Nat.reduceBEq, nzs]
  refine CallK.pure ⟨rfl, rfl⟩ rfl hP ?_
  by_cases h1 : plE bag (ws.map (·.2)) n at' = 0
  rotate_left
  · have c1 := eq_false h1
    rw [if_pos h1] at hc
    subst hc
    simp only [shs, zts, sos, sls, zss, eqs, sx, sb1, sb2, sb3, sb4, sb5, sb6, sb7, ↓reduceIte, Nat.reduceAdd, Nat.reduceMul, Nat.reduceDiv, Nat.reduceEqDiff, Nat.reduceLT, Nat.reduceLeDiff, reduceCtorEq, Int.reduceEq, Int.reduceNe, Int.reduceLT, Int.reduceLE, Int.reduceAdd, Int.reduceSub, Int.reduceMul, Int.reduceNeg, Int.reduceToNat, Int.cast_ofNat_Int, Int.natCast_zero, Int.natCast_one, Int.toNat_natCast, Nat.reduceBEq, nzs, c1]
    exact stKO_zero _ _ _ _
  rw [if_neg (fun h => h h1)] at hc
  subst hc
  obtain ⟨hs, h2, h3, h4⟩ := plE_ok h1
  obtain ⟨i, x, k1, k2, k3, k4⟩ := volIx_at h2
  have hbk := blks_at k1 k4
  rw [hbk] at h4
  obtain ⟨m, rfl⟩ : ∃ m : Nat, at' = m := ⟨at'.toNat, by omega⟩
  obtain ⟨hB, hV, _⟩ := stE_ok hs
  have hVo := volsE_ok hV
  have hbl := bag_len hB
  rw [List.length_map] at hVo
  have hli : ∀ w ∈ ws, w.2.2.length ≤ 32 := fun w hw => (hVo.2 w.2 (List.mem_map_of_mem hw)).1
  have hcp := copied b v bag ws M hb hv (by omega) (by omega) (fun w hw => Nat.le_trans (hli w hw) (by omega))
  simp only [stV] at hcp
  rw [k1]
  simp only [shs, zts, sos, sls, zss, eqs, sx, sb1, sb2, sb3, sb4, sb5, sb6, sb7, ↓reduceIte, Nat.reduceAdd, Nat.reduceMul, Nat.reduceDiv, Nat.reduceEqDiff, Nat.reduceLT, Nat.reduceLeDiff, reduceCtorEq, Int.reduceEq, Int.reduceNe, Int.reduceLT, Int.reduceLE, Int.reduceAdd, Int.reduceSub, Int.reduceMul, Int.reduceNeg, Int.reduceToNat, Int.cast_ofNat_Int, Int.natCast_zero, Int.natCast_one, Int.toNat_natCast, Nat.reduceBEq, nzs, h1, if_true, Int.toNat_natCast]
  refine CallK.stF (T := fun s => s) (fun _ _ => rfl) rfl rfl hcp fun b2 v2 ws2 M2 hM2 hw2 hS => ?_
  obtain ⟨x2, hx2, e2⟩ := ws_at hw2 k4
  obtain ⟨_, g1, i0⟩ := vol_at hS.volsM hx2
  have hx2m := List.mem_of_getElem? hx2
  have hblk := hS.blk x2 hx2m
  have hml : m < x.2.2.length := by omega
  obtain ⟨id, hid, _⟩ := l_drop_at (l := x.2.2) (i := m) hml
  have hid2 : x2.2.2[m]? = some id := by rw [e2]; exact hid
  obtain ⟨y0, y1, y2, yi⟩ := id_at hblk.row hid2
  have hgo := goI_ok ((volsE_ok hV).2 x.2 (List.mem_of_getElem? k4)).2.2 id (List.mem_of_getElem? hid)
  have hidAt : idAt (ws.map (·.2)) i m = id := by unfold idAt; rw [volAt_at k4, hid]; rfl
  have hset : (ws2.set i (x2.1, x2.2.1, x2.2.2.set m hole)).map (·.2) = setV (ws.map (·.2)) i m hole := by
    rw [setV_at k4, ← show ws2.map (·.2) = ws.map (·.2) from hw2, List.map_set, e2]
  have hml2 : m < (x2.2.2.map encI3).length := by rw [List.length_map, e2]; exact hml
  obtain ⟨q0, q1, q2⟩ := id
  simp only at y0 y1 y2
  cases q0 with
  | false =>
    have hq : q1 = 0 ∧ q2 = 0 := by
      unfold idE at hgo
      by_cases hz : q1 = 0 ∧ q2 = 0
      · exact hz
      · rw [if_pos ⟨rfl, hz⟩] at hgo; cases hgo
    obtain ⟨rfl, rfl⟩ := hq
    have hs2 : ws2.set i (x2.1, x2.2.1, x2.2.2.set m hole) = ws2 := by
      have e5 : x2.2.2.set m hole = x2.2.2 := set_same hid2
      rw [e5]
      exact set_same hx2
    rw [hs2] at hset
    simp only [shs, zts, sos, sls, zss, eqs, sx, sb1, sb2, sb3, sb4, sb5, sb6, sb7, ↓reduceIte, Nat.reduceAdd, Nat.reduceMul, Nat.reduceDiv, Nat.reduceEqDiff, Nat.reduceLT, Nat.reduceLeDiff, reduceCtorEq, Int.reduceEq, Int.reduceNe, Int.reduceLT, Int.reduceLE, Int.reduceAdd, Int.reduceSub, Int.reduceMul, Int.reduceNeg, Int.reduceToNat, Int.cast_ofNat_Int, Int.natCast_zero, Int.natCast_one, Int.toNat_natCast, Nat.reduceBEq, nzs, stV, hS.bag.row.one, hS.vols.row.one, i0, i0.2, g1.1, g1.2, yi, yi.2, y0.1, y0.2]
    exact stKO_of (fun s => .tup [s, .v (.int .i64 0)]) _ hS (by simp only [trimS, hidAt]; exact (if_neg (fun h => by cases h)).symm) hset
  | true =>
    have hD := drop b2 bag (true, q1, q2) M2 hS.bag.row
    simp only [idS] at hD
    simp only [shs, zts, sos, sls, zss, eqs, sx, sb1, sb2, sb3, sb4, sb5, sb6, sb7, ↓reduceIte, Nat.reduceAdd, Nat.reduceMul, Nat.reduceDiv, Nat.reduceEqDiff, Nat.reduceLT, Nat.reduceLeDiff, reduceCtorEq, Int.reduceEq, Int.reduceNe, Int.reduceLT, Int.reduceLE, Int.reduceAdd, Int.reduceSub, Int.reduceMul, Int.reduceNeg, Int.reduceToNat, Int.cast_ofNat_Int, Int.natCast_zero, Int.natCast_one, Int.toNat_natCast, Nat.reduceBEq, nzs, stV, hS.bag.row.one, hS.vols.row.one, i0, i0.2, g1.1, g1.2, yi, yi.2, y0.1, y0.2]
    refine DrawK.plan (tk [2, 3, 4] (.one 0 (.one 1 (.one 5 (tk [6, 7, 8, 9] (.one 10 .done)))))) (by kernel_rfl) (by kernel_rfl) ?_
    simp only [shs, zts, sos, sls, zss, eqs, sx, sb1, sb2, sb3, sb4, sb5, sb6, sb7, ↓reduceIte, Nat.reduceAdd, Nat.reduceMul, Nat.reduceDiv, Nat.reduceEqDiff, Nat.reduceLT, Nat.reduceLeDiff, reduceCtorEq, Int.reduceEq, Int.reduceNe, Int.reduceLT, Int.reduceLE, Int.reduceAdd, Int.reduceSub, Int.reduceMul, Int.reduceNeg, Int.reduceToNat, Int.cast_ofNat_Int, Int.natCast_zero, Int.natCast_one, Int.toNat_natCast, Nat.reduceBEq, nzs, se1, se2, tks, yi.2, y0.1, y0.2, y1.1, y1.2, y2.1, y2.2]
    refine CallK.own (T := fun s => .tup [s, .v (.int .i64 (dropS bag (true, q1, q2)).2)]) (Ctx.fst _) rfl rfl hD rfl fun M3 hM3 => ?_
    have hS3 := hS.le hM3
    simp only [shs, zts, sos, sls, zss, eqs, sx, sb1, sb2, sb3, sb4, sb5, sb6, sb7, ↓reduceIte, Nat.reduceAdd, Nat.reduceMul, Nat.reduceDiv, Nat.reduceEqDiff, Nat.reduceLT, Nat.reduceLeDiff, reduceCtorEq, Int.reduceEq, Int.reduceNe, Int.reduceLT, Int.reduceLE, Int.reduceAdd, Int.reduceSub, Int.reduceMul, Int.reduceNeg, Int.reduceToNat, Int.cast_ofNat_Int, Int.natCast_zero, Int.natCast_one, Int.toNat_natCast, Nat.reduceBEq, nzs, se1, se2, tks, hS.vols.row.one, stRD_ea]
    refine ⟨hM3, hM3, yi.2, ?_⟩
    have hget : (x2.2.2.map encI3).getD m [] = [.bool true, .int .i64 q1, .int .i64 q2] := getD_id hid2
    refine OpK.turnF (es := x2.2.2.map encI3) rfl rfl (of_eq_true so73) rfl rfl rfl rfl (by rw [sh73]; rfl) (hS3.blk x2 hx2m) (hS.fw hx2m) hml2 (by decide) fun M4 hb4 hr4 => ?_
    have hr5 : RowF M4 x2.1 3 ((x2.2.2.set m hole).map encI3) := by
      rw [hget] at hr4
      rw [← idsl_set]
      exact hr4
    have hS4 := hS3.turnB hx2 hb4 hr5
    have eA : (trimS bag (ws.map (·.2)) i m).1 = (dropS bag (true, q1, q2)).1 := by
      simp only [trimS, hidAt]
      rw [dropS_ok hB]
      exact if_pos rfl
    simp only [shs, zts, sos, sls, zss, eqs, sx, sb1, sb2, sb3, sb4, sb5, sb6, sb7, ↓reduceIte, Nat.reduceAdd, Nat.reduceMul, Nat.reduceDiv, Nat.reduceEqDiff, Nat.reduceLT, Nat.reduceLeDiff, reduceCtorEq, Int.reduceEq, Int.reduceNe, Int.reduceLT, Int.reduceLE, Int.reduceAdd, Int.reduceSub, Int.reduceMul, Int.reduceNeg, Int.reduceToNat, Int.cast_ofNat_Int, Int.natCast_zero, Int.natCast_one, Int.toNat_natCast, Nat.reduceBEq, nzs]
    refine ⟨hS.vols.row.one, .own 344, .v v2, _, rfl, hset, fun k _ h2 => (by cases h2), ⟨?_, ⟨hS4.vols, hS4.fv⟩⟩, fun w hw => ⟨hS4.blk w hw, hS4.fw hw⟩, (List.pairwise_cons.1 hS4.ap).2⟩
    rw [eA]
    rfl
theorem vwrite (b v : Value) (bag : List It) (ws : List WV) (n : List UInt8) (at' : Int) (s : List UInt8) (M : Mem) (hb : RowM M b 4 (bag.map Bg.encT)) (hv : VolsM M v ws) :
    Meets Proofs.Try.prog 11 [stV b v, .v (.string ⟨n.toArray⟩), .v (.int .i64 at'), .v (.string ⟨s.toArray⟩)] M (StM (fun t => .tup [t, .v (.int .i64 (writeA bag (ws.map (·.2)) n at' s).2)]) (writeA bag (ws.map (·.2)) n at' s).1) := by
  refine Meets.settleM (Ctx.fst _) ?_
  refine Meets.of_body [0,1,2,3,4,8,9,10,11,12,14,15,24,43] Proofs.Try.func11 rfl (by kernel_rfl) rfl fun w => ?_
  have hT := vtrim b v bag ws n at' M hb hv
  unfold trimA at hT
  generalize hc : writeA bag (ws.map (·.2)) n at' s = c
  unfold writeA at hc
  have hP := place b v bag ws n at' M hb hv
  unfold plI at hP
  simp only [stV] at hP hT
  simp only [Proofs.Try.f11, stV, shs, zts, sos, sls, zss, eqs, sx, sb1, sb2, sb3, sb4, sb5, sb6, sb7, ↓reduceIte, Nat.reduceAdd, Nat.reduceMul, Nat.reduceDiv, Nat.reduceEqDiff, Nat.reduceLT, Nat.reduceLeDiff, reduceCtorEq, Int.reduceEq, Int.reduceNe, Int.reduceLT, Int.reduceLE, Int.reduceAdd, Int.reduceSub, Int.reduceMul, Int.reduceNeg, Int.reduceToNat, Int.cast_ofNat_Int, Int.natCast_zero, Int.natCast_one, Int.toNat_natCast, Nat.reduceBEq, nzs]
  refine CallK.pure ⟨rfl, rfl⟩ rfl hP ?_
  by_cases h1 : plE bag (ws.map (·.2)) n at' = 0
  rotate_left
  · have c1 := eq_false h1
    rw [if_pos h1] at hc
    subst hc
    simp only [shs, zts, sos, sls, zss, eqs, sx, sb1, sb2, sb3, sb4, sb5, sb6, sb7, ↓reduceIte, Nat.reduceAdd, Nat.reduceMul, Nat.reduceDiv, Nat.reduceEqDiff, Nat.reduceLT, Nat.reduceLeDiff, reduceCtorEq, Int.reduceEq, Int.reduceNe, Int.reduceLT, Int.reduceLE, Int.reduceAdd, Int.reduceSub, Int.reduceMul, Int.reduceNeg, Int.reduceToNat, Int.cast_ofNat_Int, Int.natCast_zero, Int.natCast_one, Int.toNat_natCast, Nat.reduceBEq, nzs, c1]
    exact stO_zero _ _ _
  rw [if_neg (fun h => h h1)] at hc hT
  obtain ⟨hs, h2, h3, h4⟩ := plE_ok h1
  obtain ⟨i, x, k1, k2, k3, k4⟩ := volIx_at h2
  have hbk := blks_at k1 k4
  rw [hbk] at h4
  obtain ⟨m, rfl⟩ : ∃ m : Nat, at' = m := ⟨at'.toNat, by omega⟩
  obtain ⟨hB, hV, _⟩ := stE_ok hs
  rw [k1] at hc hT ⊢
  simp only [Int.toNat_natCast] at hc hT
  simp only [shs, zts, sos, sls, zss, eqs, sx, sb1, sb2, sb3, sb4, sb5, sb6, sb7, ↓reduceIte, Nat.reduceAdd, Nat.reduceMul, Nat.reduceDiv, Nat.reduceEqDiff, Nat.reduceLT, Nat.reduceLeDiff, reduceCtorEq, Int.reduceEq, Int.reduceNe, Int.reduceLT, Int.reduceLE, Int.reduceAdd, Int.reduceSub, Int.reduceMul, Int.reduceNeg, Int.reduceToNat, Int.cast_ofNat_Int, Int.natCast_zero, Int.natCast_one, Int.toNat_natCast, Nat.reduceBEq, nzs, h1, if_true]
  refine CallK.stF (T := fun t => .tup [t, .v (.int .i64 0)]) (fun _ _ => rfl) rfl rfl hT fun b2 v2 ws2 M2 hM2 hw2 hS => ?_
  have hml : m < x.2.2.length := by omega
  have hil := (List.getElem?_eq_some_iff.1 k4).1
  have hy : (trimS bag (ws.map (·.2)) i m).2[i]? = some (x.2.1, x.2.2.set m hole) := by
    show (setV (ws.map (·.2)) i m hole)[i]? = _
    rw [setV_at k4, List.getElem?_set_self hil]
  obtain ⟨x2, hx2, e2⟩ := ws_at hw2 hy
  have hx2m := List.mem_of_getElem? hx2
  obtain ⟨_, g1, i0⟩ := vol_at hS.volsM hx2
  have hblk := hS.blk x2 hx2m
  have hml2 : m < x2.2.2.length := by rw [e2, List.length_set]; exact hml
  obtain ⟨id, hid, _⟩ := l_drop_at (l := x2.2.2) (i := m) hml2
  obtain ⟨y0, y1, y2, yi⟩ := id_at hblk.row hid
  have hB2 : bagE (trimS bag (ws.map (·.2)) i m).1 = 0 := bagE_lessId hB _
  have hPu := put b2 (trimS bag (ws.map (·.2)) i m).1 s M2 hS.bag.row
  have hp : putS (trimS bag (ws.map (·.2)) i m).1 s = putG (trimS bag (ws.map (·.2)) i m).1 s := if_neg (fun h => h hB2)
  rw [hp] at hPu
  unfold writeS at hc
  change (if (putG (trimS bag (ws.map (·.2)) i m).1 s).2.2 ≠ 0 then (zSt, (putG (trimS bag (ws.map (·.2)) i m).1 s).2.2) else (((putG (trimS bag (ws.map (·.2)) i m).1 s).1, setV (ws.map (·.2)) i m (putG (trimS bag (ws.map (·.2)) i m).1 s).2.1), 0)) = c at hc
  simp only [shs, zts, sos, sls, zss, eqs, sx, sb1, sb2, sb3, sb4, sb5, sb6, sb7, ↓reduceIte, Nat.reduceAdd, Nat.reduceMul, Nat.reduceDiv, Nat.reduceEqDiff, Nat.reduceLT, Nat.reduceLeDiff, reduceCtorEq, Int.reduceEq, Int.reduceNe, Int.reduceLT, Int.reduceLE, Int.reduceAdd, Int.reduceSub, Int.reduceMul, Int.reduceNeg, Int.reduceToNat, Int.cast_ofNat_Int, Int.natCast_zero, Int.natCast_one, Int.toNat_natCast, Nat.reduceBEq, nzs, stV, hS.bag.row.one, hS.vols.row.one]
  refine CallK.own (putT_ctx _ _) rfl rfl hPu rfl fun M3 hM3 => ?_
  generalize putG (trimS bag (ws.map (·.2)) i m).1 s = pg at *
  obtain ⟨pl, pid, pe⟩ := pg
  simp only at hc
  have hS3 := hS.le hM3
  by_cases h5 : pe = 0
  rotate_left
  · have c5 := eq_false h5
    rw [if_pos h5] at hc
    subst hc
    simp only [shs, zts, sos, sls, zss, eqs, sx, sb1, sb2, sb3, sb4, sb5, sb6, sb7, ↓reduceIte, Nat.reduceAdd, Nat.reduceMul, Nat.reduceDiv, Nat.reduceEqDiff, Nat.reduceLT, Nat.reduceLeDiff, reduceCtorEq, Int.reduceEq, Int.reduceNe, Int.reduceLT, Int.reduceLE, Int.reduceAdd, Int.reduceSub, Int.reduceMul, Int.reduceNeg, Int.reduceToNat, Int.cast_ofNat_Int, Int.natCast_zero, Int.natCast_one, Int.toNat_natCast, Nat.reduceBEq, nzs, putT, idS, c5, hS.vols.row.one]
    exact stO_zero _ _ _
  rw [if_neg (fun h => h h5)] at hc
  subst hc
  simp only [shs, zts, sos, sls, zss, eqs, sx, sb1, sb2, sb3, sb4, sb5, sb6, sb7, ↓reduceIte, Nat.reduceAdd, Nat.reduceMul, Nat.reduceDiv, Nat.reduceEqDiff, Nat.reduceLT, Nat.reduceLeDiff, reduceCtorEq, Int.reduceEq, Int.reduceNe, Int.reduceLT, Int.reduceLE, Int.reduceAdd, Int.reduceSub, Int.reduceMul, Int.reduceNeg, Int.reduceToNat, Int.cast_ofNat_Int, Int.natCast_zero, Int.natCast_one, Int.toNat_natCast, Nat.reduceBEq, nzs, putT, idS, h5, hS.vols.row.one]
  have g1' := vol_at hS3.volsM hx2
  refine DrawK.heldT 12 [120] (tk [2, 6, 7, 8] (.one 0 (.one 1 (tk [3, 4, 5, 9] (.one 10 (tk [11] .done)))))) (by kernel_rfl) (by kernel_rfl) fun xs => ?_
  simp only [shs, zts, sos, sls, zss, eqs, sx, sb1, sb2, sb3, sb4, sb5, sb6, sb7, ↓reduceIte, Nat.reduceAdd, Nat.reduceMul, Nat.reduceDiv, Nat.reduceEqDiff, Nat.reduceLT, Nat.reduceLeDiff, reduceCtorEq, Int.reduceEq, Int.reduceNe, Int.reduceLT, Int.reduceLE, Int.reduceAdd, Int.reduceSub, Int.reduceMul, Int.reduceNeg, Int.reduceToNat, Int.cast_ofNat_Int, Int.natCast_zero, Int.natCast_one, Int.toNat_natCast, Nat.reduceBEq, nzs, se1, se2, tks, i0, i0.2, g1'.2.1.1, g1'.2.1.2, yi, yi.2, stRD_ea, hS.vols.row.one]
  have hml3 : m < (x2.2.2.map encI3).length := by rw [List.length_map]; exact hml2
  have hget : (x2.2.2.map encI3).getD m [] = [.bool id.1, .int .i64 id.2.1, .int .i64 id.2.2] := getD_id hid
  refine OpK.turnF (es := x2.2.2.map encI3) rfl rfl (of_eq_true so73) rfl rfl rfl rfl (by rw [sh73]; rfl) (hS3.blk x2 hx2m) (hS.fw hx2m) hml3 (Nat.le_refl 3) fun M4 hb4 hr4 => ?_
  have hr5 : RowF M4 x2.1 3 ((x2.2.2.set m pid).map encI3) := by
    rw [hget] at hr4
    rw [← idsl_set]
    exact hr4
  have hS4 := hS3.turnB hx2 hb4 hr5
  simp only [shs, zts, sos, sls, zss, eqs, sx, sb1, sb2, sb3, sb4, sb5, sb6, sb7, ↓reduceIte, Nat.reduceAdd, Nat.reduceMul, Nat.reduceDiv, Nat.reduceEqDiff, Nat.reduceLT, Nat.reduceLeDiff, reduceCtorEq, Int.reduceEq, Int.reduceNe, Int.reduceLT, Int.reduceLE, Int.reduceAdd, Int.reduceSub, Int.reduceMul, Int.reduceNeg, Int.reduceToNat, Int.cast_ofNat_Int, Int.natCast_zero, Int.natCast_one, Int.toNat_natCast, Nat.reduceBEq, nzs]
  refine ⟨hS.vols.row.one, .own 304, .v v2, _, rfl, ?_, fun k _ h2 => (by cases h2), ⟨rfl, hS4.vols.row⟩, fun w hw => (hS4.blk w hw).row⟩
  have hv2 : ws2.map (·.2) = setV (ws.map (·.2)) i m hole := hw2
  show (ws2.set i (x2.1, x2.2.1, x2.2.2.set m pid)).map (·.2) = setV (ws.map (·.2)) i m pid
  rw [List.map_set, hv2, setV_at k4, setV_at k4, List.set_set, e2, List.set_set]
end Go.X.Vo

namespace Go.X.Vo
open Go Go.X Go.RowKit Go.X.Bg Go.X.Nm Go.X.Bp Go.X.Sb

theorem begunW (M : Mem) : Meets Proofs.Try.prog 6 [] M fun r _ _ => r = .v (.bool true) := by
  refine Meets.of_body [0,1,2] Proofs.Try.func6 rfl (by kernel_rfl) rfl fun w => ?_
  have hM := Pl.Mul 3 3 M (by decide) (by decide)
  rw [show Pl.mulV 3 3 = .tup [.v (.int .i64 5), .v (.int .i64 0)] by unfold Pl.mulV; rw [show Pol.mulp 3 3 = 5 by decide +kernel]; rfl] at hM
  simp only [Proofs.Try.f6, shs, zts, sos, sls, zss, eqs, sx, sb1, sb2, sb3, sb4, sb5, sb6, sb7, ↓reduceIte, Nat.reduceAdd, Nat.reduceMul, Nat.reduceDiv, Nat.reduceEqDiff, Nat.reduceLT, Nat.reduceLeDiff, reduceCtorEq, Int.reduceEq, Int.reduceNe, Int.reduceLT, Int.reduceLE, Int.reduceAdd, Int.reduceSub, Int.reduceMul, Int.reduceNeg, Int.reduceToNat, Int.cast_ofNat_Int, Int.natCast_zero, Int.natCast_one, Int.toNat_natCast, Nat.reduceBEq, nzs]
  refine CallK.pure ⟨rfl, rfl⟩ rfl hM ?_
  simp only [shs, zts, sos, sls, zss, eqs, sx, sb1, sb2, sb3, sb4, sb5, sb6, sb7, ↓reduceIte, Nat.reduceAdd, Nat.reduceMul, Nat.reduceDiv, Nat.reduceEqDiff, Nat.reduceLT, Nat.reduceLeDiff, reduceCtorEq, Int.reduceEq, Int.reduceNe, Int.reduceLT, Int.reduceLE, Int.reduceAdd, Int.reduceSub, Int.reduceMul, Int.reduceNeg, Int.reduceToNat, Int.cast_ofNat_Int, Int.natCast_zero, Int.natCast_one, Int.toNat_natCast, Nat.reduceBEq, nzs]
theorem loadedW (b v : Value) (bag : List It) (ws : List WV) (n : Txt) (k : Nat) (M : Mem) (hb : RowM M b 4 (bag.map Bg.encT)) (hv : VolsM M v ws) (hk : k ≤ 32) :
    Meets Proofs.Try.prog 8 [stV b v, .v (.string ⟨n.toArray⟩), .v (.int .i64 k)] M fun r _ _ => r = .v (.string ⟨(ldS (bag, ws.map (·.2)) n k).toArray⟩) := by
  refine Meets.of_body [0,1,2,3,6,7,8,9,11,12,13] Proofs.Try.func8 rfl (by kernel_rfl) rfl fun w => ?_
  have hR : ∀ a : Int, Meets _ _ _ M _ := fun a => read b v bag ws n a M hb hv
  simp only [stV] at hR
  have hlen : ∀ a : Int, (rdS bag (ws.map (·.2)) n a).length ≤ 64 := fun a => by
    unfold rdS
    split
    · rename_i h
      split
      · rename_i h1
        have hs := (plE_ok h).1
        unfold txtId
        cases hx : bag[(fidx (isId (rdId (ws.map (·.2)) n a)) bag 0).toNat]? with
        | none => exact Nat.zero_le _
        | some x => exact (oneE_ok (bag_ok (stE_ok hs).1 x (List.mem_of_getElem? hx))).1.1
      · exact Nat.zero_le _
    · exact Nat.zero_le _
  have hstep : ∀ i : Nat, ldS (bag, ws.map (·.2)) n (i + 1) = ldS (bag, ws.map (·.2)) n i ++ rdS bag (ws.map (·.2)) n (i : Int) := fun i => ldS_succ _ n i
  have hll : ∀ i : Nat, (ldS (bag, ws.map (·.2)) n i).length ≤ 64 * i := fun i => by
    induction i with
    | zero => exact Nat.le_refl 0
    | succ i ih => rw [hstep, List.length_append]; have := hlen (i : Int); omega
  have h0 : ldS (bag, ws.map (·.2)) n 0 = [] := rfl
  generalize ldS (bag, ws.map (·.2)) n = L at *
  simp only [Proofs.Try.f8, stV, shs, zts, sos, sls, zss, eqs, sx, sb1, sb2, sb3, sb4, sb5, sb6, sb7, ↓reduceIte, Nat.reduceAdd, Nat.reduceMul, Nat.reduceDiv, Nat.reduceEqDiff, Nat.reduceLT, Nat.reduceLeDiff, reduceCtorEq, Int.reduceEq, Int.reduceNe, Int.reduceLT, Int.reduceLE, Int.reduceAdd, Int.reduceSub, Int.reduceMul, Int.reduceNeg, Int.reduceToNat, Int.cast_ofNat_Int, Int.natCast_zero, Int.natCast_one, Int.toNat_natCast, Nat.reduceBEq, nzs, hb.one, hv.row.one]
  refine LoopK.go (X := Nat) (fun i => ([(1, true, .v (.string ⟨n.toArray⟩)), (3, true, .ptr 24 0 0 0), (7, true, .v (.string ⟨(L i).toArray⟩)), (11, true, .v (.int .i64 k)), (12, true, .v (.int .i64 i))], [(24, .box [.v b, .v v] none)], M))
    (fun i => i ≤ k) (fun i => k - i) 0 (Nat.zero_le _) (Ent.of ?_) ?_
  · simp only [sx, sb1, sb2, sb3, sb4, sb5, sb6, sb7, ↓reduceIte, Nat.reduceAdd, Nat.reduceMul, Nat.reduceDiv, Nat.reduceEqDiff, Nat.reduceLT, Nat.reduceLeDiff, reduceCtorEq, Int.reduceEq, Int.reduceNe, Int.reduceLT, Int.reduceLE, Int.reduceAdd, Int.reduceSub, Int.reduceMul, Int.reduceNeg, Int.reduceToNat, Int.cast_ofNat_Int, Int.natCast_zero, Int.natCast_one, Int.toNat_natCast, Nat.reduceBEq, Int.natCast_zero, h0]
  intro i n1
  by_cases hil : i < k
  rotate_left
  · have d1 : ((i : Int) < (k : Int)) = False := eq_false (by omega)
    have ei : i = k := by omega
    subst ei
    simp only [shs, zts, sos, sls, zss, eqs, sx, sb1, sb2, sb3, sb4, sb5, sb6, sb7, ↓reduceIte, Nat.reduceAdd, Nat.reduceMul, Nat.reduceDiv, Nat.reduceEqDiff, Nat.reduceLT, Nat.reduceLeDiff, reduceCtorEq, Int.reduceEq, Int.reduceNe, Int.reduceLT, Int.reduceLE, Int.reduceAdd, Int.reduceSub, Int.reduceMul, Int.reduceNeg, Int.reduceToNat, Int.cast_ofNat_Int, Int.natCast_zero, Int.natCast_one, Int.toNat_natCast, Nat.reduceBEq, nzs, d1]
  have d1 : ((i : Int) < (k : Int)) = True := eq_true (by omega)
  have q1 := hll i
  have q2 := hlen (i : Int)
  simp only [shs, zts, sos, sls, zss, eqs, sx, sb1, sb2, sb3, sb4, sb5, sb6, sb7, ↓reduceIte, Nat.reduceAdd, Nat.reduceMul, Nat.reduceDiv, Nat.reduceEqDiff, Nat.reduceLT, Nat.reduceLeDiff, reduceCtorEq, Int.reduceEq, Int.reduceNe, Int.reduceLT, Int.reduceLE, Int.reduceAdd, Int.reduceSub, Int.reduceMul, Int.reduceNeg, Int.reduceToNat, Int.cast_ofNat_Int, Int.natCast_zero, Int.natCast_one, Int.toNat_natCast, Nat.reduceBEq, nzs, d1]
  refine CallK.pure ⟨rfl, rfl⟩ rfl (hR (i : Int)) ?_
  simp only [shs, zts, sos, sls, zss, eqs, sx, sb1, sb2, sb3, sb4, sb5, sb6, sb7, ↓reduceIte, Nat.reduceAdd, Nat.reduceMul, Nat.reduceDiv, Nat.reduceEqDiff, Nat.reduceLT, Nat.reduceLeDiff, reduceCtorEq, Int.reduceEq, Int.reduceNe, Int.reduceLT, Int.reduceLE, Int.reduceAdd, Int.reduceSub, Int.reduceMul, Int.reduceNeg, Int.reduceToNat, Int.cast_ofNat_Int, Int.natCast_zero, Int.natCast_one, Int.toNat_natCast, Nat.reduceBEq, nzs, inK, lo, hi]
  refine ⟨by omega, by omega, i + 1, ⟨by omega, by omega⟩, Ent.of ?_⟩
  simp only [sx, sb1, sb2, sb3, sb4, sb5, sb6, sb7, ↓reduceIte, Nat.reduceAdd, Nat.reduceMul, Nat.reduceDiv, Nat.reduceEqDiff, Nat.reduceLT, Nat.reduceLeDiff, reduceCtorEq, Int.reduceEq, Int.reduceNe, Int.reduceLT, Int.reduceLE, Int.reduceAdd, Int.reduceSub, Int.reduceMul, Int.reduceNeg, Int.reduceToNat, Int.cast_ofNat_Int, Int.natCast_zero, Int.natCast_one, Int.toNat_natCast, Nat.reduceBEq, Int.natCast_add, hstep]
def stT (A : St × Nat × Bool) (s : SV) : SV := .tup [s, .v (.int .i64 A.2.1), .v (.bool A.2.2)]
theorem storedW (b v : Value) (bag : List It) (ws : List WV) (n s : Txt) (M : Mem) (hb : RowM M b 4 (bag.map Bg.encT)) (hv : VolsM M v ws) (hs : s.length ≤ maxLen) :
    Meets Proofs.Try.prog 7 [stV b v, .v (.string ⟨n.toArray⟩), .v (.string ⟨s.toArray⟩)] M (StM (stT (stoT (bag, ws.map (·.2)) n s)) (stoT (bag, ws.map (·.2)) n s).1) := by
  refine Meets.of_body [0,1,2,3,6,7,8,9,10,11,12,13,14,31,40,51,53,54,55,56,69] Proofs.Try.func7 rfl (by kernel_rfl) rfl fun w => ?_
  generalize hc : stoT (bag, ws.map (·.2)) n s = c
  unfold stoT at hc
  simp only [Proofs.Try.f7, stV, shs, zts, sos, sls, zss, eqs, sx, sb1, sb2, sb3, sb4, sb5, sb6, sb7, ↓reduceIte, Nat.reduceAdd, Nat.reduceMul, Nat.reduceDiv, Nat.reduceEqDiff, Nat.reduceLT, Nat.reduceLeDiff, reduceCtorEq, Int.reduceEq, Int.reduceNe, Int.reduceLT, Int.reduceLE, Int.reduceAdd, Int.reduceSub, Int.reduceMul, Int.reduceNeg, Int.reduceToNat, Int.cast_ofNat_Int, Int.natCast_zero, Int.natCast_one, Int.toNat_natCast, Nat.reduceBEq, nzs, hb.one, hv.row.one]
  by_cases h1 : 600 < s.length
  · rw [if_pos h1] at hc
    subst hc
    have hcb : Cu.cutB s 4 64 7 = 2 := if_pos (by omega)
    have hE := Cu.ends_bad s 4 64 7 M (by rw [hcb]; decide)
    rw [hcb] at hE
    refine CallK.pure ⟨rfl, rfl⟩ rfl hE ?_
    simp only [shs, zts, sos, sls, zss, eqs, sx, sb1, sb2, sb3, sb4, sb5, sb6, sb7, ↓reduceIte, Nat.reduceAdd, Nat.reduceMul, Nat.reduceDiv, Nat.reduceEqDiff, Nat.reduceLT, Nat.reduceLeDiff, reduceCtorEq, Int.reduceEq, Int.reduceNe, Int.reduceLT, Int.reduceLE, Int.reduceAdd, Int.reduceSub, Int.reduceMul, Int.reduceNeg, Int.reduceToNat, Int.cast_ofNat_Int, Int.natCast_zero, Int.natCast_one, Int.toNat_natCast, Nat.reduceBEq, nzs, hb.one, hv.row.one, stT]
    exact ⟨b, v, ws, rfl, rfl, hb, hv⟩
  rw [if_neg h1] at hc
  have hE := Cu.ends_ok s 4 64 7 M (by omega) (by decide) (by decide) (by decide) (by decide)
  have hel := chop_ends 600 s
  refine CallK.row (T := fun t => .tup [t, .v (.int .i64 0)]) (Ctx.fst _) rfl rfl hE fun u M1 hM1 hu => ?_
  have hul := hu.len
  rw [List.length_map, hel] at hul
  have hbl := hb.le hM1
  by_cases h2 : 32 < (chop 600 s).length
  · have c2 : ((32 : Int) < ((chop 600 s).length : Int)) = True := eq_true (by omega)
    rw [if_pos (.inl h2)] at hc
    subst hc
    simp only [shs, zts, sos, sls, zss, eqs, sx, sb1, sb2, sb3, sb4, sb5, sb6, sb7, ↓reduceIte, Nat.reduceAdd, Nat.reduceMul, Nat.reduceDiv, Nat.reduceEqDiff, Nat.reduceLT, Nat.reduceLeDiff, reduceCtorEq, Int.reduceEq, Int.reduceNe, Int.reduceLT, Int.reduceLE, Int.reduceAdd, Int.reduceSub, Int.reduceMul, Int.reduceNeg, Int.reduceToNat, Int.cast_ofNat_Int, Int.natCast_zero, Int.natCast_one, Int.toNat_natCast, Nat.reduceBEq, nzs, hul, hu.sl, c2, hb.one, hv.row.one, stT]
    exact ⟨b, v, ws, rfl, rfl, hb.le hM1, hv.le hM1⟩
  have c2 : ((32 : Int) < ((chop 600 s).length : Int)) = False := eq_false (by omega)
  by_cases h3 : (chop 600 s).length = 0
  · rw [if_pos (.inr h3)] at hc
    subst hc
    simp only [shs, zts, sos, sls, zss, eqs, sx, sb1, sb2, sb3, sb4, sb5, sb6, sb7, ↓reduceIte, Nat.reduceAdd, Nat.reduceMul, Nat.reduceDiv, Nat.reduceEqDiff, Nat.reduceLT, Nat.reduceLeDiff, reduceCtorEq, Int.reduceEq, Int.reduceNe, Int.reduceLT, Int.reduceLE, Int.reduceAdd, Int.reduceSub, Int.reduceMul, Int.reduceNeg, Int.reduceToNat, Int.cast_ofNat_Int, Int.natCast_zero, Int.natCast_one, Int.toNat_natCast, Nat.reduceBEq, nzs, hul, hu.sl, h3, hb.one, hv.row.one, stT]
    exact ⟨b, v, ws, rfl, rfl, hb.le hM1, hv.le hM1⟩
  have c3 : (((chop 600 s).length : Int) = 0) = False := eq_false (by omega)
  rw [if_neg (by omega)] at hc
  have hspl := spl_chop s 600 0 [] (by omega) (Nat.zero_le _)
  rw [List.drop_zero, List.nil_append] at hspl
  have hu' : RowM M1 u 1 (((Cu.ends 4 64 7 600 s).map fun k => ((k + 0 : Nat) : Int)).map encI) := by
    rw [List.map_map]
    exact hu
  have hS := Sp.split s u _ M1 (by omega) hu'
  rw [hspl] at hS
  simp only [shs, zts, sos, sls, zss, eqs, sx, sb1, sb2, sb3, sb4, sb5, sb6, sb7, ↓reduceIte, Nat.reduceAdd, Nat.reduceMul, Nat.reduceDiv, Nat.reduceEqDiff, Nat.reduceLT, Nat.reduceLeDiff, reduceCtorEq, Int.reduceEq, Int.reduceNe, Int.reduceLT, Int.reduceLE, Int.reduceAdd, Int.reduceSub, Int.reduceMul, Int.reduceNeg, Int.reduceToNat, Int.cast_ofNat_Int, Int.natCast_zero, Int.natCast_one, Int.toNat_natCast, Nat.reduceBEq, nzs, hul, hu.sl, c2, c3]
  refine Sp.CallK.splitR rfl rfl hS fun p e M2 hM2 hpi hp => ?_
  rcases hp with ⟨out, ho, rfl, hp⟩ | ⟨ho, _⟩
  rotate_left
  · cases ho
  cases ho
  have hb2 := hb.le (hM1.trans hM2)
  have hv2 := hv.le (hM1.trans hM2)
  have hpl := hp.len
  rw [List.length_map] at hpl
  have hmk := make b v bag ws n ((chop 600 s).length : Int) M2 hb2 hv2
  simp only [stV] at hmk
  have hk32 : (chop 600 s).length ≤ 32 := by omega
  have hsl : ∀ (A : St × Nat × Bool), True := fun _ => trivial
  generalize chop 600 s = P at *
  simp only at hc
  generalize makeA bag (ws.map (·.2)) n (P.length : Int) = A1 at *
  simp only [shs, zts, sos, sls, zss, eqs, sx, sb1, sb2, sb3, sb4, sb5, sb6, sb7, ↓reduceIte, Nat.reduceAdd, Nat.reduceMul, Nat.reduceDiv, Nat.reduceEqDiff, Nat.reduceLT, Nat.reduceLeDiff, reduceCtorEq, Int.reduceEq, Int.reduceNe, Int.reduceLT, Int.reduceLE, Int.reduceAdd, Int.reduceSub, Int.reduceMul, Int.reduceNeg, Int.reduceToNat, Int.cast_ofNat_Int, Int.natCast_zero, Int.natCast_one, Int.toNat_natCast, Nat.reduceBEq, nzs, hpl, hpi, hb.one, hv.row.one]
  refine CallK.stM (T := fun s => .tup [s, .v (.int .i64 A1.2)]) (fun _ _ => rfl) rfl rfl hmk fun b3 v3 ws3 M3 hM3 hw3 hb3 hv3 => ?_
  have h13 := (hM1.trans hM2).trans hM3
  by_cases h4 : A1.2 = 0
  rotate_left
  · have c4 := eq_false h4
    rw [if_pos h4] at hc
    subst hc
    simp only [shs, zts, sos, sls, zss, eqs, sx, sb1, sb2, sb3, sb4, sb5, sb6, sb7, ↓reduceIte, Nat.reduceAdd, Nat.reduceMul, Nat.reduceDiv, Nat.reduceEqDiff, Nat.reduceLT, Nat.reduceLeDiff, reduceCtorEq, Int.reduceEq, Int.reduceNe, Int.reduceLT, Int.reduceLE, Int.reduceAdd, Int.reduceSub, Int.reduceMul, Int.reduceNeg, Int.reduceToNat, Int.cast_ofNat_Int, Int.natCast_zero, Int.natCast_one, Int.toNat_natCast, Nat.reduceBEq, nzs, stV, c4, hb3.one, hv3.row.one, hb.one, hv.row.one, stT]
    exact ⟨b, v, ws, rfl, rfl, hb.le h13, hv.le h13⟩
  rw [if_neg (fun h => h h4)] at hc
  have hp3 := hp.le hM3
  have hw3' : ws3.map (·.2) = A1.1.2 := hw3
  simp only [shs, zts, sos, sls, zss, eqs, sx, sb1, sb2, sb3, sb4, sb5, sb6, sb7, ↓reduceIte, Nat.reduceAdd, Nat.reduceMul, Nat.reduceDiv, Nat.reduceEqDiff, Nat.reduceLT, Nat.reduceLeDiff, reduceCtorEq, Int.reduceEq, Int.reduceNe, Int.reduceLT, Int.reduceLE, Int.reduceAdd, Int.reduceSub, Int.reduceMul, Int.reduceNeg, Int.reduceToNat, Int.cast_ofNat_Int, Int.natCast_zero, Int.natCast_one, Int.toNat_natCast, Nat.reduceBEq, nzs, stV, h4, hb3.one, hv3.row.one, hpl, hpi]
  refine LoopK.go (X := Nat × Value × Value × List It × List WV × Mem) (fun z => ([(1, true, .v (.string ⟨n.toArray⟩)), (3, true, .ptr 24 0 0 0), (6, true, .ptr 48 0 0 0), (11, true, .v p), (12, true, .ptr 96 0 0 0), (53, true, .v p), (54, true, .v (.int .i64 P.length)), (55, true, .v (.int .i64 z.1))],
      [(96, .box [.v z.2.1, .v z.2.2.1] none), (48, .box [.v (.slice none 0 0), .v (.slice none 0 0)] none), (24, .box [.v b, .v v] none)], z.2.2.2.2.2))
    (fun z => (z.1 ≤ P.length ∧ M3.le z.2.2.2.2.2) ∧ (RowM z.2.2.2.2.2 z.2.1 4 (z.2.2.2.1.map Bg.encT) ∧ VolsM z.2.2.2.2.2 z.2.2.1 z.2.2.2.2.1) ∧ (match stor n (P.drop z.1) z.1 (z.2.2.2.1, z.2.2.2.2.1.map (·.2)) with
  | some B => (B, P.length, true)
  | none => ((bag, ws.map (·.2)), 0, false)) = c) (fun z => P.length - z.1) (0, b3, v3, A1.1.1, ws3, M3) ⟨⟨Nat.zero_le _, Mem.le.refl _⟩, ⟨hb3, hv3⟩, by simp only [List.drop_zero, hw3']; exact hc⟩ (Ent.of ?_) ?_
  · simp only [sx, sb1, sb2, sb3, sb4, sb5, sb6, sb7, ↓reduceIte, Nat.reduceAdd, Nat.reduceMul, Nat.reduceDiv, Nat.reduceEqDiff, Nat.reduceLT, Nat.reduceLeDiff, reduceCtorEq, Int.reduceEq, Int.reduceNe, Int.reduceLT, Int.reduceLE, Int.reduceAdd, Int.reduceSub, Int.reduceMul, Int.reduceNeg, Int.reduceToNat, Int.cast_ofNat_Int, Int.natCast_zero, Int.natCast_one, Int.toNat_natCast, Nat.reduceBEq, Int.natCast_zero]
  rintro ⟨i, b4, v4, bag4, ws4, N⟩ ⟨⟨n1, nM⟩, ⟨n2, n3⟩, n4⟩
  simp only at n1 nM n2 n3 n4
  by_cases hil : i < P.length
  rotate_left
  · have d1 : ((i : Int) < (P.length : Int)) = False := eq_false (by omega)
    rw [List.drop_eq_nil_of_le (by omega)] at n4
    simp only [stor] at n4
    subst n4
    simp only [shs, zts, sos, sls, zss, eqs, sx, sb1, sb2, sb3, sb4, sb5, sb6, sb7, ↓reduceIte, Nat.reduceAdd, Nat.reduceMul, Nat.reduceDiv, Nat.reduceEqDiff, Nat.reduceLT, Nat.reduceLeDiff, reduceCtorEq, Int.reduceEq, Int.reduceNe, Int.reduceLT, Int.reduceLE, Int.reduceAdd, Int.reduceSub, Int.reduceMul, Int.reduceNeg, Int.reduceToNat, Int.cast_ofNat_Int, Int.natCast_zero, Int.natCast_one, Int.toNat_natCast, Nat.reduceBEq, nzs, d1, n2.one, n3.row.one, hpl, hpi, stT]
    exact ⟨b4, v4, ws4, rfl, rfl, n2, n3⟩
  have d1 : ((i : Int) < (P.length : Int)) = True := eq_true (by omega)
  obtain ⟨t, ht, hd⟩ := l_drop_at (l := P) (i := i) hil
  rw [hd] at n4
  simp only [stor] at n4
  have hpN := hp3.le nM
  have g0 := hpN.el1 (enc := encS) (l := P) ht rfl
  have ix := hpN.ix (i := (i : Int)) (by omega) (by rw [List.length_map]; omega)
  have hW := vwrite b4 v4 bag4 ws4 n (i : Int) t N n2 n3
  simp only [stV] at hW
  generalize writeA bag4 (ws4.map (·.2)) n (i : Int) t = A at *
  simp only [shs, zts, sos, sls, zss, eqs, sx, sb1, sb2, sb3, sb4, sb5, sb6, sb7, ↓reduceIte, Nat.reduceAdd, Nat.reduceMul, Nat.reduceDiv, Nat.reduceEqDiff, Nat.reduceLT, Nat.reduceLeDiff, reduceCtorEq, Int.reduceEq, Int.reduceNe, Int.reduceLT, Int.reduceLE, Int.reduceAdd, Int.reduceSub, Int.reduceMul, Int.reduceNeg, Int.reduceToNat, Int.cast_ofNat_Int, Int.natCast_zero, Int.natCast_one, Int.toNat_natCast, Nat.reduceBEq, nzs, d1, ix, ix.2, g0.1, g0.2, n2.one, n3.row.one]
  refine CallK.stM (T := fun s => .tup [s, .v (.int .i64 A.2)]) (fun _ _ => rfl) rfl rfl hW fun b5 v5 ws5 M5 hM5 hw5 hb5 hv5 => ?_
  have h15 := (h13.trans nM).trans hM5
  by_cases h5 : A.2 = 0
  rotate_left
  · have c5 := eq_false h5
    rw [if_pos h5] at n4
    subst n4
    simp only [shs, zts, sos, sls, zss, eqs, sx, sb1, sb2, sb3, sb4, sb5, sb6, sb7, ↓reduceIte, Nat.reduceAdd, Nat.reduceMul, Nat.reduceDiv, Nat.reduceEqDiff, Nat.reduceLT, Nat.reduceLeDiff, reduceCtorEq, Int.reduceEq, Int.reduceNe, Int.reduceLT, Int.reduceLE, Int.reduceAdd, Int.reduceSub, Int.reduceMul, Int.reduceNeg, Int.reduceToNat, Int.cast_ofNat_Int, Int.natCast_zero, Int.natCast_one, Int.toNat_natCast, Nat.reduceBEq, nzs, stV, c5, hb5.one, hv5.row.one, hb.one, hv.row.one, stT]
    exact ⟨b, v, ws, rfl, rfl, hb.le h15, hv.le h15⟩
  rw [if_neg (fun h => h h5)] at n4
  have hw5' : ws5.map (·.2) = A.1.2 := hw5
  simp only [shs, zts, sos, sls, zss, eqs, sx, sb1, sb2, sb3, sb4, sb5, sb6, sb7, ↓reduceIte, Nat.reduceAdd, Nat.reduceMul, Nat.reduceDiv, Nat.reduceEqDiff, Nat.reduceLT, Nat.reduceLeDiff, reduceCtorEq, Int.reduceEq, Int.reduceNe, Int.reduceLT, Int.reduceLE, Int.reduceAdd, Int.reduceSub, Int.reduceMul, Int.reduceNeg, Int.reduceToNat, Int.cast_ofNat_Int, Int.natCast_zero, Int.natCast_one, Int.toNat_natCast, Nat.reduceBEq, nzs, stV, h5, hb5.one, hv5.row.one, inK, lo, hi]
  refine ⟨by omega, (i + 1, b5, v5, A.1.1, ws5, M5), ⟨⟨⟨by simp only; omega, nM.trans hM5⟩, ⟨hb5, hv5⟩, by simp only [hw5']; exact n4⟩, by simp only; omega⟩, Ent.of ?_⟩
  simp only [sx, sb1, sb2, sb3, sb4, sb5, sb6, sb7, ↓reduceIte, Nat.reduceAdd, Nat.reduceMul, Nat.reduceDiv, Nat.reduceEqDiff, Nat.reduceLT, Nat.reduceLeDiff, reduceCtorEq, Int.reduceEq, Int.reduceNe, Int.reduceLT, Int.reduceLE, Int.reduceAdd, Int.reduceSub, Int.reduceMul, Int.reduceNeg, Int.reduceToNat, Int.cast_ofNat_Int, Int.natCast_zero, Int.natCast_one, Int.toNat_natCast, Nat.reduceBEq, Int.natCast_add]
theorem dedupW (s t : Txt) (M : Mem) (hs : s.length ≤ reachBytes) (ht : t.length ≤ reachBytes) :
    Meets Proofs.Try.prog 3 [.v (.string ⟨s.toArray⟩), .v (.string ⟨t.toArray⟩)] M fun r _ _ => r = .v (.bool true) := by
  refine Meets.of_body [0,1,4,5,6,7,8,9,11,20,33,47] Proofs.Try.func3 rfl (by kernel_rfl) rfl fun w => ?_
  have hmx : s.length ≤ maxLen := Nat.le_trans hs (by decide)
  have hmx2 : (s ++ t).length ≤ maxLen := by rw [List.length_append]; unfold reachBytes at hs ht; unfold maxLen; omega
  have hmx3 : s.length + t.length ≤ 9223372036854775807 := by unfold reachBytes at hs ht; omega
  have hS := storedW (.slice none 0 0) (.slice none 0 0) [] [] [97] s M (zero_volsM M).1 (zero_volsM M).2 hmx
  rw [show (([], List.map (fun x : WV => x.2) []) : St) = zSt from rfl] at hS
  simp only [stV] at hS
  have hsp : ∀ {B : St} {m : Nat}, (stoT zSt [97] s).2.2 = true → _ := fun {B : St} {m : Nat} h => @dedup_sp s t (stoT zSt [97] s).1 B (stoT zSt [97] s).2.1 m (by rw [← h])
  have h32 : (stoT zSt [97] s).2.2 = true → (stoT zSt [97] s).2.1 ≤ 32 := fun h => (stoT_sp (A := zSt) (B := (stoT zSt [97] s).1) (k := (stoT zSt [97] s).2.1) (by rw [← h])).1.2.2
  generalize stoT zSt [97] s = C at *
  simp only [Proofs.Try.f3, shs, zts, sos, sls, zss, eqs, sx, sb1, sb2, sb3, sb4, sb5, sb6, sb7, ↓reduceIte, Nat.reduceAdd, Nat.reduceMul, Nat.reduceDiv, Nat.reduceEqDiff, Nat.reduceLT, Nat.reduceLeDiff, reduceCtorEq, Int.reduceEq, Int.reduceNe, Int.reduceLT, Int.reduceLE, Int.reduceAdd, Int.reduceSub, Int.reduceMul, Int.reduceNeg, Int.reduceToNat, Int.cast_ofNat_Int, Int.natCast_zero, Int.natCast_one, Int.toNat_natCast, Nat.reduceBEq, nzs]
  refine CallK.pure ⟨rfl, rfl⟩ rfl (begunW M) ?_
  simp only [shs, zts, sos, sls, zss, eqs, sx, sb1, sb2, sb3, sb4, sb5, sb6, sb7, ↓reduceIte, Nat.reduceAdd, Nat.reduceMul, Nat.reduceDiv, Nat.reduceEqDiff, Nat.reduceLT, Nat.reduceLeDiff, reduceCtorEq, Int.reduceEq, Int.reduceNe, Int.reduceLT, Int.reduceLE, Int.reduceAdd, Int.reduceSub, Int.reduceMul, Int.reduceNeg, Int.reduceToNat, Int.cast_ofNat_Int, Int.natCast_zero, Int.natCast_one, Int.toNat_natCast, Nat.reduceBEq, nzs]
  refine CallK.stM (T := stT C) (fun _ _ => rfl) rfl rfl hS fun b v ws M1 hM1 hw hb hv => ?_
  have hw' : ws.map (·.2) = C.1.2 := hw
  cases h1 : C.2.2 with
  | false =>
    simp only [shs, zts, sos, sls, zss, eqs, sx, sb1, sb2, sb3, sb4, sb5, sb6, sb7, ↓reduceIte, Nat.reduceAdd, Nat.reduceMul, Nat.reduceDiv, Nat.reduceEqDiff, Nat.reduceLT, Nat.reduceLeDiff, reduceCtorEq, Int.reduceEq, Int.reduceNe, Int.reduceLT, Int.reduceLE, Int.reduceAdd, Int.reduceSub, Int.reduceMul, Int.reduceNeg, Int.reduceToNat, Int.cast_ofNat_Int, Int.natCast_zero, Int.natCast_one, Int.toNat_natCast, Nat.reduceBEq, nzs, stT, stV, h1, hb.one, hv.row.one]
    refine CallK.pure ⟨rfl, rfl⟩ rfl (begunW M1) ?_
    simp only [shs, zts, sos, sls, zss, eqs, sx, sb1, sb2, sb3, sb4, sb5, sb6, sb7, ↓reduceIte, Nat.reduceAdd, Nat.reduceMul, Nat.reduceDiv, Nat.reduceEqDiff, Nat.reduceLT, Nat.reduceLeDiff, reduceCtorEq, Int.reduceEq, Int.reduceNe, Int.reduceLT, Int.reduceLE, Int.reduceAdd, Int.reduceSub, Int.reduceMul, Int.reduceNeg, Int.reduceToNat, Int.cast_ofNat_Int, Int.natCast_zero, Int.natCast_one, Int.toNat_natCast, Nat.reduceBEq, nzs]
  | true =>
  obtain ⟨⟨p1, p2⟩, _⟩ := @hsp zSt 0 h1
  have hn32 := h32 h1
  have hL := loadedW b v C.1.1 ws [97] C.2.1 M1 hb hv hn32
  rw [hw', p1] at hL
  simp only [stV] at hL
  have hbl := hb.len
  rw [List.length_map] at hbl
  have c1 : ((C.2.1 : Int) < (C.1.1.length : Int)) = False := eq_false (by omega)
  have hS2 := storedW b v C.1.1 ws [98] (s ++ t) M1 hb hv hmx2
  rw [hw'] at hS2
  simp only [stV] at hS2
  have hfin : ∀ m : Nat, stoT C.1 [98] (s ++ t) = ((stoT C.1 [98] (s ++ t)).1, m, true) → _ := fun m h => (@hsp (stoT C.1 [98] (s ++ t)).1 m h1).2 h
  have h32b : (stoT C.1 [98] (s ++ t)).2.2 = true → (stoT C.1 [98] (s ++ t)).2.1 ≤ 32 := fun h => (stoT_sp (A := C.1) (B := (stoT C.1 [98] (s ++ t)).1) (k := (stoT C.1 [98] (s ++ t)).2.1) (by rw [← h])).1.2.2
  rw [show (C.1.1, C.1.2) = C.1 from rfl] at hS2
  generalize stoT C.1 [98] (s ++ t) = D at *
  simp only [shs, zts, sos, sls, zss, eqs, sx, sb1, sb2, sb3, sb4, sb5, sb6, sb7, ↓reduceIte, Nat.reduceAdd, Nat.reduceMul, Nat.reduceDiv, Nat.reduceEqDiff, Nat.reduceLT, Nat.reduceLeDiff, reduceCtorEq, Int.reduceEq, Int.reduceNe, Int.reduceLT, Int.reduceLE, Int.reduceAdd, Int.reduceSub, Int.reduceMul, Int.reduceNeg, Int.reduceToNat, Int.cast_ofNat_Int, Int.natCast_zero, Int.natCast_one, Int.toNat_natCast, Nat.reduceBEq, nzs, stT, stV, h1, hb.one, hv.row.one]
  refine CallK.pure ⟨rfl, rfl⟩ rfl hL ?_
  simp only [shs, zts, sos, sls, zss, eqs, sx, sb1, sb2, sb3, sb4, sb5, sb6, sb7, ↓reduceIte, Nat.reduceAdd, Nat.reduceMul, Nat.reduceDiv, Nat.reduceEqDiff, Nat.reduceLT, Nat.reduceLeDiff, reduceCtorEq, Int.reduceEq, Int.reduceNe, Int.reduceLT, Int.reduceLE, Int.reduceAdd, Int.reduceSub, Int.reduceMul, Int.reduceNeg, Int.reduceToNat, Int.cast_ofNat_Int, Int.natCast_zero, Int.natCast_one, Int.toNat_natCast, Nat.reduceBEq, nzs, decide_true, hbl, hb.sl, c1, hb.one, hv.row.one]
  refine ⟨by omega, ?_⟩
  refine CallK.stM (T := stT D) (fun _ _ => rfl) rfl rfl hS2 fun b2 v2 ws2 M2 hM2 hw2 hb2 hv2 => ?_
  have hw2' : ws2.map (·.2) = D.1.2 := hw2
  cases h2 : D.2.2 with
  | false => simp only [shs, zts, sos, sls, zss, eqs, sx, sb1, sb2, sb3, sb4, sb5, sb6, sb7, ↓reduceIte, Nat.reduceAdd, Nat.reduceMul, Nat.reduceDiv, Nat.reduceEqDiff, Nat.reduceLT, Nat.reduceLeDiff, reduceCtorEq, Int.reduceEq, Int.reduceNe, Int.reduceLT, Int.reduceLE, Int.reduceAdd, Int.reduceSub, Int.reduceMul, Int.reduceNeg, Int.reduceToNat, Int.cast_ofNat_Int, Int.natCast_zero, Int.natCast_one, Int.toNat_natCast, Nat.reduceBEq, nzs, stT, stV, h2, hb2.one, hv2.row.one]
  | true =>
  obtain ⟨⟨⟨q1, q2⟩, q3⟩, q4⟩ := hfin D.2.1 (by rw [← h2])
  have hm32 := h32b h2
  have hL2 := loadedW b2 v2 D.1.1 ws2 [98] D.2.1 M2 hb2 hv2 hm32
  have hL3 := loadedW b2 v2 D.1.1 ws2 [97] C.2.1 M2 hb2 hv2 hn32
  have hCk := vcheck b2 v2 D.1.1 ws2 M2 hb2 hv2
  rw [hw2'] at hL2 hL3 hCk
  rw [show (D.1.1, D.1.2) = D.1 from rfl] at hL2 hL3
  rw [q1] at hL2
  rw [q2] at hL3
  rw [q3] at hCk
  simp only [stV] at hL2 hL3 hCk
  have hbl2 := hb2.len
  rw [List.length_map] at hbl2
  simp only [shs, zts, sos, sls, zss, eqs, sx, sb1, sb2, sb3, sb4, sb5, sb6, sb7, ↓reduceIte, Nat.reduceAdd, Nat.reduceMul, Nat.reduceDiv, Nat.reduceEqDiff, Nat.reduceLT, Nat.reduceLeDiff, reduceCtorEq, Int.reduceEq, Int.reduceNe, Int.reduceLT, Int.reduceLE, Int.reduceAdd, Int.reduceSub, Int.reduceMul, Int.reduceNeg, Int.reduceToNat, Int.cast_ofNat_Int, Int.natCast_zero, Int.natCast_one, Int.toNat_natCast, Nat.reduceBEq, nzs, stT, stV, h2, hb2.one, hv2.row.one]
  refine CallK.pure ⟨rfl, rfl⟩ rfl hL2 ?_
  simp only [shs, zts, sos, sls, zss, eqs, sx, sb1, sb2, sb3, sb4, sb5, sb6, sb7, ↓reduceIte, Nat.reduceAdd, Nat.reduceMul, Nat.reduceDiv, Nat.reduceEqDiff, Nat.reduceLT, Nat.reduceLeDiff, reduceCtorEq, Int.reduceEq, Int.reduceNe, Int.reduceLT, Int.reduceLE, Int.reduceAdd, Int.reduceSub, Int.reduceMul, Int.reduceNeg, Int.reduceToNat, Int.cast_ofNat_Int, Int.natCast_zero, Int.natCast_one, Int.toNat_natCast, Nat.reduceBEq, nzs, decide_true, hb2.one, hv2.row.one]
  refine ⟨by omega, CallK.pure ⟨rfl, rfl⟩ rfl hL3 ?_⟩
  simp only [shs, zts, sos, sls, zss, eqs, sx, sb1, sb2, sb3, sb4, sb5, sb6, sb7, ↓reduceIte, Nat.reduceAdd, Nat.reduceMul, Nat.reduceDiv, Nat.reduceEqDiff, Nat.reduceLT, Nat.reduceLeDiff, reduceCtorEq, Int.reduceEq, Int.reduceNe, Int.reduceLT, Int.reduceLE, Int.reduceAdd, Int.reduceSub, Int.reduceMul, Int.reduceNeg, Int.reduceToNat, Int.cast_ofNat_Int, Int.natCast_zero, Int.natCast_one, Int.toNat_natCast, Nat.reduceBEq, nzs, decide_true, hb2.one, hv2.row.one]
  refine CallK.pure ⟨rfl, rfl⟩ rfl hCk ?_
  simp only [shs, zts, sos, sls, zss, eqs, sx, sb1, sb2, sb3, sb4, sb5, sb6, sb7, ↓reduceIte, Nat.reduceAdd, Nat.reduceMul, Nat.reduceDiv, Nat.reduceEqDiff, Nat.reduceLT, Nat.reduceLeDiff, reduceCtorEq, Int.reduceEq, Int.reduceNe, Int.reduceLT, Int.reduceLE, Int.reduceAdd, Int.reduceSub, Int.reduceMul, Int.reduceNeg, Int.reduceToNat, Int.cast_ofNat_Int, Int.natCast_zero, Int.natCast_one, Int.toNat_natCast, Nat.reduceBEq, nzs, hbl2, hb2.sl, inK, lo, hi]
  have hb64 := bag_len (stE_ok q3).1
  refine ⟨⟨by omega, by omega⟩, ⟨by omega, by omega⟩, ⟨by omega, by omega⟩, ?_⟩
  rw [decide_eq_true q4]
theorem dedupL (s t : Txt) (M : Mem) (hs : s.length ≤ reachBytes) (ht : t.length ≤ reachBytes) :
    Meets Proofs.Try.prog 3 [.v (.string ⟨s.toArray⟩), .v (.string ⟨t.toArray⟩)] M fun r _ _ => r = .v (.bool true) := dedupW s t M hs ht
end Go.X.Vo

