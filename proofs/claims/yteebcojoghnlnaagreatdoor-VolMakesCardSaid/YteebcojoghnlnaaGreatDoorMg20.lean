/- Contracts of functions and the logic that they are proved in (5 texts in one). Conditions: none. -/
import Derived.Test.YteebcojoghnlnaaGreatDoorMg19
import Derived.Test.YteebcojoghnlnaaGreatDoorMg5
namespace Go.X.Bg
end Go.X.Bg
namespace Go.X.Nm
end Go.X.Nm
namespace Go.X.Bp
end Go.X.Bp
namespace Go.X.Sb
end Go.X.Sb
namespace Go.X.Rp
end Go.X.Rp
set_option linter.unusedSimpArgs false
set_option linter.unusedVariables false
set_option maxHeartbeats 4000000
set_option maxRecDepth 20000
namespace Go.X.Vo
open Go Go.X Go.RowKit Go.X.Bg Go.X.Nm Go.X.Bp Go.X.Sb

theorem ws_at {ws : List WV} {L : List Vol} (h : ws.map (·.2) = L) {i : Nat} {y : Vol} (hy : L[i]? = some y) : ∃ x, ws[i]? = some x ∧ x.2 = y := by
  rw [← h, List.getElem?_map, Option.map_eq_some_iff] at hy
  exact hy
theorem ws_len {ws ws2 : List WV} (h : ws2.map (·.2) = ws.map (·.2)) : ws2.length = ws.length := by
  have := congrArg List.length h
  rwa [List.length_map, List.length_map] at this
theorem foldl_take {α β : Type} (g : β → α → β) (b : β) {l : List α} {j : Nat} {y : α} (h : l[j]? = some y) : (l.take (j + 1)).foldl g b = g ((l.take j).foldl g b) y := by
  rw [List.take_add_one, h, List.foldl_append]
  rfl
theorem vdrop (b v : Value) (bag : List It) (ws : List WV) (n : List UInt8) (M : Mem) (hb : RowM M b 4 (bag.map Bg.encT)) (hv : VolsM M v ws) :
    Meets Proofs.Tryz.prog 14 [stV b v, .v (.string ⟨n.toArray⟩)] M (StM (fun s => .tup [s, .v (.int .i64 (dropA bag (ws.map (·.2)) n).2)]) (dropA bag (ws.map (·.2)) n).1) := by
  refine Meets.settleM (Ctx.fst _) ?_
  refine Meets.of_body [0,1,2,4,5,6,7,8,10,14,21,30,31,32,33,37] Proofs.Tryz.func14 rfl (by kernel_rfl) rfl fun w => ?_
  generalize hc : dropA bag (ws.map (·.2)) n = c
  unfold dropA at hc
  have hC := vcheck b v bag ws M hb hv
  have hF := find b v ws n M hv
  simp only [stV] at hC hF
  simp only [Proofs.Tryz.f14, stV, shs, zts, sos, sls, zss, eqs, sx, sb1, sb2, sb3, sb4, sb5, sb6, sb7, ↓reduceIte, Nat.reduceAdd, Nat.reduceMul, Nat.reduceDiv, Nat.reduceEqDiff, Nat.reduceLT, Nat.reduceLeDiff, reduceCtorEq, Int.reduceEq, Int.reduceNe, Int.reduceLT, Int.reduceLE, Int.reduceAdd, Int.reduceSub, Int.reduceMul, Int.reduceNeg, Int.reduceToNat, Int.cast_ofNat_Int, Int.natCast_zero, Int.natCast_one, Int.toNat_natCast, Nat.reduceBEq, nzs]
  refine CallK.pure ⟨rfl, rfl⟩ rfl hC ?_
  by_cases h1 : stE bag (ws.map (·.2)) = 0
  rotate_left
  · have c1 := eq_false h1
    rw [if_pos h1] at hc
    subst hc
    simp only [shs, zts, sos, sls, zss, eqs, sx, sb1, sb2, sb3, sb4, sb5, sb6, sb7, ↓reduceIte, Nat.reduceAdd, Nat.reduceMul, Nat.reduceDiv, Nat.reduceEqDiff, Nat.reduceLT, Nat.reduceLeDiff, reduceCtorEq, Int.reduceEq, Int.reduceNe, Int.reduceLT, Int.reduceLE, Int.reduceAdd, Int.reduceSub, Int.reduceMul, Int.reduceNeg, Int.reduceToNat, Int.cast_ofNat_Int, Int.natCast_zero, Int.natCast_one, Int.toNat_natCast, Nat.reduceBEq, nzs, c1]
    exact stO_zero _ _ _
  rw [if_neg (fun h => h h1)] at hc
  obtain ⟨hB, hV, _⟩ := stE_ok h1
  have hVo := volsE_ok hV
  have hbl := bag_len hB
  rw [List.length_map] at hVo
  have hli : ∀ w ∈ ws, w.2.2.length ≤ 32 := fun w hw => (hVo.2 w.2 (List.mem_map_of_mem hw)).1
  simp only [shs, zts, sos, sls, zss, eqs, sx, sb1, sb2, sb3, sb4, sb5, sb6, sb7, ↓reduceIte, Nat.reduceAdd, Nat.reduceMul, Nat.reduceDiv, Nat.reduceEqDiff, Nat.reduceLT, Nat.reduceLeDiff, reduceCtorEq, Int.reduceEq, Int.reduceNe, Int.reduceLT, Int.reduceLE, Int.reduceAdd, Int.reduceSub, Int.reduceMul, Int.reduceNeg, Int.reduceToNat, Int.cast_ofNat_Int, Int.natCast_zero, Int.natCast_one, Int.toNat_natCast, Nat.reduceBEq, nzs, h1]
  refine CallK.pure ⟨rfl, rfl⟩ rfl hF ?_
  by_cases h2 : volIx (ws.map (·.2)) n < 0
  · have c2 := eq_true h2
    rw [if_pos h2] at hc
    subst hc
    simp only [shs, zts, sos, sls, zss, eqs, sx, sb1, sb2, sb3, sb4, sb5, sb6, sb7, ↓reduceIte, Nat.reduceAdd, Nat.reduceMul, Nat.reduceDiv, Nat.reduceEqDiff, Nat.reduceLT, Nat.reduceLeDiff, reduceCtorEq, Int.reduceEq, Int.reduceNe, Int.reduceLT, Int.reduceLE, Int.reduceAdd, Int.reduceSub, Int.reduceMul, Int.reduceNeg, Int.reduceToNat, Int.cast_ofNat_Int, Int.natCast_zero, Int.natCast_one, Int.toNat_natCast, Nat.reduceBEq, nzs, c2]
    exact stO_zero _ _ _
  have c2 := eq_false h2
  rw [if_neg h2] at hc
  subst hc
  obtain ⟨i, x, k1, k2, k3, k4⟩ := volIx_at h2
  have hcp := copied b v bag ws M hb hv (by omega) (by omega) (fun w hw => Nat.le_trans (hli w hw) (by omega))
  simp only [stV] at hcp
  rw [k1] at c2 ⊢
  simp only [shs, zts, sos, sls, zss, eqs, sx, sb1, sb2, sb3, sb4, sb5, sb6, sb7, ↓reduceIte, Nat.reduceAdd, Nat.reduceMul, Nat.reduceDiv, Nat.reduceEqDiff, Nat.reduceLT, Nat.reduceLeDiff, reduceCtorEq, Int.reduceEq, Int.reduceNe, Int.reduceLT, Int.reduceLE, Int.reduceAdd, Int.reduceSub, Int.reduceMul, Int.reduceNeg, Int.reduceToNat, Int.cast_ofNat_Int, Int.natCast_zero, Int.natCast_one, Int.toNat_natCast, Nat.reduceBEq, nzs, c2, Int.toNat_natCast]
  refine CallK.stF (T := fun s => s) (fun _ _ => rfl) rfl rfl hcp fun b2 v2 ws2 M2 hM2 hw2 hS => ?_
  obtain ⟨x2, hx2, e2⟩ := ws_at hw2 k4
  obtain ⟨_, g1, i0⟩ := vol_at hS.volsM hx2
  have hblk := hS.blk x2 (List.mem_of_getElem? hx2)
  have hbll := hblk.row.len_le
  have hl2 := ws_len hw2
  have hil : i < ws.length := (List.getElem?_eq_some_iff.1 k2).1
  rw [List.length_map] at hbll
  simp only [shs, zts, sos, sls, zss, eqs, sx, sb1, sb2, sb3, sb4, sb5, sb6, sb7, ↓reduceIte, Nat.reduceAdd, Nat.reduceMul, Nat.reduceDiv, Nat.reduceEqDiff, Nat.reduceLT, Nat.reduceLeDiff, reduceCtorEq, Int.reduceEq, Int.reduceNe, Int.reduceLT, Int.reduceLE, Int.reduceAdd, Int.reduceSub, Int.reduceMul, Int.reduceNeg, Int.reduceToNat, Int.cast_ofNat_Int, Int.natCast_zero, Int.natCast_one, Int.toNat_natCast, Nat.reduceBEq, nzs, stV, hS.bag.row.one, hS.vols.row.one, i0, i0.2, g1.1, g1.2, hblk.row.len, hblk.row.sl, List.length_map]
  refine LoopK.go (X := Nat × Value × Mem) (fun z => ([(2, true, .ptr 16 0 0 0), (4, true, .ptr 32 0 0 0), (7, true, .v (.int .i64 i)), (8, true, .ptr 64 0 0 0), (30, true, .v x2.1), (31, true, .v (.int .i64 x2.2.2.length)), (32, true, .v (.int .i64 z.1))],
      [(64, .box [.v z.2.1, .v v2] none), (32, .box [.v (.slice none 0 0), .v (.slice none 0 0)] none), (16, .box [.v b, .v v] none)], z.2.2))
    (fun z => (z.1 ≤ x2.2.2.length ∧ M2.le z.2.2) ∧ RowF z.2.2 z.2.1 4 (((x2.2.2.take z.1).foldl lessId bag).map Bg.encT) ∧ apartB z.2.1 v2) (fun z => x2.2.2.length - z.1) (0, b2, M2) ⟨⟨Nat.zero_le _, Mem.le.refl M2⟩, hS.bag, hS.bv⟩ (Ent.of ?_) ?_
  · simp only [sx, sb1, sb2, sb3, sb4, sb5, sb6, sb7, ↓reduceIte, Nat.reduceAdd, Nat.reduceMul, Nat.reduceDiv, Nat.reduceEqDiff, Nat.reduceLT, Nat.reduceLeDiff, reduceCtorEq, Int.reduceEq, Int.reduceNe, Int.reduceLT, Int.reduceLE, Int.reduceAdd, Int.reduceSub, Int.reduceMul, Int.reduceNeg, Int.reduceToNat, Int.cast_ofNat_Int, Int.natCast_zero, Int.natCast_one, Int.toNat_natCast, Nat.reduceBEq, Int.natCast_zero]
  rintro ⟨j, b3, N⟩ ⟨⟨n1, nM⟩, n2, n3⟩
  simp only at n1 nM n2 n3
  by_cases hjl : j < x2.2.2.length
  · have d1 : ((j : Int) < (x2.2.2.length : Int)) = True := eq_true (by omega)
    obtain ⟨y, hy, _⟩ := l_drop_at (l := x2.2.2) (i := j) hjl
    obtain ⟨y0, y1, y2, yi⟩ := id_at (hblk.row.le nM) hy
    have hst := foldl_take lessId bag hy
    have hbE := bagE_lessAll (x2.2.2.take j) hB
    generalize (x2.2.2.take j).foldl lessId bag = bj at *
    obtain ⟨q0, q1, q2⟩ := y
    simp only at y0 y1 y2
    cases q0 with
    | false =>
      have e3 : lessId bj (false, q1, q2) = bj := if_neg (fun h => by cases h)
      rw [e3] at hst
      simp only [shs, zts, sos, sls, zss, eqs, sx, sb1, sb2, sb3, sb4, sb5, sb6, sb7, ↓reduceIte, Nat.reduceAdd, Nat.reduceMul, Nat.reduceDiv, Nat.reduceEqDiff, Nat.reduceLT, Nat.reduceLeDiff, reduceCtorEq, Int.reduceEq, Int.reduceNe, Int.reduceLT, Int.reduceLE, Int.reduceAdd, Int.reduceSub, Int.reduceMul, Int.reduceNeg, Int.reduceToNat, Int.cast_ofNat_Int, Int.natCast_zero, Int.natCast_one, Int.toNat_natCast, Nat.reduceBEq, nzs, d1, yi, yi.2, y0.1, y0.2, y1.1, y1.2, y2.1, y2.2, inK, lo, hi]
      refine ⟨by omega, (j + 1, b3, N), ⟨⟨⟨by simp only; omega, nM⟩, by simp only [hst]; exact n2, n3⟩, by simp only; omega⟩, Ent.of ?_⟩
      simp only [sx, sb1, sb2, sb3, sb4, sb5, sb6, sb7, ↓reduceIte, Nat.reduceAdd, Nat.reduceMul, Nat.reduceDiv, Nat.reduceEqDiff, Nat.reduceLT, Nat.reduceLeDiff, reduceCtorEq, Int.reduceEq, Int.reduceNe, Int.reduceLT, Int.reduceLE, Int.reduceAdd, Int.reduceSub, Int.reduceMul, Int.reduceNeg, Int.reduceToNat, Int.cast_ofNat_Int, Int.natCast_zero, Int.natCast_one, Int.toNat_natCast, Nat.reduceBEq, Int.natCast_add]
    | true =>
      have e3 : lessId bj (true, q1, q2) = (dropS bj (true, q1, q2)).1 := by rw [dropS_ok hbE]; exact if_pos rfl
      rw [e3] at hst
      have hD := drop b3 bj (true, q1, q2) N n2.row
      simp only [idS] at hD
      simp only [shs, zts, sos, sls, zss, eqs, sx, sb1, sb2, sb3, sb4, sb5, sb6, sb7, ↓reduceIte, Nat.reduceAdd, Nat.reduceMul, Nat.reduceDiv, Nat.reduceEqDiff, Nat.reduceLT, Nat.reduceLeDiff, reduceCtorEq, Int.reduceEq, Int.reduceNe, Int.reduceLT, Int.reduceLE, Int.reduceAdd, Int.reduceSub, Int.reduceMul, Int.reduceNeg, Int.reduceToNat, Int.cast_ofNat_Int, Int.natCast_zero, Int.natCast_one, Int.toNat_natCast, Nat.reduceBEq, nzs, d1, yi, yi.2, y0.1, y0.2, y1.1, y1.2, y2.1, y2.2]
      refine CallK.rowF (T := fun s => .tup [s, .v (.int .i64 (dropS bj (true, q1, q2)).2)]) (Ctx.fst _) rfl rfl hD fun b4 N2 hN2 hb4 hf4 => ?_
      simp only [shs, zts, sos, sls, zss, eqs, sx, sb1, sb2, sb3, sb4, sb5, sb6, sb7, ↓reduceIte, Nat.reduceAdd, Nat.reduceMul, Nat.reduceDiv, Nat.reduceEqDiff, Nat.reduceLT, Nat.reduceLeDiff, reduceCtorEq, Int.reduceEq, Int.reduceNe, Int.reduceLT, Int.reduceLE, Int.reduceAdd, Int.reduceSub, Int.reduceMul, Int.reduceNeg, Int.reduceToNat, Int.cast_ofNat_Int, Int.natCast_zero, Int.natCast_one, Int.toNat_natCast, Nat.reduceBEq, nzs, inK, lo, hi, hb4.row.one]
      refine ⟨oneVs hb4.row.sl, by omega, (j + 1, b4, N2), ⟨⟨⟨by simp only; omega, nM.trans hN2⟩, by simp only [hst]; exact hb4, RowF.apart (hS.vols.le nM) hf4⟩, by simp only; omega⟩, Ent.of ?_⟩
      simp only [sx, sb1, sb2, sb3, sb4, sb5, sb6, sb7, ↓reduceIte, Nat.reduceAdd, Nat.reduceMul, Nat.reduceDiv, Nat.reduceEqDiff, Nat.reduceLT, Nat.reduceLeDiff, reduceCtorEq, Int.reduceEq, Int.reduceNe, Int.reduceLT, Int.reduceLE, Int.reduceAdd, Int.reduceSub, Int.reduceMul, Int.reduceNeg, Int.reduceToNat, Int.cast_ofNat_Int, Int.natCast_zero, Int.natCast_one, Int.toNat_natCast, Nat.reduceBEq, Int.natCast_add]
  · have d1 : ((j : Int) < (x2.2.2.length : Int)) = False := eq_false (by omega)
    rw [List.take_of_length_le (by omega)] at n2
    simp only [shs, zts, sos, sls, zss, eqs, sx, sb1, sb2, sb3, sb4, sb5, sb6, sb7, ↓reduceIte, Nat.reduceAdd, Nat.reduceMul, Nat.reduceDiv, Nat.reduceEqDiff, Nat.reduceLT, Nat.reduceLeDiff, reduceCtorEq, Int.reduceEq, Int.reduceNe, Int.reduceLT, Int.reduceLE, Int.reduceAdd, Int.reduceSub, Int.reduceMul, Int.reduceNeg, Int.reduceToNat, Int.cast_ofNat_Int, Int.natCast_zero, Int.natCast_one, Int.toNat_natCast, Nat.reduceBEq, nzs, d1, inK, lo, hi]
    refine ⟨by omega, ?_⟩
    refine CallK.claim (A := fun s => [s, .v (.int .i64 i), .v (.int .i64 (i + 1 : Nat))]) 1000 (Ctxs.cons0 _ rfl) rfl (hS.vols.le nM) hS.fv rfl rfl fun M4 hb4 => ?_
    refine CallK.lendR (A := fun s => [s, .v (.int .i64 i), .v (.int .i64 (i + 1 : Nat))]) 8000 (Ctxs.cons0 _ rfl) Ctx.id rfl rfl rfl (fun M6 _ => deleteV (ws2.map encV) i (i + 1) M6 (by omega) (by rw [List.length_map]; omega) (by rw [List.length_map]; omega)) rfl ?_
    have hr : (ws2.map encV).take i ++ (ws2.map encV).drop (i + 1) = (ws2.take i ++ ws2.drop (i + 1)).map encV := by rw [List.map_append, List.map_take, List.map_drop]
    rw [hr]
    have hb5 := RowF.but n2 hb4 n3.symm
    simp only [shs, zts, sos, sls, zss, eqs, sx, sb1, sb2, sb3, sb4, sb5, sb6, sb7, ↓reduceIte, Nat.reduceAdd, Nat.reduceMul, Nat.reduceDiv, Nat.reduceEqDiff, Nat.reduceLT, Nat.reduceLeDiff, reduceCtorEq, Int.reduceEq, Int.reduceNe, Int.reduceLT, Int.reduceLE, Int.reduceAdd, Int.reduceSub, Int.reduceMul, Int.reduceNeg, Int.reduceToNat, Int.cast_ofNat_Int, Int.natCast_zero, Int.natCast_one, Int.toNat_natCast, Nat.reduceBEq, sp1, sp2, sp3, nzs, hb5.row.one]
    refine ⟨.v b3, .own 416, ws2.take i ++ ws2.drop (i + 1), rfl, ?_, fun k h => (by cases h), ⟨?_, rfl⟩, fun w hw => ?_⟩
    · simp only [dropSt, delV, List.map_append, List.map_take, List.map_drop, hw2]
    · simp only [dropSt, volAt_at k4]
      rw [e2] at hb5
      exact hb5.row
    · have hw' : w ∈ ws2 := by
        rcases List.mem_append.1 hw with hw | hw
        · exact List.mem_of_mem_take hw
        · exact List.mem_of_mem_drop hw
      exact (RowF.but ((hS.blk w hw').le nM) hb4 (hS.vw hw')).row
end Go.X.Vo

namespace Go.X.Vo
open Go Go.X Go.RowKit Go.X.Bg Go.X.Nm Go.X.Bp Go.X.Sb

theorem set_same {α : Type} {l : List α} {i : Nat} {x : α} (h : l[i]? = some x) : l.set i x = l := by
  apply List.ext_getElem?
  intro j
  rw [List.getElem?_set]
  split
  · rename_i e
    subst e
    rw [if_pos (List.getElem?_eq_some_iff.1 h).1, h]
  · rfl
end Go.X.Vo

namespace Go.X.Vo
open Go Go.X Go.RowKit Go.X.Bg Go.X.Nm Go.X.Bp Go.X.Sb

theorem vclone (b v : Value) (bag : List It) (ws : List WV) (n to : List UInt8) (M : Mem) (hb : RowM M b 4 (bag.map Bg.encT)) (hv : VolsM M v ws) :
    Meets Proofs.Tryz.prog 15 [stV b v, .v (.string ⟨n.toArray⟩), .v (.string ⟨to.toArray⟩)] M (StM (fun s => .tup [s, .v (.int .i64 (cloneA bag (ws.map (·.2)) n to).2)]) (cloneA bag (ws.map (·.2)) n to).1) := by
  refine Meets.settleM (Ctx.fst _) ?_
  refine Meets.of_body [0,1,2,3,6,7,8,9,10,11,13,14,18,25,31,41,42,43,44,52] Proofs.Tryz.func15 rfl (by kernel_rfl) rfl fun w => ?_
  generalize hc : cloneA bag (ws.map (·.2)) n to = c
  unfold cloneA at hc
  have hC := vcheck b v bag ws M hb hv
  have hF := find b v ws n M hv
  simp only [stV] at hC hF
  simp only [Proofs.Tryz.f15, stV, shs, zts, sos, sls, zss, eqs, sx, sb1, sb2, sb3, sb4, sb5, sb6, sb7, ↓reduceIte, Nat.reduceAdd, Nat.reduceMul, Nat.reduceDiv, Nat.reduceEqDiff, Nat.reduceLT, Nat.reduceLeDiff, reduceCtorEq, Int.reduceEq, Int.reduceNe, Int.reduceLT, Int.reduceLE, Int.reduceAdd, Int.reduceSub, Int.reduceMul, Int.reduceNeg, Int.reduceToNat, Int.cast_ofNat_Int, Int.natCast_zero, Int.natCast_one, Int.toNat_natCast, Nat.reduceBEq, nzs]
  refine CallK.pure ⟨rfl, rfl⟩ rfl hC ?_
  by_cases h1 : stE bag (ws.map (·.2)) = 0
  rotate_left
  · have c1 := eq_false h1
    rw [if_pos h1] at hc
    subst hc
    simp only [shs, zts, sos, sls, zss, eqs, sx, sb1, sb2, sb3, sb4, sb5, sb6, sb7, ↓reduceIte, Nat.reduceAdd, Nat.reduceMul, Nat.reduceDiv, Nat.reduceEqDiff, Nat.reduceLT, Nat.reduceLeDiff, reduceCtorEq, Int.reduceEq, Int.reduceNe, Int.reduceLT, Int.reduceLE, Int.reduceAdd, Int.reduceSub, Int.reduceMul, Int.reduceNeg, Int.reduceToNat, Int.cast_ofNat_Int, Int.natCast_zero, Int.natCast_one, Int.toNat_natCast, Nat.reduceBEq, nzs, c1]
    exact stO_zero _ _ _
  rw [if_neg (fun h => h h1)] at hc
  obtain ⟨hB, hV, _⟩ := stE_ok h1
  have hVo := volsE_ok hV
  have hbl := bag_len hB
  have hsrt := vols_srt hV
  rw [List.length_map] at hVo
  have hli : ∀ w ∈ ws, w.2.2.length ≤ 32 := fun w hw => (hVo.2 w.2 (List.mem_map_of_mem hw)).1
  simp only [shs, zts, sos, sls, zss, eqs, sx, sb1, sb2, sb3, sb4, sb5, sb6, sb7, ↓reduceIte, Nat.reduceAdd, Nat.reduceMul, Nat.reduceDiv, Nat.reduceEqDiff, Nat.reduceLT, Nat.reduceLeDiff, reduceCtorEq, Int.reduceEq, Int.reduceNe, Int.reduceLT, Int.reduceLE, Int.reduceAdd, Int.reduceSub, Int.reduceMul, Int.reduceNeg, Int.reduceToNat, Int.cast_ofNat_Int, Int.natCast_zero, Int.natCast_one, Int.toNat_natCast, Nat.reduceBEq, nzs, h1]
  refine CallK.pure ⟨rfl, rfl⟩ rfl hF ?_
  by_cases h2 : volIx (ws.map (·.2)) n < 0
  · have c2 := eq_true h2
    rw [if_pos h2] at hc
    subst hc
    simp only [shs, zts, sos, sls, zss, eqs, sx, sb1, sb2, sb3, sb4, sb5, sb6, sb7, ↓reduceIte, Nat.reduceAdd, Nat.reduceMul, Nat.reduceDiv, Nat.reduceEqDiff, Nat.reduceLT, Nat.reduceLeDiff, reduceCtorEq, Int.reduceEq, Int.reduceNe, Int.reduceLT, Int.reduceLE, Int.reduceAdd, Int.reduceSub, Int.reduceMul, Int.reduceNeg, Int.reduceToNat, Int.cast_ofNat_Int, Int.natCast_zero, Int.natCast_one, Int.toNat_natCast, Nat.reduceBEq, nzs, c2]
    exact stO_zero _ _ _
  have c2 := eq_false h2
  rw [if_neg h2] at hc
  obtain ⟨i, x, k1, k2, k3, k4⟩ := volIx_at h2
  have hFr := vfresh b v ws to M hv hVo.1
  simp only [stV] at hFr
  rw [k1] at c2 hc ⊢
  simp only [Int.toNat_natCast] at hc
  simp only [shs, zts, sos, sls, zss, eqs, sx, sb1, sb2, sb3, sb4, sb5, sb6, sb7, ↓reduceIte, Nat.reduceAdd, Nat.reduceMul, Nat.reduceDiv, Nat.reduceEqDiff, Nat.reduceLT, Nat.reduceLeDiff, reduceCtorEq, Int.reduceEq, Int.reduceNe, Int.reduceLT, Int.reduceLE, Int.reduceAdd, Int.reduceSub, Int.reduceMul, Int.reduceNeg, Int.reduceToNat, Int.cast_ofNat_Int, Int.natCast_zero, Int.natCast_one, Int.toNat_natCast, Nat.reduceBEq, nzs, c2]
  refine CallK.pure ⟨rfl, rfl⟩ rfl hFr ?_
  by_cases h4 : freshE (ws.map (·.2)) to = 0
  rotate_left
  · have c4 := eq_false h4
    rw [if_pos h4] at hc
    subst hc
    simp only [shs, zts, sos, sls, zss, eqs, sx, sb1, sb2, sb3, sb4, sb5, sb6, sb7, ↓reduceIte, Nat.reduceAdd, Nat.reduceMul, Nat.reduceDiv, Nat.reduceEqDiff, Nat.reduceLT, Nat.reduceLeDiff, reduceCtorEq, Int.reduceEq, Int.reduceNe, Int.reduceLT, Int.reduceLE, Int.reduceAdd, Int.reduceSub, Int.reduceMul, Int.reduceNeg, Int.reduceToNat, Int.cast_ofNat_Int, Int.natCast_zero, Int.natCast_one, Int.toNat_natCast, Nat.reduceBEq, nzs, c4]
    exact stO_zero _ _ _
  rw [if_neg (fun h => h h4)] at hc
  subst hc
  have hcp := copied b v bag ws M hb hv (by omega) (by omega) (fun w hw => Nat.le_trans (hli w hw) (by omega))
  simp only [stV] at hcp
  simp only [shs, zts, sos, sls, zss, eqs, sx, sb1, sb2, sb3, sb4, sb5, sb6, sb7, ↓reduceIte, Nat.reduceAdd, Nat.reduceMul, Nat.reduceDiv, Nat.reduceEqDiff, Nat.reduceLT, Nat.reduceLeDiff, reduceCtorEq, Int.reduceEq, Int.reduceNe, Int.reduceLT, Int.reduceLE, Int.reduceAdd, Int.reduceSub, Int.reduceMul, Int.reduceNeg, Int.reduceToNat, Int.cast_ofNat_Int, Int.natCast_zero, Int.natCast_one, Int.toNat_natCast, Nat.reduceBEq, nzs, h4]
  refine CallK.stF (T := fun s => s) (fun _ _ => rfl) rfl rfl hcp fun b2 v2 ws2 M2 hM2 hw2 hS => ?_
  have hw2' : ws2.map (·.2) = ws.map (·.2) := hw2
  obtain ⟨x2, hx2, e2⟩ := ws_at hw2' k4
  have hx2m := List.mem_of_getElem? hx2
  obtain ⟨_, g1, i0⟩ := vol_at hS.volsM hx2
  have hblk := hS.blk x2 hx2m
  have hbll := hblk.row.len_le
  have hl2 := ws_len hw2'
  have hil : i < ws.length := (List.getElem?_eq_some_iff.1 k2).1
  have hl32 : x2.2.2.length ≤ 32 := by rw [e2]; exact hli x (List.mem_of_getElem? k2)
  have hrf0 : ∀ z ∈ bag, 0 ≤ z.2.2.2 ∧ z.2.2.2 ≤ 1000000 := fun z hz => by
    have := (oneE_ok (bag_ok hB z hz)).2.2
    omega
  rw [List.length_map] at hbll
  simp only [shs, zts, sos, sls, zss, eqs, sx, sb1, sb2, sb3, sb4, sb5, sb6, sb7, ↓reduceIte, Nat.reduceAdd, Nat.reduceMul, Nat.reduceDiv, Nat.reduceEqDiff, Nat.reduceLT, Nat.reduceLeDiff, reduceCtorEq, Int.reduceEq, Int.reduceNe, Int.reduceLT, Int.reduceLE, Int.reduceAdd, Int.reduceSub, Int.reduceMul, Int.reduceNeg, Int.reduceToNat, Int.cast_ofNat_Int, Int.natCast_zero, Int.natCast_one, Int.toNat_natCast, Nat.reduceBEq, nzs, stV, hS.bag.row.one, hS.vols.row.one, i0, i0.2, g1.1, g1.2, hblk.row.len, hblk.row.sl, List.length_map]
  refine LoopK.go (X := Nat × Mem) (fun z => ([(2, true, .v (.string ⟨to.toArray⟩)), (3, true, .ptr 24 0 0 0), (6, true, .ptr 48 0 0 0), (9, true, .v (.int .i64 i)), (11, true, .ptr 88 0 0 0), (41, true, .v x2.1), (42, true, .v (.int .i64 x2.2.2.length)), (43, true, .v (.int .i64 z.1))],
      [(88, .box [.v b2, .v v2] none), (48, .box [.v (.slice none 0 0), .v (.slice none 0 0)] none), (24, .box [.v b, .v v] none)], z.2))
    (fun z => (z.1 ≤ x2.2.2.length ∧ M.le z.2) ∧ StF M z.2 b2 v2 ((x2.2.2.take z.1).foldl incId bag) ws2) (fun z => x2.2.2.length - z.1) (0, M2) ⟨⟨Nat.zero_le _, hM2⟩, hS⟩ (Ent.of ?_) ?_
  · simp only [sx, sb1, sb2, sb3, sb4, sb5, sb6, sb7, ↓reduceIte, Nat.reduceAdd, Nat.reduceMul, Nat.reduceDiv, Nat.reduceEqDiff, Nat.reduceLT, Nat.reduceLeDiff, reduceCtorEq, Int.reduceEq, Int.reduceNe, Int.reduceLT, Int.reduceLE, Int.reduceAdd, Int.reduceSub, Int.reduceMul, Int.reduceNeg, Int.reduceToNat, Int.cast_ofNat_Int, Int.natCast_zero, Int.natCast_one, Int.toNat_natCast, Nat.reduceBEq, Int.natCast_zero]
  rintro ⟨j, N⟩ ⟨⟨n1, nM⟩, n2⟩
  simp only at n1 nM n2
  have hblkN := n2.blk x2 hx2m
  by_cases hjl : j < x2.2.2.length
  · have d1 : ((j : Int) < (x2.2.2.length : Int)) = True := eq_true (by omega)
    obtain ⟨y, hy, _⟩ := l_drop_at (l := x2.2.2) (i := j) hjl
    obtain ⟨y0, y1, y2, yi⟩ := id_at hblkN.row hy
    have hst := foldl_take incId bag hy
    have hrf := incIds_ref (x2.2.2.take j) hrf0
    have htl : (x2.2.2.take j).length ≤ 32 := by rw [List.length_take]; omega
    have hblen := incIds_len (x2.2.2.take j) bag
    generalize (x2.2.2.take j).foldl incId bag = bj at *
    have hFi := Bg.find b2 bj y N n2.bag.row
    simp only [idV] at hFi
    simp only [shs, zts, sos, sls, zss, eqs, sx, sb1, sb2, sb3, sb4, sb5, sb6, sb7, ↓reduceIte, Nat.reduceAdd, Nat.reduceMul, Nat.reduceDiv, Nat.reduceEqDiff, Nat.reduceLT, Nat.reduceLeDiff, reduceCtorEq, Int.reduceEq, Int.reduceNe, Int.reduceLT, Int.reduceLE, Int.reduceAdd, Int.reduceSub, Int.reduceMul, Int.reduceNeg, Int.reduceToNat, Int.cast_ofNat_Int, Int.natCast_zero, Int.natCast_one, Int.toNat_natCast, Nat.reduceBEq, nzs, d1, yi, yi.2, y0.1, y0.2, y1.1, y1.2, y2.1, y2.2]
    refine CallK.pure ⟨rfl, rfl⟩ rfl hFi ?_
    rw [show fidx (isId y) bj 0 = idIx bj y from rfl]
    by_cases h5 : 0 ≤ idIx bj y
    · have d2 := eq_true h5
      rcases fidx_sp (isId y) bj 0 with ⟨q1, _⟩ | ⟨k, z, q1, q2, q3, _⟩
      · rw [show idIx bj y = fidx (isId y) bj 0 from rfl, q1] at h5; exact absurd h5 (by decide)
      rw [Nat.zero_add] at q1
      replace q1 : idIx bj y = (k : Int) := q1
      have e3 : incId bj y = setR bj k (z.2.2.2 + 1) := by
        unfold incId
        rw [if_pos h5, q1, Int.toNat_natCast, atI_at q2]
      rw [e3] at hst
      have hzr := hrf z (List.mem_of_getElem? q2)
      have hkl := (List.getElem?_eq_some_iff.1 q2).1
      obtain ⟨_, ⟨_, z3⟩, zi⟩ := it_at n2.bag.row q2
      have hg := getD_it q2
      rw [q1] at d2 ⊢
      simp only [shs, zts, sos, sls, zss, eqs, sx, sb1, sb2, sb3, sb4, sb5, sb6, sb7, ↓reduceIte, Nat.reduceAdd, Nat.reduceMul, Nat.reduceDiv, Nat.reduceEqDiff, Nat.reduceLT, Nat.reduceLeDiff, reduceCtorEq, Int.reduceEq, Int.reduceNe, Int.reduceLT, Int.reduceLE, Int.reduceAdd, Int.reduceSub, Int.reduceMul, Int.reduceNeg, Int.reduceToNat, Int.cast_ofNat_Int, Int.natCast_zero, Int.natCast_one, Int.toNat_natCast, Nat.reduceBEq, nzs, d2, zi, zi.2, z3.1, z3.2, stRD_ea, inK, lo, hi]
      refine ⟨by omega, ?_⟩
      refine OpK.turnF (es := bj.map Bg.encT) rfl rfl (of_eq_true so3) rfl rfl rfl rfl (by rw [sh3]; rfl) n2.bag n2.fb (by rw [List.length_map]; exact hkl) (Nat.le_refl 4) fun M4 hb4 hr4 => ?_
      have hr5 : RowF M4 b2 4 ((setR bj k (z.2.2.2 + 1)).map Bg.encT) := by
        rw [hg] at hr4
        rw [← setR_map q2]
        exact hr4
      have hS4 := n2.turnBag hb4 hr5
      have hM4 := le_but nM n2.fb hb4
      simp only [shs, zts, sos, sls, zss, eqs, sx, sb1, sb2, sb3, sb4, sb5, sb6, sb7, ↓reduceIte, Nat.reduceAdd, Nat.reduceMul, Nat.reduceDiv, Nat.reduceEqDiff, Nat.reduceLT, Nat.reduceLeDiff, reduceCtorEq, Int.reduceEq, Int.reduceNe, Int.reduceLT, Int.reduceLE, Int.reduceAdd, Int.reduceSub, Int.reduceMul, Int.reduceNeg, Int.reduceToNat, Int.cast_ofNat_Int, Int.natCast_zero, Int.natCast_one, Int.toNat_natCast, Nat.reduceBEq, nzs, inK, lo, hi]
      refine ⟨by omega, (j + 1, M4), ⟨⟨⟨by simp only; omega, hM4⟩, by simp only [hst]; exact hS4⟩, by simp only; omega⟩, Ent.of ?_⟩
      simp only [sx, sb1, sb2, sb3, sb4, sb5, sb6, sb7, ↓reduceIte, Nat.reduceAdd, Nat.reduceMul, Nat.reduceDiv, Nat.reduceEqDiff, Nat.reduceLT, Nat.reduceLeDiff, reduceCtorEq, Int.reduceEq, Int.reduceNe, Int.reduceLT, Int.reduceLE, Int.reduceAdd, Int.reduceSub, Int.reduceMul, Int.reduceNeg, Int.reduceToNat, Int.cast_ofNat_Int, Int.natCast_zero, Int.natCast_one, Int.toNat_natCast, Nat.reduceBEq, Int.natCast_add]
    · have d2 := eq_false h5
      have e3 : incId bj y = bj := if_neg h5
      rw [e3] at hst
      simp only [shs, zts, sos, sls, zss, eqs, sx, sb1, sb2, sb3, sb4, sb5, sb6, sb7, ↓reduceIte, Nat.reduceAdd, Nat.reduceMul, Nat.reduceDiv, Nat.reduceEqDiff, Nat.reduceLT, Nat.reduceLeDiff, reduceCtorEq, Int.reduceEq, Int.reduceNe, Int.reduceLT, Int.reduceLE, Int.reduceAdd, Int.reduceSub, Int.reduceMul, Int.reduceNeg, Int.reduceToNat, Int.cast_ofNat_Int, Int.natCast_zero, Int.natCast_one, Int.toNat_natCast, Nat.reduceBEq, nzs, d2, inK, lo, hi]
      refine ⟨by omega, (j + 1, N), ⟨⟨⟨by simp only; omega, nM⟩, by simp only [hst]; exact n2⟩, by simp only; omega⟩, Ent.of ?_⟩
      simp only [sx, sb1, sb2, sb3, sb4, sb5, sb6, sb7, ↓reduceIte, Nat.reduceAdd, Nat.reduceMul, Nat.reduceDiv, Nat.reduceEqDiff, Nat.reduceLT, Nat.reduceLeDiff, reduceCtorEq, Int.reduceEq, Int.reduceNe, Int.reduceLT, Int.reduceLE, Int.reduceAdd, Int.reduceSub, Int.reduceMul, Int.reduceNeg, Int.reduceToNat, Int.cast_ofNat_Int, Int.natCast_zero, Int.natCast_one, Int.toNat_natCast, Nat.reduceBEq, Int.natCast_add]
  · have d1 : ((j : Int) < (x2.2.2.length : Int)) = False := eq_false (by omega)
    rw [List.take_of_length_le (by omega)] at n2
    obtain ⟨_, gN, iN⟩ := vol_at n2.volsM hx2
    simp only [shs, zts, sos, sls, zss, eqs, sx, sb1, sb2, sb3, sb4, sb5, sb6, sb7, ↓reduceIte, Nat.reduceAdd, Nat.reduceMul, Nat.reduceDiv, Nat.reduceEqDiff, Nat.reduceLT, Nat.reduceLeDiff, reduceCtorEq, Int.reduceEq, Int.reduceNe, Int.reduceLT, Int.reduceLE, Int.reduceAdd, Int.reduceSub, Int.reduceMul, Int.reduceNeg, Int.reduceToNat, Int.cast_ofNat_Int, Int.natCast_zero, Int.natCast_one, Int.toNat_natCast, Nat.reduceBEq, nzs, d1]
    refine DrawK.heldT 10 [88] (tk [0, 1, 2, 4, 3, 5, 6, 7] (.one 8 (tk [9] .done))) (by kernel_rfl) (by kernel_rfl) fun xs => ?_
    simp only [shs, zts, sos, sls, zss, eqs, sx, sb1, sb2, sb3, sb4, sb5, sb6, sb7, ↓reduceIte, Nat.reduceAdd, Nat.reduceMul, Nat.reduceDiv, Nat.reduceEqDiff, Nat.reduceLT, Nat.reduceLeDiff, reduceCtorEq, Int.reduceEq, Int.reduceNe, Int.reduceLT, Int.reduceLE, Int.reduceAdd, Int.reduceSub, Int.reduceMul, Int.reduceNeg, Int.reduceToNat, Int.cast_ofNat_Int, Int.natCast_zero, Int.natCast_one, Int.toNat_natCast, Nat.reduceBEq, nzs, se1, se2, tks, iN, iN.2, gN.1, gN.2]
    refine CallK.rowF Ctx.id rfl rfl (cloneI x2.1 x2.2.2 N hblkN.row (by omega)) fun u M3 hM3 hu huf => ?_
    simp only [shs, zts, sos, sls, zss, eqs, sx, sb1, sb2, sb3, sb4, sb5, sb6, sb7, ↓reduceIte, Nat.reduceAdd, Nat.reduceMul, Nat.reduceDiv, Nat.reduceEqDiff, Nat.reduceLT, Nat.reduceLeDiff, reduceCtorEq, Int.reduceEq, Int.reduceNe, Int.reduceLT, Int.reduceLE, Int.reduceAdd, Int.reduceSub, Int.reduceMul, Int.reduceNeg, Int.reduceToNat, Int.cast_ofNat_Int, Int.natCast_zero, Int.natCast_one, Int.toNat_natCast, Nat.reduceBEq, sp1, sp2, sp3, nzs, se1, se2, tks, oneVs hu.row.sl, hu.row.one]
    refine ⟨hM3, ?_⟩
    refine CallK.claim (A := fun s => [.agg [.v b2, s], wvV (u, to, x2.2.2)]) 1000 (hA_add b2 (wvV (u, to, x2.2.2)) rfl) rfl (n2.vols.le hM3) n2.fv rfl rfl fun M4 hb4 => ?_
    refine CallK.lendR (A := fun s => [.agg [.v b2, s], wvV (u, to, x2.2.2)]) (T := fun s => .agg [.v b2, s]) 8000 (hA_add b2 (wvV (u, to, x2.2.2)) rfl) (hT_agg b2) rfl rfl rfl (fun M6 _ => add b2 ws2 (u, to, x2.2.2) M6 n2.bag.row.one (fun w hw => (n2.blk w hw).row.one) hu.row.one (by rw [hw2']; exact hsrt) (by omega)) rfl ?_
    obtain ⟨q1, q2, q3⟩ := n2.added (n := to) nM hM3 hu huf hb4
    simp only [shs, zts, sos, sls, zss, eqs, sx, sb1, sb2, sb3, sb4, sb5, sb6, sb7, ↓reduceIte, Nat.reduceAdd, Nat.reduceMul, Nat.reduceDiv, Nat.reduceEqDiff, Nat.reduceLT, Nat.reduceLeDiff, reduceCtorEq, Int.reduceEq, Int.reduceNe, Int.reduceLT, Int.reduceLE, Int.reduceAdd, Int.reduceSub, Int.reduceMul, Int.reduceNeg, Int.reduceToNat, Int.cast_ofNat_Int, Int.natCast_zero, Int.natCast_one, Int.toNat_natCast, Nat.reduceBEq, sp1, sp2, sp3, nzs, se1, se2, tks, n2.bag.row.one]
    refine ⟨.v b2, .own 584, insW ws2 (u, to, x2.2.2), rfl, ?_, fun k h => (by cases h), ⟨?_, rfl⟩, q3⟩
    · rw [insW_map, hw2']
      simp only [cloneS, volAt_at k4, e2]
    · simp only [cloneS, volAt_at k4]
      rw [e2] at q2
      exact q2
end Go.X.Vo

namespace Go.X.Si
open Go Go.X Go.X.Rp

/-- where a number stands, or -1 -/
def ix (k : Int) : List Int → Nat → Int
  | [], _ => -1
  | x :: l, i => if k = x then (i : Int) else ix k l (i + 1)
theorem index (y : Value) (l : List Int) (k : Int) (M : Mem) (hy : RowM M y 1 (l.map encI)) :
    Meets Proofs.Tryz.prog 148 [.v y, .v (.int .i64 k)] M fun r _ _ => r = .v (.int .i64 (ix k l 0)) := by
  refine Meets.of_body [0,1,4,5,7,8,9,16] Proofs.Tryz.func148 rfl (by kernel_rfl) rfl fun w => ?_
  generalize hc : ix k l 0 = c
  have hyl := hy.len_le
  rw [List.length_map] at hyl
  simp only [Proofs.Tryz.f148, shs, zts, sos, sls, zss, eqs, sx, sb1, sb2, sb3, sb4, sb5, sb6, sb7, ↓reduceIte, Nat.reduceAdd, Nat.reduceMul, Nat.reduceDiv, Nat.reduceEqDiff, Nat.reduceLT, Nat.reduceLeDiff, reduceCtorEq, Int.reduceEq, Int.reduceNe, Int.reduceLT, Int.reduceLE, Int.reduceAdd, Int.reduceSub, Int.reduceMul, Int.reduceNeg, Int.reduceToNat, Int.cast_ofNat_Int, Int.natCast_zero, Int.natCast_one, Int.toNat_natCast, Nat.reduceBEq, hy.len, hy.sl, List.length_map]
  refine LoopK.go (X := Nat × Nat) (fun x => ([(0, true, .v y), (1, true, .v (.int .i64 k)), (7, true, .v (.int .i64 l.length)), (8, true, .v (.int .i64 x.2))], [], M))
    (fun x => x.1 + x.2 = l.length ∧ ix k (l.drop x.2) x.2 = c) (fun x => x.1) (l.length, 0) ⟨rfl, hc⟩ (Ent.of ?_) ?_
  · simp only [sx, sb1, sb2, sb3, sb4, sb5, sb6, sb7, ↓reduceIte, Nat.reduceAdd, Nat.reduceMul, Nat.reduceDiv, Nat.reduceEqDiff, Nat.reduceLT, Nat.reduceLeDiff, reduceCtorEq, Int.reduceEq, Int.reduceNe, Int.reduceLT, Int.reduceLE, Int.reduceAdd, Int.reduceSub, Int.reduceMul, Int.reduceNeg, Int.reduceToNat, Int.cast_ofNat_Int, Int.natCast_zero, Int.natCast_one, Int.toNat_natCast, Nat.reduceBEq]
  rintro ⟨f, i⟩ ⟨h1, h2⟩
  simp only at h1 h2
  simp only [shs, zts, sos, sls, zss, eqs, sx, sb1, sb2, sb3, sb4, sb5, sb6, sb7, ↓reduceIte, Nat.reduceAdd, Nat.reduceMul, Nat.reduceDiv, Nat.reduceEqDiff, Nat.reduceLT, Nat.reduceLeDiff, reduceCtorEq, Int.reduceEq, Int.reduceNe, Int.reduceLT, Int.reduceLE, Int.reduceAdd, Int.reduceSub, Int.reduceMul, Int.reduceNeg, Int.reduceToNat, Int.cast_ofNat_Int, Int.natCast_zero, Int.natCast_one, Int.toNat_natCast, Nat.reduceBEq]
  refine ⟨fun h3 => ?_, fun h3 => ?_⟩
  · obtain ⟨x, hx, hd⟩ := drop_at (l := l) (i := i) (by omega)
    have g1 := hy.el1 hx rfl
    have i1 := hy.ix (i := (i : Int)) (by omega) (by rw [List.length_map]; omega)
    rw [hd] at h2
    simp only [ix] at h2
    simp only [shs, zts, sos, sls, zss, eqs, sx, sb1, sb2, sb3, sb4, sb5, sb6, sb7, ↓reduceIte, Nat.reduceAdd, Nat.reduceMul, Nat.reduceDiv, Nat.reduceEqDiff, Nat.reduceLT, Nat.reduceLeDiff, reduceCtorEq, Int.reduceEq, Int.reduceNe, Int.reduceLT, Int.reduceLE, Int.reduceAdd, Int.reduceSub, Int.reduceMul, Int.reduceNeg, Int.reduceToNat, Int.cast_ofNat_Int, Int.natCast_zero, Int.natCast_one, Int.toNat_natCast, Nat.reduceBEq, g1.1, inK, lo, hi]
    refine ⟨i1, g1.2, fun h4 => ?_, fun h4 => ⟨by omega, (f - 1, i + 1), ⟨⟨by simp only; omega, by simp only; rw [if_neg h4] at h2; exact h2⟩, by simp only; omega⟩, Ent.of ?_⟩⟩
    · rw [if_pos h4] at h2
      rw [h2]
    · simp only [sx, sb1, sb2, sb3, sb4, sb5, sb6, sb7, ↓reduceIte, Nat.reduceAdd, Nat.reduceMul, Nat.reduceDiv, Nat.reduceEqDiff, Nat.reduceLT, Nat.reduceLeDiff, reduceCtorEq, Int.reduceEq, Int.reduceNe, Int.reduceLT, Int.reduceLE, Int.reduceAdd, Int.reduceSub, Int.reduceMul, Int.reduceNeg, Int.reduceToNat, Int.cast_ofNat_Int, Int.natCast_zero, Int.natCast_one, Int.toNat_natCast, Nat.reduceBEq, Int.natCast_add]
  · have hd : l.drop i = [] := List.drop_eq_nil_of_le (by omega)
    rw [hd] at h2
    simp only [ix] at h2
    rw [h2]
theorem contains (y : Value) (l : List Int) (k : Int) (M : Mem) (hy : RowM M y 1 (l.map encI)) :
    Meets Proofs.Tryz.prog 98 [.v y, .v (.int .i64 k)] M fun r _ _ => r = .v (.bool (decide (0 ≤ ix k l 0))) := by
  refine Meets.of_body [0,1,4] Proofs.Tryz.func98 rfl (by kernel_rfl) rfl fun w => ?_
  simp only [Proofs.Tryz.f98, shs, zts, sos, sls, zss, eqs, sx, sb1, sb2, sb3, sb4, sb5, sb6, sb7, ↓reduceIte, Nat.reduceAdd, Nat.reduceMul, Nat.reduceDiv, Nat.reduceEqDiff, Nat.reduceLT, Nat.reduceLeDiff, reduceCtorEq, Int.reduceEq, Int.reduceNe, Int.reduceLT, Int.reduceLE, Int.reduceAdd, Int.reduceSub, Int.reduceMul, Int.reduceNeg, Int.reduceToNat, Int.cast_ofNat_Int, Int.natCast_zero, Int.natCast_one, Int.toNat_natCast, Nat.reduceBEq]
  refine CallK.pure ⟨rfl, rfl⟩ rfl (index y l k M hy) ?_
  simp only [shs, zts, sos, sls, zss, eqs, sx, sb1, sb2, sb3, sb4, sb5, sb6, sb7, ↓reduceIte, Nat.reduceAdd, Nat.reduceMul, Nat.reduceDiv, Nat.reduceEqDiff, Nat.reduceLT, Nat.reduceLeDiff, reduceCtorEq, Int.reduceEq, Int.reduceNe, Int.reduceLT, Int.reduceLE, Int.reduceAdd, Int.reduceSub, Int.reduceMul, Int.reduceNeg, Int.reduceToNat, Int.cast_ofNat_Int, Int.natCast_zero, Int.natCast_one, Int.toNat_natCast, Nat.reduceBEq]
theorem ix_ge (k : Int) : ∀ (l : List Int) (i : Nat), (0 ≤ ix k l i) = (k ∈ l)
  | [], i => by simp [ix]
  | x :: l, i => by
    rw [ix, List.mem_cons]
    split
    · rename_i h
      exact propext ⟨fun _ => .inl h, fun _ => by omega⟩
    · rename_i h
      rw [ix_ge k l (i + 1)]
      exact propext ⟨fun a => .inr a, fun a => a.resolve_left h⟩
end Go.X.Si

namespace Go.X.Bp
open Go Go.X Go.RowKit Go.X.Bg Go.X.Sb

/-- the numbers of the first items that have this print -/
def usedN (l : List It) (s : Int) (n : Nat) : List Int := ((l.take n).filter (fun x => decide (x.1 = s))).map (·.2.1)
theorem usedN_succ {l : List It} {n : Nat} {x : It} (s : Int) (h : l[n]? = some x) : usedN l s (n + 1) = if x.1 = s then usedN l s n ++ [x.2.1] else usedN l s n := by
  unfold usedN
  rw [List.take_add_one, h, Option.toList_some, List.filter_append, List.map_append]
  split
  · rename_i h1; simp [h1]
  · rename_i h1; simp [h1]
theorem usedN_len (l : List It) (s : Int) (n : Nat) : (usedN l s n).length ≤ n := by
  unfold usedN
  rw [List.length_map]
  have h1 := List.length_filter_le (fun x : It => decide (x.1 = s)) (l.take n)
  have h2 := List.length_take_le n l
  omega
theorem usedN_has (l : List It) (s : Int) (n : Nat) : ((n : Int) ∈ usedN l s l.length) = (has l s n = true) := by
  unfold usedN
  rw [List.take_length]
  apply propext
  rw [has_iff]
  simp only [List.mem_map, List.mem_filter, decide_eq_true_eq]
  exact ⟨fun ⟨x, ⟨h1, h2⟩, h3⟩ => ⟨x, h1, h2, h3⟩, fun ⟨x, h1, h2, h3⟩ => ⟨x, ⟨h1, h2⟩, h3⟩⟩
theorem rput (y : Value) (l : List It) (s : List UInt8) (M : Mem) (hy : RowM M y 4 (l.map Bg.encT)) (hb : bagE l = 0) :
    Meets Proofs.Tryz.prog 114 [.v y, .v (.string ⟨s.toArray⟩)] M (OwnR (putT (putG l s).2.1 (putG l s).2.2) 4 ((putG l s).1.map Bg.encT)) := by
  have hes : ∀ q : List It, ∀ e ∈ q.map Bg.encT, e.length = 4 ∧ ∀ c ∈ e, c.oneCell' = true := fun q e he => by
    obtain ⟨x, hx, rfl⟩ := List.mem_map.1 he
    exact ⟨rfl, oneCell_it x⟩
  refine Meets.closeR (putT_ctx _ _) (hes _) ?_
  refine Meets.of_body [0,1,4,5,6,7,8,9,10,11,14,18,19,20,21,28,31,50,59,68] Proofs.Tryz.func114 rfl (by kernel_rfl) rfl fun w => ?_
  generalize hc : putG l s = c
  unfold putG at hc
  have hyl := hy.len_le
  rw [List.length_map] at hyl
  have hl64 := bag_len hb
  simp only [Proofs.Tryz.f114, shs, zts, sos, sls, zss, eqs, sx, sb1, sb2, sb3, sb4, sb5, sb6, sb7, ↓reduceIte, Nat.reduceAdd, Nat.reduceMul, Nat.reduceDiv, Nat.reduceEqDiff, Nat.reduceLT, Nat.reduceLeDiff, reduceCtorEq, Int.reduceEq, Int.reduceNe, Int.reduceLT, Int.reduceLE, Int.reduceAdd, Int.reduceSub, Int.reduceMul, Int.reduceNeg, Int.reduceToNat, Int.cast_ofNat_Int, Int.natCast_zero, Int.natCast_one, Int.toNat_natCast, Nat.reduceBEq, nzs]
  by_cases h2 : 64 < s.length
  · have c2 : ((64 : Int) < (s.length : Int)) = True := eq_true (by omega)
    rw [if_pos h2] at hc
    subst hc
    simp only [shs, zts, sos, sls, zss, eqs, sx, sb1, sb2, sb3, sb4, sb5, sb6, sb7, ↓reduceIte, Nat.reduceAdd, Nat.reduceMul, Nat.reduceDiv, Nat.reduceEqDiff, Nat.reduceLT, Nat.reduceLeDiff, reduceCtorEq, Int.reduceEq, Int.reduceNe, Int.reduceLT, Int.reduceLE, Int.reduceAdd, Int.reduceSub, Int.reduceMul, Int.reduceNeg, Int.reduceToNat, Int.cast_ofNat_Int, Int.natCast_zero, Int.natCast_one, Int.toNat_natCast, Nat.reduceBEq, nzs, c2, putT, idS, z3]
    exact fun h => absurd h (by omega)
  have c2 : ((64 : Int) < (s.length : Int)) = False := eq_false (by omega)
  have c2b : ((s.length : Int) ≤ 64) = True := eq_true (by omega)
  have hs : s.length ≤ maxLen := Nat.le_trans (Nat.le_of_not_lt h2) (by decide)
  rw [if_neg h2] at hc
  simp only [shs, zts, sos, sls, zss, eqs, sx, sb1, sb2, sb3, sb4, sb5, sb6, sb7, ↓reduceIte, Nat.reduceAdd, Nat.reduceMul, Nat.reduceDiv, Nat.reduceEqDiff, Nat.reduceLT, Nat.reduceLeDiff, reduceCtorEq, Int.reduceEq, Int.reduceNe, Int.reduceLT, Int.reduceLE, Int.reduceAdd, Int.reduceSub, Int.reduceMul, Int.reduceNeg, Int.reduceToNat, Int.cast_ofNat_Int, Int.natCast_zero, Int.natCast_one, Int.toNat_natCast, Nat.reduceBEq, nzs, c2, c2b]
  refine CallK.own Ctx.id rfl rfl (cloneB y l M hy (by omega)) rfl fun M1 hM1 => ?_
  simp only [shs, zts, sos, sls, zss, eqs, sx, sb1, sb2, sb3, sb4, sb5, sb6, sb7, ↓reduceIte, Nat.reduceAdd, Nat.reduceMul, Nat.reduceDiv, Nat.reduceEqDiff, Nat.reduceLT, Nat.reduceLeDiff, reduceCtorEq, Int.reduceEq, Int.reduceNe, Int.reduceLT, Int.reduceLE, Int.reduceAdd, Int.reduceSub, Int.reduceMul, Int.reduceNeg, Int.reduceToNat, Int.cast_ofNat_Int, Int.natCast_zero, Int.natCast_one, Int.toNat_natCast, Nat.reduceBEq, nzs, hdel, sigDrop, sigDropA]
  refine LoopK.nilRow 8 55 1 rfl rfl rfl ?_
  refine LoopK.go (X := Nat) (fun n => ([(0, true, .v y), (1, true, .v (.string ⟨s.toArray⟩)), (4, true, .v (.slice none 0 0)), (5, true, .ptr 40 0 0 0), (6, true, .v (.int .i64 0)), (7, true, .ptr 56 0 0 0), (8, true, .own 440), (18, true, .own 136), (19, true, .v (.int .i64 l.length)), (20, true, .v (.int .i64 (n : Int)))], [(440, .row 1 ((usedN l (sumT s) n).map encI)), (56, .box [.own 136] none), (136, .row 4 (l.map Bg.encT)), (40, .box [.v (.bool false), .v (.int .i64 0), .v (.int .i64 0)] none)], M1))
    (fun n => n ≤ l.length ∧ txtIx l s = fidx (fun x : It => decide (x.2.2.1 = s)) (l.drop n) n) (fun n => l.length - n) 0 ⟨Nat.zero_le _, rfl⟩ (Ent.of ?_) ?_
  · simp only [sx, sb1, sb2, sb3, sb4, sb5, sb6, sb7, ↓reduceIte, Nat.reduceAdd, Nat.reduceMul, Nat.reduceDiv, Nat.reduceEqDiff, Nat.reduceLT, Nat.reduceLeDiff, reduceCtorEq, Int.reduceEq, Int.reduceNe, Int.reduceLT, Int.reduceLE, Int.reduceAdd, Int.reduceSub, Int.reduceMul, Int.reduceNeg, Int.reduceToNat, Int.cast_ofNat_Int, Int.natCast_zero, Int.natCast_one, Int.toNat_natCast, Nat.reduceBEq, List.length_map, usedN, List.take_zero, List.filter_nil, List.map_nil, Int.natCast_zero]
  rintro n ⟨hn, hti⟩
  simp only [shs, zts, sos, sls, zss, eqs, sx, sb1, sb2, sb3, sb4, sb5, sb6, sb7, ↓reduceIte, Nat.reduceAdd, Nat.reduceMul, Nat.reduceDiv, Nat.reduceEqDiff, Nat.reduceLT, Nat.reduceLeDiff, reduceCtorEq, Int.reduceEq, Int.reduceNe, Int.reduceLT, Int.reduceLE, Int.reduceAdd, Int.reduceSub, Int.reduceMul, Int.reduceNeg, Int.reduceToNat, Int.cast_ofNat_Int, Int.natCast_zero, Int.natCast_one, Int.toNat_natCast, Nat.reduceBEq, nzs]
  refine ⟨fun h3 => ?_, fun h3 => ?_⟩
  · have hn' : n < l.length := by omega
    obtain ⟨x, hx, hd⟩ := Rp.drop_at (l := l) (i := n) hn'
    have hg := getD_it hx
    rw [hd] at hti
    simp only [fidx] at hti
    simp only [shs, zts, sos, sls, zss, eqs, sx, sb1, sb2, sb3, sb4, sb5, sb6, sb7, ↓reduceIte, Nat.reduceAdd, Nat.reduceMul, Nat.reduceDiv, Nat.reduceEqDiff, Nat.reduceLT, Nat.reduceLeDiff, reduceCtorEq, Int.reduceEq, Int.reduceNe, Int.reduceLT, Int.reduceLE, Int.reduceAdd, Int.reduceSub, Int.reduceMul, Int.reduceNeg, Int.reduceToNat, Int.cast_ofNat_Int, Int.natCast_zero, Int.natCast_one, Int.toNat_natCast, Nat.reduceBEq, nzs, hg, List.getD_cons_zero, List.getD_cons_succ, List.length_map]
    have hrf := (oneE_ok (bag_ok hb x (List.mem_of_getElem? hx))).2.2
    by_cases h4 : x.2.2.1 = s
    · rw [if_pos (decide_eq_true h4)] at hti
      rw [hti, atI_at hx, Int.toNat_natCast, if_pos (by omega)] at hc
      have c4 := eq_true h4
      by_cases h5 : x.2.2.2 = 1000000
      · rw [if_pos h5] at hc
        subst hc
        have c5 : ((1000000 : Int) ≤ x.2.2.2) = True := eq_true (by omega)
        have c5b : (x.2.2.2 < 1000000) = False := eq_false (by omega)
        simp only [shs, zts, sos, sls, zss, eqs, sx, sb1, sb2, sb3, sb4, sb5, sb6, sb7, ↓reduceIte, Nat.reduceAdd, Nat.reduceMul, Nat.reduceDiv, Nat.reduceEqDiff, Nat.reduceLT, Nat.reduceLeDiff, reduceCtorEq, Int.reduceEq, Int.reduceNe, Int.reduceLT, Int.reduceLE, Int.reduceAdd, Int.reduceSub, Int.reduceMul, Int.reduceNeg, Int.reduceToNat, Int.cast_ofNat_Int, Int.natCast_zero, Int.natCast_one, Int.toNat_natCast, Nat.reduceBEq, nzs, c4, c5, c5b, putT, idS, z3]
        exact ⟨⟨by omega, by omega⟩, by omega⟩
      · rw [if_neg h5] at hc
        subst hc
        have c5 : ((1000000 : Int) ≤ x.2.2.2) = False := eq_false (by omega)
        have c5b : (x.2.2.2 < 1000000) = True := eq_true (by omega)
        have hset := setR_map hx (x.2.2.2 + 1)
        simp only [shs, zts, sos, sls, zss, eqs, sx, sb1, sb2, sb3, sb4, sb5, sb6, sb7, ↓reduceIte, Nat.reduceAdd, Nat.reduceMul, Nat.reduceDiv, Nat.reduceEqDiff, Nat.reduceLT, Nat.reduceLeDiff, reduceCtorEq, Int.reduceEq, Int.reduceNe, Int.reduceLT, Int.reduceLE, Int.reduceAdd, Int.reduceSub, Int.reduceMul, Int.reduceNeg, Int.reduceToNat, Int.cast_ofNat_Int, Int.natCast_zero, Int.natCast_one, Int.toNat_natCast, Nat.reduceBEq, nzs, hg, List.getD_cons_zero, List.getD_cons_succ, c4, c5, c5b, List.length_map, hset]
        refine ⟨⟨by omega, by omega⟩, by omega, by simp only [inK, lo, hi]; omega, ⟨by omega, by omega⟩, by omega, DrawK.tail 7 (by kernel_rfl) (by kernel_rfl) ?_⟩
        simp only [shs, zts, sos, sls, zss, eqs, sx, sb1, sb2, sb3, sb4, sb5, sb6, sb7, ↓reduceIte, Nat.reduceAdd, Nat.reduceMul, Nat.reduceDiv, Nat.reduceEqDiff, Nat.reduceLT, Nat.reduceLeDiff, reduceCtorEq, Int.reduceEq, Int.reduceNe, Int.reduceLT, Int.reduceLE, Int.reduceAdd, Int.reduceSub, Int.reduceMul, Int.reduceNeg, Int.reduceToNat, Int.cast_ofNat_Int, Int.natCast_zero, Int.natCast_one, Int.toNat_natCast, Nat.reduceBEq, nzs, putT, idS]
        exact .inr (.inl ⟨136, rfl, rfl⟩)
    · have c4 := eq_false h4
      rw [if_neg (by simpa using h4)] at hti
      simp only [shs, zts, sos, sls, zss, eqs, sx, sb1, sb2, sb3, sb4, sb5, sb6, sb7, ↓reduceIte, Nat.reduceAdd, Nat.reduceMul, Nat.reduceDiv, Nat.reduceEqDiff, Nat.reduceLT, Nat.reduceLeDiff, reduceCtorEq, Int.reduceEq, Int.reduceNe, Int.reduceLT, Int.reduceLE, Int.reduceAdd, Int.reduceSub, Int.reduceMul, Int.reduceNeg, Int.reduceToNat, Int.cast_ofNat_Int, Int.natCast_zero, Int.natCast_one, Int.toNat_natCast, Nat.reduceBEq, nzs, c4]
      refine ⟨⟨by omega, by omega⟩, by omega, DrawK.quiet (by kernel_rfl) (by kernel_rfl) ?_⟩
      simp only [shs, zts, sos, sls, zss, eqs, sx, sb1, sb2, sb3, sb4, sb5, sb6, sb7, ↓reduceIte, Nat.reduceAdd, Nat.reduceMul, Nat.reduceDiv, Nat.reduceEqDiff, Nat.reduceLT, Nat.reduceLeDiff, reduceCtorEq, Int.reduceEq, Int.reduceNe, Int.reduceLT, Int.reduceLE, Int.reduceAdd, Int.reduceSub, Int.reduceMul, Int.reduceNeg, Int.reduceToNat, Int.cast_ofNat_Int, Int.natCast_zero, Int.natCast_one, Int.toNat_natCast, Nat.reduceBEq, nzs]
      refine ⟨_, ⟨⟨rfl, rfl⟩, rprintS s M1 hs⟩, ?_⟩
      simp only [shs, zts, sos, sls, zss, eqs, sx, sb1, sb2, sb3, sb4, sb5, sb6, sb7, ↓reduceIte, Nat.reduceAdd, Nat.reduceMul, Nat.reduceDiv, Nat.reduceEqDiff, Nat.reduceLT, Nat.reduceLeDiff, reduceCtorEq, Int.reduceEq, Int.reduceNe, Int.reduceLT, Int.reduceLE, Int.reduceAdd, Int.reduceSub, Int.reduceMul, Int.reduceNeg, Int.reduceToNat, Int.cast_ofNat_Int, Int.natCast_zero, Int.natCast_one, Int.toNat_natCast, Nat.reduceBEq, nzs]
      have hul := usedN_len l (sumT s) n
      have hus := usedN_succ (sumT s) hx
      refine ⟨fun h7 => ⟨⟨by rw [List.length_map]; omega, by rw [List.length_map]; omega⟩, by simp only [inK, lo, hi]; omega, n + 1, ⟨⟨by omega, hti⟩, by omega⟩, Ent.of ?_⟩, fun h7 => ⟨by simp only [inK, lo, hi]; omega, n + 1, ⟨⟨by omega, hti⟩, by omega⟩, Ent.of ?_⟩⟩
      · rw [if_pos h7] at hus
        rw [hus, List.map_append, show ([x.2.1].map encI) = [[Value.int IntKind.i64 x.2.1]] from rfl]
        simp only [sx, sb1, sb2, sb3, sb4, sb5, sb6, sb7, ↓reduceIte, Nat.reduceAdd, Nat.reduceMul, Nat.reduceDiv, Nat.reduceEqDiff, Nat.reduceLT, Nat.reduceLeDiff, reduceCtorEq, Int.reduceEq, Int.reduceNe, Int.reduceLT, Int.reduceLE, Int.reduceAdd, Int.reduceSub, Int.reduceMul, Int.reduceNeg, Int.reduceToNat, Int.cast_ofNat_Int, Int.natCast_zero, Int.natCast_one, Int.toNat_natCast, Nat.reduceBEq, Int.natCast_add]
      · rw [if_neg h7] at hus
        rw [hus]
        simp only [sx, sb1, sb2, sb3, sb4, sb5, sb6, sb7, ↓reduceIte, Nat.reduceAdd, Nat.reduceMul, Nat.reduceDiv, Nat.reduceEqDiff, Nat.reduceLT, Nat.reduceLeDiff, reduceCtorEq, Int.reduceEq, Int.reduceNe, Int.reduceLT, Int.reduceLE, Int.reduceAdd, Int.reduceSub, Int.reduceMul, Int.reduceNeg, Int.reduceToNat, Int.cast_ofNat_Int, Int.natCast_zero, Int.natCast_one, Int.toNat_natCast, Nat.reduceBEq, Int.natCast_add]
  · have hd : l.drop n = [] := List.drop_eq_nil_of_le (by omega)
    rw [hd] at hti
    simp only [fidx] at hti
    rw [hti, if_neg (by decide)] at hc
    have hnl : n = l.length := by omega
    subst hnl
    by_cases h6 : l.length = 64
    · have c6 : ((63 : Int) < (l.length : Int)) = True := eq_true (by omega)
      have c6b : ((l.length : Int) ≤ 63) = False := eq_false (by omega)
      rw [if_pos h6] at hc
      subst hc
      simp only [shs, zts, sos, sls, zss, eqs, sx, sb1, sb2, sb3, sb4, sb5, sb6, sb7, ↓reduceIte, Nat.reduceAdd, Nat.reduceMul, Nat.reduceDiv, Nat.reduceEqDiff, Nat.reduceLT, Nat.reduceLeDiff, reduceCtorEq, Int.reduceEq, Int.reduceNe, Int.reduceLT, Int.reduceLE, Int.reduceAdd, Int.reduceSub, Int.reduceMul, Int.reduceNeg, Int.reduceToNat, Int.cast_ofNat_Int, Int.natCast_zero, Int.natCast_one, Int.toNat_natCast, Nat.reduceBEq, nzs, hy.len, hy.sl, List.length_map, c6, c6b, putT, idS, z3]
      skip
    have c6 : ((63 : Int) < (l.length : Int)) = False := eq_false (by omega)
    have c6b : ((l.length : Int) ≤ 63) = True := eq_true (by omega)
    rw [if_neg h6] at hc
    subst hc
    simp only [shs, zts, sos, sls, zss, eqs, sx, sb1, sb2, sb3, sb4, sb5, sb6, sb7, ↓reduceIte, Nat.reduceAdd, Nat.reduceMul, Nat.reduceDiv, Nat.reduceEqDiff, Nat.reduceLT, Nat.reduceLeDiff, reduceCtorEq, Int.reduceEq, Int.reduceNe, Int.reduceLT, Int.reduceLE, Int.reduceAdd, Int.reduceSub, Int.reduceMul, Int.reduceNeg, Int.reduceToNat, Int.cast_ofNat_Int, Int.natCast_zero, Int.natCast_one, Int.toNat_natCast, Nat.reduceBEq, nzs, hy.len, hy.sl, List.length_map, c6, c6b]
    refine CallK.pure ⟨rfl, rfl⟩ rfl (rprintS s M1 hs) ?_
    simp only [shs, zts, sos, sls, zss, eqs, sx, sb1, sb2, sb3, sb4, sb5, sb6, sb7, ↓reduceIte, Nat.reduceAdd, Nat.reduceMul, Nat.reduceDiv, Nat.reduceEqDiff, Nat.reduceLT, Nat.reduceLeDiff, reduceCtorEq, Int.reduceEq, Int.reduceNe, Int.reduceLT, Int.reduceLE, Int.reduceAdd, Int.reduceSub, Int.reduceMul, Int.reduceNeg, Int.reduceToNat, Int.cast_ofNat_Int, Int.natCast_zero, Int.natCast_one, Int.toNat_natCast, Nat.reduceBEq, nzs]
    refine LoopK.go (X := Nat) (fun n => ([(0, true, .v y), (1, true, .v (.string ⟨s.toArray⟩)), (4, true, .v (.slice none 0 0)), (5, true, .ptr 40 0 0 0), (6, true, .v (.int .i64 0)), (7, true, .ptr 56 0 0 0), (8, true, .own 440), (11, true, .ptr 88 0 0 0)], [(88, .box [.v (.int .i64 (sumT s)), .v (.int .i64 (n : Int)), .v (.string ⟨s.toArray⟩), .v (.int .i64 1)] none), (440, .row 1 ((usedN l (sumT s) l.length).map encI)), (56, .box [.own 136] none), (136, .row 4 (l.map Bg.encT)), (40, .box [.v (.bool false), .v (.int .i64 0), .v (.int .i64 0)] none)], M1)) (fun n => ∀ m, m < n → has l (sumT s) m = true) (fun n => 65 - n) 0 (fun m hm => by omega) (Ent.of ?_) ?_
    · simp only [sx, sb1, sb2, sb3, sb4, sb5, sb6, sb7, ↓reduceIte, Nat.reduceAdd, Nat.reduceMul, Nat.reduceDiv, Nat.reduceEqDiff, Nat.reduceLT, Nat.reduceLeDiff, reduceCtorEq, Int.reduceEq, Int.reduceNe, Int.reduceLT, Int.reduceLE, Int.reduceAdd, Int.reduceSub, Int.reduceMul, Int.reduceNeg, Int.reduceToNat, Int.cast_ofNat_Int, Int.natCast_zero, Int.natCast_one, Int.toNat_natCast, Nat.reduceBEq, Int.natCast_zero]
    intro n hn
    have hpn := pig (sumT s) n l hn
    simp only [shs, zts, sos, sls, zss, eqs, sx, sb1, sb2, sb3, sb4, sb5, sb6, sb7, ↓reduceIte, Nat.reduceAdd, Nat.reduceMul, Nat.reduceDiv, Nat.reduceEqDiff, Nat.reduceLT, Nat.reduceLeDiff, reduceCtorEq, Int.reduceEq, Int.reduceNe, Int.reduceLT, Int.reduceLE, Int.reduceAdd, Int.reduceSub, Int.reduceMul, Int.reduceNeg, Int.reduceToNat, Int.cast_ofNat_Int, Int.natCast_zero, Int.natCast_one, Int.toNat_natCast, Nat.reduceBEq, nzs]
    have hcont : decide (0 ≤ Si.ix (n : Int) (usedN l (sumT s) l.length) 0) = has l (sumT s) n := by
      have := (Si.ix_ge (n : Int) (usedN l (sumT s) l.length) 0).trans (usedN_has l (sumT s) n)
      rw [Bool.eq_iff_iff, decide_eq_true_eq, this]
    refine CallK.lend (k := 440) rfl rfl rfl (fun _ => rfl) (fun v M3 hM3 hv => Si.contains v (usedN l (sumT s) l.length) (n : Int) M3 hv) ?_
    rw [hcont]
    cases hh : has l (sumT s) n with
    | true =>
      simp only [shs, zts, sos, sls, zss, eqs, sx, sb1, sb2, sb3, sb4, sb5, sb6, sb7, ↓reduceIte, Nat.reduceAdd, Nat.reduceMul, Nat.reduceDiv, Nat.reduceEqDiff, Nat.reduceLT, Nat.reduceLeDiff, reduceCtorEq, Int.reduceEq, Int.reduceNe, Int.reduceLT, Int.reduceLE, Int.reduceAdd, Int.reduceSub, Int.reduceMul, Int.reduceNeg, Int.reduceToNat, Int.cast_ofNat_Int, Int.natCast_zero, Int.natCast_one, Int.toNat_natCast, Nat.reduceBEq, nzs, inK, lo, hi]
      refine ⟨by omega, n + 1, ⟨fun m hm => ?_, by omega⟩, Ent.of ?_⟩
      · rcases Nat.lt_or_ge m n with hm' | hm'
        · exact hn m hm'
        · rw [show m = n by omega]; exact hh
      · simp only [sx, sb1, sb2, sb3, sb4, sb5, sb6, sb7, ↓reduceIte, Nat.reduceAdd, Nat.reduceMul, Nat.reduceDiv, Nat.reduceEqDiff, Nat.reduceLT, Nat.reduceLeDiff, reduceCtorEq, Int.reduceEq, Int.reduceNe, Int.reduceLT, Int.reduceLE, Int.reduceAdd, Int.reduceSub, Int.reduceMul, Int.reduceNeg, Int.reduceToNat, Int.cast_ofNat_Int, Int.natCast_zero, Int.natCast_one, Int.toNat_natCast, Nat.reduceBEq, Int.natCast_add]
    | false =>
      have hfn := freeN_of hn hh (by omega)
      rw [hfn]
      simp only [shs, zts, sos, sls, zss, eqs, sx, sb1, sb2, sb3, sb4, sb5, sb6, sb7, ↓reduceIte, Nat.reduceAdd, Nat.reduceMul, Nat.reduceDiv, Nat.reduceEqDiff, Nat.reduceLT, Nat.reduceLeDiff, reduceCtorEq, Int.reduceEq, Int.reduceNe, Int.reduceLT, Int.reduceLE, Int.reduceAdd, Int.reduceSub, Int.reduceMul, Int.reduceNeg, Int.reduceToNat, Int.cast_ofNat_Int, Int.natCast_zero, Int.natCast_one, Int.toNat_natCast, Nat.reduceBEq, nzs]
      have hrow : l.map Bg.encT ++ [[.int .i64 (sumT s), .int .i64 (n : Int), .string ⟨s.toArray⟩, .int .i64 1]] = (l ++ [(sumT s, (n : Int), s, 1)]).map Bg.encT := by
        rw [List.map_append]; rfl
      rw [hrow]
      refine ⟨⟨by rw [List.length_map]; omega, by rw [List.length_map]; omega⟩, ⟨rfl, OpK.openRow (k := 608) 1002 rfl (fun _ => rfl) (fun h => by simp at h) fun b cap sp r1 r2 => ?_⟩⟩
      refine OpK.mkIface (t := 22) rfl rfl rfl rfl (by kernel_rfl) ⟨107, by kernel_rfl⟩ ?_
      simp only [shs, zts, sos, sls, zss, eqs, sx, sb1, sb2, sb3, sb4, sb5, sb6, sb7, ↓reduceIte, Nat.reduceAdd, Nat.reduceMul, Nat.reduceDiv, Nat.reduceEqDiff, Nat.reduceLT, Nat.reduceLeDiff, reduceCtorEq, Int.reduceEq, Int.reduceNe, Int.reduceLT, Int.reduceLE, Int.reduceAdd, Int.reduceSub, Int.reduceMul, Int.reduceNeg, Int.reduceToNat, Int.cast_ofNat_Int, Int.natCast_zero, Int.natCast_one, Int.toNat_natCast, Nat.reduceBEq, sp1, sp2, sp3, nzs, so0]
      refine stepK.mkFn rfl rfl ?_
      simp only [shs, zts, sos, sls, zss, eqs, sx, sb1, sb2, sb3, sb4, sb5, sb6, sb7, ↓reduceIte, Nat.reduceAdd, Nat.reduceMul, Nat.reduceDiv, Nat.reduceEqDiff, Nat.reduceLT, Nat.reduceLeDiff, reduceCtorEq, Int.reduceEq, Int.reduceNe, Int.reduceLT, Int.reduceLE, Int.reduceAdd, Int.reduceSub, Int.reduceMul, Int.reduceNeg, Int.reduceToNat, Int.cast_ofNat_Int, Int.natCast_zero, Int.natCast_one, Int.toNat_natCast, Nat.reduceBEq, nzs, List.length_map] at r1 ⊢
      refine CallK.sortRow 8016 56 Bg.encT 4 ltI (l ++ [(sumT s, (n : Int), s, 1)]) (b := b) (cap := cap) (sp := sp) (tb := none) rfl rfl rfl encT_len rfl (by simp; omega) ⟨_, Proofs.Tryz.func109, by kernel_rfl, by kernel_rfl⟩ sortC (srtLess _ (by simp; omega)) fun l' p1 p2 => ?_
      have hlen := p1.length_eq
      have hl' := srt_ins (bag_srt hb) (fun y hy hh2 => by
        have := (has_iff l (sumT s) n).2 ⟨y, hy, hh2⟩
        rw [hh] at this
        cases this) p1 p2
      rw [← hl', ← hlen]
      simp only [shs, zts, sos, sls, zss, eqs, sx, sb1, sb2, sb3, sb4, sb5, sb6, sb7, ↓reduceIte, Nat.reduceAdd, Nat.reduceMul, Nat.reduceDiv, Nat.reduceEqDiff, Nat.reduceLT, Nat.reduceLeDiff, reduceCtorEq, Int.reduceEq, Int.reduceNe, Int.reduceLT, Int.reduceLE, Int.reduceAdd, Int.reduceSub, Int.reduceMul, Int.reduceNeg, Int.reduceToNat, Int.cast_ofNat_Int, Int.natCast_zero, Int.natCast_one, Int.toNat_natCast, Nat.reduceBEq, sp1, sp2, sp3, nzs, hset]
      refine DrawK.tail 7 (by kernel_rfl) (by kernel_rfl) ?_
      simp only [shs, zts, sos, sls, zss, eqs, sx, sb1, sb2, sb3, sb4, sb5, sb6, sb7, ↓reduceIte, Nat.reduceAdd, Nat.reduceMul, Nat.reduceDiv, Nat.reduceEqDiff, Nat.reduceLT, Nat.reduceLeDiff, reduceCtorEq, Int.reduceEq, Int.reduceNe, Int.reduceLT, Int.reduceLE, Int.reduceAdd, Int.reduceSub, Int.reduceMul, Int.reduceNeg, Int.reduceToNat, Int.cast_ofNat_Int, Int.natCast_zero, Int.natCast_one, Int.toNat_natCast, Nat.reduceBEq, nzs, putT, idS]
      refine .inr (.inr ⟨b, 8016, cap, sp, ?_, rfl, ?_⟩)
      · rw [List.length_map]
        rfl
      · rw [List.length_map, hlen]
        exact r1
end Go.X.Bp

