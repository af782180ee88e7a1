/- Contracts of functions and the logic that they are proved in (7 texts in one). Conditions: none. -/
import Derived.Test.YtoohifeidifocaaGreatMg15
import Derived.Shelf.SlSortFuncK.WholeK
import Derived.Shelf.GgSortFunc.Tiny
import Derived.Deep.QuietTactic
import Derived.Test.YtoohifeidifocaaGreatMg14
import Derived.Test.YtoohifeidifocaaGreatMg8
import Derived.Test.YtoohifeidifocaaGreatMg12
import Derived.Test.YtoohifeidifocaaGreatMg13
import Derived.Test.YtoohifeidifocaaGreatMg5
import Derived.Test.YtoohifeidifocaaGreatMg6
open Nat renaming reduceAdd → zqa, reduceMul → zqb, reduceDiv → zqc, reduceEqDiff → zqd, reduceLT → zqe, reduceLeDiff → zqf, reduceBEq → zqg
open Int renaming reduceEq → zra, reduceNe → zrb, reduceLT → zrc, reduceLE → zrd, reduceAdd → zre, reduceSub → zrf, reduceMul → zrg, reduceNeg → zrh, reduceToNat → zri, cast_ofNat_Int → zrj, natCast_zero → zrk, natCast_one → zrl, toNat_natCast → zrm
namespace Go.X.Bg
end Go.X.Bg
namespace Go.X.Nm
end Go.X.Nm
namespace Go.X.Bp
end Go.X.Bp
namespace Go.X.Sb
end Go.X.Sb
namespace Go.X.Pol
end Go.X.Pol
namespace Go.X.Pl
end Go.X.Pl
namespace Go.X.Rp
end Go.X.Rp
namespace Go.X.Pd
end Go.X.Pd
namespace Go.X.Md
end Go.X.Md
namespace Go.X.Mv
end Go.X.Mv
namespace Go.X.Pt
end Go.X.Pt
set_option linter.unusedSimpArgs false
set_option linter.unusedVariables false
set_option maxHeartbeats 4000000
set_option maxRecDepth 20000
namespace Go.X.Vo
open Go Go.X Go.RowKit Go.X.Bg Go.X.Nm Go.X.Bp Go.X.Sb

theorem ws_at {ws : List WV} {L : List Vol} (h : ws.map (·.2) = L) {i : Nat} {y : Vol} (hy : L[i]? = some y) : ∃ x, ws[i]? = some x ∧ x.2 = y := by
  rw [← h, List.getElem?_map, Option.map_eq_some_iff] at hy
  exact hy
theorem ws_len {ws ws2 : List WV} (h : ws2.map (·.2) = ws.map (·.2)) : ws2.length = ws.length := by
  have := congrArg List.length h
  rwa [List.length_map, List.length_map] at this
theorem foldl_take {α β : Type} (g : β → α → β) (b : β) {l : List α} {j : Nat} {y : α} (h : l[j]? = some y) : (l.take (j + 1)).foldl g b = g ((l.take j).foldl g b) y := by
  rw [List.take_add_one, h, List.foldl_append]
  rfl
theorem vdrop (b v : Value) (bag : List It) (ws : List WV) (n : List UInt8) (M : Mem) (hb : RowM M b 4 (bag.map Bg.encT)) (hv : VolsM M v ws) :
    Meets Proofs.Tryz.prog 33 [stV b v, .v (.string ⟨n.toArray⟩)] M (StM (fun s => .tup [s, .v (.int .i64 (dropA bag (ws.map (·.2)) n).2)]) (dropA bag (ws.map (·.2)) n).1) := by
  refine Meets.settleM (Ctx.fst _) ?_
  refine Meets.of_body [0,1,2,4,5,6,7,8,10,14,21,30,31,32,33,37] Proofs.Tryz.func33 rfl (by kernel_rfl) rfl fun w => ?_
  generalize hc : dropA bag (ws.map (·.2)) n = c
  unfold dropA at hc
  have hC := vcheck b v bag ws M hb hv
  have hF := find b v ws n M hv
  simp only [stV] at hC hF
  simp only [Proofs.Tryz.f33, stV, shs, zts, sos, sls, zss, eqs, sx, sb1, sb2, sb3, sb4, sb5, sb6, sb7, ↓reduceIte, zqa, zqb, zqc, zqd, zqe, zqf, reduceCtorEq, zra, zrb, zrc, zrd, zre, zrf, zrg, zrh, zri, zrj, zrk, zrl, zrm, zqg, nzs]
  refine CallK.pure ⟨rfl, rfl⟩ rfl hC ?_
  by_cases h1 : stE bag (ws.map (·.2)) = 0
  rotate_left
  · have c1 := eq_false h1
    rw [if_pos h1] at hc
    subst hc
    simp only [shs, zts, sos, sls, zss, eqs, sx, sb1, sb2, sb3, sb4, sb5, sb6, sb7, ↓reduceIte, zqa, zqb, zqc, zqd, zqe, zqf, reduceCtorEq, zra, zrb, zrc, zrd, zre, zrf, zrg, zrh, zri, zrj, zrk, zrl, zrm, zqg, nzs, c1]
    exact stO_zero _ _ _
  rw [if_neg (fun h => h h1)] at hc
  obtain ⟨hB, hV, _⟩ := stE_ok h1
  have hVo := volsE_ok hV
  have hbl := bag_len hB
  rw [List.length_map] at hVo
  have hli : ∀ w ∈ ws, w.2.2.length ≤ 32 := fun w hw => (hVo.2 w.2 (List.mem_map_of_mem hw)).1
  simp only [shs, zts, sos, sls, zss, eqs, sx, sb1, sb2, sb3, sb4, sb5, sb6, sb7, ↓reduceIte, zqa, zqb, zqc, zqd, zqe, zqf, reduceCtorEq, zra, zrb, zrc, zrd, zre, zrf, zrg, zrh, zri, zrj, zrk, zrl, zrm, zqg, nzs, h1]
  refine CallK.pure ⟨rfl, rfl⟩ rfl hF ?_
  by_cases h2 : volIx (ws.map (·.2)) n < 0
  · have c2 := eq_true h2
    rw [if_pos h2] at hc
    subst hc
    simp only [shs, zts, sos, sls, zss, eqs, sx, sb1, sb2, sb3, sb4, sb5, sb6, sb7, ↓reduceIte, zqa, zqb, zqc, zqd, zqe, zqf, reduceCtorEq, zra, zrb, zrc, zrd, zre, zrf, zrg, zrh, zri, zrj, zrk, zrl, zrm, zqg, nzs, c2]
    exact stO_zero _ _ _
  have c2 := eq_false h2
  rw [if_neg h2] at hc
  subst hc
  obtain ⟨i, x, k1, k2, k3, k4⟩ := volIx_at h2
  have hcp := copied b v bag ws M hb hv (by omega) (by omega) (fun w hw => Nat.le_trans (hli w hw) (by omega))
  simp only [stV] at hcp
  rw [k1] at c2 ⊢
  simp only [shs, zts, sos, sls, zss, eqs, sx, sb1, sb2, sb3, sb4, sb5, sb6, sb7, ↓reduceIte, zqa, zqb, zqc, zqd, zqe, zqf, reduceCtorEq, zra, zrb, zrc, zrd, zre, zrf, zrg, zrh, zri, zrj, zrk, zrl, zrm, zqg, nzs, c2, zrm]
  refine CallK.stF (T := fun s => s) (fun _ _ => rfl) rfl rfl hcp fun b2 v2 ws2 M2 hM2 hw2 hS => ?_
  obtain ⟨x2, hx2, e2⟩ := ws_at hw2 k4
  obtain ⟨_, g1, i0⟩ := vol_at hS.volsM hx2
  have hblk := hS.blk x2 (List.mem_of_getElem? hx2)
  have hbll := hblk.row.len_le
  have hl2 := ws_len hw2
  have hil : i < ws.length := (List.getElem?_eq_some_iff.1 k2).1
  rw [List.length_map] at hbll
  simp only [shs, zts, sos, sls, zss, eqs, sx, sb1, sb2, sb3, sb4, sb5, sb6, sb7, ↓reduceIte, zqa, zqb, zqc, zqd, zqe, zqf, reduceCtorEq, zra, zrb, zrc, zrd, zre, zrf, zrg, zrh, zri, zrj, zrk, zrl, zrm, zqg, nzs, stV, hS.bag.row.one, hS.vols.row.one, i0, i0.2, g1.1, g1.2, hblk.row.len, hblk.row.sl, List.length_map]
  refine LoopK.go (X := Nat × Value × Mem) (fun z => ([(2, true, .ptr 16 0 0 0), (4, true, .ptr 32 0 0 0), (7, true, .v (.int .i64 i)), (8, true, .ptr 64 0 0 0), (30, true, .v x2.1), (31, true, .v (.int .i64 x2.2.2.length)), (32, true, .v (.int .i64 z.1))],
      [(64, .box [.v z.2.1, .v v2] none), (32, .box [.v (.slice none 0 0), .v (.slice none 0 0)] none), (16, .box [.v b, .v v] none)], z.2.2))
    (fun z => (z.1 ≤ x2.2.2.length ∧ M2.le z.2.2) ∧ RowF z.2.2 z.2.1 4 (((x2.2.2.take z.1).foldl lessId bag).map Bg.encT) ∧ apartB z.2.1 v2) (fun z => x2.2.2.length - z.1) (0, b2, M2) ⟨⟨Nat.zero_le _, Mem.le.refl M2⟩, hS.bag, hS.bv⟩ (Ent.of ?_) ?_
  · simp only [sx, sb1, sb2, sb3, sb4, sb5, sb6, sb7, ↓reduceIte, zqa, zqb, zqc, zqd, zqe, zqf, reduceCtorEq, zra, zrb, zrc, zrd, zre, zrf, zrg, zrh, zri, zrj, zrk, zrl, zrm, zqg, zrk]
  rintro ⟨j, b3, N⟩ ⟨⟨n1, nM⟩, n2, n3⟩
  simp only at n1 nM n2 n3
  by_cases hjl : j < x2.2.2.length
  · have d1 : ((j : Int) < (x2.2.2.length : Int)) = True := eq_true (by omega)
    obtain ⟨y, hy, _⟩ := l_drop_at (l := x2.2.2) (i := j) hjl
    obtain ⟨y0, y1, y2, yi⟩ := id_at (hblk.row.le nM) hy
    have hst := foldl_take lessId bag hy
    have hbE := bagE_lessAll (x2.2.2.take j) hB
    generalize (x2.2.2.take j).foldl lessId bag = bj at *
    obtain ⟨q0, q1, q2⟩ := y
    simp only at y0 y1 y2
    cases q0 with
    | false =>
      have e3 : lessId bj (false, q1, q2) = bj := if_neg (fun h => by cases h)
      rw [e3] at hst
      simp only [shs, zts, sos, sls, zss, eqs, sx, sb1, sb2, sb3, sb4, sb5, sb6, sb7, ↓reduceIte, zqa, zqb, zqc, zqd, zqe, zqf, reduceCtorEq, zra, zrb, zrc, zrd, zre, zrf, zrg, zrh, zri, zrj, zrk, zrl, zrm, zqg, nzs, d1, yi, yi.2, y0.1, y0.2, y1.1, y1.2, y2.1, y2.2, inK, lo, hi]
      refine ⟨by omega, (j + 1, b3, N), ⟨⟨⟨by simp only; omega, nM⟩, by simp only [hst]; exact n2, n3⟩, by simp only; omega⟩, Ent.of ?_⟩
      simp only [sx, sb1, sb2, sb3, sb4, sb5, sb6, sb7, ↓reduceIte, zqa, zqb, zqc, zqd, zqe, zqf, reduceCtorEq, zra, zrb, zrc, zrd, zre, zrf, zrg, zrh, zri, zrj, zrk, zrl, zrm, zqg, Int.natCast_add]
    | true =>
      have e3 : lessId bj (true, q1, q2) = (dropS bj (true, q1, q2)).1 := by rw [dropS_ok hbE]; exact if_pos rfl
      rw [e3] at hst
      have hD := drop b3 bj (true, q1, q2) N n2.row
      simp only [idS] at hD
      simp only [shs, zts, sos, sls, zss, eqs, sx, sb1, sb2, sb3, sb4, sb5, sb6, sb7, ↓reduceIte, zqa, zqb, zqc, zqd, zqe, zqf, reduceCtorEq, zra, zrb, zrc, zrd, zre, zrf, zrg, zrh, zri, zrj, zrk, zrl, zrm, zqg, nzs, d1, yi, yi.2, y0.1, y0.2, y1.1, y1.2, y2.1, y2.2]
      refine CallK.rowF (T := fun s => .tup [s, .v (.int .i64 (dropS bj (true, q1, q2)).2)]) (Ctx.fst _) rfl rfl hD fun b4 N2 hN2 hb4 hf4 => ?_
      simp only [shs, zts, sos, sls, zss, eqs, sx, sb1, sb2, sb3, sb4, sb5, sb6, sb7, ↓reduceIte, zqa, zqb, zqc, zqd, zqe, zqf, reduceCtorEq, zra, zrb, zrc, zrd, zre, zrf, zrg, zrh, zri, zrj, zrk, zrl, zrm, zqg, nzs, inK, lo, hi, hb4.row.one]
      refine ⟨oneVs hb4.row.sl, by omega, (j + 1, b4, N2), ⟨⟨⟨by simp only; omega, nM.trans hN2⟩, by simp only [hst]; exact hb4, RowF.apart (hS.vols.le nM) hf4⟩, by simp only; omega⟩, Ent.of ?_⟩
      simp only [sx, sb1, sb2, sb3, sb4, sb5, sb6, sb7, ↓reduceIte, zqa, zqb, zqc, zqd, zqe, zqf, reduceCtorEq, zra, zrb, zrc, zrd, zre, zrf, zrg, zrh, zri, zrj, zrk, zrl, zrm, zqg, Int.natCast_add]
  · have d1 : ((j : Int) < (x2.2.2.length : Int)) = False := eq_false (by omega)
    rw [List.take_of_length_le (by omega)] at n2
    simp only [shs, zts, sos, sls, zss, eqs, sx, sb1, sb2, sb3, sb4, sb5, sb6, sb7, ↓reduceIte, zqa, zqb, zqc, zqd, zqe, zqf, reduceCtorEq, zra, zrb, zrc, zrd, zre, zrf, zrg, zrh, zri, zrj, zrk, zrl, zrm, zqg, nzs, d1, inK, lo, hi]
    refine ⟨by omega, ?_⟩
    refine CallK.claim (A := fun s => [s, .v (.int .i64 i), .v (.int .i64 (i + 1 : Nat))]) 1000 (Ctxs.cons0 _ rfl) rfl (hS.vols.le nM) hS.fv rfl rfl fun M4 hb4 => ?_
    refine CallK.lendR (A := fun s => [s, .v (.int .i64 i), .v (.int .i64 (i + 1 : Nat))]) 8000 (Ctxs.cons0 _ rfl) Ctx.id rfl rfl rfl (fun M6 _ => deleteV (ws2.map encV) i (i + 1) M6 (by omega) (by rw [List.length_map]; omega) (by rw [List.length_map]; omega)) rfl ?_
    have hr : (ws2.map encV).take i ++ (ws2.map encV).drop (i + 1) = (ws2.take i ++ ws2.drop (i + 1)).map encV := by rw [List.map_append, List.map_take, List.map_drop]
    rw [hr]
    have hb5 := RowF.but n2 hb4 n3.symm
    simp only [shs, zts, sos, sls, zss, eqs, sx, sb1, sb2, sb3, sb4, sb5, sb6, sb7, ↓reduceIte, zqa, zqb, zqc, zqd, zqe, zqf, reduceCtorEq, zra, zrb, zrc, zrd, zre, zrf, zrg, zrh, zri, zrj, zrk, zrl, zrm, zqg, sp1, sp2, sp3, nzs, hb5.row.one]
    refine ⟨.v b3, .own 416, ws2.take i ++ ws2.drop (i + 1), rfl, ?_, fun k h => (by cases h), ⟨?_, rfl⟩, fun w hw => ?_⟩
    · simp only [dropSt, delV, List.map_append, List.map_take, List.map_drop, hw2]
    · simp only [dropSt, volAt_at k4]
      rw [e2] at hb5
      exact hb5.row
    · have hw' : w ∈ ws2 := by
        rcases List.mem_append.1 hw with hw | hw
        · exact List.mem_of_mem_take hw
        · exact List.mem_of_mem_drop hw
      exact (RowF.but ((hS.blk w hw').le nM) hb4 (hS.vw hw')).row
end Go.X.Vo

namespace Go.X.Vo
open Go Go.X Go.RowKit Go.X.Bg Go.X.Nm Go.X.Bp Go.X.Sb

theorem stKO_zero (M0 : Mem) (e : Value) (H : HS) (M : Mem) : StKO M0 (fun s => .tup [s, .v e]) zSt (.tup [.agg [.v (.slice none 0 0), .v (.slice none 0 0)], .v e]) H M :=
  ⟨.v (.slice none 0 0), .v (.slice none 0 0), [], rfl, rfl, fun k h => (by cases h), ⟨⟨(zero_stK M0 M).bag, (zero_stK M0 M).fb⟩, ⟨(zero_stK M0 M).vols, (zero_stK M0 M).fv⟩⟩, fun w hw => (by cases hw), (zero_stK M0 M).ap⟩
theorem set_same {α : Type} {l : List α} {i : Nat} {x : α} (h : l[i]? = some x) : l.set i x = l := by
  apply List.ext_getElem?
  intro j
  rw [List.getElem?_set]
  split
  · rename_i e
    subst e
    rw [if_pos (List.getElem?_eq_some_iff.1 h).1, h]
  · rfl
theorem stKO_of {M0 M : Mem} {b v : Value} {bag : List It} {ws : List WV} {A : St} (T : SV → SV) (H : HS) (h : StF M0 M b v bag ws) (h1 : bag = A.1) (h2 : ws.map (·.2) = A.2) : StKO M0 T A (T (.agg [.v b, .v v])) H M := by
  subst h1
  exact ⟨.v b, .v v, ws, rfl, h2, fun k h => (by cases h), ⟨⟨h.bag, h.fb⟩, ⟨h.vols, h.fv⟩⟩, fun w hw => ⟨h.blk w hw, h.fw hw⟩, h.ap⟩
theorem idsl_set {l : List Id3} {a : Nat} (r : Id3) : (l.map encI3).set a (encI3 r) = (l.set a r).map encI3 := by rw [List.map_set]
theorem getD_id {l : List Id3} {i : Nat} {x : Id3} (h : l[i]? = some x) : (l.map encI3).getD i [] = [.bool x.1, .int .i64 x.2.1, .int .i64 x.2.2] := by
  rw [List.getD_eq_getElem?_getD, List.getElem?_map, h]
  rfl
theorem vtrim (b v : Value) (bag : List It) (ws : List WV) (n : List UInt8) (at' : Int) (M : Mem) (hb : RowM M b 4 (bag.map Bg.encT)) (hv : VolsM M v ws) :
    Meets Proofs.Tryz.prog 35 [stV b v, .v (.string ⟨n.toArray⟩), .v (.int .i64 at')] M (StK M (fun s => .tup [s, .v (.int .i64 (trimA bag (ws.map (·.2)) n at').2)]) (trimA bag (ws.map (·.2)) n at').1) := by
  refine Meets.settleF (Ctx.fst _) ?_
  refine Meets.of_body [0,1,2,3,6,7,8,9,10,11,20,36] Proofs.Tryz.func35 rfl (by kernel_rfl) rfl fun w => ?_
  generalize hc : trimA bag (ws.map (·.2)) n at' = c
  unfold trimA at hc
  have hP := place b v bag ws n at' M hb hv
  unfold plI at hP
  simp only [stV] at hP
  simp only [Proofs.Tryz.f35, stV, shs, zts, sos, sls, zss, eqs, sx, sb1, sb2, sb3, sb4, sb5, sb6, sb7, ↓reduceIte, zqa, zqb, zqc, zqd, zqe, zqf, reduceCtorEq, zra, zrb, zrc, zrd, zre, zrf, zrg, zrh, zri, zrj, zrk, zrl, zrm, zqg, nzs]
  refine CallK.pure ⟨rfl, rfl⟩ rfl hP ?_
  by_cases h1 : plE bag (ws.map (·.2)) n at' = 0
  rotate_left
  · have c1 := eq_false h1
    rw [if_pos h1] at hc
    subst hc
    simp only [shs, zts, sos, sls, zss, eqs, sx, sb1, sb2, sb3, sb4, sb5, sb6, sb7, ↓reduceIte, zqa, zqb, zqc, zqd, zqe, zqf, reduceCtorEq, zra, zrb, zrc, zrd, zre, zrf, zrg, zrh, zri, zrj, zrk, zrl, zrm, zqg, nzs, c1]
    exact stKO_zero _ _ _ _
  rw [if_neg (fun h => h h1)] at hc
  subst hc
  obtain ⟨hs, h2, h3, h4⟩ := plE_ok h1
  obtain ⟨i, x, k1, k2, k3, k4⟩ := volIx_at h2
  have hbk := blks_at k1 k4
  rw [hbk] at h4
  obtain ⟨m, rfl⟩ : ∃ m : Nat, at' = m := ⟨at'.toNat, by omega⟩
  obtain ⟨hB, hV, _⟩ := stE_ok hs
  have hVo := volsE_ok hV
  have hbl := bag_len hB
  rw [List.length_map] at hVo
  have hli : ∀ w ∈ ws, w.2.2.length ≤ 32 := fun w hw => (hVo.2 w.2 (List.mem_map_of_mem hw)).1
  have hcp := copied b v bag ws M hb hv (by omega) (by omega) (fun w hw => Nat.le_trans (hli w hw) (by omega))
  simp only [stV] at hcp
  rw [k1]
  simp only [shs, zts, sos, sls, zss, eqs, sx, sb1, sb2, sb3, sb4, sb5, sb6, sb7, ↓reduceIte, zqa, zqb, zqc, zqd, zqe, zqf, reduceCtorEq, zra, zrb, zrc, zrd, zre, zrf, zrg, zrh, zri, zrj, zrk, zrl, zrm, zqg, nzs, h1, if_true, zrm]
  refine CallK.stF (T := fun s => s) (fun _ _ => rfl) rfl rfl hcp fun b2 v2 ws2 M2 hM2 hw2 hS => ?_
  obtain ⟨x2, hx2, e2⟩ := ws_at hw2 k4
  obtain ⟨_, g1, i0⟩ := vol_at hS.volsM hx2
  have hx2m := List.mem_of_getElem? hx2
  have hblk := hS.blk x2 hx2m
  have hml : m < x.2.2.length := by omega
  obtain ⟨id, hid, _⟩ := l_drop_at (l := x.2.2) (i := m) hml
  have hid2 : x2.2.2[m]? = some id := by rw [e2]; exact hid
  obtain ⟨y0, y1, y2, yi⟩ := id_at hblk.row hid2
  have hgo := goI_ok ((volsE_ok hV).2 x.2 (List.mem_of_getElem? k4)).2.2 id (List.mem_of_getElem? hid)
  have hidAt : idAt (ws.map (·.2)) i m = id := by unfold idAt; rw [volAt_at k4, hid]; rfl
  have hset : (ws2.set i (x2.1, x2.2.1, x2.2.2.set m hole)).map (·.2) = setV (ws.map (·.2)) i m hole := by
    rw [setV_at k4, ← show ws2.map (·.2) = ws.map (·.2) from hw2, List.map_set, e2]
  have hml2 : m < (x2.2.2.map encI3).length := by rw [List.length_map, e2]; exact hml
  obtain ⟨q0, q1, q2⟩ := id
  simp only at y0 y1 y2
  cases q0 with
  | false =>
    have hq : q1 = 0 ∧ q2 = 0 := by
      unfold idE at hgo
      by_cases hz : q1 = 0 ∧ q2 = 0
      · exact hz
      · rw [if_pos ⟨rfl, hz⟩] at hgo; cases hgo
    obtain ⟨rfl, rfl⟩ := hq
    have hs2 : ws2.set i (x2.1, x2.2.1, x2.2.2.set m hole) = ws2 := by
      have e5 : x2.2.2.set m hole = x2.2.2 := set_same hid2
      rw [e5]
      exact set_same hx2
    rw [hs2] at hset
    simp only [shs, zts, sos, sls, zss, eqs, sx, sb1, sb2, sb3, sb4, sb5, sb6, sb7, ↓reduceIte, zqa, zqb, zqc, zqd, zqe, zqf, reduceCtorEq, zra, zrb, zrc, zrd, zre, zrf, zrg, zrh, zri, zrj, zrk, zrl, zrm, zqg, nzs, stV, hS.bag.row.one, hS.vols.row.one, i0, i0.2, g1.1, g1.2, yi, yi.2, y0.1, y0.2]
    exact stKO_of (fun s => .tup [s, .v (.int .i64 0)]) _ hS (by simp only [trimS, hidAt]; exact (if_neg (fun h => by cases h)).symm) hset
  | true =>
    have hD := drop b2 bag (true, q1, q2) M2 hS.bag.row
    simp only [idS] at hD
    simp only [shs, zts, sos, sls, zss, eqs, sx, sb1, sb2, sb3, sb4, sb5, sb6, sb7, ↓reduceIte, zqa, zqb, zqc, zqd, zqe, zqf, reduceCtorEq, zra, zrb, zrc, zrd, zre, zrf, zrg, zrh, zri, zrj, zrk, zrl, zrm, zqg, nzs, stV, hS.bag.row.one, hS.vols.row.one, i0, i0.2, g1.1, g1.2, yi, yi.2, y0.1, y0.2]
    refine DrawK.plan (tk [2, 3, 4] (.one 0 (.one 1 (.one 5 (tk [6, 7, 8, 9] (.one 10 .done)))))) (by kernel_rfl) (by kernel_rfl) ?_
    simp only [shs, zts, sos, sls, zss, eqs, sx, sb1, sb2, sb3, sb4, sb5, sb6, sb7, ↓reduceIte, zqa, zqb, zqc, zqd, zqe, zqf, reduceCtorEq, zra, zrb, zrc, zrd, zre, zrf, zrg, zrh, zri, zrj, zrk, zrl, zrm, zqg, nzs, se1, se2, tks, yi.2, y0.1, y0.2, y1.1, y1.2, y2.1, y2.2]
    refine CallK.own (T := fun s => .tup [s, .v (.int .i64 (dropS bag (true, q1, q2)).2)]) (Ctx.fst _) rfl rfl hD rfl fun M3 hM3 => ?_
    have hS3 := hS.le hM3
    simp only [shs, zts, sos, sls, zss, eqs, sx, sb1, sb2, sb3, sb4, sb5, sb6, sb7, ↓reduceIte, zqa, zqb, zqc, zqd, zqe, zqf, reduceCtorEq, zra, zrb, zrc, zrd, zre, zrf, zrg, zrh, zri, zrj, zrk, zrl, zrm, zqg, nzs, se1, se2, tks, hS.vols.row.one, stRD_ea]
    refine ⟨hM3, hM3, yi.2, ?_⟩
    have hget : (x2.2.2.map encI3).getD m [] = [.bool true, .int .i64 q1, .int .i64 q2] := getD_id hid2
    refine OpK.turnF (es := x2.2.2.map encI3) rfl rfl (of_eq_true so89) rfl rfl rfl rfl (by rw [sh89]; rfl) (hS3.blk x2 hx2m) (hS.fw hx2m) hml2 (by decide) fun M4 hb4 hr4 => ?_
    have hr5 : RowF M4 x2.1 3 ((x2.2.2.set m hole).map encI3) := by
      rw [hget] at hr4
      rw [← idsl_set]
      exact hr4
    have hS4 := hS3.turnB hx2 hb4 hr5
    have eA : (trimS bag (ws.map (·.2)) i m).1 = (dropS bag (true, q1, q2)).1 := by
      simp only [trimS, hidAt]
      rw [dropS_ok hB]
      exact if_pos rfl
    simp only [shs, zts, sos, sls, zss, eqs, sx, sb1, sb2, sb3, sb4, sb5, sb6, sb7, ↓reduceIte, zqa, zqb, zqc, zqd, zqe, zqf, reduceCtorEq, zra, zrb, zrc, zrd, zre, zrf, zrg, zrh, zri, zrj, zrk, zrl, zrm, zqg, nzs]
    refine ⟨hS.vols.row.one, .own 344, .v v2, _, rfl, hset, fun k _ h2 => (by cases h2), ⟨?_, ⟨hS4.vols, hS4.fv⟩⟩, fun w hw => ⟨hS4.blk w hw, hS4.fw hw⟩, (List.pairwise_cons.1 hS4.ap).2⟩
    rw [eA]
    rfl
theorem vwrite (b v : Value) (bag : List It) (ws : List WV) (n : List UInt8) (at' : Int) (s : List UInt8) (M : Mem) (hb : RowM M b 4 (bag.map Bg.encT)) (hv : VolsM M v ws) :
    Meets Proofs.Tryz.prog 34 [stV b v, .v (.string ⟨n.toArray⟩), .v (.int .i64 at'), .v (.string ⟨s.toArray⟩)] M (StM (fun t => .tup [t, .v (.int .i64 (writeA bag (ws.map (·.2)) n at' s).2)]) (writeA bag (ws.map (·.2)) n at' s).1) := by
  refine Meets.settleM (Ctx.fst _) ?_
  refine Meets.of_body [0,1,2,3,4,8,9,10,11,12,14,15,24,43] Proofs.Tryz.func34 rfl (by kernel_rfl) rfl fun w => ?_
  have hT := vtrim b v bag ws n at' M hb hv
  unfold trimA at hT
  generalize hc : writeA bag (ws.map (·.2)) n at' s = c
  unfold writeA at hc
  have hP := place b v bag ws n at' M hb hv
  unfold plI at hP
  simp only [stV] at hP hT
  simp only [Proofs.Tryz.f34, stV, shs, zts, sos, sls, zss, eqs, sx, sb1, sb2, sb3, sb4, sb5, sb6, sb7, ↓reduceIte, zqa, zqb, zqc, zqd, zqe, zqf, reduceCtorEq, zra, zrb, zrc, zrd, zre, zrf, zrg, zrh, zri, zrj, zrk, zrl, zrm, zqg, nzs]
  refine CallK.pure ⟨rfl, rfl⟩ rfl hP ?_
  by_cases h1 : plE bag (ws.map (·.2)) n at' = 0
  rotate_left
  · have c1 := eq_false h1
    rw [if_pos h1] at hc
    subst hc
    simp only [shs, zts, sos, sls, zss, eqs, sx, sb1, sb2, sb3, sb4, sb5, sb6, sb7, ↓reduceIte, zqa, zqb, zqc, zqd, zqe, zqf, reduceCtorEq, zra, zrb, zrc, zrd, zre, zrf, zrg, zrh, zri, zrj, zrk, zrl, zrm, zqg, nzs, c1]
    exact stO_zero _ _ _
  rw [if_neg (fun h => h h1)] at hc hT
  obtain ⟨hs, h2, h3, h4⟩ := plE_ok h1
  obtain ⟨i, x, k1, k2, k3, k4⟩ := volIx_at h2
  have hbk := blks_at k1 k4
  rw [hbk] at h4
  obtain ⟨m, rfl⟩ : ∃ m : Nat, at' = m := ⟨at'.toNat, by omega⟩
  obtain ⟨hB, hV, _⟩ := stE_ok hs
  rw [k1] at hc hT ⊢
  simp only [zrm] at hc hT
  simp only [shs, zts, sos, sls, zss, eqs, sx, sb1, sb2, sb3, sb4, sb5, sb6, sb7, ↓reduceIte, zqa, zqb, zqc, zqd, zqe, zqf, reduceCtorEq, zra, zrb, zrc, zrd, zre, zrf, zrg, zrh, zri, zrj, zrk, zrl, zrm, zqg, nzs, h1, if_true]
  refine CallK.stF (T := fun t => .tup [t, .v (.int .i64 0)]) (fun _ _ => rfl) rfl rfl hT fun b2 v2 ws2 M2 hM2 hw2 hS => ?_
  have hml : m < x.2.2.length := by omega
  have hil := (List.getElem?_eq_some_iff.1 k4).1
  have hy : (trimS bag (ws.map (·.2)) i m).2[i]? = some (x.2.1, x.2.2.set m hole) := by
    show (setV (ws.map (·.2)) i m hole)[i]? = _
    rw [setV_at k4, List.getElem?_set_self hil]
  obtain ⟨x2, hx2, e2⟩ := ws_at hw2 hy
  have hx2m := List.mem_of_getElem? hx2
  obtain ⟨_, g1, i0⟩ := vol_at hS.volsM hx2
  have hblk := hS.blk x2 hx2m
  have hml2 : m < x2.2.2.length := by rw [e2, List.length_set]; exact hml
  obtain ⟨id, hid, _⟩ := l_drop_at (l := x2.2.2) (i := m) hml2
  obtain ⟨y0, y1, y2, yi⟩ := id_at hblk.row hid
  have hB2 : bagE (trimS bag (ws.map (·.2)) i m).1 = 0 := bagE_lessId hB _
  have hPu := put b2 (trimS bag (ws.map (·.2)) i m).1 s M2 hS.bag.row
  have hp : putS (trimS bag (ws.map (·.2)) i m).1 s = putG (trimS bag (ws.map (·.2)) i m).1 s := if_neg (fun h => h hB2)
  rw [hp] at hPu
  unfold writeS at hc
  change (if (putG (trimS bag (ws.map (·.2)) i m).1 s).2.2 ≠ 0 then (zSt, (putG (trimS bag (ws.map (·.2)) i m).1 s).2.2) else (((putG (trimS bag (ws.map (·.2)) i m).1 s).1, setV (ws.map (·.2)) i m (putG (trimS bag (ws.map (·.2)) i m).1 s).2.1), 0)) = c at hc
  simp only [shs, zts, sos, sls, zss, eqs, sx, sb1, sb2, sb3, sb4, sb5, sb6, sb7, ↓reduceIte, zqa, zqb, zqc, zqd, zqe, zqf, reduceCtorEq, zra, zrb, zrc, zrd, zre, zrf, zrg, zrh, zri, zrj, zrk, zrl, zrm, zqg, nzs, stV, hS.bag.row.one, hS.vols.row.one]
  refine CallK.own (putT_ctx _ _) rfl rfl hPu rfl fun M3 hM3 => ?_
  generalize putG (trimS bag (ws.map (·.2)) i m).1 s = pg at *
  obtain ⟨pl, pid, pe⟩ := pg
  simp only at hc
  have hS3 := hS.le hM3
  by_cases h5 : pe = 0
  rotate_left
  · have c5 := eq_false h5
    rw [if_pos h5] at hc
    subst hc
    simp only [shs, zts, sos, sls, zss, eqs, sx, sb1, sb2, sb3, sb4, sb5, sb6, sb7, ↓reduceIte, zqa, zqb, zqc, zqd, zqe, zqf, reduceCtorEq, zra, zrb, zrc, zrd, zre, zrf, zrg, zrh, zri, zrj, zrk, zrl, zrm, zqg, nzs, putT, idS, c5, hS.vols.row.one]
    exact stO_zero _ _ _
  rw [if_neg (fun h => h h5)] at hc
  subst hc
  simp only [shs, zts, sos, sls, zss, eqs, sx, sb1, sb2, sb3, sb4, sb5, sb6, sb7, ↓reduceIte, zqa, zqb, zqc, zqd, zqe, zqf, reduceCtorEq, zra, zrb, zrc, zrd, zre, zrf, zrg, zrh, zri, zrj, zrk, zrl, zrm, zqg, nzs, putT, idS, h5, hS.vols.row.one]
  have g1' := vol_at hS3.volsM hx2
  refine DrawK.heldT 12 [120] (tk [2, 6, 7, 8] (.one 0 (.one 1 (tk [3, 4, 5, 9] (.one 10 (tk [11] .done)))))) (by kernel_rfl) (by kernel_rfl) fun xs => ?_
  simp only [shs, zts, sos, sls, zss, eqs, sx, sb1, sb2, sb3, sb4, sb5, sb6, sb7, ↓reduceIte, zqa, zqb, zqc, zqd, zqe, zqf, reduceCtorEq, zra, zrb, zrc, zrd, zre, zrf, zrg, zrh, zri, zrj, zrk, zrl, zrm, zqg, nzs, se1, se2, tks, i0, i0.2, g1'.2.1.1, g1'.2.1.2, yi, yi.2, stRD_ea, hS.vols.row.one]
  have hml3 : m < (x2.2.2.map encI3).length := by rw [List.length_map]; exact hml2
  have hget : (x2.2.2.map encI3).getD m [] = [.bool id.1, .int .i64 id.2.1, .int .i64 id.2.2] := getD_id hid
  refine OpK.turnF (es := x2.2.2.map encI3) rfl rfl (of_eq_true so89) rfl rfl rfl rfl (by rw [sh89]; rfl) (hS3.blk x2 hx2m) (hS.fw hx2m) hml3 (Nat.le_refl 3) fun M4 hb4 hr4 => ?_
  have hr5 : RowF M4 x2.1 3 ((x2.2.2.set m pid).map encI3) := by
    rw [hget] at hr4
    rw [← idsl_set]
    exact hr4
  have hS4 := hS3.turnB hx2 hb4 hr5
  simp only [shs, zts, sos, sls, zss, eqs, sx, sb1, sb2, sb3, sb4, sb5, sb6, sb7, ↓reduceIte, zqa, zqb, zqc, zqd, zqe, zqf, reduceCtorEq, zra, zrb, zrc, zrd, zre, zrf, zrg, zrh, zri, zrj, zrk, zrl, zrm, zqg, nzs]
  refine ⟨hS.vols.row.one, .own 304, .v v2, _, rfl, ?_, fun k _ h2 => (by cases h2), ⟨rfl, hS4.vols.row⟩, fun w hw => (hS4.blk w hw).row⟩
  have hv2 : ws2.map (·.2) = setV (ws.map (·.2)) i m hole := hw2
  show (ws2.set i (x2.1, x2.2.1, x2.2.2.set m pid)).map (·.2) = setV (ws.map (·.2)) i m pid
  rw [List.map_set, hv2, setV_at k4, setV_at k4, List.set_set, e2, List.set_set]
end Go.X.Vo

namespace Go.X.Vo
open Go Go.X Go.RowKit Go.X.Bg Go.X.Nm Go.X.Bp Go.X.Sb

theorem vclone (b v : Value) (bag : List It) (ws : List WV) (n to : List UInt8) (M : Mem) (hb : RowM M b 4 (bag.map Bg.encT)) (hv : VolsM M v ws) :
    Meets Proofs.Tryz.prog 36 [stV b v, .v (.string ⟨n.toArray⟩), .v (.string ⟨to.toArray⟩)] M (StM (fun s => .tup [s, .v (.int .i64 (cloneA bag (ws.map (·.2)) n to).2)]) (cloneA bag (ws.map (·.2)) n to).1) := by
  refine Meets.settleM (Ctx.fst _) ?_
  refine Meets.of_body [0,1,2,3,6,7,8,9,10,11,13,14,18,25,31,41,42,43,44,52] Proofs.Tryz.func36 rfl (by kernel_rfl) rfl fun w => ?_
  generalize hc : cloneA bag (ws.map (·.2)) n to = c
  unfold cloneA at hc
  have hC := vcheck b v bag ws M hb hv
  have hF := find b v ws n M hv
  simp only [stV] at hC hF
  simp only [Proofs.Tryz.f36, stV, shs, zts, sos, sls, zss, eqs, sx, sb1, sb2, sb3, sb4, sb5, sb6, sb7, ↓reduceIte, zqa, zqb, zqc, zqd, zqe, zqf, reduceCtorEq, zra, zrb, zrc, zrd, zre, zrf, zrg, zrh, zri, zrj, zrk, zrl, zrm, zqg, nzs]
  refine CallK.pure ⟨rfl, rfl⟩ rfl hC ?_
  by_cases h1 : stE bag (ws.map (·.2)) = 0
  rotate_left
  · have c1 := eq_false h1
    rw [if_pos h1] at hc
    subst hc
    simp only [shs, zts, sos, sls, zss, eqs, sx, sb1, sb2, sb3, sb4, sb5, sb6, sb7, ↓reduceIte, zqa, zqb, zqc, zqd, zqe, zqf, reduceCtorEq, zra, zrb, zrc, zrd, zre, zrf, zrg, zrh, zri, zrj, zrk, zrl, zrm, zqg, nzs, c1]
    exact stO_zero _ _ _
  rw [if_neg (fun h => h h1)] at hc
  obtain ⟨hB, hV, _⟩ := stE_ok h1
  have hVo := volsE_ok hV
  have hbl := bag_len hB
  have hsrt := vols_srt hV
  rw [List.length_map] at hVo
  have hli : ∀ w ∈ ws, w.2.2.length ≤ 32 := fun w hw => (hVo.2 w.2 (List.mem_map_of_mem hw)).1
  simp only [shs, zts, sos, sls, zss, eqs, sx, sb1, sb2, sb3, sb4, sb5, sb6, sb7, ↓reduceIte, zqa, zqb, zqc, zqd, zqe, zqf, reduceCtorEq, zra, zrb, zrc, zrd, zre, zrf, zrg, zrh, zri, zrj, zrk, zrl, zrm, zqg, nzs, h1]
  refine CallK.pure ⟨rfl, rfl⟩ rfl hF ?_
  by_cases h2 : volIx (ws.map (·.2)) n < 0
  · have c2 := eq_true h2
    rw [if_pos h2] at hc
    subst hc
    simp only [shs, zts, sos, sls, zss, eqs, sx, sb1, sb2, sb3, sb4, sb5, sb6, sb7, ↓reduceIte, zqa, zqb, zqc, zqd, zqe, zqf, reduceCtorEq, zra, zrb, zrc, zrd, zre, zrf, zrg, zrh, zri, zrj, zrk, zrl, zrm, zqg, nzs, c2]
    exact stO_zero _ _ _
  have c2 := eq_false h2
  rw [if_neg h2] at hc
  obtain ⟨i, x, k1, k2, k3, k4⟩ := volIx_at h2
  have hFr := vfresh b v ws to M hv hVo.1
  simp only [stV] at hFr
  rw [k1] at c2 hc ⊢
  simp only [zrm] at hc
  simp only [shs, zts, sos, sls, zss, eqs, sx, sb1, sb2, sb3, sb4, sb5, sb6, sb7, ↓reduceIte, zqa, zqb, zqc, zqd, zqe, zqf, reduceCtorEq, zra, zrb, zrc, zrd, zre, zrf, zrg, zrh, zri, zrj, zrk, zrl, zrm, zqg, nzs, c2]
  refine CallK.pure ⟨rfl, rfl⟩ rfl hFr ?_
  by_cases h4 : freshE (ws.map (·.2)) to = 0
  rotate_left
  · have c4 := eq_false h4
    rw [if_pos h4] at hc
    subst hc
    simp only [shs, zts, sos, sls, zss, eqs, sx, sb1, sb2, sb3, sb4, sb5, sb6, sb7, ↓reduceIte, zqa, zqb, zqc, zqd, zqe, zqf, reduceCtorEq, zra, zrb, zrc, zrd, zre, zrf, zrg, zrh, zri, zrj, zrk, zrl, zrm, zqg, nzs, c4]
    exact stO_zero _ _ _
  rw [if_neg (fun h => h h4)] at hc
  subst hc
  have hcp := copied b v bag ws M hb hv (by omega) (by omega) (fun w hw => Nat.le_trans (hli w hw) (by omega))
  simp only [stV] at hcp
  simp only [shs, zts, sos, sls, zss, eqs, sx, sb1, sb2, sb3, sb4, sb5, sb6, sb7, ↓reduceIte, zqa, zqb, zqc, zqd, zqe, zqf, reduceCtorEq, zra, zrb, zrc, zrd, zre, zrf, zrg, zrh, zri, zrj, zrk, zrl, zrm, zqg, nzs, h4]
  refine CallK.stF (T := fun s => s) (fun _ _ => rfl) rfl rfl hcp fun b2 v2 ws2 M2 hM2 hw2 hS => ?_
  have hw2' : ws2.map (·.2) = ws.map (·.2) := hw2
  obtain ⟨x2, hx2, e2⟩ := ws_at hw2' k4
  have hx2m := List.mem_of_getElem? hx2
  obtain ⟨_, g1, i0⟩ := vol_at hS.volsM hx2
  have hblk := hS.blk x2 hx2m
  have hbll := hblk.row.len_le
  have hl2 := ws_len hw2'
  have hil : i < ws.length := (List.getElem?_eq_some_iff.1 k2).1
  have hl32 : x2.2.2.length ≤ 32 := by rw [e2]; exact hli x (List.mem_of_getElem? k2)
  have hrf0 : ∀ z ∈ bag, 0 ≤ z.2.2.2 ∧ z.2.2.2 ≤ 1000000 := fun z hz => by
    have := (oneE_ok (bag_ok hB z hz)).2.2
    omega
  rw [List.length_map] at hbll
  simp only [shs, zts, sos, sls, zss, eqs, sx, sb1, sb2, sb3, sb4, sb5, sb6, sb7, ↓reduceIte, zqa, zqb, zqc, zqd, zqe, zqf, reduceCtorEq, zra, zrb, zrc, zrd, zre, zrf, zrg, zrh, zri, zrj, zrk, zrl, zrm, zqg, nzs, stV, hS.bag.row.one, hS.vols.row.one, i0, i0.2, g1.1, g1.2, hblk.row.len, hblk.row.sl, List.length_map]
  refine LoopK.go (X := Nat × Mem) (fun z => ([(2, true, .v (.string ⟨to.toArray⟩)), (3, true, .ptr 24 0 0 0), (6, true, .ptr 48 0 0 0), (9, true, .v (.int .i64 i)), (11, true, .ptr 88 0 0 0), (41, true, .v x2.1), (42, true, .v (.int .i64 x2.2.2.length)), (43, true, .v (.int .i64 z.1))],
      [(88, .box [.v b2, .v v2] none), (48, .box [.v (.slice none 0 0), .v (.slice none 0 0)] none), (24, .box [.v b, .v v] none)], z.2))
    (fun z => (z.1 ≤ x2.2.2.length ∧ M.le z.2) ∧ StF M z.2 b2 v2 ((x2.2.2.take z.1).foldl incId bag) ws2) (fun z => x2.2.2.length - z.1) (0, M2) ⟨⟨Nat.zero_le _, hM2⟩, hS⟩ (Ent.of ?_) ?_
  · simp only [sx, sb1, sb2, sb3, sb4, sb5, sb6, sb7, ↓reduceIte, zqa, zqb, zqc, zqd, zqe, zqf, reduceCtorEq, zra, zrb, zrc, zrd, zre, zrf, zrg, zrh, zri, zrj, zrk, zrl, zrm, zqg, zrk]
  rintro ⟨j, N⟩ ⟨⟨n1, nM⟩, n2⟩
  simp only at n1 nM n2
  have hblkN := n2.blk x2 hx2m
  by_cases hjl : j < x2.2.2.length
  · have d1 : ((j : Int) < (x2.2.2.length : Int)) = True := eq_true (by omega)
    obtain ⟨y, hy, _⟩ := l_drop_at (l := x2.2.2) (i := j) hjl
    obtain ⟨y0, y1, y2, yi⟩ := id_at hblkN.row hy
    have hst := foldl_take incId bag hy
    have hrf := incIds_ref (x2.2.2.take j) hrf0
    have htl : (x2.2.2.take j).length ≤ 32 := by rw [List.length_take]; omega
    have hblen := incIds_len (x2.2.2.take j) bag
    generalize (x2.2.2.take j).foldl incId bag = bj at *
    have hFi := Bg.find b2 bj y N n2.bag.row
    simp only [idV] at hFi
    simp only [shs, zts, sos, sls, zss, eqs, sx, sb1, sb2, sb3, sb4, sb5, sb6, sb7, ↓reduceIte, zqa, zqb, zqc, zqd, zqe, zqf, reduceCtorEq, zra, zrb, zrc, zrd, zre, zrf, zrg, zrh, zri, zrj, zrk, zrl, zrm, zqg, nzs, d1, yi, yi.2, y0.1, y0.2, y1.1, y1.2, y2.1, y2.2]
    refine CallK.pure ⟨rfl, rfl⟩ rfl hFi ?_
    rw [show fidx (isId y) bj 0 = idIx bj y from rfl]
    by_cases h5 : 0 ≤ idIx bj y
    · have d2 := eq_true h5
      rcases fidx_sp (isId y) bj 0 with ⟨q1, _⟩ | ⟨k, z, q1, q2, q3, _⟩
      · rw [show idIx bj y = fidx (isId y) bj 0 from rfl, q1] at h5; exact absurd h5 (by decide)
      rw [Nat.zero_add] at q1
      replace q1 : idIx bj y = (k : Int) := q1
      have e3 : incId bj y = setR bj k (z.2.2.2 + 1) := by
        unfold incId
        rw [if_pos h5, q1, zrm, atI_at q2]
      rw [e3] at hst
      have hzr := hrf z (List.mem_of_getElem? q2)
      have hkl := (List.getElem?_eq_some_iff.1 q2).1
      obtain ⟨_, ⟨_, z3⟩, zi⟩ := it_at n2.bag.row q2
      have hg := getD_it q2
      rw [q1] at d2 ⊢
      simp only [shs, zts, sos, sls, zss, eqs, sx, sb1, sb2, sb3, sb4, sb5, sb6, sb7, ↓reduceIte, zqa, zqb, zqc, zqd, zqe, zqf, reduceCtorEq, zra, zrb, zrc, zrd, zre, zrf, zrg, zrh, zri, zrj, zrk, zrl, zrm, zqg, nzs, d2, zi, zi.2, z3.1, z3.2, stRD_ea, inK, lo, hi]
      refine ⟨by omega, ?_⟩
      refine OpK.turnF (es := bj.map Bg.encT) rfl rfl (of_eq_true so3) rfl rfl rfl rfl (by rw [sh3]; rfl) n2.bag n2.fb (by rw [List.length_map]; exact hkl) (Nat.le_refl 4) fun M4 hb4 hr4 => ?_
      have hr5 : RowF M4 b2 4 ((setR bj k (z.2.2.2 + 1)).map Bg.encT) := by
        rw [hg] at hr4
        rw [← setR_map q2]
        exact hr4
      have hS4 := n2.turnBag hb4 hr5
      have hM4 := le_but nM n2.fb hb4
      simp only [shs, zts, sos, sls, zss, eqs, sx, sb1, sb2, sb3, sb4, sb5, sb6, sb7, ↓reduceIte, zqa, zqb, zqc, zqd, zqe, zqf, reduceCtorEq, zra, zrb, zrc, zrd, zre, zrf, zrg, zrh, zri, zrj, zrk, zrl, zrm, zqg, nzs, inK, lo, hi]
      refine ⟨by omega, (j + 1, M4), ⟨⟨⟨by simp only; omega, hM4⟩, by simp only [hst]; exact hS4⟩, by simp only; omega⟩, Ent.of ?_⟩
      simp only [sx, sb1, sb2, sb3, sb4, sb5, sb6, sb7, ↓reduceIte, zqa, zqb, zqc, zqd, zqe, zqf, reduceCtorEq, zra, zrb, zrc, zrd, zre, zrf, zrg, zrh, zri, zrj, zrk, zrl, zrm, zqg, Int.natCast_add]
    · have d2 := eq_false h5
      have e3 : incId bj y = bj := if_neg h5
      rw [e3] at hst
      simp only [shs, zts, sos, sls, zss, eqs, sx, sb1, sb2, sb3, sb4, sb5, sb6, sb7, ↓reduceIte, zqa, zqb, zqc, zqd, zqe, zqf, reduceCtorEq, zra, zrb, zrc, zrd, zre, zrf, zrg, zrh, zri, zrj, zrk, zrl, zrm, zqg, nzs, d2, inK, lo, hi]
      refine ⟨by omega, (j + 1, N), ⟨⟨⟨by simp only; omega, nM⟩, by simp only [hst]; exact n2⟩, by simp only; omega⟩, Ent.of ?_⟩
      simp only [sx, sb1, sb2, sb3, sb4, sb5, sb6, sb7, ↓reduceIte, zqa, zqb, zqc, zqd, zqe, zqf, reduceCtorEq, zra, zrb, zrc, zrd, zre, zrf, zrg, zrh, zri, zrj, zrk, zrl, zrm, zqg, Int.natCast_add]
  · have d1 : ((j : Int) < (x2.2.2.length : Int)) = False := eq_false (by omega)
    rw [List.take_of_length_le (by omega)] at n2
    obtain ⟨_, gN, iN⟩ := vol_at n2.volsM hx2
    simp only [shs, zts, sos, sls, zss, eqs, sx, sb1, sb2, sb3, sb4, sb5, sb6, sb7, ↓reduceIte, zqa, zqb, zqc, zqd, zqe, zqf, reduceCtorEq, zra, zrb, zrc, zrd, zre, zrf, zrg, zrh, zri, zrj, zrk, zrl, zrm, zqg, nzs, d1]
    refine DrawK.heldT 10 [88] (tk [0, 1, 2, 4, 3, 5, 6, 7] (.one 8 (tk [9] .done))) (by kernel_rfl) (by kernel_rfl) fun xs => ?_
    simp only [shs, zts, sos, sls, zss, eqs, sx, sb1, sb2, sb3, sb4, sb5, sb6, sb7, ↓reduceIte, zqa, zqb, zqc, zqd, zqe, zqf, reduceCtorEq, zra, zrb, zrc, zrd, zre, zrf, zrg, zrh, zri, zrj, zrk, zrl, zrm, zqg, nzs, se1, se2, tks, iN, iN.2, gN.1, gN.2]
    refine CallK.rowF Ctx.id rfl rfl (cloneI x2.1 x2.2.2 N hblkN.row (by omega)) fun u M3 hM3 hu huf => ?_
    simp only [shs, zts, sos, sls, zss, eqs, sx, sb1, sb2, sb3, sb4, sb5, sb6, sb7, ↓reduceIte, zqa, zqb, zqc, zqd, zqe, zqf, reduceCtorEq, zra, zrb, zrc, zrd, zre, zrf, zrg, zrh, zri, zrj, zrk, zrl, zrm, zqg, sp1, sp2, sp3, nzs, se1, se2, tks, oneVs hu.row.sl, hu.row.one]
    refine ⟨hM3, ?_⟩
    refine CallK.claim (A := fun s => [.agg [.v b2, s], wvV (u, to, x2.2.2)]) 1000 (hA_add b2 (wvV (u, to, x2.2.2)) rfl) rfl (n2.vols.le hM3) n2.fv rfl rfl fun M4 hb4 => ?_
    refine CallK.lendR (A := fun s => [.agg [.v b2, s], wvV (u, to, x2.2.2)]) (T := fun s => .agg [.v b2, s]) 8000 (hA_add b2 (wvV (u, to, x2.2.2)) rfl) (hT_agg b2) rfl rfl rfl (fun M6 _ => add b2 ws2 (u, to, x2.2.2) M6 n2.bag.row.one (fun w hw => (n2.blk w hw).row.one) hu.row.one (by rw [hw2']; exact hsrt) (by omega)) rfl ?_
    obtain ⟨q1, q2, q3⟩ := n2.added (n := to) nM hM3 hu huf hb4
    simp only [shs, zts, sos, sls, zss, eqs, sx, sb1, sb2, sb3, sb4, sb5, sb6, sb7, ↓reduceIte, zqa, zqb, zqc, zqd, zqe, zqf, reduceCtorEq, zra, zrb, zrc, zrd, zre, zrf, zrg, zrh, zri, zrj, zrk, zrl, zrm, zqg, sp1, sp2, sp3, nzs, se1, se2, tks, n2.bag.row.one]
    refine ⟨.v b2, .own 584, insW ws2 (u, to, x2.2.2), rfl, ?_, fun k h => (by cases h), ⟨?_, rfl⟩, q3⟩
    · rw [insW_map, hw2']
      simp only [cloneS, volAt_at k4, e2]
    · simp only [cloneS, volAt_at k4]
      rw [e2] at q2
      exact q2
end Go.X.Vo

namespace Go.Proofs
open Go.Shelf Go.RowKit Go.Lib Go.Sort
noncomputable def Tryz.slT : TypeInfo := (Tryz.prog.info? 45).get (by kernel_rfl)
end Go.Proofs
namespace Go.X.Bp
open Go Go.X Go.RowKit Go.X.Bg Go.X.Sb
end Go.X.Bp

namespace Go.X
open Go Go.RowKit
inductive Sch3 where
  | done
  | take (i : Nat) (n : Sch3)
  | one (i : Nat) (n : Sch3)
  | two (i : Nat) (n : Sch3) (j : Nat) (m : Sch3)
  | three (i : Nat) (n : Sch3) (j : Nat) (m : Sch3) (k : Nat) (q : Sch3)
def wpH3 (E : Env) (ops : List Oper) (Hs : HS) (Ms : Mem) (K : KP) : Sch3 → Sig → HS → Mem → Prop
  | .done, σ, H, M => K σ H M
  | .take i n, σ, H, M => opt1 (fun o => qtK E o Hs Ms (wpH3 E ops Hs Ms K n) σ H M (gdOf ops σ o.guard) o.dst) ops[i]?
  | .one i n, σ, H, M => opt1 (fun o => efK E o Hs Ms (wpH3 E ops Hs Ms K n) σ H M (gdOf ops σ o.guard)) ops[i]?
  | .two i n j m, σ, H, M => opt1 (fun o => efK E o Hs Ms (wpH3 E ops Hs Ms K n) σ H M (gdOf ops σ o.guard)) ops[i]? ∧ opt1 (fun o => efK E o Hs Ms (wpH3 E ops Hs Ms K m) σ H M (gdOf ops σ o.guard)) ops[j]?
  | .three i n j m k q, σ, H, M => opt1 (fun o => efK E o Hs Ms (wpH3 E ops Hs Ms K n) σ H M (gdOf ops σ o.guard)) ops[i]? ∧ opt1 (fun o => efK E o Hs Ms (wpH3 E ops Hs Ms K m) σ H M (gdOf ops σ o.guard)) ops[j]? ∧ opt1 (fun o => efK E o Hs Ms (wpH3 E ops Hs Ms K q) σ H M (gdOf ops σ o.guard)) ops[k]?
@[congr] theorem wpH3_congr {E : Env} {ops : List Oper} {Hs Hs' : HS} {Ms : Mem} {K : KP} {s : Sch3} {σ σ' : Sig} {H H' : HS} {M : Mem} (h0 : Hs = Hs') (h : σ = σ') (h' : H = H') : wpH3 E ops Hs Ms K s σ H M = wpH3 E ops Hs' Ms K s σ' H' M := by rw [h0, h, h']
section
variable {E : Env} {σ : Sig} {H Hs : HS} {M Ms : Mem} {ν ν' : Nat → Value} {a : Act} {w : World}
end
end Go.X

namespace Go.X.Vo
open Go Go.X Go.RowKit Go.X.Bg Go.X.Nm Go.X.Bp Go.X.Sb

/-- a deed -/
abbrev OpT := Int × List UInt8 × List UInt8 × Int × List UInt8
def opT (o : OpT) : SV := .agg [.v (.int .i64 o.1), .v (.string ⟨o.2.1.toArray⟩), .v (.string ⟨o.2.2.1.toArray⟩), .v (.int .i64 o.2.2.2.1), .v (.string ⟨o.2.2.2.2.toArray⟩)]
def doA (bag : List It) (l : List Vol) (o : OpT) : St × Int :=
  if o.1 = 1 then makeA bag l o.2.1 o.2.2.2.1 else if o.1 = 2 then dropA bag l o.2.1 else if o.1 = 5 then cloneA bag l o.2.1 o.2.2.1 else if o.1 = 4 then trimA bag l o.2.1 o.2.2.2.1 else writeA bag l o.2.1 o.2.2.2.1 o.2.2.2.2
theorem doA_right (bag : List It) (l : List Vol) (o : OpT) : stE (doA bag l o).1.1 (doA bag l o).1.2 = 0 := by
  unfold doA
  split
  · exact makeA_right _ _ _ _
  split
  · exact dropA_right _ _ _
  split
  · exact cloneA_right _ _ _ _
  split
  · exact trimA_right _ _ _ _
  · exact writeA_right _ _ _ _ _
end Go.X.Vo

namespace Go.X.Tv
open Go Go.X Go.X.Pol Go.X.Pl Go.X.Rp Go.X.Pd Go.X.Md Go.X.Mv Go.X.Pt

def be4 (p : Nat) : List UInt8 := [UInt8.ofNat (p / 16777216), UInt8.ofNat (p / 65536), UInt8.ofNat (p / 256), UInt8.ofNat p]
theorem ofNat_mod (x : Nat) : UInt8.ofNat (x % 256) = UInt8.ofNat x := by
  apply UInt8.toNat_inj.1
  simp
theorem byteW (x : Nat) : UInt8.ofNat (IntKind.u8.wrap (x : Int)).toNat = UInt8.ofNat x := by
  have h : (IntKind.u8.wrap (x : Int)).toNat = x % 256 := by
    rw [IntKind.wrap_u8]
    omega
  rw [h, ofNat_mod]
def saidN (a b : Nat) : List UInt8 := 110 :: (be4 a ++ be4 b)

theorem prf_le (m : Nat) (h0 : m ≠ 0) (hm : m ≤ 2147483647) : ∀ (s : List UInt8) (p : Nat), p ≤ 1073741824 → prf m s p ≤ 1073741824
  | [], p, h => h
  | b :: s, p, h => by
    simp only [prf, List.foldl_cons]
    exact prf_le m h0 hm s _ (red_le h0 hm)
/-! ### verifying -/
def G : Nat := 1073741907
def good (s : Int) : Prop := 0 ≤ s ∧ s ≤ 2147483647
instance (s : Int) : Decidable (good s) := inferInstanceAs (Decidable (_ ∧ _))
/-! ### the document's sides -/
end Go.X.Tv

