/- Contracts of functions and the logic that they are proved in (5 texts in one). Conditions: none. -/
import Derived.Test.YteebcojoghnlnaaGreatDoorMg19
import Derived.Test.YteebcojoghnlnaaGreatDoorMg17
import Derived.Test.YteebcojoghnlnaaGreatDoorMg16
import Derived.Test.YteebcojoghnlnaaGreatDoorMg18
namespace Go.X.Bg
end Go.X.Bg
namespace Go.X.Nm
end Go.X.Nm
namespace Go.X.Bp
end Go.X.Bp
namespace Go.X.Sb
end Go.X.Sb
set_option linter.unusedSimpArgs false
set_option linter.unusedVariables false
set_option maxHeartbeats 4000000
set_option maxRecDepth 20000
namespace Go.X.Vo
open Go Go.X Go.RowKit Go.X.Bg Go.X.Nm Go.X.Bp Go.X.Sb

theorem setV_get {l : List Vol} {i a : Nat} {id : Id3} {j : Nat} {x : Vol} (h : l[j]? = some x) : (setV l i a id)[j]? = some (if j = i then (x.1, x.2.set a id) else x) := by
  unfold setV
  rw [List.getElem?_set]
  by_cases e : i = j
  · subst e
    rw [if_pos rfl, if_pos (List.getElem?_eq_some_iff.1 h).1, if_pos rfl, volAt_at h]
  · rw [if_neg e, if_neg (fun h => e h.symm), h]
theorem rset (b v : Value) (bag : List It) (ws : List WV) (vi a : Nat) (id : Id3) (M : Mem) (hb : RowM M b 4 (bag.map Bg.encT)) (hv : VolsM M v ws) (hl : ws.length ≤ 1000) (hli : ∀ w ∈ ws, w.2.2.length ≤ 1000) (ha : ∀ x, ws[vi]? = some x → a < x.2.2.length) :
    Meets Proofs.Tryz.prog 111 [stV b v, .v (.int .i64 vi), .v (.int .i64 a), idS id] M (StM (fun s => s) (bag, setV (ws.map (·.2)) vi a id)) := by
  refine Meets.settleM Ctx.id ?_
  refine Meets.of_body [0,1,2,3,4,7,8,9,10,11,16,17,18,19,29] Proofs.Tryz.func111 rfl (by kernel_rfl) rfl fun w => ?_
  have hLg : ∀ (j : Nat) (x : WV), ws[j]? = some x → (setV (ws.map (·.2)) vi a id)[j]? = some (if j = vi then (x.2.1, x.2.2.set a id) else x.2) := fun j x hx => setV_get (by rw [List.getElem?_map, hx]; rfl)
  have hLl : (setV (ws.map (·.2)) vi a id).length = ws.length := by unfold setV; rw [List.length_set, List.length_map]
  generalize setV (ws.map (·.2)) vi a id = L at *
  simp only [Proofs.Tryz.f111, stV, idS, shs, zts, sos, sls, zss, eqs, sx, sb1, sb2, sb3, sb4, sb5, sb6, sb7, ↓reduceIte, Nat.reduceAdd, Nat.reduceMul, Nat.reduceDiv, Nat.reduceEqDiff, Nat.reduceLT, Nat.reduceLeDiff, reduceCtorEq, Int.reduceEq, Int.reduceNe, Int.reduceLT, Int.reduceLE, Int.reduceAdd, Int.reduceSub, Int.reduceMul, Int.reduceNeg, Int.reduceToNat, Int.cast_ofNat_Int, Int.natCast_zero, Int.natCast_one, Int.toNat_natCast, Nat.reduceBEq, nzs, hb.one, oneVs hb.sl, hv.row.one, hv.row.len, hv.row.sl, List.length_map]
  refine LoopK.nilBox 72 1 100 2 rfl rfl rfl rfl rfl ?_
  refine LoopK.go (X := Nat × List WV × Mem) (fun z => ([(1, true, .v (.int .i64 vi)), (2, true, .v (.int .i64 a)), (4, true, .ptr 32 0 0 0), (7, true, .ptr 56 0 0 0), (8, true, .ptr 64 0 0 0), (9, true, .ptr 72 0 0 0), (16, true, .v v), (17, true, .v (.int .i64 ws.length)), (18, true, .v (.int .i64 z.1))],
      [(800, .row 2 (z.2.1.map encV)), (72, .box [.v b, .own 800] none), (64, .box [.v (.slice none 0 0), .v (.slice none 0 0)] none), (56, .box [.v (.bool id.1), .v (.int .i64 id.2.1), .v (.int .i64 id.2.2)] none), (32, .box [.v b, .v v] none)], z.2.2))
    (fun z => (z.1 ≤ ws.length ∧ M.le z.2.2) ∧ z.2.1.map (·.2) = L.take z.1 ∧ ∀ w ∈ z.2.1, RowM z.2.2 w.1 3 (w.2.2.map encI3)) (fun z => ws.length - z.1) (0, [], M) ⟨⟨Nat.zero_le _, Mem.le.refl M⟩, rfl, fun w hw => by (cases hw)⟩ (Ent.of ?_) ?_
  · simp only [sx, sb1, sb2, sb3, sb4, sb5, sb6, sb7, ↓reduceIte, Nat.reduceAdd, Nat.reduceMul, Nat.reduceDiv, Nat.reduceEqDiff, Nat.reduceLT, Nat.reduceLeDiff, reduceCtorEq, Int.reduceEq, Int.reduceNe, Int.reduceLT, Int.reduceLE, Int.reduceAdd, Int.reduceSub, Int.reduceMul, Int.reduceNeg, Int.reduceToNat, Int.cast_ofNat_Int, Int.natCast_zero, Int.natCast_one, Int.toNat_natCast, Nat.reduceBEq, List.map_nil, Int.natCast_zero]
  rintro ⟨i, us, N⟩ ⟨⟨n1, nM⟩, n2, n3⟩
  simp only at n1 nM n2 n3
  have hul : us.length = i := by
    have := congrArg List.length n2
    rw [List.length_map, List.length_take] at this
    omega
  by_cases hil : i < ws.length
  rotate_left
  · have d1 : ((i : Int) < (ws.length : Int)) = False := eq_false (by omega)
    rw [List.take_of_length_le (by omega)] at n2
    simp only [shs, zts, sos, sls, zss, eqs, sx, sb1, sb2, sb3, sb4, sb5, sb6, sb7, ↓reduceIte, Nat.reduceAdd, Nat.reduceMul, Nat.reduceDiv, Nat.reduceEqDiff, Nat.reduceLT, Nat.reduceLeDiff, reduceCtorEq, Int.reduceEq, Int.reduceNe, Int.reduceLT, Int.reduceLE, Int.reduceAdd, Int.reduceSub, Int.reduceMul, Int.reduceNeg, Int.reduceToNat, Int.cast_ofNat_Int, Int.natCast_zero, Int.natCast_one, Int.toNat_natCast, Nat.reduceBEq, nzs, d1, hb.one]
    exact ⟨.v b, .own 800, us, rfl, n2, fun k h => (by cases h), ⟨hb.le nM, rfl⟩, n3⟩
  have d1 : ((i : Int) < (ws.length : Int)) = True := eq_true (by omega)
  obtain ⟨x, hx, _⟩ := l_drop_at (l := ws) (i := i) hil
  have hvN := hv.le nM
  obtain ⟨g0, g1, i0⟩ := vol_at hvN hx
  have hxm := List.mem_of_getElem? hx
  have hblk := hvN.blk x hxm
  have hxl := hli x hxm
  have hLx := hLg i x hx
  have hnext : ∀ (u : Value) (N3 : Mem) (l3 : List Id3), N.le N3 → RowM N3 u 3 (l3.map encI3) → (if i = vi then (x.2.1, x.2.2.set a id) else x.2) = (x.2.1, l3) → (us ++ [(u, x.2.1, l3)]).map (·.2) = L.take (i + 1) ∧ ∀ w ∈ us ++ [(u, x.2.1, l3)], RowM N3 w.1 3 (w.2.2.map encI3) := fun u N3 l3 h1 h2 h3 => by
    refine ⟨?_, fun w hw => ?_⟩
    · rw [List.take_add_one, hLx, h3, List.map_append, n2]
      rfl
    · rcases List.mem_append.1 hw with hw | hw
      · exact (n3 w hw).le h1
      · rw [List.mem_singleton.1 hw]; exact h2
  have hrow : ∀ (u : Value) (l3 : List Id3), us.map encV ++ [[.string ⟨x.2.1.toArray⟩, u]] = (us ++ [(u, x.2.1, l3)]).map encV := fun u l3 => by
    rw [List.map_append]; rfl
  simp only [shs, zts, sos, sls, zss, eqs, sx, sb1, sb2, sb3, sb4, sb5, sb6, sb7, ↓reduceIte, Nat.reduceAdd, Nat.reduceMul, Nat.reduceDiv, Nat.reduceEqDiff, Nat.reduceLT, Nat.reduceLeDiff, reduceCtorEq, Int.reduceEq, Int.reduceNe, Int.reduceLT, Int.reduceLE, Int.reduceAdd, Int.reduceSub, Int.reduceMul, Int.reduceNeg, Int.reduceToNat, Int.cast_ofNat_Int, Int.natCast_zero, Int.natCast_one, Int.toNat_natCast, Nat.reduceBEq, nzs, d1, i0, i0.2, g0.1, g0.2, g1.1, g1.2, hblk.one]
  refine CallK.own Ctx.id rfl rfl (cloneI x.1 x.2.2 N hblk (by omega)) rfl fun N2 hN2 => ?_
  by_cases hiv : i = vi
  · have c2 : ((i : Int) = (vi : Int)) = True := eq_true (by omega)
    have hal : a < x.2.2.length := ha x (by rw [← hiv]; exact hx)
    rw [if_pos hiv] at hnext
    have hset : (x.2.2.map encI3).set a [.bool id.1, .int .i64 id.2.1, .int .i64 id.2.2] = (x.2.2.set a id).map encI3 := by rw [List.map_set]; rfl
    simp only [shs, zts, sos, sls, zss, eqs, sx, sb1, sb2, sb3, sb4, sb5, sb6, sb7, ↓reduceIte, Nat.reduceAdd, Nat.reduceMul, Nat.reduceDiv, Nat.reduceEqDiff, Nat.reduceLT, Nat.reduceLeDiff, reduceCtorEq, Int.reduceEq, Int.reduceNe, Int.reduceLT, Int.reduceLE, Int.reduceAdd, Int.reduceSub, Int.reduceMul, Int.reduceNeg, Int.reduceToNat, Int.cast_ofNat_Int, Int.natCast_zero, Int.natCast_one, Int.toNat_natCast, Nat.reduceBEq, nzs, c2, List.length_map, hset]
    refine ⟨⟨by omega, by omega⟩, hal, OpK.pub (k := 200) rfl fun u N3 hN3 hu => OpK.step ?_⟩
    simp only [shs, zts, sos, sls, zss, eqs, sx, sb1, sb2, sb3, sb4, sb5, sb6, sb7, ↓reduceIte, Nat.reduceAdd, Nat.reduceMul, Nat.reduceDiv, Nat.reduceEqDiff, Nat.reduceLT, Nat.reduceLeDiff, reduceCtorEq, Int.reduceEq, Int.reduceNe, Int.reduceLT, Int.reduceLE, Int.reduceAdd, Int.reduceSub, Int.reduceMul, Int.reduceNeg, Int.reduceToNat, Int.cast_ofNat_Int, Int.natCast_zero, Int.natCast_one, Int.toNat_natCast, Nat.reduceBEq, sp1, sp2, sp3, nzs, hu.one, oneVs hu.sl, List.length_map, hul, hrow u (x.2.2.set a id), inK, lo, hi]
    obtain ⟨q1, q2⟩ := hnext u N3 (x.2.2.set a id) (hN2.trans hN3) hu rfl
    refine ⟨⟨by omega, by omega⟩, by omega, (i + 1, us ++ [(u, x.2.1, (x.2.2.set a id))], N3), ⟨⟨⟨by simp only; omega, nM.trans (hN2.trans hN3)⟩, q1, q2⟩, by simp only; omega⟩, Ent.rekeyB 72 1 312 100 2 _ rfl rfl rfl rfl rfl (Ent.of ?_)⟩
    simp only [sx, sb1, sb2, sb3, sb4, sb5, sb6, sb7, ↓reduceIte, Nat.reduceAdd, Nat.reduceMul, Nat.reduceDiv, Nat.reduceEqDiff, Nat.reduceLT, Nat.reduceLeDiff, reduceCtorEq, Int.reduceEq, Int.reduceNe, Int.reduceLT, Int.reduceLE, Int.reduceAdd, Int.reduceSub, Int.reduceMul, Int.reduceNeg, Int.reduceToNat, Int.cast_ofNat_Int, Int.natCast_zero, Int.natCast_one, Int.toNat_natCast, Nat.reduceBEq, Int.natCast_add]
  · have c2 : ((i : Int) = (vi : Int)) = False := eq_false (by omega)
    rw [if_neg hiv] at hnext
    simp only [shs, zts, sos, sls, zss, eqs, sx, sb1, sb2, sb3, sb4, sb5, sb6, sb7, ↓reduceIte, Nat.reduceAdd, Nat.reduceMul, Nat.reduceDiv, Nat.reduceEqDiff, Nat.reduceLT, Nat.reduceLeDiff, reduceCtorEq, Int.reduceEq, Int.reduceNe, Int.reduceLT, Int.reduceLE, Int.reduceAdd, Int.reduceSub, Int.reduceMul, Int.reduceNeg, Int.reduceToNat, Int.cast_ofNat_Int, Int.natCast_zero, Int.natCast_one, Int.toNat_natCast, Nat.reduceBEq, nzs, c2]
    refine OpK.pub (k := 200) rfl fun u N3 hN3 hu => OpK.step ?_
    simp only [shs, zts, sos, sls, zss, eqs, sx, sb1, sb2, sb3, sb4, sb5, sb6, sb7, ↓reduceIte, Nat.reduceAdd, Nat.reduceMul, Nat.reduceDiv, Nat.reduceEqDiff, Nat.reduceLT, Nat.reduceLeDiff, reduceCtorEq, Int.reduceEq, Int.reduceNe, Int.reduceLT, Int.reduceLE, Int.reduceAdd, Int.reduceSub, Int.reduceMul, Int.reduceNeg, Int.reduceToNat, Int.cast_ofNat_Int, Int.natCast_zero, Int.natCast_one, Int.toNat_natCast, Nat.reduceBEq, sp1, sp2, sp3, nzs, hu.one, oneVs hu.sl, List.length_map, hul, hrow u x.2.2, inK, lo, hi]
    obtain ⟨q1, q2⟩ := hnext u N3 x.2.2 (hN2.trans hN3) hu rfl
    refine ⟨⟨by omega, by omega⟩, by omega, (i + 1, us ++ [(u, x.2.1, x.2.2)], N3), ⟨⟨⟨by simp only; omega, nM.trans (hN2.trans hN3)⟩, q1, q2⟩, by simp only; omega⟩, Ent.rekeyB 72 1 312 100 2 _ rfl rfl rfl rfl rfl (Ent.of ?_)⟩
    simp only [sx, sb1, sb2, sb3, sb4, sb5, sb6, sb7, ↓reduceIte, Nat.reduceAdd, Nat.reduceMul, Nat.reduceDiv, Nat.reduceEqDiff, Nat.reduceLT, Nat.reduceLeDiff, reduceCtorEq, Int.reduceEq, Int.reduceNe, Int.reduceLT, Int.reduceLE, Int.reduceAdd, Int.reduceSub, Int.reduceMul, Int.reduceNeg, Int.reduceToNat, Int.cast_ofNat_Int, Int.natCast_zero, Int.natCast_one, Int.toNat_natCast, Nat.reduceBEq, Int.natCast_add]
theorem rtrim (b v : Value) (bag : List It) (ws : List WV) (vi a : Nat) (M : Mem) (hb : RowM M b 4 (bag.map Bg.encT)) (hv : VolsM M v ws) (hB : bagE bag = 0) (hl : ws.length ≤ 1000) (hli : ∀ w ∈ ws, w.2.2.length ≤ 1000) {x : WV} (hx : ws[vi]? = some x) (ha : a < x.2.2.length) :
    Meets Proofs.Tryz.prog 55 [stV b v, .v (.int .i64 vi), .v (.int .i64 a)] M (StM (fun s => s) (trimS bag (ws.map (·.2)) vi a)) := by
  refine Meets.of_body [0,1,2,3,6,7,8,24] Proofs.Tryz.func55 rfl (by kernel_rfl) rfl fun w => ?_
  have hS := rset b v bag ws vi a hole M hb hv hl hli (fun y hy => by rw [hx] at hy; cases hy; exact ha)
  obtain ⟨_, g1, i0⟩ := vol_at hv hx
  have hblk := hv.blk x (List.mem_of_getElem? hx)
  obtain ⟨id, hid, _⟩ := l_drop_at (l := x.2.2) (i := a) ha
  obtain ⟨y0, y1, y2, yi⟩ := id_at hblk hid
  have k4 : (ws.map (·.2))[vi]? = some x.2 := by rw [List.getElem?_map, hx]; rfl
  have hidAt : idAt (ws.map (·.2)) vi a = id := by unfold idAt; rw [volAt_at k4, hid]; rfl
  have hbe : (trimS bag (ws.map (·.2)) vi a).1 = lessId bag id := by simp only [trimS, hidAt]
  simp only [stV, idS, hole] at hS
  obtain ⟨q0, q1, q2⟩ := id
  simp only at y0 y1 y2
  simp only [Proofs.Tryz.f55, stV, shs, zts, sos, sls, zss, eqs, sx, sb1, sb2, sb3, sb4, sb5, sb6, sb7, ↓reduceIte, Nat.reduceAdd, Nat.reduceMul, Nat.reduceDiv, Nat.reduceEqDiff, Nat.reduceLT, Nat.reduceLeDiff, reduceCtorEq, Int.reduceEq, Int.reduceNe, Int.reduceLT, Int.reduceLE, Int.reduceAdd, Int.reduceSub, Int.reduceMul, Int.reduceNeg, Int.reduceToNat, Int.cast_ofNat_Int, Int.natCast_zero, Int.natCast_one, Int.toNat_natCast, Nat.reduceBEq, nzs, hb.one, hv.row.one, i0, i0.2, g1.1, g1.2, yi, yi.2, y0.1, y0.2, y1.1, y1.2, y2.1, y2.2]
  refine CallK.stM (T := fun s => s) (fun _ _ => rfl) rfl rfl hS fun b2 v2 ws2 M2 hM2 hw2 hb2 hv2 => ?_
  cases q0 with
  | false =>
    have e1 : lessId bag (false, q1, q2) = bag := if_neg (fun h => by cases h)
    simp only [shs, zts, sos, sls, zss, eqs, sx, sb1, sb2, sb3, sb4, sb5, sb6, sb7, ↓reduceIte, Nat.reduceAdd, Nat.reduceMul, Nat.reduceDiv, Nat.reduceEqDiff, Nat.reduceLT, Nat.reduceLeDiff, reduceCtorEq, Int.reduceEq, Int.reduceNe, Int.reduceLT, Int.reduceLE, Int.reduceAdd, Int.reduceSub, Int.reduceMul, Int.reduceNeg, Int.reduceToNat, Int.cast_ofNat_Int, Int.natCast_zero, Int.natCast_one, Int.toNat_natCast, Nat.reduceBEq, nzs, stV, hb2.one, hv2.row.one]
    exact ⟨b2, v2, ws2, rfl, hw2, by rw [hbe, e1]; exact hb2, hv2⟩
  | true =>
    have e1 : lessId bag (true, q1, q2) = (lessG bag (true, q1, q2)).1 := if_pos rfl
    have hR := Meets.rows (rless b2 bag (true, q1, q2) M2 hb2 hB)
    simp only [idS] at hR
    simp only [shs, zts, sos, sls, zss, eqs, sx, sb1, sb2, sb3, sb4, sb5, sb6, sb7, ↓reduceIte, Nat.reduceAdd, Nat.reduceMul, Nat.reduceDiv, Nat.reduceEqDiff, Nat.reduceLT, Nat.reduceLeDiff, reduceCtorEq, Int.reduceEq, Int.reduceNe, Int.reduceLT, Int.reduceLE, Int.reduceAdd, Int.reduceSub, Int.reduceMul, Int.reduceNeg, Int.reduceToNat, Int.cast_ofNat_Int, Int.natCast_zero, Int.natCast_one, Int.toNat_natCast, Nat.reduceBEq, nzs, stV, hb2.one, hv2.row.one]
    refine CallK.row (T := fun s => .tup [s, .v (.int .i64 (lessG bag (true, q1, q2)).2)]) (Ctx.fst _) rfl rfl hR fun b3 M3 hM3 hb3 => ?_
    simp only [shs, zts, sos, sls, zss, eqs, sx, sb1, sb2, sb3, sb4, sb5, sb6, sb7, ↓reduceIte, Nat.reduceAdd, Nat.reduceMul, Nat.reduceDiv, Nat.reduceEqDiff, Nat.reduceLT, Nat.reduceLeDiff, reduceCtorEq, Int.reduceEq, Int.reduceNe, Int.reduceLT, Int.reduceLE, Int.reduceAdd, Int.reduceSub, Int.reduceMul, Int.reduceNeg, Int.reduceToNat, Int.cast_ofNat_Int, Int.natCast_zero, Int.natCast_one, Int.toNat_natCast, Nat.reduceBEq, nzs, hb3.one, hv2.row.one, oneVs hb3.sl]
    exact ⟨b3, v2, ws2, rfl, hw2, by rw [hbe, e1]; exact hb3, hv2.le hM3⟩
theorem rwrite (b v : Value) (bag : List It) (ws : List WV) (vi a : Nat) (s : List UInt8) (M : Mem) (hb : RowM M b 4 (bag.map Bg.encT)) (hv : VolsM M v ws) (hB : bagE bag = 0) (hl : ws.length ≤ 1000) (hli : ∀ w ∈ ws, w.2.2.length ≤ 1000) {x : WV} (hx : ws[vi]? = some x) (ha : a < x.2.2.length) :
    Meets Proofs.Tryz.prog 60 [stV b v, .v (.int .i64 vi), .v (.int .i64 a), .v (.string ⟨s.toArray⟩)] M (StM (fun t => .tup [t, .v (.int .i64 (writeS bag (ws.map (·.2)) vi a s).2)]) (writeS bag (ws.map (·.2)) vi a s).1) := by
  refine Meets.of_body [0,1,2,3,4,8,9,10,11,12,13,27] Proofs.Tryz.func60 rfl (by kernel_rfl) rfl fun w => ?_
  have hT := rtrim b v bag ws vi a M hb hv hB hl hli hx ha
  have hB2 : bagE (trimS bag (ws.map (·.2)) vi a).1 = 0 := bagE_lessId hB _
  generalize hc : writeS bag (ws.map (·.2)) vi a s = c
  unfold writeS at hc
  change (if (putG (trimS bag (ws.map (·.2)) vi a).1 s).2.2 ≠ 0 then (zSt, (putG (trimS bag (ws.map (·.2)) vi a).1 s).2.2) else (((putG (trimS bag (ws.map (·.2)) vi a).1 s).1, setV (ws.map (·.2)) vi a (putG (trimS bag (ws.map (·.2)) vi a).1 s).2.1), 0)) = c at hc
  have k4 : (ws.map (·.2))[vi]? = some x.2 := by rw [List.getElem?_map, hx]; rfl
  have hil := (List.getElem?_eq_some_iff.1 k4).1
  simp only [stV] at hT
  simp only [Proofs.Tryz.f60, stV, shs, zts, sos, sls, zss, eqs, sx, sb1, sb2, sb3, sb4, sb5, sb6, sb7, ↓reduceIte, Nat.reduceAdd, Nat.reduceMul, Nat.reduceDiv, Nat.reduceEqDiff, Nat.reduceLT, Nat.reduceLeDiff, reduceCtorEq, Int.reduceEq, Int.reduceNe, Int.reduceLT, Int.reduceLE, Int.reduceAdd, Int.reduceSub, Int.reduceMul, Int.reduceNeg, Int.reduceToNat, Int.cast_ofNat_Int, Int.natCast_zero, Int.natCast_one, Int.toNat_natCast, Nat.reduceBEq, nzs, hb.one, hv.row.one]
  refine CallK.stM (T := fun s => s) (fun _ _ => rfl) rfl rfl hT fun b2 v2 ws2 M2 hM2 hw2 hb2 hv2 => ?_
  have hPu := Meets.rows (rput b2 (trimS bag (ws.map (·.2)) vi a).1 s M2 hb2 hB2)
  have hw2' : ws2.map (·.2) = setV (ws.map (·.2)) vi a hole := hw2
  have hl2 : ws2.length = ws.length := by
    have := congrArg List.length hw2'
    unfold setV at this
    rwa [List.length_map, List.length_set, List.length_map] at this
  have hset2 : setV (ws.map (·.2)) vi a hole = (ws.map (·.2)).set vi (x.2.1, x.2.2.set a hole) := setV_at k4 a hole
  have hli2 : ∀ w ∈ ws2, w.2.2.length ≤ 1000 := fun w hw => by
    have h1 : w.2 ∈ ws2.map (·.2) := List.mem_map_of_mem hw
    rw [hw2', hset2] at h1
    rcases List.mem_or_eq_of_mem_set h1 with h1 | h1
    · obtain ⟨y, hy, e⟩ := List.mem_map.1 h1
      rw [← e]; exact hli y hy
    · rw [h1]
      simp only [List.length_set]
      exact hli x (List.mem_of_getElem? hx)
  have ha2 : ∀ y, ws2[vi]? = some y → a < y.2.2.length := fun y hy => by
    have h1 : (ws2.map (·.2))[vi]? = some y.2 := by rw [List.getElem?_map, hy]; rfl
    rw [hw2', hset2, List.getElem?_set_self hil] at h1
    rw [← Option.some.inj h1]
    simp only [List.length_set]
    exact ha
  simp only [shs, zts, sos, sls, zss, eqs, sx, sb1, sb2, sb3, sb4, sb5, sb6, sb7, ↓reduceIte, Nat.reduceAdd, Nat.reduceMul, Nat.reduceDiv, Nat.reduceEqDiff, Nat.reduceLT, Nat.reduceLeDiff, reduceCtorEq, Int.reduceEq, Int.reduceNe, Int.reduceLT, Int.reduceLE, Int.reduceAdd, Int.reduceSub, Int.reduceMul, Int.reduceNeg, Int.reduceToNat, Int.cast_ofNat_Int, Int.natCast_zero, Int.natCast_one, Int.toNat_natCast, Nat.reduceBEq, nzs, stV, hb2.one, hv2.row.one]
  refine CallK.row (putT_ctx _ _) rfl rfl hPu fun b3 M3 hM3 hb3 => ?_
  generalize putG (trimS bag (ws.map (·.2)) vi a).1 s = pg at *
  obtain ⟨pl, pid, pe⟩ := pg
  simp only at hc hb3
  by_cases h5 : pe = 0
  rotate_left
  · have c5 := eq_false h5
    rw [if_pos h5] at hc
    subst hc
    simp only [shs, zts, sos, sls, zss, eqs, sx, sb1, sb2, sb3, sb4, sb5, sb6, sb7, ↓reduceIte, Nat.reduceAdd, Nat.reduceMul, Nat.reduceDiv, Nat.reduceEqDiff, Nat.reduceLT, Nat.reduceLeDiff, reduceCtorEq, Int.reduceEq, Int.reduceNe, Int.reduceLT, Int.reduceLE, Int.reduceAdd, Int.reduceSub, Int.reduceMul, Int.reduceNeg, Int.reduceToNat, Int.cast_ofNat_Int, Int.natCast_zero, Int.natCast_one, Int.toNat_natCast, Nat.reduceBEq, nzs, putT, idS, c5, hb2.one, hv2.row.one, hb3.one]
    exact ⟨_, _, [], rfl, rfl, RowM.nil _ _, zero_volsM _ |>.2⟩
  rw [if_neg (fun h => h h5)] at hc
  subst hc
  have hS := rset b2 v2 (trimS bag (ws.map (·.2)) vi a).1 ws2 vi a pid M3 (hb2.le hM3) (hv2.le hM3) (by omega) hli2 ha2
  rw [hw2', setV_setV hil] at hS
  simp only [stV, idS] at hS
  simp only [shs, zts, sos, sls, zss, eqs, sx, sb1, sb2, sb3, sb4, sb5, sb6, sb7, ↓reduceIte, Nat.reduceAdd, Nat.reduceMul, Nat.reduceDiv, Nat.reduceEqDiff, Nat.reduceLT, Nat.reduceLeDiff, reduceCtorEq, Int.reduceEq, Int.reduceNe, Int.reduceLT, Int.reduceLE, Int.reduceAdd, Int.reduceSub, Int.reduceMul, Int.reduceNeg, Int.reduceToNat, Int.cast_ofNat_Int, Int.natCast_zero, Int.natCast_one, Int.toNat_natCast, Nat.reduceBEq, nzs, putT, idS, h5, hb2.one, hv2.row.one, hb3.one]
  refine CallK.stM (T := fun s => s) (fun _ _ => rfl) rfl rfl hS fun b4 v4 ws4 M4 hM4 hw4 hb4 hv4 => ?_
  simp only [shs, zts, sos, sls, zss, eqs, sx, sb1, sb2, sb3, sb4, sb5, sb6, sb7, ↓reduceIte, Nat.reduceAdd, Nat.reduceMul, Nat.reduceDiv, Nat.reduceEqDiff, Nat.reduceLT, Nat.reduceLeDiff, reduceCtorEq, Int.reduceEq, Int.reduceNe, Int.reduceLT, Int.reduceLE, Int.reduceAdd, Int.reduceSub, Int.reduceMul, Int.reduceNeg, Int.reduceToNat, Int.cast_ofNat_Int, Int.natCast_zero, Int.natCast_one, Int.toNat_natCast, Nat.reduceBEq, nzs, stV, hb4.one, hv4.row.one, hb3.one, oneVs hb3.sl]
  exact ⟨b3, v4, ws4, rfl, hw4, hb3.le hM4, hv4⟩
end Go.X.Vo

namespace Go.X
open Go Go.RowKit
section
variable {E : Env} {σ : Sig} {H : HS} {M : Mem} {a : Act} {w : World} {ν : Nat → Value} {K : KP} {o : Oper}
/-- what a comparison does in every world where it finds the row, and the box with the slice at its place -/
def LessCJ {α : Type} [Inhabited α] (P : Program) (g : Nat) (enc : α → List Value) (k : Nat) (lt : α → α → Bool) (size jb : Nat) : Prop :=
  ∀ (W : World) (Bs blk c : Nat) (dk : Array α), dk.size = size → W.cell? ⟨Bs, jb, none⟩ = some (.slice (some ⟨blk, 0, none⟩) size c) → (∀ t u, t < size → u < k → W.cell? ⟨blk, 0 + t * k + u, none⟩ = some ((enc dk[t]!)[u]!)) →
    ∀ i j : Nat, i < size → j < size → Calls P g #[.int .i64 i, .int .i64 j, .pointer (some ⟨Bs, 0, none⟩)] W fun e w' => e = .returned (.bool (lt dk[i]! dk[j]!)) ∧ ∃ q, w' = W.drewN q
theorem CallK.sortRowJ {α : Type} [Inhabited α] {f d g t : Nat} (kr kb jb : Nat) (enc : α → List Value) (k : Nat) (lt : α → α → Bool) (l : List α) {b cap : Nat} {sp : List Value} {cs : List SV} {tb : Option Value}
    (hk : hget H kr = some (.box (opn ((l.map enc).flatten ++ sp)) (some (ptrV b)))) (hkb : hget H kb = some (.box cs tb)) (hcj : cs[jb]? = some (.v (.slice (some ⟨b, 0, none⟩) l.length cap))) (hne : decide (kb ≠ kr) = true)
    (henc : ∀ x, (enc x).length = k) (hd : decide (d < E.N) = true) (hsz : l.length < 4611686018427387904) (hcl : ∃ fn, E.P.funcs[f]? = some fn ∧ (fn.name == "runtime.NumGoroutine") = false ∧ fn.body.isNone = false)
    (hS : SortC E.P f g t enc k lt) (hL : LessCJ E.P g enc k lt l.length jb)
    (hK : ∀ l' : List α, l'.Perm l → l'.Pairwise (fun x y => lt y x = false) → K ((d, true, .v (.tuple #[])) :: σ) (hset kr (.box (opn ((l'.map enc).flatten ++ sp)) (some (ptrV b))) H) M) :
    CallK E f [.v (.iface t (.slice (some ⟨b, 0, none⟩) l.length cap)), .fn g [.ptr kb 0 0 0]] d K σ H M := by
  intro ν a w hs hh
  refine .inl ⟨hcl, ?_⟩
  obtain ⟨⟨b', T, e1, e2⟩, e3⟩ := hh.holds _ (hget_mem hk)
  have e4 := e3 _ rfl
  simp only at e1 e4
  rw [e4] at e1
  cases e1
  rw [opn_vals] at e2
  obtain ⟨⟨bb, T', f1, f2⟩, _⟩ := hh.holds _ (hget_mem hkb)
  simp only at f1 f2
  have fj : (SV.vals ν cs).toArray[jb]? = some (.slice (some ⟨b, 0, none⟩) l.length cap) := by
    rw [List.getElem?_toArray, SV.vals_map, List.getElem?_map, hcj]
    rfl
  have hbb : bb ≠ b := by
    rintro rfl
    exact blk_ne hh hk (b := bb) (by rw [e4]; rfl) _ (hget_mem hkb) (of_decide_eq_true hne) (by simp only [f1]; rfl)
  have hlt : b < w.heap.size := (Array.getElem?_eq_some_iff.1 e2).1
  have hltb : bb < w.heap.size := (Array.getElem?_eq_some_iff.1 f2).1
  have hv : (SV.vals ν [.v (.iface t (.slice (some ⟨b, 0, none⟩) l.length cap)), .fn g [.ptr kb 0 0 0]]).toArray = #[.iface t (.slice (some ⟨b, 0, none⟩) l.length cap), .func (.func g) #[] #[.pointer (some ⟨bb, 0, none⟩)]] := by
    simp [SV.vals, SV.val, f1, bOf]
  rw [hv]
  have hfin : ∀ l' : List α, l'.Perm l → l'.Pairwise (fun x y => lt y x = false) → ∀ w', Heap E ν (hset kr (.box (opn ((l'.map enc).flatten ++ sp)) (some (ptrV b))) H) M w' →
      ∃ σ' H' M', Rep E σ' H' M' (a.put (some d) (.tuple #[])) w' ∧ K σ' H' M' := fun l' h1 h2 w' h3 => ⟨_, _, _, ⟨ν, hs.put (of_decide_eq_true hd) rfl, h3⟩, hK l' h1 h2⟩
  rcases Nat.lt_or_ge 1 l.length with h2 | h1
  rotate_left
  · refine (hS.1 (some ⟨b, 0, none⟩) l.length cap h1 #[.pointer (some ⟨bb, 0, none⟩)] w).mono ?_
    rintro e w' ⟨rfl, os, rfl⟩
    refine ⟨_, rfl, hfin l (List.Perm.refl l) ?_ _ ?_⟩
    · match l, h1 with
      | [], _ => exact .nil
      | [x], _ => exact List.pairwise_singleton _ _
    · have := hh.grow (below_grow w os 0)
      have hs2 : hset kr (.box (opn ((l.map enc).flatten ++ sp)) (some (ptrV b))) H = H := hset_self hk
      rw [hs2]
      exact this
  · have hH : Sort.HoldsK enc k w b 0 l.toArray := fun j hj => by
      have hf := flatK_flat henc l.toArray
      have hj2 : j < (Sort.flatK enc k l.toArray).toList.length := by simpa using hj
      have hx : ((l.map enc).flatten ++ sp)[j]? = some ((Sort.flatK enc k l.toArray)[j]!) := by
        rw [show (l.map enc).flatten = (Sort.flatK enc k l.toArray).toList from hf.symm, List.getElem?_append_left hj2, Array.getElem?_toList, getElem!_pos _ j (by simpa using hj)]
        exact Array.getElem?_eq_getElem _
      refine ⟨?_, ?_⟩
      · rw [cell_of_heap e2, Nat.zero_add]
        exact hx
      · simp [World.frozen?, e2]
    have hless : Proofs.LessReadsK E.P g #[.pointer (some ⟨bb, 0, none⟩)] enc k lt b 0 l.toArray.size w := by
      intro m os dk hs i j hi hj
      have e : Proofs.sortWorldK enc k w b 0 m dk os = Sort.putRowK enc k (Sort.grow (Sort.ahead w m) os) b 0 dk := by
        unfold Proofs.sortWorldK; rw [Sort.putRowK_grow _ _ (Sort.ahead w m) _ b 0 _ hlt]
      have hHg : Sort.HoldsK enc k (Sort.grow (Sort.ahead w m) os) b 0 l.toArray := Sort.holdsK_grow _ _ _ _ b 0 _ hlt (Sort.holdsK_ahead _ _ _ _ _ _ _ hH)
      refine hL _ bb b cap dk (by simpa using hs) ?_ (fun t u ht hu => ?_) i j (by simpa using hi) (by simpa using hj)
      · rw [e, Sort.cell?_putRowK_other _ _ _ b 0 dk _ (by exact hbb), Sort.cell?_grow _ _ _ (by exact hltb)]
        show w.cell? ⟨bb, jb, none⟩ = _
        rw [cell_of_heap f2, ← List.getElem?_toArray]
        exact fj
      · rw [e]
        exact ((Sort.holdsK_putRowK _ _ _ b 0 l.toArray dk hHg hs).cell (i := t) (c := u) (by rw [hs]; simpa using ht) hu).1
    refine (hS.2 b cap l.toArray (by simp only [List.size_toArray]; omega) (by simpa using hsz) #[.pointer (some ⟨bb, 0, none⟩)] w hless hH hlt).mono ?_
    rintro e w' ⟨rfl, d', n, os, hp, hso, rfl⟩
    have hsd : d'.size = l.length := by simpa using hp.1
    refine ⟨_, rfl, hfin d'.toList ?_ ?_ _ ?_⟩
    · have := hp.2.2
      rw [Array.extract_eq_self_of_le (by rw [hsd]; simp), Array.extract_eq_self_of_le (by simp)] at this
      exact this
    · rw [List.pairwise_iff_getElem]
      intro i j hi hj hij
      have := hso i j (Nat.zero_le _) hij (by simpa [hsd] using hj)
      rw [getElem!_pos _ i (by simpa using hi), getElem!_pos _ j (by simpa using hj)] at this
      simpa using this
    · have hF : (Sort.flatK enc k d').size = ((l.map enc).flatten).length := by rw [flat_len henc, Sort.size_flatK, hsd]
      have hpw : Heap E ν (hset kr (.box (opn ((d'.toList.map enc).flatten ++ sp)) (some (ptrV b))) H) M (Sort.putRowK enc k w b 0 d') := by
        refine hh.upd hk (b := b) (by rw [e4]; rfl) (fun j hj => ?_) ?_ ⟨rfl, rfl, rfl⟩ ⟨⟨b, T, e4, ?_⟩, fun v hv => ?_⟩
        · simp only [Sort.putRowK, Sort.putRow, Sort.mapBlock, Array.getElem?_modify]
          rw [if_neg (fun h => hj h.symm)]
        · simp [Sort.putRowK, Sort.putRow, Sort.mapBlock]
        · rw [opn_vals]
          simp only [Sort.putRowK, Sort.putRow, Sort.mapBlock, Array.getElem?_modify, e2, if_true, Option.map_some, Sort.onCells]
          rw [putCells_flat hF, flatK_flat henc]
        · cases hv
          exact e4
      exact hpw.grow (w' := Sort.grow (Sort.putRowK enc k (Sort.ahead w n) b 0 d') os) (below_grow (Sort.putRowK enc k w b 0 d') os n)
end
end Go.X

namespace Go.Proofs
open Go.Shelf Go.RowKit Go.Lib Go.Sort
set_option maxHeartbeats 2000000 in
/-- the closure of woolref.with -/
theorem Tryz.withLess (blk off c Bs size : Nat) (W : World) (G : Nat → ByteArray) (hs : W.cell? ⟨Bs, 1, none⟩ = some (.slice (some ⟨blk, off, none⟩) size c))
    (hc : ∀ t, t < size → W.cell? ⟨blk, off + t * 2, none⟩ = some (.string (G t))) (i j : Nat) (hi : i < size) (hj : j < size) (_hsz : size < 4611686018427387904) :
    Calls Tryz.prog 110 #[.int .i64 i, .int .i64 j, .pointer (some ⟨Bs, 0, none⟩)] W fun e w' => e = .returned (.bool (Op.bytesLess (G i).data.toList (G j).data.toList)) ∧ ∃ q, w' = W.drewN q := by
  have ci := hc i hi
  have cj := hc j hj
  go_enter Tryz.func110, Tryz.ntmps110
  go_wp2
  go_quiet (fail)
  go_wp2
  go_ret
  refine ⟨?_, nq, rfl⟩
  rw [← ByteArray.toList_eq, ← ByteArray.toList_eq]
  rfl
noncomputable def Tryz.svT : TypeInfo := (Tryz.prog.info? 23).get (by kernel_rfl)
noncomputable def Tryz.svE : TypeInfo := (Tryz.prog.info? 47).get (by kernel_rfl)
theorem Tryz.svK (n : Nat) (h2 : 2 ≤ n) : Lib.swapperK n Tryz.svE 25 = 9 := by
  have a : Tryz.svE.hasPointers = true := by kernel_rfl
  have b : Tryz.svE.bytes = 40 := by kernel_rfl
  have c : (n == 0) = false := by simp; omega
  have d : (n == 1) = false := by simp; omega
  simp [Lib.swapperK, a, b, c, d]
end Go.Proofs
namespace Go.X.Vo
open Go Go.X Go.RowKit Go.X.Bg Go.X.Nm Go.X.Bp
theorem less_neg {a b c : List UInt8} (h1 : Op.bytesLess a b = false) (h2 : Op.bytesLess b c = false) : Op.bytesLess a c = false := by
  have t1 := less_tri b a
  have t2 := less_tri c b
  have t3 := less_tri c a
  rw [h1, Bool.not_false, Bool.or_eq_true, decide_eq_true_eq] at t1
  rw [h2, Bool.not_false, Bool.or_eq_true, decide_eq_true_eq] at t2
  rcases t2 with t2 | rfl
  · rcases t1 with t1 | rfl
    · rw [less_trans t2 t1, Bool.true_or] at t3
      simpa using t3.symm
    · rw [t2, Bool.true_or] at t3
      simpa using t3.symm
  · exact h1
theorem swoW : Sort.SWO ltW := by
  refine ⟨fun x => less_irr _, fun x y z h1 h2 => less_trans h1 h2, fun x y z h1 h2 => less_neg h1 h2⟩
/-- a cell for every volume -/
def encW (w : WV) : List Value := [.string ⟨w.2.1.toArray⟩, bif w.1.oneCell' then w.1 else .bool false]
theorem encW_len (x : WV) : (encW x).length = 2 := rfl
theorem encW_one (x : WV) : ∀ c ∈ encW x, c.oneCell' = true := fun c hc => by
  simp only [encW, List.mem_cons, List.not_mem_nil, or_false] at hc
  rcases hc with rfl | rfl
  · rfl
  · cases h : x.1.oneCell'
    · rfl
    · exact h
theorem encW_eq {w : WV} (h : w.1.oneCell' = true) : encW w = encV w := by unfold encW encV; rw [h]; rfl
theorem encW_map {l : List WV} (h : ∀ w ∈ l, w.1.oneCell' = true) : l.map encW = l.map encV := List.map_congr_left fun w hw => encW_eq (h w hw)
theorem srtLessW (size : Nat) (hsz : size < 4611686018427387904) : LessCJ Proofs.Tryz.prog 110 encW 2 ltW size 1 := fun W Bs blk c dk hdk h1 h2 i j hi hj => by
  refine (Proofs.Tryz.withLess blk 0 c Bs size W (fun t => ⟨(dk[t]!).2.1.toArray⟩) h1 (fun t ht => h2 t 0 ht (by omega)) i j hi hj hsz).mono ?_
  rintro e w' ⟨rfl, q⟩
  exact ⟨rfl, q⟩
theorem sortCW : SortC Proofs.Tryz.prog 109 110 23 encW 2 ltW := by
  refine ⟨fun p n c hn lb w => ?_, fun blk c d h2 hsz lb w hl hH hb => ?_⟩
  · have : ∃ f, Proofs.Tryz.prog.funcs.findIdx? (·.name == "internal/reflectlite" ++ ".Swapper$" ++ toString (Lib.swapperK n Proofs.Tryz.svE 25)) = some f := by
      rcases Nat.lt_or_ge n 1 with h | h
      · have : n = 0 := by omega
        subst this
        exact ⟨184, by kernel_rfl⟩
      · have : n = 1 := by omega
        subst this
        exact ⟨185, by kernel_rfl⟩
    obtain ⟨f, hf⟩ := this
    exact Proofs.Any.sort_Slice_tiny Proofs.Tryz.sl6 23 47 Proofs.Tryz.svT Proofs.Tryz.svE (by kernel_rfl) (by kernel_rfl) (by kernel_rfl) (by kernel_rfl) 25 (fun _ => by kernel_rfl) p n c hn f hf (.func 110) #[] lb w
  · exact Proofs.Any.sort_Slice_cells_sorted Proofs.Tryz.sl6 23 47 Proofs.Tryz.svT Proofs.Tryz.svE (by kernel_rfl) (by kernel_rfl) (by kernel_rfl) (by kernel_rfl) 25 (fun _ => by kernel_rfl) encW 2 encW_len (by kernel_rfl) (fun _ => by kernel_rfl)
      encW_one ltW swoW 110 _ (Proofs.enters_of Proofs.Tryz.func110 (by kernel_rfl) rfl) blk 0 c d h2 hsz 192 (by rw [Proofs.Tryz.svK _ h2]; kernel_rfl) false
      (fun args W => run_callFunc_extern Proofs.Tryz.func192 (by kernel_rfl) (by kernel_rfl) (by kernel_rfl) (e := Extern.ReflectliteSwapper.swap false) (by kernel_rfl) args W) w hl hH hb
/-! the sorted row is the one where the new volume stands at its place -/
theorem srt_uniqueW {l l' : List WV} (h1 : l'.Perm l) (h2 : l'.Pairwise (fun x y => ltW y x = false)) (h3 : l.Pairwise (fun a b => ltW a b = true)) : l' = l := by
  refine h1.eq_of_pairwise (le := fun x y => ltW y x = false) (fun a b ha hb h4 h5 => ?_) h2 (h3.imp fun {a b} h => ?_)
  · obtain ⟨i, hi, rfl⟩ := List.mem_iff_getElem.1 (h1.subset ha)
    obtain ⟨j, hj, rfl⟩ := List.mem_iff_getElem.1 hb
    rw [List.pairwise_iff_getElem] at h3
    rcases Nat.lt_trichotomy i j with h | h | h
    · have := h3 i j hi hj h
      rw [this] at h5; cases h5
    · subst h; rfl
    · have := h3 j i hj hi h
      rw [this] at h4; cases h4
  · cases hb : ltW b a with
    | false => rfl
    | true =>
      have := less_trans h hb
      rw [less_irr] at this
      cases this
theorem srt_insW {l l' : List WV} {x : WV} (hl : l.Pairwise (fun a b => ltW a b = true)) (hx : ∀ y ∈ l, y.2.1 ≠ x.2.1) (h1 : l'.Perm (l ++ [x])) (h2 : l'.Pairwise (fun x y => ltW y x = false)) : l' = insW l x :=
  srt_uniqueW (h1.trans (insW_perm x l).symm) h2 (insW_srt x l hl hx)
end Go.X.Vo

namespace Go.X
open Go Go.RowKit
inductive Sch3 where
  | done
  | take (i : Nat) (n : Sch3)
  | one (i : Nat) (n : Sch3)
  | two (i : Nat) (n : Sch3) (j : Nat) (m : Sch3)
  | three (i : Nat) (n : Sch3) (j : Nat) (m : Sch3) (k : Nat) (q : Sch3)
def wpH3 (E : Env) (ops : List Oper) (Hs : HS) (Ms : Mem) (K : KP) : Sch3 → Sig → HS → Mem → Prop
  | .done, σ, H, M => K σ H M
  | .take i n, σ, H, M => opt1 (fun o => qtK E o Hs Ms (wpH3 E ops Hs Ms K n) σ H M (gdOf ops σ o.guard) o.dst) ops[i]?
  | .one i n, σ, H, M => opt1 (fun o => efK E o Hs Ms (wpH3 E ops Hs Ms K n) σ H M (gdOf ops σ o.guard)) ops[i]?
  | .two i n j m, σ, H, M => opt1 (fun o => efK E o Hs Ms (wpH3 E ops Hs Ms K n) σ H M (gdOf ops σ o.guard)) ops[i]? ∧ opt1 (fun o => efK E o Hs Ms (wpH3 E ops Hs Ms K m) σ H M (gdOf ops σ o.guard)) ops[j]?
  | .three i n j m k q, σ, H, M => opt1 (fun o => efK E o Hs Ms (wpH3 E ops Hs Ms K n) σ H M (gdOf ops σ o.guard)) ops[i]? ∧ opt1 (fun o => efK E o Hs Ms (wpH3 E ops Hs Ms K m) σ H M (gdOf ops σ o.guard)) ops[j]? ∧ opt1 (fun o => efK E o Hs Ms (wpH3 E ops Hs Ms K q) σ H M (gdOf ops σ o.guard)) ops[k]?
@[congr] theorem wpH3_congr {E : Env} {ops : List Oper} {Hs Hs' : HS} {Ms : Mem} {K : KP} {s : Sch3} {σ σ' : Sig} {H H' : HS} {M : Mem} (h0 : Hs = Hs') (h : σ = σ') (h' : H = H') : wpH3 E ops Hs Ms K s σ H M = wpH3 E ops Hs' Ms K s σ' H' M := by rw [h0, h, h']
theorem se3 : type_of% (And.intro (And.intro (And.intro @wpH3.eq_1 @wpH3.eq_2) (And.intro @wpH3.eq_3 @wpH3.eq_4)) @wpH3.eq_5) := And.intro (And.intro (And.intro @wpH3.eq_1 @wpH3.eq_2) (And.intro @wpH3.eq_3 @wpH3.eq_4)) @wpH3.eq_5
def tk3 : List Nat → Sch3 → Sch3
  | [], s => s
  | i :: l, s => .take i (tk3 l s)
theorem tks3 : type_of% (And.intro @tk3.eq_1 @tk3.eq_2) := And.intro @tk3.eq_1 @tk3.eq_2
def schT3 (md : Region.Mode) (ops : Array Oper) (n : Nat) : Sch3 → Nat → Array Bool → Bool
  | .done, f, listed => decide (f = ops.size - n) && Region.seqB md ops (ops.size - n) n listed
  | .take i s, f + 1, listed => decide (i < n) && ((Region.free md ops listed i && (Region.ready md ops listed).contains i) && schT3 md ops n s f (listed.setIfInBounds i true))
  | .one i s, f + 1, listed => decide (i < n) && (Region.ready md ops listed == [i] && schT3 md ops n s f (listed.setIfInBounds i true))
  | .two i s j m, f + 1, listed => (decide (i < n) && decide (j < n)) && (Region.ready md ops listed == [i, j] && (schT3 md ops n s f (listed.setIfInBounds i true) && schT3 md ops n m f (listed.setIfInBounds j true)))
  | .three i s j m k q, f + 1, listed => (decide (i < n) && (decide (j < n) && decide (k < n))) && (Region.ready md ops listed == [i, j, k] && (schT3 md ops n s f (listed.setIfInBounds i true) && (schT3 md ops n m f (listed.setIfInBounds j true) && schT3 md ops n q f (listed.setIfInBounds k true))))
  | _, 0, _ => false
section
variable {E : Env} {σ : Sig} {H Hs : HS} {M Ms : Mem} {ν ν' : Nat → Value} {a : Act} {w : World}
theorem wpH3_sound {ops : Array Oper} {K : KP} {w0 : World} {n : Nat} (hsel : Region.noSelect ops = true) (hsk : Region.sinkB .any ops n = true) (hch : Region.chainB .any ops n = true) (hn : n < ops.size) (h0 : Heap E ν Hs Ms w0) (ht : tieds ν Hs) :
    ∀ (sch : Sch3) (f : Nat) (listed : Array Bool) (σ : Sig) (H : HS) (M : Mem) (a : Act) (w : World), schT3 .any ops n sch f listed = true → HeadInv .any ops n listed → Rep E σ H M a w → (stayH Hs H ∧ Ms.le M) → wpH3 E ops.toList Hs Ms (wpR E ops.toList K (ops.toList.drop n)) sch σ H M →
      wpAnyT E.P .any ops (fun e a w => e = Exit.normal ∧ ∃ σ H M, Rep E σ H M a w ∧ K σ H M) (fun w => Heap E ν Hs Ms w) n f listed a w
  | .done, f, listed, σ, H, M, a, w, hB, inv, hr, _, h => by
    simp only [schT3, Bool.and_eq_true, decide_eq_true_eq] at hB
    simp only [wpH3] at h
    have h2 := wpR_sound (E := E) (ops := ops.toList) (K := K) (Q := fun e a w => e = Exit.normal ∧ ∃ σ H M, Rep E σ H M a w ∧ K σ H M) (fun σ H M a w hr hk => ⟨rfl, σ, H, M, hr, hk⟩) (ops.toList.drop n) σ H M a w hr h
    have h3 : (ops.toList.drop n).length = ops.size - n := by simp
    have := wpAnyT_of_seq (P := E.P) (md := .any) (ops := ops) (S := fun w => Heap E ν Hs Ms w) (n := n) (Q' := fun e a w => e = Exit.normal ∧ ∃ σ H M, Rep E σ H M a w ∧ K σ H M) (ops.toList.drop n) n listed a w (fun j => by rw [List.getElem?_drop, Array.getElem?_toList]) (by rw [h3]; exact hB.2) (Nat.le_refl _) (by simpa using h2)
    rw [h3] at this
    rw [hB.1]
    exact this
  | .take i m, f + 1, listed, σ, H, M, a, w, hB, inv, ⟨ν', hs, hh⟩, ⟨hsub, hle⟩, h => by
    simp only [schT3, Bool.and_eq_true, decide_eq_true_eq] at hB
    obtain ⟨hin, ⟨hf, hrd⟩, hB⟩ := hB
    simp only [wpH3] at h
    cases ho : ops[i]? with
    | none => rw [show ops.toList[i]? = none by rw [Array.getElem?_toList]; exact ho] at h; exact h.elim
    | some o =>
      rw [show ops.toList[i]? = some o by rw [Array.getElem?_toList]; exact ho] at h
      simp only [opt1] at h
      cases hg : gdOf ops.toList σ o.guard with
      | none => rw [hg] at h; exact h.elim
      | some g =>
        cases hd : o.dst with
        | none => rw [hg, hd] at h; exact h.elim
        | some d =>
          rw [hg, hd] at h
          obtain ⟨⟨hN, h1⟩, hK⟩ := h
          have hgd := gd_spec hs hg o rfl
          obtain ⟨hS, hke⟩ := Heap.stay h0 ht hh hsub hle
          refine wpAnyT_take hsk hch hn hin inv (v := bif g then (pev E.P Hs Ms σ o.op).2.1.val ν' else undef) ho hsel hf hrd (fun c a w h => by obtain ⟨h, _⟩ := h; cases h) ?_ hS ?_
          · cases g with
            | true =>
              obtain ⟨hg1, hc⟩ := h1 rfl
              refine .inl ⟨by simpa using hgd, fun w1 hw1 => ?_⟩
              exact pev_sound hs (Heap.again hw1 ht hke hh.one) o hg1 hc
            | false => exact .inr ⟨by simpa using hgd, rfl⟩
          · refine wpH3_sound hsel hsk hch hn h0 ht m f _ _ H M _ w hB (inv.set (by simpa using hrd) hin) ⟨ν', ?_, hh⟩ ⟨hsub, hle⟩ hK
            rw [hd]
            exact hs.put hN rfl
  | .one i m, f + 1, listed, σ, H, M, a, w, hB, inv, hr, hsm, h => by
    simp only [schT3, Bool.and_eq_true, decide_eq_true_eq, beq_iff_eq] at hB
    refine wpAnyT_all hB.2.1 (by simp) fun j hj => ?_
    obtain rfl : j = i := by simpa using hj
    exact wpH3_op hsel hsk hch hn h0 ht m f listed σ H M a w hB.2.2 (inv.set (by rw [hB.2.1]; simp) hB.1) hr hsm h
  | .two i m i' m2, f + 1, listed, σ, H, M, a, w, hB, inv, hr, hsm, h => by
    simp only [schT3, Bool.and_eq_true, decide_eq_true_eq, beq_iff_eq] at hB
    refine wpAnyT_all hB.2.1 (by simp) fun j hj => ?_
    rcases (by simpa using hj : j = i ∨ j = i') with rfl | rfl
    · exact wpH3_op hsel hsk hch hn h0 ht m f listed σ H M a w hB.2.2.1 (inv.set (by rw [hB.2.1]; simp) hB.1.1) hr hsm h.1
    · exact wpH3_op hsel hsk hch hn h0 ht m2 f listed σ H M a w hB.2.2.2 (inv.set (by rw [hB.2.1]; simp) hB.1.2) hr hsm h.2
  | .three i m i' m2 i'' m3, f + 1, listed, σ, H, M, a, w, hB, inv, hr, hsm, h => by
    simp only [schT3, Bool.and_eq_true, decide_eq_true_eq, beq_iff_eq] at hB
    refine wpAnyT_all hB.2.1 (by simp) fun j hj => ?_
    rcases (by simpa using hj : j = i ∨ j = i' ∨ j = i'') with rfl | rfl | rfl
    · exact wpH3_op hsel hsk hch hn h0 ht m f listed σ H M a w hB.2.2.1 (inv.set (by rw [hB.2.1]; simp) hB.1.1) hr hsm h.1
    · exact wpH3_op hsel hsk hch hn h0 ht m2 f listed σ H M a w hB.2.2.2.1 (inv.set (by rw [hB.2.1]; simp) hB.1.2.1) hr hsm h.2.1
    · exact wpH3_op hsel hsk hch hn h0 ht m3 f listed σ H M a w hB.2.2.2.2 (inv.set (by rw [hB.2.1]; simp) hB.1.2.2) hr hsm h.2.2
  | .take _ _, 0, _, _, _, _, _, _, hB, _, _, _, _ => by simp [schT3] at hB
  | .one _ _, 0, _, _, _, _, _, _, hB, _, _, _, _ => by simp [schT3] at hB
  | .two _ _ _ _, 0, _, _, _, _, _, _, hB, _, _, _, _ => by simp [schT3] at hB
  | .three _ _ _ _ _ _, 0, _, _, _, _, _, _, hB, _, _, _, _ => by simp [schT3] at hB
where
  wpH3_op {ops : Array Oper} {K : KP} {w0 : World} {n : Nat} (hsel : Region.noSelect ops = true) (hsk : Region.sinkB .any ops n = true) (hch : Region.chainB .any ops n = true) (hn : n < ops.size) (h0 : Heap E ν Hs Ms w0) (ht : tieds ν Hs) {i : Nat} (m : Sch3) (f : Nat) (listed : Array Bool) (σ : Sig) (H : HS) (M : Mem) (a : Act) (w : World)
      (hB : schT3 .any ops n m f (listed.setIfInBounds i true) = true) (inv : HeadInv .any ops n (listed.setIfInBounds i true)) (hr : Rep E σ H M a w) (_ : stayH Hs H ∧ Ms.le M)
      (h : opt1 (fun o => efK E o Hs Ms (wpH3 E ops.toList Hs Ms (wpR E ops.toList K (ops.toList.drop n)) m) σ H M (gdOf ops.toList σ o.guard)) ops.toList[i]?) :
      wpOp E.P ops (fun e a w => e = Exit.normal ∧ ∃ σ H M, Rep E σ H M a w ∧ K σ H M) i (fun a' w' => (i < n → Heap E ν Hs Ms w') ∧ wpAnyT E.P .any ops (fun e a w => e = Exit.normal ∧ ∃ σ H M, Rep E σ H M a w ∧ K σ H M) (fun w => Heap E ν Hs Ms w) n f (listed.setIfInBounds i true) a' w') a w := by
    cases ho : ops[i]? with
    | none => rw [show ops.toList[i]? = none by rw [Array.getElem?_toList]; exact ho] at h; exact h.elim
    | some o =>
      rw [show ops.toList[i]? = some o by rw [Array.getElem?_toList]; exact ho] at h
      simp only [opt1] at h
      obtain ⟨ν', hs, hh⟩ := hr
      cases hg : gdOf ops.toList σ o.guard with
      | none => rw [hg] at h; exact h.elim
      | some g =>
        rw [hg] at h
        simp only [efK] at h
        have hgd := gd_spec hs hg o rfl
        have key := stepK_sound (Nx := fun a' w' => (i < n → Heap E ν Hs Ms w') ∧ wpAnyT E.P .any ops (fun e a w => e = Exit.normal ∧ ∃ σ H M, Rep E σ H M a w ∧ K σ H M) (fun w => Heap E ν Hs Ms w) n f (listed.setIfInBounds i true) a' w')
          (Qx := fun e a w => e = Exit.normal ∧ ∃ σ H M, Rep E σ H M a w ∧ K σ H M)
          (fun σ1 H1 M1 a1 w1 hr1 hk1 => by
            obtain ⟨ν1, hs1, hh1⟩ := hr1
            exact ⟨fun _ => (Heap.stay h0 ht hh1 hk1.1.1 hk1.1.2).1, wpH3_sound hsel hsk hch hn h0 ht m f _ σ1 H1 M1 a1 w1 hB inv ⟨ν1, hs1, hh1⟩ hk1.1 hk1.2⟩) hs hh h
        unfold wpOp
        simp only [ho]
        have hgd' : Region.wanted o (yielded ops a.tmps) = g := by simpa using hgd
        rw [hgd']
        cases g with
        | true => simp only [if_true] at key ⊢; exact .inl key
        | false => simp only [Bool.false_eq_true, if_false] at key ⊢; exact key


/-- a region that draws its order: the first n after a plan (quiet ones taken first, at what of memory stays), the others in their order -/
theorem DrawK.held3 {id : Nat} {ops : Array Oper} {K : KP} (n : Nat) (sel : List Nat) (sch : Sch3) (hm : E.P.follows .mixedOrders = true)
    (hB : (Region.noSelect ops && (decide (n < ops.size) && (Region.sinkB .any ops n && (Region.chainB .any ops n && schT3 .any ops n sch ops.size (Array.replicate ops.size false))))) = true)
    (h : ∀ xs : Nat → Value, stayH (pickH sel (tieH xs H)) (tieH xs H) ∧ wpH3 E ops.toList (pickH sel (tieH xs H)) M (wpR E ops.toList K (ops.toList.drop n)) sch σ (tieH xs H) M) : DrawK E id ops K σ H M := by
  rintro a w ⟨ν, hs, hh⟩
  simp only [Bool.and_eq_true, decide_eq_true_eq] at hB
  obtain ⟨hsel, hn, hsk, hch, hsc⟩ := hB
  have h1 := tieH_heap (hh.grow ((Below.refl _ _).drew) : Heap E ν H M { w with drawn := w.drawn + 1 })
  have inv0 : HeadInv .any ops n (Array.replicate ops.size false) :=
    ⟨by simp, fun j oj _ hl => (by rw [getD_replicate_false] at hl; cases hl), fun t _ ht => getD_in (by simpa using ht) (getD_replicate_false _ _)⟩
  exact wp_region_any hm (wpAny_of_T _ _ _ _ (wpH3_sound hsel hsk hch hn (h1.sublist (pickH_sub sel _)) (pickH_tieds sel H) sch _ _ σ _ M a _ hsc inv0 ⟨ν, hs, h1⟩ ⟨(h ν).1, Mem.le.refl M⟩ (h ν).2))
end
end Go.X

namespace Go.X.Vo
open Go Go.X Go.RowKit Go.X.Bg Go.X.Nm Go.X.Bp Go.X.Sb

theorem rwith (b v : Value) (ws : List WV) (x : WV) (M : Mem) (hbo : b.oneCell' = true) (hbs : isSl b = true) (hv : VolsM M v ws) (hx : x.1.oneCell' = true) (hxs : isSl x.1 = true) (hs : (ws.map (·.2)).Pairwise (fun a b => Op.bytesLess a.1 b.1 = true)) (hf : ∀ y ∈ ws, y.2.1 ≠ x.2.1) (hl : ws.length ≤ 1000) :
    Meets Proofs.Tryz.prog 54 [stV b v, wvV x] M (OwnR (fun s => .agg [.v b, s]) 2 ((insW ws x).map encV)) := by
  have h1 : ∀ w ∈ ws, w.1.oneCell' = true := fun w hw => (hv.blk w hw).one
  have h2 : ∀ w ∈ ws ++ [x], w.1.oneCell' = true := fun w hw => by
    rcases List.mem_append.1 hw with hw | hw
    · exact h1 w hw
    · rw [List.mem_singleton.1 hw]; exact hx
  have h3 : ∀ w ∈ insW ws x, w.1.oneCell' = true := fun w hw => h2 w ((insW_perm x ws).subset hw)
  have hT : Ctx (fun s => .agg [.v b, s]) := fun s s' ν ν' h => by simp only [SV.val, SV.vals, h]
  refine Meets.closeR hT (fun e he => ?_) ?_
  · obtain ⟨y, hy, rfl⟩ := List.mem_map.1 he
    exact ⟨rfl, encV_one (h3 y hy)⟩
  refine Meets.of_body [0,1,2,3,4,5] Proofs.Tryz.func54 rfl (by kernel_rfl) rfl fun w => ?_
  have hrow : ws.map encV ++ [[.string ⟨x.2.1.toArray⟩, x.1]] = (ws ++ [x]).map encW := by
    rw [encW_map h2, List.map_append]; rfl
  simp only [Proofs.Tryz.f54, stV, wvV, shs, zts, sos, sls, zss, eqs, sx, sb1, sb2, sb3, sb4, sb5, sb6, sb7, ↓reduceIte, Nat.reduceAdd, Nat.reduceMul, Nat.reduceDiv, Nat.reduceEqDiff, Nat.reduceLT, Nat.reduceLeDiff, reduceCtorEq, Int.reduceEq, Int.reduceNe, Int.reduceLT, Int.reduceLE, Int.reduceAdd, Int.reduceSub, Int.reduceMul, Int.reduceNeg, Int.reduceToNat, Int.cast_ofNat_Int, Int.natCast_zero, Int.natCast_one, Int.toNat_natCast, Nat.reduceBEq, nzs, hbo, hx, hv.row.one]
  refine DrawK.ent (X := Mem) (fun N => M.le N) (fun N => ([(2, true, .ptr 16 0 0 0), (3, true, .ptr 24 0 0 0), (4, true, .ptr 32 0 0 0), (5, true, .ptr 40 0 0 0)], [(104, .row 2 ((ws ++ [x]).map encW)), (40, .box [.v b, .own 104] none), (32, .box [.v (.slice none 0 0), .v (.slice none 0 0)] none), (24, .box [.v (.string ⟨x.2.1.toArray⟩), .v x.1] none), (16, .box [.v b, .v v] none)], N)) ?_ ?_
  · refine DrawK.held3 10 [16, 24] (tk3 [0, 2, 5, 1, 3] (.three 4 (.two 6 (.two 7 (tk3 [8] (.one 9 .done)) 9 (.one 7 (tk3 [8] .done))) 9 (.one 6 (.one 7 (tk3 [8] .done)))) 6 (.two 4 (.two 7 (tk3 [8] (.one 9 .done)) 9 (.one 7 (tk3 [8] .done))) 9 (.one 4 (.one 7 (tk3 [8] .done)))) 9 (.two 4 (.one 6 (.one 7 (tk3 [8] .done))) 6 (.one 4 (.one 7 (tk3 [8] .done)))))) (by kernel_rfl) (by kernel_rfl) fun xs => ?_
    simp only [shs, zts, sos, sls, zss, eqs, sx, sb1, sb2, sb3, sb4, sb5, sb6, sb7, ↓reduceIte, Nat.reduceAdd, Nat.reduceMul, Nat.reduceDiv, Nat.reduceEqDiff, Nat.reduceLT, Nat.reduceLeDiff, reduceCtorEq, Int.reduceEq, Int.reduceNe, Int.reduceLT, Int.reduceLE, Int.reduceAdd, Int.reduceSub, Int.reduceMul, Int.reduceNeg, Int.reduceToNat, Int.cast_ofNat_Int, Int.natCast_zero, Int.natCast_one, Int.toNat_natCast, Nat.reduceBEq, nzs, se1, se2, se3, tks3, hx, oneVs hxs]
    refine ⟨?_, ⟨?_, ?_⟩, ?_, ?_⟩
    all_goals
      refine CallK.own Ctx.id rfl rfl (cloneV v ws M hv.row (by omega)) rfl fun M1 hM1 => ?_
      simp only [shs, zts, sos, sls, zss, eqs, sx, sb1, sb2, sb3, sb4, sb5, sb6, sb7, ↓reduceIte, Nat.reduceAdd, Nat.reduceMul, Nat.reduceDiv, Nat.reduceEqDiff, Nat.reduceLT, Nat.reduceLeDiff, reduceCtorEq, Int.reduceEq, Int.reduceNe, Int.reduceLT, Int.reduceLE, Int.reduceAdd, Int.reduceSub, Int.reduceMul, Int.reduceNeg, Int.reduceToNat, Int.cast_ofNat_Int, Int.natCast_zero, Int.natCast_one, Int.toNat_natCast, Nat.reduceBEq, nzs, se1, se2, se3, tks3, hx, oneVs hxs, oneVs hbs, hbo, List.length_map, hrow]
      repeat' apply And.intro
      all_goals first
        | exact hM1
        | omega
        | exact ⟨M1, hM1, Ent.heap (HEnt.untie (k := 32) rfl) (Ent.heap (HEnt.untie (k := 24) rfl) (Ent.heap (HEnt.untie (k := 16) rfl) (Ent.of (by simp only [sx, sb1, sb2, sb3, sb4, sb5, sb6, sb7, ↓reduceIte, Nat.reduceAdd, Nat.reduceMul, Nat.reduceDiv, Nat.reduceEqDiff, Nat.reduceLT, Nat.reduceLeDiff, reduceCtorEq, Int.reduceEq, Int.reduceNe, Int.reduceLT, Int.reduceLE, Int.reduceAdd, Int.reduceSub, Int.reduceMul, Int.reduceNeg, Int.reduceToNat, Int.cast_ofNat_Int, Int.natCast_zero, Int.natCast_one, Int.toNat_natCast, Nat.reduceBEq, hset]))))⟩
  · intro N hN
    simp only [shs, zts, sos, sls, zss, eqs, sx, sb1, sb2, sb3, sb4, sb5, sb6, sb7, ↓reduceIte, Nat.reduceAdd, Nat.reduceMul, Nat.reduceDiv, Nat.reduceEqDiff, Nat.reduceLT, Nat.reduceLeDiff, reduceCtorEq, Int.reduceEq, Int.reduceNe, Int.reduceLT, Int.reduceLE, Int.reduceAdd, Int.reduceSub, Int.reduceMul, Int.reduceNeg, Int.reduceToNat, Int.cast_ofNat_Int, Int.natCast_zero, Int.natCast_one, Int.toNat_natCast, Nat.reduceBEq, nzs]
    refine ⟨rfl, OpK.openRow (k := 104) 1002 rfl (fun _ => rfl) (fun h => by simp at h) fun bb cap sp r1 r2 => ?_⟩
    refine OpK.mkIface (t := 23) rfl rfl rfl rfl (by kernel_rfl) ⟨47, by kernel_rfl⟩ ?_
    simp only [shs, zts, sos, sls, zss, eqs, sx, sb1, sb2, sb3, sb4, sb5, sb6, sb7, ↓reduceIte, Nat.reduceAdd, Nat.reduceMul, Nat.reduceDiv, Nat.reduceEqDiff, Nat.reduceLT, Nat.reduceLeDiff, reduceCtorEq, Int.reduceEq, Int.reduceNe, Int.reduceLT, Int.reduceLE, Int.reduceAdd, Int.reduceSub, Int.reduceMul, Int.reduceNeg, Int.reduceToNat, Int.cast_ofNat_Int, Int.natCast_zero, Int.natCast_one, Int.toNat_natCast, Nat.reduceBEq, sp1, sp2, sp3, nzs, so0]
    refine stepK.mkFn rfl rfl ?_
    simp only [shs, zts, sos, sls, zss, eqs, sx, sb1, sb2, sb3, sb4, sb5, sb6, sb7, ↓reduceIte, Nat.reduceAdd, Nat.reduceMul, Nat.reduceDiv, Nat.reduceEqDiff, Nat.reduceLT, Nat.reduceLeDiff, reduceCtorEq, Int.reduceEq, Int.reduceNe, Int.reduceLT, Int.reduceLE, Int.reduceAdd, Int.reduceSub, Int.reduceMul, Int.reduceNeg, Int.reduceToNat, Int.cast_ofNat_Int, Int.natCast_zero, Int.natCast_one, Int.toNat_natCast, Nat.reduceBEq, nzs, List.length_map] at r1 ⊢
    refine CallK.sortRowJ 8016 40 1 encW 2 ltW (ws ++ [x]) (b := bb) (cap := cap) (sp := sp) (tb := none) rfl rfl rfl rfl encW_len rfl (by simp; omega) ⟨_, Proofs.Tryz.func109, by kernel_rfl, by kernel_rfl⟩ sortCW (srtLessW _ (by simp; omega)) fun l' p1 p2 => ?_
    have hlen := p1.length_eq
    have hl' := srt_insW (List.pairwise_map.1 hs) hf p1 p2
    subst hl'
    rw [encW_map h3, ← hlen]
    simp only [shs, zts, sos, sls, zss, eqs, sx, sb1, sb2, sb3, sb4, sb5, sb6, sb7, ↓reduceIte, Nat.reduceAdd, Nat.reduceMul, Nat.reduceDiv, Nat.reduceEqDiff, Nat.reduceLT, Nat.reduceLeDiff, reduceCtorEq, Int.reduceEq, Int.reduceNe, Int.reduceLT, Int.reduceLE, Int.reduceAdd, Int.reduceSub, Int.reduceMul, Int.reduceNeg, Int.reduceToNat, Int.cast_ofNat_Int, Int.natCast_zero, Int.natCast_one, Int.toNat_natCast, Nat.reduceBEq, sp1, sp2, sp3, nzs, hset, hbo]
    refine .inr (.inr ⟨bb, 8016, cap, sp, ?_, rfl, ?_⟩)
    · rw [List.length_map]
    · rw [List.length_map, hlen]
      exact r1
end Go.X.Vo

