/- The law VolChecks returns true. Conditions: none. -/
import Derived.Test.YtkhclplinfobdaaDoorVoT
set_option linter.unusedSimpArgs false
set_option linter.unusedVariables false
set_option maxHeartbeats 4000000
set_option maxRecDepth 20000
namespace Go.X.Vo
open Go Go.X Go.RowKit Go.X.Bg Go.X.Nm

theorem names_inj {ws : List WV} (h : (ws.map (·.2)).Pairwise (fun a b => Op.bytesLess a.1 b.1 = true)) {i j : Nat} {x y : WV} (hi : ws[i]? = some x) (hj : ws[j]? = some y) (e : x.2.1 = y.2.1) : i = j := by
  have hil := (List.getElem?_eq_some_iff.1 hi).1
  have hjl := (List.getElem?_eq_some_iff.1 hj).1
  have ex : ws[i] = x := (List.getElem?_eq_some_iff.1 hi).2
  have ey : ws[j] = y := (List.getElem?_eq_some_iff.1 hj).2
  rcases Nat.lt_trichotomy i j with hlt | heq | hlt
  · have := List.pairwise_iff_getElem.1 h i j (by rw [List.length_map]; omega) (by rw [List.length_map]; omega) hlt
    rw [List.getElem_map, List.getElem_map, ex, ey, e, less_irr] at this
    cases this
  · exact heq
  · have := List.pairwise_iff_getElem.1 h j i (by rw [List.length_map]; omega) (by rw [List.length_map]; omega) hlt
    rw [List.getElem_map, List.getElem_map, ex, ey, e, less_irr] at this
    cases this
/-- what the map of names holds for a name -/
theorem txt_fnd {bag : List It} {ws : List WV} {es : List (List UInt8 × Value)} {M : Mem} (h : TxtM bag ws es M) (hs : (ws.map (·.2)).Pairwise (fun a b => Op.bytesLess a.1 b.1 = true)) {j : Nat} {x : WV} (hx : ws[j]? = some x) :
    ∃ u, ((fnd x.2.1 es 0).map (·.2)).getD (.slice none 0 0) = u ∧ RowM M u 1 ((x.2.2.map (tE bag)).map encS) := by
  obtain ⟨u, h1, h2⟩ := h.2 j x hx
  rcases fnd_spec x.2.1 es 0 with ⟨_, h4⟩ | ⟨k, v, h3, h4⟩
  · exact absurd rfl (h4 _ (List.mem_of_getElem? h1))
  · have hkl : k < ws.length := by rw [← h.1]; exact (List.getElem?_eq_some_iff.1 h4).1
    obtain ⟨u2, h5, _⟩ := h.2 k ws[k] (List.getElem?_eq_getElem hkl)
    rw [h4] at h5
    have e := Option.some.inj h5
    have hkj := names_inj hs (List.getElem?_eq_getElem hkl) hx (congrArg Prod.fst e).symm
    subst hkj
    rw [h1] at h4
    have e2 := Option.some.inj h4
    refine ⟨u, ?_, h2⟩
    rw [h3]
    exact (congrArg Prod.snd e2).symm
theorem tE_drop (bag : List It) (id : Id3) : (tE bag id).drop 1 = if id.1 = true then txtId bag id else [] := by
  unfold tE
  split <;> rfl
theorem says (b v : Value) (bag : List It) (ws : List WV) (n : List UInt8) (a : Int) (M : Mem) (hb : RowM M b 4 (bag.map Bg.encT)) (hv : VolsM M v ws) :
    Meets Proofs.Tryd.prog 5 [stV b v, .v (.string ⟨n.toArray⟩), .v (.int .i64 a)] M fun r _ _ => r = .v (.bool true) := by
  refine Meets.of_body [0,1,2,3,6,7,8,9,10,11,12,13,43,52,54,84,96] Proofs.Tryd.func5 rfl (by kernel_rfl) rfl fun w => ?_
  have hBl := Meets.rows (blocks b v bag ws n M hb hv)
  have h97 : nmB [97] = true := by decide
  have hA : ∀ M, Meets Proofs.Tryd.prog 22 [.v (.string ⟨#[97]⟩)] M fun r _ _ => r = .v (.bool true) := fun M => by
    have := nameW [97] M
    rw [h97] at this
    exact this
  simp only [stV] at hBl
  simp only [Proofs.Tryd.f5, stV, shs, zts, sos, sls, zss, eqs, sx, sb1, sb2, sb3, sb4, sb5, sb6, sb7, ↓reduceIte, Nat.reduceAdd, Nat.reduceMul, Nat.reduceDiv, Nat.reduceEqDiff, Nat.reduceLT, Nat.reduceLeDiff, reduceCtorEq, Int.reduceEq, Int.reduceNe, Int.reduceLT, Int.reduceLE, Int.reduceAdd, Int.reduceSub, Int.reduceMul, Int.reduceNeg, Int.reduceToNat, Int.cast_ofNat_Int, Int.natCast_zero, Int.natCast_one, Int.toNat_natCast, Nat.reduceBEq, nzs]
  refine CallK.row (T := fun s => .tup [s, .v (.int .i64 (blkE bag (ws.map (·.2)) n))]) (Ctx.fst _) rfl rfl hBl fun u M1 hM1 hu => ?_
  have hb1 := hb.le hM1
  have hv1 := hv.le hM1
  have hR := read b v bag ws n a M1 hb1 hv1
  have hS := rstate b v bag ws M1 hb1 hv1
  have hC := vcheck b v bag ws M1 hb1 hv1
  have hV := rvol b v ws n M1 hv1
  simp only [stV] at hR hS hC hV
  simp only [shs, zts, sos, sls, zss, eqs, sx, sb1, sb2, sb3, sb4, sb5, sb6, sb7, ↓reduceIte, Nat.reduceAdd, Nat.reduceMul, Nat.reduceDiv, Nat.reduceEqDiff, Nat.reduceLT, Nat.reduceLeDiff, reduceCtorEq, Int.reduceEq, Int.reduceNe, Int.reduceLT, Int.reduceLE, Int.reduceAdd, Int.reduceSub, Int.reduceMul, Int.reduceNeg, Int.reduceToNat, Int.cast_ofNat_Int, Int.natCast_zero, Int.natCast_one, Int.toNat_natCast, Nat.reduceBEq, nzs]
  refine CallK.pure ⟨rfl, rfl⟩ rfl hR ?_
  simp only [shs, zts, sos, sls, zss, eqs, sx, sb1, sb2, sb3, sb4, sb5, sb6, sb7, ↓reduceIte, Nat.reduceAdd, Nat.reduceMul, Nat.reduceDiv, Nat.reduceEqDiff, Nat.reduceLT, Nat.reduceLeDiff, reduceCtorEq, Int.reduceEq, Int.reduceNe, Int.reduceLT, Int.reduceLE, Int.reduceAdd, Int.reduceSub, Int.reduceMul, Int.reduceNeg, Int.reduceToNat, Int.cast_ofNat_Int, Int.natCast_zero, Int.natCast_one, Int.toNat_natCast, Nat.reduceBEq, nzs]
  refine CallK.pure ⟨rfl, rfl⟩ rfl hS ?_
  simp only [shs, zts, sos, sls, zss, eqs, sx, sb1, sb2, sb3, sb4, sb5, sb6, sb7, ↓reduceIte, Nat.reduceAdd, Nat.reduceMul, Nat.reduceDiv, Nat.reduceEqDiff, Nat.reduceLT, Nat.reduceLeDiff, reduceCtorEq, Int.reduceEq, Int.reduceNe, Int.reduceLT, Int.reduceLE, Int.reduceAdd, Int.reduceSub, Int.reduceMul, Int.reduceNeg, Int.reduceToNat, Int.cast_ofNat_Int, Int.natCast_zero, Int.natCast_one, Int.toNat_natCast, Nat.reduceBEq, nzs]
  refine CallK.pure ⟨rfl, rfl⟩ rfl (nameW n M1) ?_
  simp only [shs, zts, sos, sls, zss, eqs, sx, sb1, sb2, sb3, sb4, sb5, sb6, sb7, ↓reduceIte, Nat.reduceAdd, Nat.reduceMul, Nat.reduceDiv, Nat.reduceEqDiff, Nat.reduceLT, Nat.reduceLeDiff, reduceCtorEq, Int.reduceEq, Int.reduceNe, Int.reduceLT, Int.reduceLE, Int.reduceAdd, Int.reduceSub, Int.reduceMul, Int.reduceNeg, Int.reduceToNat, Int.cast_ofNat_Int, Int.natCast_zero, Int.natCast_one, Int.toNat_natCast, Nat.reduceBEq, nzs]
  refine CallK.pure ⟨rfl, rfl⟩ rfl (rnameW n M1) ?_
  simp only [shs, zts, sos, sls, zss, eqs, sx, sb1, sb2, sb3, sb4, sb5, sb6, sb7, ↓reduceIte, Nat.reduceAdd, Nat.reduceMul, Nat.reduceDiv, Nat.reduceEqDiff, Nat.reduceLT, Nat.reduceLeDiff, reduceCtorEq, Int.reduceEq, Int.reduceNe, Int.reduceLT, Int.reduceLE, Int.reduceAdd, Int.reduceSub, Int.reduceMul, Int.reduceNeg, Int.reduceToNat, Int.cast_ofNat_Int, Int.natCast_zero, Int.natCast_one, Int.toNat_natCast, Nat.reduceBEq, nzs, beq_self_eq_true]
  refine CallK.pure ⟨rfl, rfl⟩ rfl hC ?_
  simp only [shs, zts, sos, sls, zss, eqs, sx, sb1, sb2, sb3, sb4, sb5, sb6, sb7, ↓reduceIte, Nat.reduceAdd, Nat.reduceMul, Nat.reduceDiv, Nat.reduceEqDiff, Nat.reduceLT, Nat.reduceLeDiff, reduceCtorEq, Int.reduceEq, Int.reduceNe, Int.reduceLT, Int.reduceLE, Int.reduceAdd, Int.reduceSub, Int.reduceMul, Int.reduceNeg, Int.reduceToNat, Int.cast_ofNat_Int, Int.natCast_zero, Int.natCast_one, Int.toNat_natCast, Nat.reduceBEq, nzs]
  refine CallK.pure ⟨rfl, rfl⟩ rfl (hA M1) ?_
  simp only [shs, zts, sos, sls, zss, eqs, sx, sb1, sb2, sb3, sb4, sb5, sb6, sb7, ↓reduceIte, Nat.reduceAdd, Nat.reduceMul, Nat.reduceDiv, Nat.reduceEqDiff, Nat.reduceLT, Nat.reduceLeDiff, reduceCtorEq, Int.reduceEq, Int.reduceNe, Int.reduceLT, Int.reduceLE, Int.reduceAdd, Int.reduceSub, Int.reduceMul, Int.reduceNeg, Int.reduceToNat, Int.cast_ofNat_Int, Int.natCast_zero, Int.natCast_one, Int.toNat_natCast, Nat.reduceBEq, nzs]
  refine CallK.pure ⟨rfl, rfl⟩ rfl hV ?_
  by_cases h1 : stE bag (ws.map (·.2)) = 0
  rotate_left
  · have c1 := eq_false h1
    have e1 : blkE bag (ws.map (·.2)) n = stE bag (ws.map (·.2)) := if_pos h1
    have e2 : plE bag (ws.map (·.2)) n a = stE bag (ws.map (·.2)) := if_pos h1
    have e3 : rdS bag (ws.map (·.2)) n a = [] := if_neg (by rw [e2]; exact h1)
    have e4 : blkL bag (ws.map (·.2)) n = [] := if_neg (by rw [e1]; exact h1)
    rw [e4] at hu
    have hul := hu.len
    rw [List.length_map, List.length_nil] at hul
    simp only [shs, zts, sos, sls, zss, eqs, sx, sb1, sb2, sb3, sb4, sb5, sb6, sb7, ↓reduceIte, Nat.reduceAdd, Nat.reduceMul, Nat.reduceDiv, Nat.reduceEqDiff, Nat.reduceLT, Nat.reduceLeDiff, reduceCtorEq, Int.reduceEq, Int.reduceNe, Int.reduceLT, Int.reduceLE, Int.reduceAdd, Int.reduceSub, Int.reduceMul, Int.reduceNeg, Int.reduceToNat, Int.cast_ofNat_Int, Int.natCast_zero, Int.natCast_one, Int.toNat_natCast, Nat.reduceBEq, nzs, c1, e1, e2, e3, hul, hu.sl]
  by_cases h2 : volIx (ws.map (·.2)) n < 0
  · have c2 := eq_true h2
    have e1 : blkE bag (ws.map (·.2)) n = 4 := by unfold blkE; rw [if_neg (fun h => h h1), if_pos h2]
    have e2 : plE bag (ws.map (·.2)) n a = 4 := by unfold plE; rw [if_neg (fun h => h h1), if_pos h2]
    have e3 : rdS bag (ws.map (·.2)) n a = [] := if_neg (by rw [e2]; decide)
    have e4 : blkL bag (ws.map (·.2)) n = [] := if_neg (by rw [e1]; decide)
    rw [e4] at hu
    have hul := hu.len
    rw [List.length_map, List.length_nil] at hul
    simp only [shs, zts, sos, sls, zss, eqs, sx, sb1, sb2, sb3, sb4, sb5, sb6, sb7, ↓reduceIte, Nat.reduceAdd, Nat.reduceMul, Nat.reduceDiv, Nat.reduceEqDiff, Nat.reduceLT, Nat.reduceLeDiff, reduceCtorEq, Int.reduceEq, Int.reduceNe, Int.reduceLT, Int.reduceLE, Int.reduceAdd, Int.reduceSub, Int.reduceMul, Int.reduceNeg, Int.reduceToNat, Int.cast_ofNat_Int, Int.natCast_zero, Int.natCast_one, Int.toNat_natCast, Nat.reduceBEq, nzs, h1, c2, e1, e2, e3, hul, hu.sl]
  have c2 := eq_false h2
  have e1 : blkE bag (ws.map (·.2)) n = 0 := by unfold blkE; rw [if_neg (fun h => h h1), if_neg h2]
  obtain ⟨j, x, k1, k2, k3, k4⟩ := volIx_at h2
  have hbk := blks_at k1 k4
  have e4 : blkL bag (ws.map (·.2)) n = x.2.2 := by unfold blkL; rw [if_pos e1, hbk]
  rw [e4] at hu
  obtain ⟨g0, g1, i0⟩ := vol_at hv1 k2
  have hblk := hv1.blk x (List.mem_of_getElem? k2)
  have hT := texts b v bag ws M1 hb1 hv1 h1
  simp only [stV] at hT
  have hsrt := vols_srt (stE_ok h1).2.1
  rw [k1] at c2 ⊢
  simp only [shs, zts, sos, sls, zss, eqs, sx, sb1, sb2, sb3, sb4, sb5, sb6, sb7, ↓reduceIte, Nat.reduceAdd, Nat.reduceMul, Nat.reduceDiv, Nat.reduceEqDiff, Nat.reduceLT, Nat.reduceLeDiff, reduceCtorEq, Int.reduceEq, Int.reduceNe, Int.reduceLT, Int.reduceLE, Int.reduceAdd, Int.reduceSub, Int.reduceMul, Int.reduceNeg, Int.reduceToNat, Int.cast_ofNat_Int, Int.natCast_zero, Int.natCast_one, Int.toNat_natCast, Nat.reduceBEq, nzs, h1, c2, e1, i0, i0.2, g1.1, g1.2]
  refine CallK.pure ⟨rfl, rfl⟩ rfl (eqI u x.1 x.2.2 x.2.2 M1 hu hblk) ?_
  simp only [shs, zts, sos, sls, zss, eqs, sx, sb1, sb2, sb3, sb4, sb5, sb6, sb7, ↓reduceIte, Nat.reduceAdd, Nat.reduceMul, Nat.reduceDiv, Nat.reduceEqDiff, Nat.reduceLT, Nat.reduceLeDiff, reduceCtorEq, Int.reduceEq, Int.reduceNe, Int.reduceLT, Int.reduceLE, Int.reduceAdd, Int.reduceSub, Int.reduceMul, Int.reduceNeg, Int.reduceToNat, Int.cast_ofNat_Int, Int.natCast_zero, Int.natCast_one, Int.toNat_natCast, Nat.reduceBEq, nzs, decide_true]
  refine CallK.ownN (T := fun (_ : List (List UInt8 × Value)) f => f 0) (P := fun es _ => [.mp (encL encN es)]) (fun x f f' ν ν' h => h 0 (by decide)) (fun x f f' ν ν' h => ⟨fun w y hy => hy, trivial⟩) rfl rfl hT rfl fun es M2 hM2 hes => ?_
  simp only [shs, zts, sos, sls, zss, eqs, sx, sb1, sb2, sb3, sb4, sb5, sb6, sb7, ↓reduceIte, Nat.reduceAdd, Nat.reduceMul, Nat.reduceDiv, Nat.reduceEqDiff, Nat.reduceLT, Nat.reduceLeDiff, reduceCtorEq, Int.reduceEq, Int.reduceNe, Int.reduceLT, Int.reduceLE, Int.reduceAdd, Int.reduceSub, Int.reduceMul, Int.reduceNeg, Int.reduceToNat, Int.cast_ofNat_Int, Int.natCast_zero, Int.natCast_one, Int.toNat_natCast, Nat.reduceBEq, sp1, sp2, sp3, nzs, shA1, shA2, hdel]
  obtain ⟨t, ht, htr⟩ := txt_fnd hes hsrt k2
  rw [k3] at ht
  refine ⟨rfl, OpK.lookup (KeyT.string (by kernel_rfl)) (key := n) (kt := 9) (et := 51) (z := .slice none 0 0) rfl rfl rfl (by kernel_rfl) Proofs.Tryd.zeroValue51 rfl rfl (fun _ => rfl) rfl ?_⟩
  rw [ht]
  have htl := htr.len_le
  rw [List.length_map, List.length_map] at htl
  by_cases h3 : a < 0 ∨ (x.2.2.length : Int) ≤ a
  · have e2 : plE bag (ws.map (·.2)) n a = 1 := by unfold plE; rw [if_neg (fun h => h h1), if_neg h2, hbk, if_pos h3]
    have e3 : rdS bag (ws.map (·.2)) n a = [] := if_neg (by rw [e2]; decide)
    rw [e2, e3]
    by_cases h4 : a < 0
    · have c4 := eq_true h4
      simp only [shs, zts, sos, sls, zss, eqs, sx, sb1, sb2, sb3, sb4, sb5, sb6, sb7, ↓reduceIte, Nat.reduceAdd, Nat.reduceMul, Nat.reduceDiv, Nat.reduceEqDiff, Nat.reduceLT, Nat.reduceLeDiff, reduceCtorEq, Int.reduceEq, Int.reduceNe, Int.reduceLT, Int.reduceLE, Int.reduceAdd, Int.reduceSub, Int.reduceMul, Int.reduceNeg, Int.reduceToNat, Int.cast_ofNat_Int, Int.natCast_zero, Int.natCast_one, Int.toNat_natCast, Nat.reduceBEq, nzs, c4]
    · have c4 := eq_false h4
      have c5 : ((x.2.2.length : Int) ≤ a) = True := eq_true (by omega)
      simp only [shs, zts, sos, sls, zss, eqs, sx, sb1, sb2, sb3, sb4, sb5, sb6, sb7, ↓reduceIte, Nat.reduceAdd, Nat.reduceMul, Nat.reduceDiv, Nat.reduceEqDiff, Nat.reduceLT, Nat.reduceLeDiff, reduceCtorEq, Int.reduceEq, Int.reduceNe, Int.reduceLT, Int.reduceLE, Int.reduceAdd, Int.reduceSub, Int.reduceMul, Int.reduceNeg, Int.reduceToNat, Int.cast_ofNat_Int, Int.natCast_zero, Int.natCast_one, Int.toNat_natCast, Nat.reduceBEq, nzs, c4, htr.len, htr.sl, List.length_map, c5]
  · have e2 : plE bag (ws.map (·.2)) n a = 0 := by unfold plE; rw [if_neg (fun h => h h1), if_neg h2, hbk, if_neg h3]
    obtain ⟨m, rfl⟩ : ∃ m : Nat, a = m := ⟨a.toNat, by omega⟩
    have c4 : ((m : Int) < 0) = False := eq_false (by omega)
    have c5 : ((x.2.2.length : Int) ≤ (m : Int)) = False := eq_false (by omega)
    obtain ⟨id, hid, _⟩ := l_drop_at (l := x.2.2) (i := m) (by omega)
    have hrd : rdId (ws.map (·.2)) n (m : Int) = id := by unfold rdId; rw [hbk, Int.toNat_natCast, hid]; rfl
    have e3 : rdS bag (ws.map (·.2)) n (m : Int) = (tE bag id).drop 1 := by
      unfold rdS
      rw [if_pos e2, hrd, tE_drop]
    have hcell := htr.el1 (enc := encS) (l := x.2.2.map (tE bag)) (x := tE bag id) (i := m) (c := .string ⟨(tE bag id).toArray⟩) (by rw [List.getElem?_map, hid]; rfl) rfl
    have hix := htr.ix (i := (m : Int)) (by omega) (by rw [List.length_map, List.length_map]; omega)
    have hl1 : 1 ≤ (tE bag id).length := by unfold tE; split <;> simp
    have et : List.take ((tE bag id).length - 1) ((tE bag id).drop 1) = (tE bag id).drop 1 := List.take_of_length_le (by rw [List.length_drop]; exact Nat.le_refl _)
    rw [e2, e3]
    simp only [shs, zts, sos, sls, zss, eqs, sx, sb1, sb2, sb3, sb4, sb5, sb6, sb7, ↓reduceIte, Nat.reduceAdd, Nat.reduceMul, Nat.reduceDiv, Nat.reduceEqDiff, Nat.reduceLT, Nat.reduceLeDiff, reduceCtorEq, Int.reduceEq, Int.reduceNe, Int.reduceLT, Int.reduceLE, Int.reduceAdd, Int.reduceSub, Int.reduceMul, Int.reduceNeg, Int.reduceToNat, Int.cast_ofNat_Int, Int.natCast_zero, Int.natCast_one, Int.toNat_natCast, Nat.reduceBEq, nzs, c4, htr.len, htr.sl, List.length_map, c5, hix, hix.2, hcell.1, hcell.2, et]
    exact ⟨by omega, by omega⟩
/-- a state, as the shell of a law reads it -/
abbrev StA := (Value × List (Int × Int × List UInt8 × Int)) × (Value × List (List UInt8 × Value × List (Bool × Int × Int)))
def wsA (a : StA) : List WV := a.2.2.map fun x => (x.2.1, (x.1, x.2.2))
theorem volsA {M : Mem} {a : StA} (h : RowM M a.2.1 2 (a.2.2.map fun a => [Value.string ⟨a.1.toArray⟩] ++ [a.2.1])) (hx : ∀ x ∈ a.2.2, RowM M x.2.1 3 (x.2.2.map fun a => [Value.bool a.1] ++ ([Value.int .i64 a.2.1] ++ [Value.int .i64 a.2.2]))) : VolsM M a.2.1 (wsA a) where
  row := by
    have e : (wsA a).map encV = a.2.2.map fun a => [Value.string ⟨a.1.toArray⟩] ++ [a.2.1] := by
      unfold wsA
      rw [List.map_map]
      rfl
    rw [e]
    exact h
  blk := fun w hw => by
    obtain ⟨x, hx1, rfl⟩ := List.mem_map.1 hw
    exact hx x hx1
theorem law (a0 : StA) (n : List UInt8) (a : Int) (M : Mem)
    (h0 : (RowM M a0.1.1 4 (a0.1.2.map fun a => [Value.int .i64 a.1] ++ ([Value.int .i64 a.2.1] ++ ([Value.string ⟨a.2.2.1.toArray⟩] ++ [Value.int .i64 a.2.2.2]))) ∧ a0.1.2.length * 40 ≤ reachBytes ∧ ∀ x ∈ a0.1.2, inK .i64 x.1 ∧ inK .i64 x.2.1 ∧ x.2.2.1.length ≤ reachBytes ∧ inK .i64 x.2.2.2) ∧
      RowM M a0.2.1 2 (a0.2.2.map fun a => [Value.string ⟨a.1.toArray⟩] ++ [a.2.1]) ∧ a0.2.2.length * 40 ≤ reachBytes ∧ ∀ x ∈ a0.2.2, x.1.length ≤ reachBytes ∧ RowM M x.2.1 3 (x.2.2.map fun a => [Value.bool a.1] ++ ([Value.int .i64 a.2.1] ++ [Value.int .i64 a.2.2])) ∧ x.2.2.length * 24 ≤ reachBytes ∧ ∀ y ∈ x.2.2, True ∧ inK .i64 y.2.1 ∧ inK .i64 y.2.2)
    (_ : n.length ≤ reachBytes) (_ : inK .i64 a) :
    Meets Proofs.Tryd.prog 5 [.agg [.v a0.1.1, .v a0.2.1], .v (.string ⟨n.toArray⟩), .v (.int .i64 a)] M fun r _ _ => r = .v (.bool true) :=
  says a0.1.1 a0.2.1 a0.1.2 (wsA a0) n a M h0.1.1 (volsA h0.2.1 fun x hx => (h0.2.2.2 x hx).2.1)
end Go.X.Vo
