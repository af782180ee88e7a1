/- Volumes: states, and what vol.volumes returns. Conditions: none. -/
import Derived.Test.YtkhclplinfobdaaDoorBag
import Derived.Test.YtkhclplinfobdaaDoorNm
import Derived.Test.YtkhclplinfobdaaDoorKy
set_option linter.unusedSimpArgs false
set_option linter.unusedVariables false
set_option maxHeartbeats 4000000
set_option maxRecDepth 20000
namespace Go.X.Vo
open Go Go.X Go.RowKit Go.X.Bg Go.X.Nm

/-- name, blocks -/
abbrev Vol := List UInt8 × List Id3
/-- the slice of a volume's blocks, and the volume -/
abbrev WV := Value × Vol
def encI3 (i : Id3) : List Value := [.bool i.1, .int .i64 i.2.1, .int .i64 i.2.2]
def encV (w : WV) : List Value := [.string ⟨w.2.1.toArray⟩, w.1]
structure VolsM (M : Mem) (v : Value) (ws : List WV) : Prop where
  row : RowM M v 2 (ws.map encV)
  blk : ∀ w ∈ ws, RowM M w.1 3 (w.2.2.map encI3)
theorem VolsM.le {M M' : Mem} {v : Value} {ws : List WV} (h : VolsM M v ws) (hl : M.le M') : VolsM M' v ws := ⟨h.row.le hl, fun w hw => (h.blk w hw).le hl⟩
def stV (b v : Value) : SV := .agg [.v b, .v v]
theorem vol_at {M : Mem} {v : Value} {ws : List WV} {i : Nat} {r : WV} (h : VolsM M v ws) (hx : ws[i]? = some r) :
    (elE M v 2 i 0 = .string ⟨r.2.1.toArray⟩ ∧ okE M v 2 i 0) ∧ (elE M v 2 i 1 = r.1 ∧ okE M v 2 i 1) ∧ ixOk v (i : Int) := by
  have he : (ws.map encV)[i]? = some (encV r) := by rw [List.getElem?_map, hx]; rfl
  have g0 := h.row.cell he (off := 0) (by omega)
  have g1 := h.row.cell he (off := 1) (by omega)
  have hi := (List.getElem?_eq_some_iff.1 hx).1
  exact ⟨⟨g0.1, g0.2.1⟩, ⟨g1.1, g1.2.1⟩, h.row.ix (i := (i : Int)) (by omega) (by rw [List.length_map]; omega)⟩
theorem id_at {M : Mem} {v : Value} {l : List Id3} {i : Nat} {r : Id3} (h : RowM M v 3 (l.map encI3)) (hx : l[i]? = some r) :
    (elE M v 3 i 0 = .bool r.1 ∧ okE M v 3 i 0) ∧ (elE M v 3 i 1 = .int .i64 r.2.1 ∧ okE M v 3 i 1) ∧ (elE M v 3 i 2 = .int .i64 r.2.2 ∧ okE M v 3 i 2) ∧ ixOk v (i : Int) := by
  have he : (l.map encI3)[i]? = some (encI3 r) := by rw [List.getElem?_map, hx]; rfl
  have g0 := h.cell he (off := 0) (by omega)
  have g1 := h.cell he (off := 1) (by omega)
  have g2 := h.cell he (off := 2) (by omega)
  have hi := (List.getElem?_eq_some_iff.1 hx).1
  exact ⟨⟨g0.1, g0.2.1⟩, ⟨g1.1, g1.2.1⟩, ⟨g2.1, g2.2.1⟩, h.ix (i := (i : Int)) (by omega) (by rw [List.length_map]; omega)⟩
/-! what is right -/
def idE (bag : List It) (id : Id3) : Int := if id.1 = false ∧ ¬ (id.2.1 = 0 ∧ id.2.2 = 0) then 3 else if id.1 = true ∧ fidx (isId id) bag 0 < 0 then 4 else 0
def goI (bag : List It) : List Id3 → Int
  | [] => 0
  | x :: r => if idE bag x ≠ 0 then idE bag x else goI bag r
def nameBad : Option (List UInt8) → List UInt8 → Bool
  | none, _ => false
  | some q, n => !(Op.bytesLess q n)
def goV (bag : List It) : Option (List UInt8) → List Vol → Int
  | _, [] => 0
  | p, v :: r => if nmB v.1 = false ∨ nameBad p v.1 = true then 3 else if 32 < v.2.length then 2 else if goI bag v.2 ≠ 0 then goI bag v.2 else goV bag (some v.1) r
def volsE (bag : List It) (l : List Vol) : Int := if 6 < l.length then 2 else goV bag none l
def prevN (l : List WV) (i : Nat) : Option (List UInt8) := match i with
  | 0 => none
  | j + 1 => (l[j]?).map (·.2.1)

theorem volumes (b v : Value) (bag : List It) (ws : List WV) (M : Mem) (hb : RowM M b 4 (bag.map Bg.encT)) (hv : VolsM M v ws) :
    Meets Proofs.Tryd.prog 64 [stV b v] M fun r _ _ => r = .v (.int .i64 (volsE bag (ws.map (·.2)))) := by
  refine Meets.of_body [0,1,2,3,4,6,10,12,13,14,15,38,42,44,45,46,47,57,66] Proofs.Tryd.func64 rfl (by kernel_rfl) rfl fun w => ?_
  generalize hc : volsE bag (ws.map (·.2)) = c
  unfold volsE at hc
  rw [List.length_map] at hc
  have hvl := hv.row.len_le
  rw [List.length_map] at hvl
  by_cases h6 : 6 < ws.length
  · have c6 : ((6 : Int) < (ws.length : Int)) = True := eq_true (by omega)
    rw [if_pos h6] at hc
    subst hc
    simp only [Proofs.Tryd.f64, stV, shs, zts, sos, sls, zss, eqs, sx, sb1, sb2, sb3, sb4, sb5, sb6, sb7, ↓reduceIte, Nat.reduceAdd, Nat.reduceMul, Nat.reduceDiv, Nat.reduceEqDiff, Nat.reduceLT, Nat.reduceLeDiff, reduceCtorEq, Int.reduceEq, Int.reduceNe, Int.reduceLT, Int.reduceLE, Int.reduceAdd, Int.reduceSub, Int.reduceMul, Int.reduceNeg, Int.reduceToNat, Int.cast_ofNat_Int, Int.natCast_zero, Int.natCast_one, Int.toNat_natCast, Nat.reduceBEq, nzs, hv.row.len, hv.row.sl, List.length_map, c6]
  have c6 : ((6 : Int) < (ws.length : Int)) = False := eq_false (by omega)
  rw [if_neg h6] at hc
  simp only [Proofs.Tryd.f64, stV, shs, zts, sos, sls, zss, eqs, sx, sb1, sb2, sb3, sb4, sb5, sb6, sb7, ↓reduceIte, Nat.reduceAdd, Nat.reduceMul, Nat.reduceDiv, Nat.reduceEqDiff, Nat.reduceLT, Nat.reduceLeDiff, reduceCtorEq, Int.reduceEq, Int.reduceNe, Int.reduceLT, Int.reduceLE, Int.reduceAdd, Int.reduceSub, Int.reduceMul, Int.reduceNeg, Int.reduceToNat, Int.cast_ofNat_Int, Int.natCast_zero, Int.natCast_one, Int.toNat_natCast, Nat.reduceBEq, nzs, hv.row.len, hv.row.sl, List.length_map, c6]
  refine LoopK.go (X := Nat × Nat) (fun x => ([(0, true, .agg [.v b, .v v]), (1, true, .ptr 8 0 0 0), (2, true, .v (.int .i64 0)), (12, true, .v v), (13, true, .v (.int .i64 ws.length)), (14, true, .v (.int .i64 x.2))], [(8, .box [.v b, .v v] none)], M))
    (fun x => x.1 + x.2 = ws.length ∧ goV bag (prevN ws x.2) ((ws.drop x.2).map (·.2)) = c) (fun x => x.1) (ws.length, 0) ⟨rfl, hc⟩ (Ent.of ?_) ?_
  · simp only [sx, sb1, sb2, sb3, sb4, sb5, sb6, sb7, ↓reduceIte, Nat.reduceAdd, Nat.reduceMul, Nat.reduceDiv, Nat.reduceEqDiff, Nat.reduceLT, Nat.reduceLeDiff, reduceCtorEq, Int.reduceEq, Int.reduceNe, Int.reduceLT, Int.reduceLE, Int.reduceAdd, Int.reduceSub, Int.reduceMul, Int.reduceNeg, Int.reduceToNat, Int.cast_ofNat_Int, Int.natCast_zero, Int.natCast_one, Int.toNat_natCast, Nat.reduceBEq]
  rintro ⟨f, i⟩ ⟨h1, h2⟩
  simp only at h1 h2
  by_cases hil : i < ws.length
  rotate_left
  · have d1 : ((i : Int) < (ws.length : Int)) = False := eq_false (by omega)
    rw [List.drop_eq_nil_of_le (by omega)] at h2
    simp only [List.map_nil, goV] at h2
    subst h2
    simp only [shs, zts, sos, sls, zss, eqs, sx, sb1, sb2, sb3, sb4, sb5, sb6, sb7, ↓reduceIte, Nat.reduceAdd, Nat.reduceMul, Nat.reduceDiv, Nat.reduceEqDiff, Nat.reduceLT, Nat.reduceLeDiff, reduceCtorEq, Int.reduceEq, Int.reduceNe, Int.reduceLT, Int.reduceLE, Int.reduceAdd, Int.reduceSub, Int.reduceMul, Int.reduceNeg, Int.reduceToNat, Int.cast_ofNat_Int, Int.natCast_zero, Int.natCast_one, Int.toNat_natCast, Nat.reduceBEq, nzs, d1]
  have d1 : ((i : Int) < (ws.length : Int)) = True := eq_true (by omega)
  obtain ⟨x, hx, hd⟩ := l_drop_at (l := ws) (i := i) hil
  rw [hd, List.map_cons, goV] at h2
  obtain ⟨g0, g1, i0⟩ := vol_at hv hx
  have hblk := hv.blk x (List.mem_of_getElem? hx)
  simp only [shs, zts, sos, sls, zss, eqs, sx, sb1, sb2, sb3, sb4, sb5, sb6, sb7, ↓reduceIte, Nat.reduceAdd, Nat.reduceMul, Nat.reduceDiv, Nat.reduceEqDiff, Nat.reduceLT, Nat.reduceLeDiff, reduceCtorEq, Int.reduceEq, Int.reduceNe, Int.reduceLT, Int.reduceLE, Int.reduceAdd, Int.reduceSub, Int.reduceMul, Int.reduceNeg, Int.reduceToNat, Int.cast_ofNat_Int, Int.natCast_zero, Int.natCast_one, Int.toNat_natCast, Nat.reduceBEq, nzs, d1, hv.row.len, hv.row.sl, List.length_map, i0, i0.2, g0.1, g0.2, g1.1, g1.2, hblk.one]
  have hbl := hblk.len_le
  rw [List.length_map] at hbl
  have hp : prevN ws (i + 1) = some x.2.1 := by simp only [prevN, hx, Option.map_some]
  refine DrawK.ent (X := Unit) (fun _ => True) (fun _ => ([(0, true, .agg [.v b, .v v]), (1, true, .ptr 8 0 0 0), (2, true, .v (.int .i64 0)), (3, true, .v (.int .i64 i)), (4, true, .ptr 32 0 0 0), (12, true, .v v), (13, true, .v (.int .i64 ws.length)), (14, true, .v (.int .i64 i)), (38, true, .v (.bool (!nmB x.2.1 || nameBad (prevN ws i) x.2.1)))], [(32, .box [.v (.string ⟨x.2.1.toArray⟩), .v x.1] none), (8, .box [.v b, .v v] none)], M)) ?_ ?_
  · cases i with
    | zero =>
      refine DrawK.held [8, 32] (tk [0, 1] (.one 2 (tk [3, 4, 5, 6, 7, 8, 10, 15, 9, 11, 16, 12, 13, 14, 17, 18, 19] .done))) (by kernel_rfl) (by kernel_rfl) fun xs => ?_
      simp only [shs, zts, sos, sls, zss, eqs, sx, sb1, sb2, sb3, sb4, sb5, sb6, sb7, ↓reduceIte, Nat.reduceAdd, Nat.reduceMul, Nat.reduceDiv, Nat.reduceEqDiff, Nat.reduceLT, Nat.reduceLeDiff, reduceCtorEq, Int.reduceEq, Int.reduceNe, Int.reduceLT, Int.reduceLE, Int.reduceAdd, Int.reduceSub, Int.reduceMul, Int.reduceNeg, Int.reduceToNat, Int.cast_ofNat_Int, Int.natCast_zero, Int.natCast_one, Int.toNat_natCast, Nat.reduceBEq, nzs, se1, se2, tks]
      refine CallK.pure ⟨rfl, rfl⟩ rfl (nameW x.2.1 M) ?_
      cases hN : nmB x.2.1 with
      | false =>
        simp only [shs, zts, sos, sls, zss, eqs, sx, sb1, sb2, sb3, sb4, sb5, sb6, sb7, ↓reduceIte, Nat.reduceAdd, Nat.reduceMul, Nat.reduceDiv, Nat.reduceEqDiff, Nat.reduceLT, Nat.reduceLeDiff, reduceCtorEq, Int.reduceEq, Int.reduceNe, Int.reduceLT, Int.reduceLE, Int.reduceAdd, Int.reduceSub, Int.reduceMul, Int.reduceNeg, Int.reduceToNat, Int.cast_ofNat_Int, Int.natCast_zero, Int.natCast_one, Int.toNat_natCast, Nat.reduceBEq, nzs, se1, se2, tks, Int.natCast_zero, Bool.not_false, Bool.true_or]
        first | exact ⟨(), trivial, Ent.heap (HEnt.untie (k := 32) rfl) (Ent.heap (HEnt.untie (k := 8) rfl) (Ent.of (by simp only [sx, sb1, sb2, sb3, sb4, sb5, sb6, sb7, ↓reduceIte, Nat.reduceAdd, Nat.reduceMul, Nat.reduceDiv, Nat.reduceEqDiff, Nat.reduceLT, Nat.reduceLeDiff, reduceCtorEq, Int.reduceEq, Int.reduceNe, Int.reduceLT, Int.reduceLE, Int.reduceAdd, Int.reduceSub, Int.reduceMul, Int.reduceNeg, Int.reduceToNat, Int.cast_ofNat_Int, Int.natCast_zero, Int.natCast_one, Int.toNat_natCast, Nat.reduceBEq, hset])))⟩ | exact ⟨(), Ent.heap (HEnt.untie (k := 32) rfl) (Ent.heap (HEnt.untie (k := 8) rfl) (Ent.of (by simp only [sx, sb1, sb2, sb3, sb4, sb5, sb6, sb7, ↓reduceIte, Nat.reduceAdd, Nat.reduceMul, Nat.reduceDiv, Nat.reduceEqDiff, Nat.reduceLT, Nat.reduceLeDiff, reduceCtorEq, Int.reduceEq, Int.reduceNe, Int.reduceLT, Int.reduceLE, Int.reduceAdd, Int.reduceSub, Int.reduceMul, Int.reduceNeg, Int.reduceToNat, Int.cast_ofNat_Int, Int.natCast_zero, Int.natCast_one, Int.toNat_natCast, Nat.reduceBEq, hset])))⟩ | exact Ent.heap (HEnt.untie (k := 32) rfl) (Ent.heap (HEnt.untie (k := 8) rfl) (Ent.of (by simp only [sx, sb1, sb2, sb3, sb4, sb5, sb6, sb7, ↓reduceIte, Nat.reduceAdd, Nat.reduceMul, Nat.reduceDiv, Nat.reduceEqDiff, Nat.reduceLT, Nat.reduceLeDiff, reduceCtorEq, Int.reduceEq, Int.reduceNe, Int.reduceLT, Int.reduceLE, Int.reduceAdd, Int.reduceSub, Int.reduceMul, Int.reduceNeg, Int.reduceToNat, Int.cast_ofNat_Int, Int.natCast_zero, Int.natCast_one, Int.toNat_natCast, Nat.reduceBEq, hset])))
      | true =>
        simp only [shs, zts, sos, sls, zss, eqs, sx, sb1, sb2, sb3, sb4, sb5, sb6, sb7, ↓reduceIte, Nat.reduceAdd, Nat.reduceMul, Nat.reduceDiv, Nat.reduceEqDiff, Nat.reduceLT, Nat.reduceLeDiff, reduceCtorEq, Int.reduceEq, Int.reduceNe, Int.reduceLT, Int.reduceLE, Int.reduceAdd, Int.reduceSub, Int.reduceMul, Int.reduceNeg, Int.reduceToNat, Int.cast_ofNat_Int, Int.natCast_zero, Int.natCast_one, Int.toNat_natCast, Nat.reduceBEq, nzs, se1, se2, tks, Int.natCast_zero, Bool.not_true, Bool.false_or, prevN, nameBad]
        first | exact ⟨(), trivial, Ent.heap (HEnt.untie (k := 32) rfl) (Ent.heap (HEnt.untie (k := 8) rfl) (Ent.of (by simp only [sx, sb1, sb2, sb3, sb4, sb5, sb6, sb7, ↓reduceIte, Nat.reduceAdd, Nat.reduceMul, Nat.reduceDiv, Nat.reduceEqDiff, Nat.reduceLT, Nat.reduceLeDiff, reduceCtorEq, Int.reduceEq, Int.reduceNe, Int.reduceLT, Int.reduceLE, Int.reduceAdd, Int.reduceSub, Int.reduceMul, Int.reduceNeg, Int.reduceToNat, Int.cast_ofNat_Int, Int.natCast_zero, Int.natCast_one, Int.toNat_natCast, Nat.reduceBEq, hset])))⟩ | exact ⟨(), Ent.heap (HEnt.untie (k := 32) rfl) (Ent.heap (HEnt.untie (k := 8) rfl) (Ent.of (by simp only [sx, sb1, sb2, sb3, sb4, sb5, sb6, sb7, ↓reduceIte, Nat.reduceAdd, Nat.reduceMul, Nat.reduceDiv, Nat.reduceEqDiff, Nat.reduceLT, Nat.reduceLeDiff, reduceCtorEq, Int.reduceEq, Int.reduceNe, Int.reduceLT, Int.reduceLE, Int.reduceAdd, Int.reduceSub, Int.reduceMul, Int.reduceNeg, Int.reduceToNat, Int.cast_ofNat_Int, Int.natCast_zero, Int.natCast_one, Int.toNat_natCast, Nat.reduceBEq, hset])))⟩ | exact Ent.heap (HEnt.untie (k := 32) rfl) (Ent.heap (HEnt.untie (k := 8) rfl) (Ent.of (by simp only [sx, sb1, sb2, sb3, sb4, sb5, sb6, sb7, ↓reduceIte, Nat.reduceAdd, Nat.reduceMul, Nat.reduceDiv, Nat.reduceEqDiff, Nat.reduceLT, Nat.reduceLeDiff, reduceCtorEq, Int.reduceEq, Int.reduceNe, Int.reduceLT, Int.reduceLE, Int.reduceAdd, Int.reduceSub, Int.reduceMul, Int.reduceNeg, Int.reduceToNat, Int.cast_ofNat_Int, Int.natCast_zero, Int.natCast_one, Int.toNat_natCast, Nat.reduceBEq, hset])))
    | succ j =>
      obtain ⟨y, hy, _⟩ := l_drop_at (l := ws) (i := j) (by omega)
      obtain ⟨f0, f1, j0⟩ := vol_at hv hy
      have e0 : ((j + 1 : Nat) : Int) - 1 = (j : Int) := by omega
      have e1 : ((0 : Int) < ((j + 1 : Nat) : Int)) = True := eq_true (by omega)
      refine DrawK.held [8, 32] (tk [0, 1] (.one 2 (tk [3, 4, 5, 6, 7, 8, 10, 15, 9, 11, 16, 12, 13, 14, 17, 18, 19] .done))) (by kernel_rfl) (by kernel_rfl) fun xs => ?_
      simp only [shs, zts, sos, sls, zss, eqs, sx, sb1, sb2, sb3, sb4, sb5, sb6, sb7, ↓reduceIte, Nat.reduceAdd, Nat.reduceMul, Nat.reduceDiv, Nat.reduceEqDiff, Nat.reduceLT, Nat.reduceLeDiff, reduceCtorEq, Int.reduceEq, Int.reduceNe, Int.reduceLT, Int.reduceLE, Int.reduceAdd, Int.reduceSub, Int.reduceMul, Int.reduceNeg, Int.reduceToNat, Int.cast_ofNat_Int, Int.natCast_zero, Int.natCast_one, Int.toNat_natCast, Nat.reduceBEq, nzs, se1, se2, tks]
      refine CallK.pure ⟨rfl, rfl⟩ rfl (nameW x.2.1 M) ?_
      cases hN : nmB x.2.1 with
      | false =>
        simp only [shs, zts, sos, sls, zss, eqs, sx, sb1, sb2, sb3, sb4, sb5, sb6, sb7, ↓reduceIte, Nat.reduceAdd, Nat.reduceMul, Nat.reduceDiv, Nat.reduceEqDiff, Nat.reduceLT, Nat.reduceLeDiff, reduceCtorEq, Int.reduceEq, Int.reduceNe, Int.reduceLT, Int.reduceLE, Int.reduceAdd, Int.reduceSub, Int.reduceMul, Int.reduceNeg, Int.reduceToNat, Int.cast_ofNat_Int, Int.natCast_zero, Int.natCast_one, Int.toNat_natCast, Nat.reduceBEq, nzs, se1, se2, tks, Bool.not_false, Bool.true_or]
        first | exact ⟨(), trivial, Ent.heap (HEnt.untie (k := 32) rfl) (Ent.heap (HEnt.untie (k := 8) rfl) (Ent.of (by simp only [sx, sb1, sb2, sb3, sb4, sb5, sb6, sb7, ↓reduceIte, Nat.reduceAdd, Nat.reduceMul, Nat.reduceDiv, Nat.reduceEqDiff, Nat.reduceLT, Nat.reduceLeDiff, reduceCtorEq, Int.reduceEq, Int.reduceNe, Int.reduceLT, Int.reduceLE, Int.reduceAdd, Int.reduceSub, Int.reduceMul, Int.reduceNeg, Int.reduceToNat, Int.cast_ofNat_Int, Int.natCast_zero, Int.natCast_one, Int.toNat_natCast, Nat.reduceBEq, hset])))⟩ | exact ⟨(), Ent.heap (HEnt.untie (k := 32) rfl) (Ent.heap (HEnt.untie (k := 8) rfl) (Ent.of (by simp only [sx, sb1, sb2, sb3, sb4, sb5, sb6, sb7, ↓reduceIte, Nat.reduceAdd, Nat.reduceMul, Nat.reduceDiv, Nat.reduceEqDiff, Nat.reduceLT, Nat.reduceLeDiff, reduceCtorEq, Int.reduceEq, Int.reduceNe, Int.reduceLT, Int.reduceLE, Int.reduceAdd, Int.reduceSub, Int.reduceMul, Int.reduceNeg, Int.reduceToNat, Int.cast_ofNat_Int, Int.natCast_zero, Int.natCast_one, Int.toNat_natCast, Nat.reduceBEq, hset])))⟩ | exact Ent.heap (HEnt.untie (k := 32) rfl) (Ent.heap (HEnt.untie (k := 8) rfl) (Ent.of (by simp only [sx, sb1, sb2, sb3, sb4, sb5, sb6, sb7, ↓reduceIte, Nat.reduceAdd, Nat.reduceMul, Nat.reduceDiv, Nat.reduceEqDiff, Nat.reduceLT, Nat.reduceLeDiff, reduceCtorEq, Int.reduceEq, Int.reduceNe, Int.reduceLT, Int.reduceLE, Int.reduceAdd, Int.reduceSub, Int.reduceMul, Int.reduceNeg, Int.reduceToNat, Int.cast_ofNat_Int, Int.natCast_zero, Int.natCast_one, Int.toNat_natCast, Nat.reduceBEq, hset])))
      | true =>
        simp only [shs, zts, sos, sls, zss, eqs, sx, sb1, sb2, sb3, sb4, sb5, sb6, sb7, ↓reduceIte, Nat.reduceAdd, Nat.reduceMul, Nat.reduceDiv, Nat.reduceEqDiff, Nat.reduceLT, Nat.reduceLeDiff, reduceCtorEq, Int.reduceEq, Int.reduceNe, Int.reduceLT, Int.reduceLE, Int.reduceAdd, Int.reduceSub, Int.reduceMul, Int.reduceNeg, Int.reduceToNat, Int.cast_ofNat_Int, Int.natCast_zero, Int.natCast_one, Int.toNat_natCast, Nat.reduceBEq, nzs, se1, se2, tks, e0, e1, j0, j0.2, f0.1, f0.2, inK, lo, hi, Bool.not_true, Bool.false_or, prevN, hy, Option.map_some, nameBad]
        refine ⟨by omega, ?_⟩
        first | exact ⟨(), trivial, Ent.heap (HEnt.untie (k := 32) rfl) (Ent.heap (HEnt.untie (k := 8) rfl) (Ent.of (by simp only [sx, sb1, sb2, sb3, sb4, sb5, sb6, sb7, ↓reduceIte, Nat.reduceAdd, Nat.reduceMul, Nat.reduceDiv, Nat.reduceEqDiff, Nat.reduceLT, Nat.reduceLeDiff, reduceCtorEq, Int.reduceEq, Int.reduceNe, Int.reduceLT, Int.reduceLE, Int.reduceAdd, Int.reduceSub, Int.reduceMul, Int.reduceNeg, Int.reduceToNat, Int.cast_ofNat_Int, Int.natCast_zero, Int.natCast_one, Int.toNat_natCast, Nat.reduceBEq, hset])))⟩ | exact ⟨(), Ent.heap (HEnt.untie (k := 32) rfl) (Ent.heap (HEnt.untie (k := 8) rfl) (Ent.of (by simp only [sx, sb1, sb2, sb3, sb4, sb5, sb6, sb7, ↓reduceIte, Nat.reduceAdd, Nat.reduceMul, Nat.reduceDiv, Nat.reduceEqDiff, Nat.reduceLT, Nat.reduceLeDiff, reduceCtorEq, Int.reduceEq, Int.reduceNe, Int.reduceLT, Int.reduceLE, Int.reduceAdd, Int.reduceSub, Int.reduceMul, Int.reduceNeg, Int.reduceToNat, Int.cast_ofNat_Int, Int.natCast_zero, Int.natCast_one, Int.toNat_natCast, Nat.reduceBEq, hset])))⟩ | exact Ent.heap (HEnt.untie (k := 32) rfl) (Ent.heap (HEnt.untie (k := 8) rfl) (Ent.of (by simp only [sx, sb1, sb2, sb3, sb4, sb5, sb6, sb7, ↓reduceIte, Nat.reduceAdd, Nat.reduceMul, Nat.reduceDiv, Nat.reduceEqDiff, Nat.reduceLT, Nat.reduceLeDiff, reduceCtorEq, Int.reduceEq, Int.reduceNe, Int.reduceLT, Int.reduceLE, Int.reduceAdd, Int.reduceSub, Int.reduceMul, Int.reduceNeg, Int.reduceToNat, Int.cast_ofNat_Int, Int.natCast_zero, Int.natCast_one, Int.toNat_natCast, Nat.reduceBEq, hset])))
  rintro _ _
  have hbad : ((!nmB x.2.1 || nameBad (prevN ws i) x.2.1) = true) ↔ (nmB x.2.1 = false ∨ nameBad (prevN ws i) x.2.1 = true) := by
    rw [Bool.or_eq_true, Bool.not_eq_true']
  generalize (!nmB x.2.1 || nameBad (prevN ws i) x.2.1) = bd at *
  cases bd with
  | true =>
    rw [if_pos (hbad.1 rfl)] at h2
    subst h2
    simp only [shs, zts, sos, sls, zss, eqs, sx, sb1, sb2, sb3, sb4, sb5, sb6, sb7, ↓reduceIte, Nat.reduceAdd, Nat.reduceMul, Nat.reduceDiv, Nat.reduceEqDiff, Nat.reduceLT, Nat.reduceLeDiff, reduceCtorEq, Int.reduceEq, Int.reduceNe, Int.reduceLT, Int.reduceLE, Int.reduceAdd, Int.reduceSub, Int.reduceMul, Int.reduceNeg, Int.reduceToNat, Int.cast_ofNat_Int, Int.natCast_zero, Int.natCast_one, Int.toNat_natCast, Nat.reduceBEq, nzs, se1, se2, tks]
  | false =>
  rw [if_neg (fun h => by cases hbad.2 h)] at h2
  by_cases h32 : 32 < x.2.2.length
  · have d2 : ((32 : Int) < (x.2.2.length : Int)) = True := eq_true (by omega)
    rw [if_pos h32] at h2
    subst h2
    simp only [shs, zts, sos, sls, zss, eqs, sx, sb1, sb2, sb3, sb4, sb5, sb6, sb7, ↓reduceIte, Nat.reduceAdd, Nat.reduceMul, Nat.reduceDiv, Nat.reduceEqDiff, Nat.reduceLT, Nat.reduceLeDiff, reduceCtorEq, Int.reduceEq, Int.reduceNe, Int.reduceLT, Int.reduceLE, Int.reduceAdd, Int.reduceSub, Int.reduceMul, Int.reduceNeg, Int.reduceToNat, Int.cast_ofNat_Int, Int.natCast_zero, Int.natCast_one, Int.toNat_natCast, Nat.reduceBEq, nzs, se1, se2, tks, hblk.len, hblk.sl, List.length_map, d2]
  have d2 : ((32 : Int) < (x.2.2.length : Int)) = False := eq_false (by omega)
  rw [if_neg h32] at h2
  simp only [shs, zts, sos, sls, zss, eqs, sx, sb1, sb2, sb3, sb4, sb5, sb6, sb7, ↓reduceIte, Nat.reduceAdd, Nat.reduceMul, Nat.reduceDiv, Nat.reduceEqDiff, Nat.reduceLT, Nat.reduceLeDiff, reduceCtorEq, Int.reduceEq, Int.reduceNe, Int.reduceLT, Int.reduceLE, Int.reduceAdd, Int.reduceSub, Int.reduceMul, Int.reduceNeg, Int.reduceToNat, Int.cast_ofNat_Int, Int.natCast_zero, Int.natCast_one, Int.toNat_natCast, Nat.reduceBEq, nzs, se1, se2, tks, hblk.len, hblk.sl, List.length_map, d2]
  generalize hge : goI bag x.2.2 = ge at h2
  refine LoopK.go (X := Nat × Nat) (fun z => ([(0, true, .agg [.v b, .v v]), (1, true, .ptr 8 0 0 0), (2, true, .v (.int .i64 0)), (12, true, .v v), (13, true, .v (.int .i64 ws.length)), (14, true, .v (.int .i64 i)), (44, true, .v x.1), (45, true, .v (.int .i64 x.2.2.length)), (46, true, .v (.int .i64 z.2))], [(8, .box [.v b, .v v] none)], M))
    (fun z => z.1 + z.2 = x.2.2.length ∧ goI bag (x.2.2.drop z.2) = ge) (fun z => z.1) (x.2.2.length, 0) ⟨rfl, hge⟩ (Ent.of ?_) ?_
  · simp only [sx, sb1, sb2, sb3, sb4, sb5, sb6, sb7, ↓reduceIte, Nat.reduceAdd, Nat.reduceMul, Nat.reduceDiv, Nat.reduceEqDiff, Nat.reduceLT, Nat.reduceLeDiff, reduceCtorEq, Int.reduceEq, Int.reduceNe, Int.reduceLT, Int.reduceLE, Int.reduceAdd, Int.reduceSub, Int.reduceMul, Int.reduceNeg, Int.reduceToNat, Int.cast_ofNat_Int, Int.natCast_zero, Int.natCast_one, Int.toNat_natCast, Nat.reduceBEq, Int.natCast_zero]
  rintro ⟨f2, j⟩ ⟨k1, k2⟩
  simp only at k1 k2
  by_cases hjl : j < x.2.2.length
  rotate_left
  · have d3 : ((j : Int) < (x.2.2.length : Int)) = False := eq_false (by omega)
    rw [List.drop_eq_nil_of_le (by omega)] at k2
    simp only [goI] at k2
    subst k2
    rw [if_neg (fun h => h rfl)] at h2
    simp only [shs, zts, sos, sls, zss, eqs, sx, sb1, sb2, sb3, sb4, sb5, sb6, sb7, ↓reduceIte, Nat.reduceAdd, Nat.reduceMul, Nat.reduceDiv, Nat.reduceEqDiff, Nat.reduceLT, Nat.reduceLeDiff, reduceCtorEq, Int.reduceEq, Int.reduceNe, Int.reduceLT, Int.reduceLE, Int.reduceAdd, Int.reduceSub, Int.reduceMul, Int.reduceNeg, Int.reduceToNat, Int.cast_ofNat_Int, Int.natCast_zero, Int.natCast_one, Int.toNat_natCast, Nat.reduceBEq, nzs, se1, se2, tks, d3, inK, lo, hi]
    refine ⟨by omega, (f - 1, i + 1), ⟨⟨by simp only; omega, by rw [hp]; exact h2⟩, by simp only; omega⟩, Ent.of ?_⟩
    simp only [sx, sb1, sb2, sb3, sb4, sb5, sb6, sb7, ↓reduceIte, Nat.reduceAdd, Nat.reduceMul, Nat.reduceDiv, Nat.reduceEqDiff, Nat.reduceLT, Nat.reduceLeDiff, reduceCtorEq, Int.reduceEq, Int.reduceNe, Int.reduceLT, Int.reduceLE, Int.reduceAdd, Int.reduceSub, Int.reduceMul, Int.reduceNeg, Int.reduceToNat, Int.cast_ofNat_Int, Int.natCast_zero, Int.natCast_one, Int.toNat_natCast, Nat.reduceBEq, Int.natCast_add]
  have d3 : ((j : Int) < (x.2.2.length : Int)) = True := eq_true (by omega)
  obtain ⟨y, hy, hd2⟩ := l_drop_at (l := x.2.2) (i := j) hjl
  obtain ⟨y0, y1, y2, yi⟩ := id_at hblk hy
  rw [hd2, goI] at k2
  have hF := find b bag y M hb
  simp only [idV] at hF
  obtain ⟨q0, q1, q2⟩ := y
  simp only at y0 y1 y2 k2 hF
  cases q0 with
  | false =>
    by_cases hz : q1 = 0 ∧ q2 = 0
    · obtain ⟨rfl, rfl⟩ := hz
      have hE : idE bag (false, 0, 0) = 0 := rfl
      rw [hE, if_neg (fun h => h rfl)] at k2
      simp only [shs, zts, sos, sls, zss, eqs, sx, sb1, sb2, sb3, sb4, sb5, sb6, sb7, ↓reduceIte, Nat.reduceAdd, Nat.reduceMul, Nat.reduceDiv, Nat.reduceEqDiff, Nat.reduceLT, Nat.reduceLeDiff, reduceCtorEq, Int.reduceEq, Int.reduceNe, Int.reduceLT, Int.reduceLE, Int.reduceAdd, Int.reduceSub, Int.reduceMul, Int.reduceNeg, Int.reduceToNat, Int.cast_ofNat_Int, Int.natCast_zero, Int.natCast_one, Int.toNat_natCast, Nat.reduceBEq, nzs, se1, se2, tks, d3, yi, yi.2, y0.1, y0.2, y1.1, y1.2, y2.1, y2.2, inK, lo, hi]
      refine ⟨by omega, (f2 - 1, j + 1), ⟨⟨by simp only; omega, k2⟩, by simp only; omega⟩, Ent.of ?_⟩
      simp only [sx, sb1, sb2, sb3, sb4, sb5, sb6, sb7, ↓reduceIte, Nat.reduceAdd, Nat.reduceMul, Nat.reduceDiv, Nat.reduceEqDiff, Nat.reduceLT, Nat.reduceLeDiff, reduceCtorEq, Int.reduceEq, Int.reduceNe, Int.reduceLT, Int.reduceLE, Int.reduceAdd, Int.reduceSub, Int.reduceMul, Int.reduceNeg, Int.reduceToNat, Int.cast_ofNat_Int, Int.natCast_zero, Int.natCast_one, Int.toNat_natCast, Nat.reduceBEq, Int.natCast_add]
    · have hE : idE bag (false, q1, q2) = 3 := by
        unfold idE
        exact if_pos ⟨rfl, hz⟩
      have hn : ∀ p : Prop, ((q1 = 0 ∧ q2 = 0) → p) = True := fun p => eq_true (fun h => absurd h hz)
      rw [hE, if_pos (by decide)] at k2
      subst k2
      rw [if_pos (by decide)] at h2
      subst h2
      simp only [shs, zts, sos, sls, zss, eqs, sx, sb1, sb2, sb3, sb4, sb5, sb6, sb7, ↓reduceIte, Nat.reduceAdd, Nat.reduceMul, Nat.reduceDiv, Nat.reduceEqDiff, Nat.reduceLT, Nat.reduceLeDiff, reduceCtorEq, Int.reduceEq, Int.reduceNe, Int.reduceLT, Int.reduceLE, Int.reduceAdd, Int.reduceSub, Int.reduceMul, Int.reduceNeg, Int.reduceToNat, Int.cast_ofNat_Int, Int.natCast_zero, Int.natCast_one, Int.toNat_natCast, Nat.reduceBEq, nzs, se1, se2, tks, d3, yi, yi.2, y0.1, y0.2, y1.1, y1.2, y2.1, y2.2]
      exact fun h => absurd h hz
  | true =>
    simp only [shs, zts, sos, sls, zss, eqs, sx, sb1, sb2, sb3, sb4, sb5, sb6, sb7, ↓reduceIte, Nat.reduceAdd, Nat.reduceMul, Nat.reduceDiv, Nat.reduceEqDiff, Nat.reduceLT, Nat.reduceLeDiff, reduceCtorEq, Int.reduceEq, Int.reduceNe, Int.reduceLT, Int.reduceLE, Int.reduceAdd, Int.reduceSub, Int.reduceMul, Int.reduceNeg, Int.reduceToNat, Int.cast_ofNat_Int, Int.natCast_zero, Int.natCast_one, Int.toNat_natCast, Nat.reduceBEq, nzs, se1, se2, tks, d3, yi, yi.2, y0.1, y0.2, y1.1, y1.2, y2.1, y2.2]
    refine CallK.pure ⟨rfl, rfl⟩ rfl hF ?_
    by_cases hneg : fidx (isId (true, q1, q2)) bag 0 < 0
    · have d4 := eq_true hneg
      have hE : idE bag (true, q1, q2) = 4 := by
        unfold idE
        rw [if_neg (fun h => by cases h.1)]
        exact if_pos ⟨rfl, hneg⟩
      rw [hE, if_pos (by decide)] at k2
      subst k2
      rw [if_pos (by decide)] at h2
      subst h2
      simp only [shs, zts, sos, sls, zss, eqs, sx, sb1, sb2, sb3, sb4, sb5, sb6, sb7, ↓reduceIte, Nat.reduceAdd, Nat.reduceMul, Nat.reduceDiv, Nat.reduceEqDiff, Nat.reduceLT, Nat.reduceLeDiff, reduceCtorEq, Int.reduceEq, Int.reduceNe, Int.reduceLT, Int.reduceLE, Int.reduceAdd, Int.reduceSub, Int.reduceMul, Int.reduceNeg, Int.reduceToNat, Int.cast_ofNat_Int, Int.natCast_zero, Int.natCast_one, Int.toNat_natCast, Nat.reduceBEq, nzs, se1, se2, tks, d4]
    · have d4 := eq_false hneg
      have hE : idE bag (true, q1, q2) = 0 := by
        unfold idE
        rw [if_neg (fun h => by cases h.1)]
        exact if_neg (fun h => hneg h.2)
      rw [hE, if_neg (fun h => h rfl)] at k2
      simp only [shs, zts, sos, sls, zss, eqs, sx, sb1, sb2, sb3, sb4, sb5, sb6, sb7, ↓reduceIte, Nat.reduceAdd, Nat.reduceMul, Nat.reduceDiv, Nat.reduceEqDiff, Nat.reduceLT, Nat.reduceLeDiff, reduceCtorEq, Int.reduceEq, Int.reduceNe, Int.reduceLT, Int.reduceLE, Int.reduceAdd, Int.reduceSub, Int.reduceMul, Int.reduceNeg, Int.reduceToNat, Int.cast_ofNat_Int, Int.natCast_zero, Int.natCast_one, Int.toNat_natCast, Nat.reduceBEq, nzs, se1, se2, tks, d4, inK, lo, hi]
      refine ⟨by omega, (f2 - 1, j + 1), ⟨⟨by simp only; omega, k2⟩, by simp only; omega⟩, Ent.of ?_⟩
      simp only [sx, sb1, sb2, sb3, sb4, sb5, sb6, sb7, ↓reduceIte, Nat.reduceAdd, Nat.reduceMul, Nat.reduceDiv, Nat.reduceEqDiff, Nat.reduceLT, Nat.reduceLeDiff, reduceCtorEq, Int.reduceEq, Int.reduceNe, Int.reduceLT, Int.reduceLE, Int.reduceAdd, Int.reduceSub, Int.reduceMul, Int.reduceNeg, Int.reduceToNat, Int.cast_ofNat_Int, Int.natCast_zero, Int.natCast_one, Int.toNat_natCast, Nat.reduceBEq, Int.natCast_add]
end Go.X.Vo
