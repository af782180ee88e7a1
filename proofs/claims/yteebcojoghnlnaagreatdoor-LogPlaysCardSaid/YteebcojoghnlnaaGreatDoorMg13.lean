/- Contracts of functions and the logic that they are proved in (2 texts in one). Conditions: none. -/
import Derived.Test.YteebcojoghnlnaaGreatDoorMg12
open Nat renaming reduceAdd → zqa, reduceMul → zqb, reduceDiv → zqc, reduceEqDiff → zqd, reduceLT → zqe, reduceLeDiff → zqf, reduceBEq → zqg
open Int renaming reduceEq → zra, reduceNe → zrb, reduceLT → zrc, reduceLE → zrd, reduceAdd → zre, reduceSub → zrf, reduceMul → zrg, reduceNeg → zrh, reduceToNat → zri, cast_ofNat_Int → zrj, natCast_zero → zrk, natCast_one → zrl, toNat_natCast → zrm
namespace Go.X.Bg
end Go.X.Bg
namespace Go.X.Nm
end Go.X.Nm
set_option linter.unusedSimpArgs false
set_option linter.unusedVariables false
set_option maxHeartbeats 4000000
set_option maxRecDepth 20000
namespace Go.X.Vo
open Go Go.X Go.RowKit Go.X.Bg Go.X.Nm

/-- what vol.place answers -/
def plE (bag : List It) (l : List Vol) (n : List UInt8) (at' : Int) : Int := if stE bag l ≠ 0 then stE bag l else if volIx l n < 0 then 4 else if at' < 0 ∨ ((blks l n).length : Int) ≤ at' then 1 else 0
def plI (bag : List It) (l : List Vol) (n : List UInt8) (at' : Int) : Int := if plE bag l n at' = 0 then volIx l n else 0
theorem plE_ok {bag : List It} {l : List Vol} {n : List UInt8} {a : Int} (h : plE bag l n a = 0) : stE bag l = 0 ∧ ¬ volIx l n < 0 ∧ 0 ≤ a ∧ a < ((blks l n).length : Int) := by
  unfold plE at h
  split at h
  · rename_i h1; exact absurd h h1
  rename_i h1
  split at h
  · cases h
  rename_i h2
  split at h
  · cases h
  rename_i h3
  exact ⟨Decidable.of_not_not h1, h2, by omega, by omega⟩
theorem place (b v : Value) (bag : List It) (ws : List WV) (n : List UInt8) (a : Int) (M : Mem) (hb : RowM M b 4 (bag.map Bg.encT)) (hv : VolsM M v ws) :
    Meets Proofs.Tryz.prog 48 [stV b v, .v (.string ⟨n.toArray⟩), .v (.int .i64 a)] M fun r _ _ => r = .tup [.v (.int .i64 (plI bag (ws.map (·.2)) n a)), .v (.int .i64 (plE bag (ws.map (·.2)) n a))] := by
  refine Meets.of_body [0,1,2,3,6,7,8,9,13,19,32] Proofs.Tryz.func48 rfl (by kernel_rfl) rfl fun w => ?_
  have hC := vcheck b v bag ws M hb hv
  have hF := find b v ws n M hv
  unfold plI
  generalize hE : plE bag (ws.map (·.2)) n a = e
  unfold plE at hE
  simp only [stV] at hC hF
  simp only [Proofs.Tryz.f48, stV, shs, zts, sos, sls, zss, eqs, sx, sb1, sb2, sb3, sb4, sb5, sb6, sb7, ↓reduceIte, zqa, zqb, zqc, zqd, zqe, zqf, reduceCtorEq, zra, zrb, zrc, zrd, zre, zrf, zrg, zrh, zri, zrj, zrk, zrl, zrm, zqg, nzs]
  refine CallK.pure ⟨rfl, rfl⟩ rfl hC ?_
  by_cases h1 : stE bag (ws.map (·.2)) = 0
  rotate_left
  · have c1 := eq_false h1
    rw [if_pos h1] at hE
    subst hE
    rw [if_neg h1]
    simp only [shs, zts, sos, sls, zss, eqs, sx, sb1, sb2, sb3, sb4, sb5, sb6, sb7, ↓reduceIte, zqa, zqb, zqc, zqd, zqe, zqf, reduceCtorEq, zra, zrb, zrc, zrd, zre, zrf, zrg, zrh, zri, zrj, zrk, zrl, zrm, zqg, nzs, c1]
  rw [if_neg (fun h => h h1)] at hE
  simp only [shs, zts, sos, sls, zss, eqs, sx, sb1, sb2, sb3, sb4, sb5, sb6, sb7, ↓reduceIte, zqa, zqb, zqc, zqd, zqe, zqf, reduceCtorEq, zra, zrb, zrc, zrd, zre, zrf, zrg, zrh, zri, zrj, zrk, zrl, zrm, zqg, nzs, h1]
  refine CallK.pure ⟨rfl, rfl⟩ rfl hF ?_
  by_cases h2 : volIx (ws.map (·.2)) n < 0
  · have c2 := eq_true h2
    rw [if_pos h2] at hE
    subst hE
    simp only [shs, zts, sos, sls, zss, eqs, sx, sb1, sb2, sb3, sb4, sb5, sb6, sb7, ↓reduceIte, zqa, zqb, zqc, zqd, zqe, zqf, reduceCtorEq, zra, zrb, zrc, zrd, zre, zrf, zrg, zrh, zri, zrj, zrk, zrl, zrm, zqg, nzs, c2]
  have c2 := eq_false h2
  rw [if_neg h2] at hE
  obtain ⟨j, x, k1, k2, k3, k4⟩ := volIx_at h2
  rw [blks_at k1 k4] at hE
  obtain ⟨g0, g1, i0⟩ := vol_at hv k2
  have hblk := hv.blk x (List.mem_of_getElem? k2)
  rw [k1] at c2 ⊢
  by_cases h3 : a < 0
  · have c3 := eq_true h3
    rw [if_pos (.inl h3)] at hE
    subst hE
    simp only [shs, zts, sos, sls, zss, eqs, sx, sb1, sb2, sb3, sb4, sb5, sb6, sb7, ↓reduceIte, zqa, zqb, zqc, zqd, zqe, zqf, reduceCtorEq, zra, zrb, zrc, zrd, zre, zrf, zrg, zrh, zri, zrj, zrk, zrl, zrm, zqg, nzs, c2, c3]
  have c3 := eq_false h3
  by_cases h4 : (x.2.2.length : Int) ≤ a
  · have c4 := eq_true h4
    rw [if_pos (.inr h4)] at hE
    subst hE
    simp only [shs, zts, sos, sls, zss, eqs, sx, sb1, sb2, sb3, sb4, sb5, sb6, sb7, ↓reduceIte, zqa, zqb, zqc, zqd, zqe, zqf, reduceCtorEq, zra, zrb, zrc, zrd, zre, zrf, zrg, zrh, zri, zrj, zrk, zrl, zrm, zqg, nzs, c2, c3, i0, i0.2, g1.1, g1.2, hblk.len, hblk.sl, List.length_map, c4]
  · have c4 := eq_false h4
    rw [if_neg (by omega)] at hE
    subst hE
    simp only [shs, zts, sos, sls, zss, eqs, sx, sb1, sb2, sb3, sb4, sb5, sb6, sb7, ↓reduceIte, zqa, zqb, zqc, zqd, zqe, zqf, reduceCtorEq, zra, zrb, zrc, zrd, zre, zrf, zrg, zrh, zri, zrj, zrk, zrl, zrm, zqg, nzs, c2, c3, i0, i0.2, g1.1, g1.2, hblk.len, hblk.sl, List.length_map, c4, if_true]
/-- the text of an id -/
def txtId (bag : List It) (id : Id3) : List UInt8 := ((bag[(fidx (isId id) bag 0).toNat]?).map (·.2.2.1)).getD []
def getE (bag : List It) (id : Id3) : Int := if bagE bag ≠ 0 then bagE bag else if fidx (isId id) bag 0 < 0 then 4 else 0
theorem get (b : Value) (bag : List It) (id : Id3) (M : Mem) (hb : RowM M b 4 (bag.map Bg.encT)) :
    Meets Proofs.Tryz.prog 124 [.v b, idV id] M fun r _ _ => r = .tup [.v (.string ⟨(if getE bag id = 0 then txtId bag id else []).toArray⟩), .v (.int .i64 (getE bag id))] := by
  refine Meets.of_body [0,1,3,4,5,6,7,11,17] Proofs.Tryz.func124 rfl (by kernel_rfl) rfl fun w => ?_
  have hC := check b bag M hb
  have hF := Bg.find b bag id M hb
  generalize hE : getE bag id = e
  unfold getE at hE
  simp only [idV] at hF
  simp only [Proofs.Tryz.f124, idV, shs, zts, sos, sls, zss, eqs, sx, sb1, sb2, sb3, sb4, sb5, sb6, sb7, ↓reduceIte, zqa, zqb, zqc, zqd, zqe, zqf, reduceCtorEq, zra, zrb, zrc, zrd, zre, zrf, zrg, zrh, zri, zrj, zrk, zrl, zrm, zqg, nzs]
  refine CallK.pure ⟨rfl, rfl⟩ rfl hC ?_
  by_cases h1 : bagE bag = 0
  rotate_left
  · have c1 := eq_false h1
    rw [if_pos h1] at hE
    subst hE
    rw [if_neg h1]
    simp only [shs, zts, sos, sls, zss, eqs, sx, sb1, sb2, sb3, sb4, sb5, sb6, sb7, ↓reduceIte, zqa, zqb, zqc, zqd, zqe, zqf, reduceCtorEq, zra, zrb, zrc, zrd, zre, zrf, zrg, zrh, zri, zrj, zrk, zrl, zrm, zqg, nzs, c1]
  rw [if_neg (fun h => h h1)] at hE
  simp only [shs, zts, sos, sls, zss, eqs, sx, sb1, sb2, sb3, sb4, sb5, sb6, sb7, ↓reduceIte, zqa, zqb, zqc, zqd, zqe, zqf, reduceCtorEq, zra, zrb, zrc, zrd, zre, zrf, zrg, zrh, zri, zrj, zrk, zrl, zrm, zqg, nzs, h1]
  refine CallK.pure ⟨rfl, rfl⟩ rfl hF ?_
  by_cases h2 : fidx (isId id) bag 0 < 0
  · have c2 := eq_true h2
    rw [if_pos h2] at hE
    subst hE
    simp only [shs, zts, sos, sls, zss, eqs, sx, sb1, sb2, sb3, sb4, sb5, sb6, sb7, ↓reduceIte, zqa, zqb, zqc, zqd, zqe, zqf, reduceCtorEq, zra, zrb, zrc, zrd, zre, zrf, zrg, zrh, zri, zrj, zrk, zrl, zrm, zqg, nzs, c2]
  have c2 := eq_false h2
  rw [if_neg h2] at hE
  subst hE
  rcases fidx_sp (isId id) bag 0 with ⟨h3, _⟩ | ⟨j, x, k1, k2, k3, _⟩
  · rw [h3] at h2; exact absurd (by decide) h2
  rw [Nat.zero_add] at k1
  obtain ⟨⟨y0, y1⟩, ⟨y2, y3⟩, yi⟩ := it_at hb k2
  have ht : txtId bag id = x.2.2.1 := by unfold txtId; rw [k1, zrm, k2]; rfl
  rw [ht]
  rw [k1] at c2 ⊢
  simp only [shs, zts, sos, sls, zss, eqs, sx, sb1, sb2, sb3, sb4, sb5, sb6, sb7, ↓reduceIte, zqa, zqb, zqc, zqd, zqe, zqf, reduceCtorEq, zra, zrb, zrc, zrd, zre, zrf, zrg, zrh, zri, zrj, zrk, zrl, zrm, zqg, nzs, c2, yi, yi.2, y2.1, y2.2, if_true]
/-- what vol.Read answers -/
def rdId (l : List Vol) (n : List UInt8) (a : Int) : Id3 := ((blks l n)[a.toNat]?).getD (false, 0, 0)
def rdS (bag : List It) (l : List Vol) (n : List UInt8) (a : Int) : List UInt8 := if plE bag l n a = 0 then (if (rdId l n a).1 = true then txtId bag (rdId l n a) else []) else []
theorem goI_ok {bag : List It} : ∀ {l : List Id3}, goI bag l = 0 → ∀ id ∈ l, idE bag id = 0
  | [], _, id, h => by cases h
  | x :: r, h, id, hm => by
    rw [goI] at h
    split at h
    · rename_i h1; exact absurd h h1
    · rename_i h1
      rcases List.mem_cons.1 hm with rfl | hm
      · exact Decidable.of_not_not h1
      · exact goI_ok h id hm
theorem idE_is {bag : List It} {id : Id3} (h : idE bag id = 0) (hi : id.1 = true) : ¬ fidx (isId id) bag 0 < 0 := by
  intro h1
  unfold idE at h
  rw [if_neg (fun e => by rw [hi] at e; cases e.1), if_pos ⟨hi, h1⟩] at h
  cases h
theorem read (b v : Value) (bag : List It) (ws : List WV) (n : List UInt8) (a : Int) (M : Mem) (hb : RowM M b 4 (bag.map Bg.encT)) (hv : VolsM M v ws) :
    Meets Proofs.Tryz.prog 68 [stV b v, .v (.string ⟨n.toArray⟩), .v (.int .i64 a)] M fun r _ _ => r = .tup [.v (.string ⟨(rdS bag (ws.map (·.2)) n a).toArray⟩), .v (.int .i64 (plE bag (ws.map (·.2)) n a))] := by
  refine Meets.of_body [0,1,2,3,6,7,8,9,10,19,32] Proofs.Tryz.func68 rfl (by kernel_rfl) rfl fun w => ?_
  have hP := place b v bag ws n a M hb hv
  unfold plI at hP
  unfold rdS
  simp only [stV] at hP
  simp only [Proofs.Tryz.f68, stV, shs, zts, sos, sls, zss, eqs, sx, sb1, sb2, sb3, sb4, sb5, sb6, sb7, ↓reduceIte, zqa, zqb, zqc, zqd, zqe, zqf, reduceCtorEq, zra, zrb, zrc, zrd, zre, zrf, zrg, zrh, zri, zrj, zrk, zrl, zrm, zqg, nzs]
  refine CallK.pure ⟨rfl, rfl⟩ rfl hP ?_
  by_cases h1 : plE bag (ws.map (·.2)) n a = 0
  rotate_left
  · have c1 := eq_false h1
    simp only [shs, zts, sos, sls, zss, eqs, sx, sb1, sb2, sb3, sb4, sb5, sb6, sb7, ↓reduceIte, zqa, zqb, zqc, zqd, zqe, zqf, reduceCtorEq, zra, zrb, zrc, zrd, zre, zrf, zrg, zrh, zri, zrj, zrk, zrl, zrm, zqg, nzs, c1]
  obtain ⟨hs, h2, h3, h4⟩ := plE_ok h1
  obtain ⟨j, x, k1, k2, k3, k4⟩ := volIx_at h2
  have hbk := blks_at k1 k4
  rw [hbk] at h4
  obtain ⟨g0, g1, i0⟩ := vol_at hv k2
  have hblk := hv.blk x (List.mem_of_getElem? k2)
  obtain ⟨m, rfl⟩ : ∃ m : Nat, a = m := ⟨a.toNat, by omega⟩
  obtain ⟨id, hid, _⟩ := l_drop_at (l := x.2.2) (i := m) (by omega)
  obtain ⟨y0, y1, y2, yi⟩ := id_at hblk hid
  have hrd : rdId (ws.map (·.2)) n (m : Int) = id := by unfold rdId; rw [hbk, zrm, hid]; rfl
  obtain ⟨hB, hV, _⟩ := stE_ok hs
  have hgo := goI_ok ((volsE_ok hV).2 x.2 (List.mem_of_getElem? k4)).2.2 id (List.mem_of_getElem? hid)
  have hG := get b bag id M hb
  simp only [idV] at hG
  rw [h1, k1, hrd]
  obtain ⟨q0, q1, q2⟩ := id
  simp only at y0 y1 y2 hG
  cases q0 with
  | false => simp only [shs, zts, sos, sls, zss, eqs, sx, sb1, sb2, sb3, sb4, sb5, sb6, sb7, ↓reduceIte, zqa, zqb, zqc, zqd, zqe, zqf, reduceCtorEq, zra, zrb, zrc, zrd, zre, zrf, zrg, zrh, zri, zrj, zrk, zrl, zrm, zqg, nzs, i0, i0.2, g1.1, g1.2, yi, yi.2, y0.1, y0.2, y1.1, y1.2, y2.1, y2.2, if_true]
  | true =>
    have hE : getE bag (true, q1, q2) = 0 := by unfold getE; rw [if_neg (fun h => h hB), if_neg (idE_is hgo rfl)]
    rw [hE, if_pos rfl] at hG
    simp only [shs, zts, sos, sls, zss, eqs, sx, sb1, sb2, sb3, sb4, sb5, sb6, sb7, ↓reduceIte, zqa, zqb, zqc, zqd, zqe, zqf, reduceCtorEq, zra, zrb, zrc, zrd, zre, zrf, zrg, zrh, zri, zrj, zrk, zrl, zrm, zqg, nzs, i0, i0.2, g1.1, g1.2, yi, yi.2, y0.1, y0.2, y1.1, y1.2, y2.1, y2.2, if_true]
    refine CallK.pure ⟨rfl, rfl⟩ rfl hG ?_
    simp only [shs, zts, sos, sls, zss, eqs, sx, sb1, sb2, sb3, sb4, sb5, sb6, sb7, ↓reduceIte, zqa, zqb, zqc, zqd, zqe, zqf, reduceCtorEq, zra, zrb, zrc, zrd, zre, zrf, zrg, zrh, zri, zrj, zrk, zrl, zrm, zqg, nzs]
end Go.X.Vo

namespace Go.X.Vo
open Go Go.X Go.RowKit Go.X.Bg Go.X.Nm

theorem less_irr : ∀ a : List UInt8, Op.bytesLess a a = false
  | [] => rfl
  | x :: a => by
    have h1 : ¬ x < x := UInt8.lt_irrefl x
    simp [Op.bytesLess, h1, less_irr a]
theorem less_trans : ∀ {a b c : List UInt8}, Op.bytesLess a b = true → Op.bytesLess b c = true → Op.bytesLess a c = true
  | _, _, [], _, h => by cases ‹List UInt8› <;> simp [Op.bytesLess] at h
  | _, [], _ :: _, h, _ => by cases ‹List UInt8› <;> simp [Op.bytesLess] at h
  | [], _ :: _, _ :: _, _, _ => rfl
  | x :: a, y :: b, z :: c, h1, h2 => by
    simp only [Op.bytesLess, Bool.or_eq_true, decide_eq_true_eq, Bool.and_eq_true, beq_iff_eq] at h1 h2 ⊢
    rcases h1 with h1 | ⟨rfl, h1⟩
    · rcases h2 with h2 | ⟨rfl, h2⟩
      · exact .inl (UInt8.lt_trans h1 h2)
      · exact .inl h1
    · rcases h2 with h2 | ⟨rfl, h2⟩
      · exact .inl h2
      · exact .inr ⟨rfl, less_trans h1 h2⟩
theorem goV_srt (bag : List It) : ∀ (p : Option (List UInt8)) (l : List Vol), goV bag p l = 0 → (∀ q, p = some q → ∀ v ∈ l, Op.bytesLess q v.1 = true) ∧ l.Pairwise (fun a b => Op.bytesLess a.1 b.1 = true)
  | _, [], _ => ⟨fun q _ v hv => (List.not_mem_nil hv).elim, .nil⟩
  | p, x :: r, h => by
    rw [goV] at h
    split at h
    · cases h
    rename_i h1
    split at h
    · cases h
    split at h
    · rename_i h3; exact absurd h h3
    obtain ⟨i1, i2⟩ := goV_srt bag (some x.1) r h
    have hx := i1 x.1 rfl
    refine ⟨fun q hq v hv => ?_, List.pairwise_cons.2 ⟨hx, i2⟩⟩
    subst hq
    have hqx : Op.bytesLess q x.1 = true := by
      have : nameBad (some q) x.1 = false := by
        cases hb : nameBad (some q) x.1 with
        | false => rfl
        | true => exact absurd (.inr hb) h1
      simpa [nameBad] using this
    rcases List.mem_cons.1 hv with rfl | hv
    · exact hqx
    · exact less_trans hqx (hx v hv)
theorem vols_srt {bag : List It} {l : List Vol} (h : volsE bag l = 0) : l.Pairwise (fun a b => Op.bytesLess a.1 b.1 = true) := by
  unfold volsE at h
  split at h
  · cases h
  · exact (goV_srt bag none l h).2
/-- what stands in a place, told -/
def tE (bag : List It) (id : Id3) : List UInt8 := if id.1 = true then 43 :: txtId bag id else [45]
/-- a map of names to the slices of what stands there -/
def TxtM (bag : List It) (ws : List WV) (es : List (List UInt8 × Value)) (M : Mem) : Prop :=
  es.length = ws.length ∧ ∀ (i : Nat) (x : WV), ws[i]? = some x → ∃ u, es[i]? = some (x.2.1, u) ∧ RowM M u 1 ((x.2.2.map (tE bag)).map encS)
theorem TxtM.le {bag : List It} {ws : List WV} {es : List (List UInt8 × Value)} {M M' : Mem} (h : TxtM bag ws es M) (hl : M.le M') : TxtM bag ws es M' :=
  ⟨h.1, fun i x hx => by obtain ⟨u, h1, h2⟩ := h.2 i x hx; exact ⟨u, h1, h2.le hl⟩⟩
end Go.X.Vo

