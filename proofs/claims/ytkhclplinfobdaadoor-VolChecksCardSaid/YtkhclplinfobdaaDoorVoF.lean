/- Volumes: what vol.find, vol.Blocks, woolref.Vol, vol.place, bag.Get, vol.Read return. Conditions: none. -/
import Derived.Test.YtkhclplinfobdaaDoorVoR
set_option linter.unusedSimpArgs false
set_option linter.unusedVariables false
set_option maxHeartbeats 4000000
set_option maxRecDepth 20000
namespace Go.X.Vo
open Go Go.X Go.RowKit Go.X.Bg Go.X.Nm

theorem idxV {α : Type} (q0 q1 : α → Value) (p : α → Bool) (f : Nat) (caps : List SV) (hcaps : SV.concs caps = true) (y : Value) (l : List α) (M : Mem) (hy : RowM M y 2 (l.map (fun x => [q0 x, q1 x])))
    (hf : ∀ x ∈ l, Meets Proofs.Tryd.prog f (.agg [.v (q0 x), .v (q1 x)] :: caps) M fun r _ _ => r = .v (.bool (p x))) :
    Meets Proofs.Tryd.prog 83 [.v y, .fn f caps] M fun r _ _ => r = .v (.int .i64 (fidx p l 0)) := by
  refine Meets.of_body [0,1,4,5,7,8,9,16] Proofs.Tryd.func83 rfl (by kernel_rfl) (by simp only [SV.concs, SV.conc, hcaps, Bool.and_self]) fun w => ?_
  generalize hc : fidx p l 0 = c
  have hyl := hy.len_le
  rw [List.length_map] at hyl
  simp only [Proofs.Tryd.f83, shs, zts, sos, sls, zss, eqs, sx, sb1, sb2, sb3, sb4, sb5, sb6, sb7, ↓reduceIte, Nat.reduceAdd, Nat.reduceMul, Nat.reduceDiv, Nat.reduceEqDiff, Nat.reduceLT, Nat.reduceLeDiff, reduceCtorEq, Int.reduceEq, Int.reduceNe, Int.reduceLT, Int.reduceLE, Int.reduceAdd, Int.reduceSub, Int.reduceMul, Int.reduceNeg, Int.reduceToNat, Int.cast_ofNat_Int, Int.natCast_zero, Int.natCast_one, Int.toNat_natCast, Nat.reduceBEq, hy.len, hy.sl, List.length_map]
  refine LoopK.go (X := Nat × Nat) (fun x => ([(0, true, .v y), (1, true, .fn f caps), (7, true, .v (.int .i64 l.length)), (8, true, .v (.int .i64 x.2))], [], M))
    (fun x => x.1 + x.2 = l.length ∧ fidx p (l.drop x.2) x.2 = c) (fun x => x.1) (l.length, 0) ⟨rfl, hc⟩ (Ent.of ?_) ?_
  · simp only [sx, sb1, sb2, sb3, sb4, sb5, sb6, sb7, ↓reduceIte, Nat.reduceAdd, Nat.reduceMul, Nat.reduceDiv, Nat.reduceEqDiff, Nat.reduceLT, Nat.reduceLeDiff, reduceCtorEq, Int.reduceEq, Int.reduceNe, Int.reduceLT, Int.reduceLE, Int.reduceAdd, Int.reduceSub, Int.reduceMul, Int.reduceNeg, Int.reduceToNat, Int.cast_ofNat_Int, Int.natCast_zero, Int.natCast_one, Int.toNat_natCast, Nat.reduceBEq]
  rintro ⟨fu, i⟩ ⟨h1, h2⟩
  simp only at h1 h2
  by_cases hil : i < l.length
  · have c1 : ((i : Int) < (l.length : Int)) = True := eq_true (by omega)
    obtain ⟨a, hx, hd⟩ := l_drop_at (l := l) (i := i) hil
    rw [hd] at h2
    simp only [fidx] at h2
    have g0 := hy.cell (i := i) (e := [q0 a, q1 a]) (by rw [List.getElem?_map, hx]; rfl) (off := 0) (by omega)
    have g1 := hy.cell (i := i) (e := [q0 a, q1 a]) (by rw [List.getElem?_map, hx]; rfl) (off := 1) (by omega)
    have i0 := hy.ix (i := (i : Int)) (by omega) (by rw [List.length_map]; omega)
    simp only [List.getD_cons_zero, List.getD_cons_succ] at g0 g1
    simp only [shs, zts, sos, sls, zss, eqs, sx, sb1, sb2, sb3, sb4, sb5, sb6, sb7, ↓reduceIte, Nat.reduceAdd, Nat.reduceMul, Nat.reduceDiv, Nat.reduceEqDiff, Nat.reduceLT, Nat.reduceLeDiff, reduceCtorEq, Int.reduceEq, Int.reduceNe, Int.reduceLT, Int.reduceLE, Int.reduceAdd, Int.reduceSub, Int.reduceMul, Int.reduceNeg, Int.reduceToNat, Int.cast_ofNat_Int, Int.natCast_zero, Int.natCast_one, Int.toNat_natCast, Nat.reduceBEq, nzs, c1, hy.len, hy.sl, List.length_map, i0, i0.2, g0.1, g0.2.1, g1.1, g1.2.1]
    refine CallK.pure ⟨by simp only [SV.concs, SV.conc, hcaps, Bool.and_self], rfl⟩ rfl (hf a (List.mem_of_getElem? hx)) ?_
    cases hp : p a with
    | true =>
      rw [hp, if_pos rfl] at h2
      subst h2
      simp only [shs, zts, sos, sls, zss, eqs, sx, sb1, sb2, sb3, sb4, sb5, sb6, sb7, ↓reduceIte, Nat.reduceAdd, Nat.reduceMul, Nat.reduceDiv, Nat.reduceEqDiff, Nat.reduceLT, Nat.reduceLeDiff, reduceCtorEq, Int.reduceEq, Int.reduceNe, Int.reduceLT, Int.reduceLE, Int.reduceAdd, Int.reduceSub, Int.reduceMul, Int.reduceNeg, Int.reduceToNat, Int.cast_ofNat_Int, Int.natCast_zero, Int.natCast_one, Int.toNat_natCast, Nat.reduceBEq, nzs]
    | false =>
      rw [hp, if_neg (by simp)] at h2
      simp only [shs, zts, sos, sls, zss, eqs, sx, sb1, sb2, sb3, sb4, sb5, sb6, sb7, ↓reduceIte, Nat.reduceAdd, Nat.reduceMul, Nat.reduceDiv, Nat.reduceEqDiff, Nat.reduceLT, Nat.reduceLeDiff, reduceCtorEq, Int.reduceEq, Int.reduceNe, Int.reduceLT, Int.reduceLE, Int.reduceAdd, Int.reduceSub, Int.reduceMul, Int.reduceNeg, Int.reduceToNat, Int.cast_ofNat_Int, Int.natCast_zero, Int.natCast_one, Int.toNat_natCast, Nat.reduceBEq, nzs, inK, lo, hi]
      refine ⟨by omega, (fu - 1, i + 1), ⟨⟨by simp only; omega, h2⟩, by simp only; omega⟩, Ent.of ?_⟩
      simp only [sx, sb1, sb2, sb3, sb4, sb5, sb6, sb7, ↓reduceIte, Nat.reduceAdd, Nat.reduceMul, Nat.reduceDiv, Nat.reduceEqDiff, Nat.reduceLT, Nat.reduceLeDiff, reduceCtorEq, Int.reduceEq, Int.reduceNe, Int.reduceLT, Int.reduceLE, Int.reduceAdd, Int.reduceSub, Int.reduceMul, Int.reduceNeg, Int.reduceToNat, Int.cast_ofNat_Int, Int.natCast_zero, Int.natCast_one, Int.toNat_natCast, Nat.reduceBEq, Int.natCast_add]
  · have c1 : ((i : Int) < (l.length : Int)) = False := eq_false (by omega)
    have hd : l.drop i = [] := List.drop_eq_nil_of_le (by omega)
    rw [hd] at h2
    simp only [fidx] at h2
    subst h2
    simp only [shs, zts, sos, sls, zss, eqs, sx, sb1, sb2, sb3, sb4, sb5, sb6, sb7, ↓reduceIte, Nat.reduceAdd, Nat.reduceMul, Nat.reduceDiv, Nat.reduceEqDiff, Nat.reduceLT, Nat.reduceLeDiff, reduceCtorEq, Int.reduceEq, Int.reduceNe, Int.reduceLT, Int.reduceLE, Int.reduceAdd, Int.reduceSub, Int.reduceMul, Int.reduceNeg, Int.reduceToNat, Int.cast_ofNat_Int, Int.natCast_zero, Int.natCast_one, Int.toNat_natCast, Nat.reduceBEq, c1]

theorem cloneI (u : Value) (l : List (Bool × Int × Int)) (M : Mem) (hu : RowM M u 3 (l.map encI3)) (hb : l.length ≤ 1000000) :
    Meets Proofs.Tryd.prog 55 [.v u] M (OwnR (fun s => s) 3 (l.map encI3)) := by
  obtain ⟨r1, r2⟩ := hu.rows (by omega)
  cases hs : someV u with
  | true =>
    refine Meets.of_body [0,2,4] Proofs.Tryd.func55 rfl (by kernel_rfl) rfl fun w => ?_
    simp only [Proofs.Tryd.f55, shs, zts, sos, sls, zss, eqs, sx, sb1, sb2, sb3, sb4, sb5, sb6, sb7, ↓reduceIte, Nat.reduceAdd, Nat.reduceMul, Nat.reduceDiv, Nat.reduceEqDiff, Nat.reduceLT, Nat.reduceLeDiff, reduceCtorEq, Int.reduceEq, Int.reduceNe, Int.reduceLT, Int.reduceLE, Int.reduceAdd, Int.reduceSub, Int.reduceMul, Int.reduceNeg, Int.reduceToNat, Int.cast_ofNat_Int, Int.natCast_zero, Int.natCast_one, Int.toNat_natCast, Nat.reduceBEq, hu.sl, hs, r1, List.length_map]
    exact ⟨⟨by omega, r2⟩, 56, rfl, rfl⟩
  | false =>
    have hn : l = [] := by
      cases l with
      | nil => rfl
      | cons a r => have := hu.2.1 (by simp); rw [hs] at this; cases this
    subst hn
    refine Meets.nilOwn ?_
    refine Meets.of_body [0,2,4] Proofs.Tryd.func55 rfl (by kernel_rfl) rfl fun w => ?_
    simp only [Proofs.Tryd.f55, shs, zts, sos, sls, zss, eqs, sx, sb1, sb2, sb3, sb4, sb5, sb6, sb7, ↓reduceIte, Nat.reduceAdd, Nat.reduceMul, Nat.reduceDiv, Nat.reduceEqDiff, Nat.reduceLT, Nat.reduceLeDiff, reduceCtorEq, Int.reduceEq, Int.reduceNe, Int.reduceLT, Int.reduceLE, Int.reduceAdd, Int.reduceSub, Int.reduceMul, Int.reduceNeg, Int.reduceToNat, Int.cast_ofNat_Int, Int.natCast_zero, Int.natCast_one, Int.toNat_natCast, Nat.reduceBEq, hu.sl, hs]

theorem eqI (x y : Value) (l m : List (Bool × Int × Int)) (M : Mem) (hx : RowM M x 3 (l.map encI3)) (hy : RowM M y 3 (m.map encI3)) :
    Meets Proofs.Tryd.prog 26 [.v x, .v y] M fun r _ _ => r = .v (.bool (decide (l = m))) := by
  refine Meets.of_body [0,1,4,5,10,12,13,14,24] Proofs.Tryd.func26 rfl (by kernel_rfl) rfl fun w => ?_
  simp only [Proofs.Tryd.f26, shs, zts, sos, sls, zss, eqs, sx, sb1, sb2, sb3, sb4, sb5, sb6, sb7, ↓reduceIte, Nat.reduceAdd, Nat.reduceMul, Nat.reduceDiv, Nat.reduceEqDiff, Nat.reduceLT, Nat.reduceLeDiff, reduceCtorEq, Int.reduceEq, Int.reduceNe, Int.reduceLT, Int.reduceLE, Int.reduceAdd, Int.reduceSub, Int.reduceMul, Int.reduceNeg, Int.reduceToNat, Int.cast_ofNat_Int, Int.natCast_zero, Int.natCast_one, Int.toNat_natCast, Nat.reduceBEq, hx.len, hy.len, hx.sl, hy.sl, List.length_map]
  refine ⟨fun h => ?_, fun h => ?_⟩
  · rw [decide_eq_false (fun e => h (by rw [e]))]
  have hlen : l.length = m.length := by omega
  have hle := hx.len_le
  rw [List.length_map] at hle
  refine LoopK.go (X := Nat × Nat) (fun p => ([(0, true, .v x), (1, true, .v y), (4, true, .v (.bool false)), (12, true, .v (.int .i64 l.length)), (13, true, .v (.int .i64 p.2))], [], M))
    (fun p => p.1 + p.2 = l.length ∧ (l = m ↔ l.drop p.2 = m.drop p.2)) (fun p => p.1) (l.length, 0) ⟨rfl, Iff.rfl⟩ (Ent.of ?_) ?_
  · simp only [sx, sb1, sb2, sb3, sb4, sb5, sb6, sb7, ↓reduceIte, Nat.reduceAdd, Nat.reduceMul, Nat.reduceDiv, Nat.reduceEqDiff, Nat.reduceLT, Nat.reduceLeDiff, reduceCtorEq, Int.reduceEq, Int.reduceNe, Int.reduceLT, Int.reduceLE, Int.reduceAdd, Int.reduceSub, Int.reduceMul, Int.reduceNeg, Int.reduceToNat, Int.cast_ofNat_Int, Int.natCast_zero, Int.natCast_one, Int.toNat_natCast, Nat.reduceBEq]
  rintro ⟨f, i⟩ ⟨h1, h2⟩
  simp only at h1 h2
  simp only [shs, zts, sos, sls, zss, eqs, sx, sb1, sb2, sb3, sb4, sb5, sb6, sb7, ↓reduceIte, Nat.reduceAdd, Nat.reduceMul, Nat.reduceDiv, Nat.reduceEqDiff, Nat.reduceLT, Nat.reduceLeDiff, reduceCtorEq, Int.reduceEq, Int.reduceNe, Int.reduceLT, Int.reduceLE, Int.reduceAdd, Int.reduceSub, Int.reduceMul, Int.reduceNeg, Int.reduceToNat, Int.cast_ofNat_Int, Int.natCast_zero, Int.natCast_one, Int.toNat_natCast, Nat.reduceBEq]
  refine ⟨fun h3 => ?_, fun h3 => ?_⟩
  · obtain ⟨⟨a0, a1, a2⟩, hl, hd⟩ := l_drop_at (l := l) (i := i) (by omega)
    obtain ⟨⟨b0, b1, b2⟩, hm, hd2⟩ := l_drop_at (l := m) (i := i) (by omega)
    have g0 := hx.cell (i := i) (e := [.bool a0, .int .i64 a1, .int .i64 a2]) (by rw [List.getElem?_map, hl]; rfl) (off := 0) (by omega)
    have k0 := hy.cell (i := i) (e := [.bool b0, .int .i64 b1, .int .i64 b2]) (by rw [List.getElem?_map, hm]; rfl) (off := 0) (by omega)
    have g1 := hx.cell (i := i) (e := [.bool a0, .int .i64 a1, .int .i64 a2]) (by rw [List.getElem?_map, hl]; rfl) (off := 1) (by omega)
    have k1 := hy.cell (i := i) (e := [.bool b0, .int .i64 b1, .int .i64 b2]) (by rw [List.getElem?_map, hm]; rfl) (off := 1) (by omega)
    have g2 := hx.cell (i := i) (e := [.bool a0, .int .i64 a1, .int .i64 a2]) (by rw [List.getElem?_map, hl]; rfl) (off := 2) (by omega)
    have k2 := hy.cell (i := i) (e := [.bool b0, .int .i64 b1, .int .i64 b2]) (by rw [List.getElem?_map, hm]; rfl) (off := 2) (by omega)
    have i1 := hx.ix (i := (i : Int)) (by omega) (by rw [List.length_map]; omega)
    have i2 := hy.ix (i := (i : Int)) (by omega) (by rw [List.length_map]; omega)
    simp only [List.getD_cons_zero, List.getD_cons_succ] at g0 k0 g1 k1 g2 k2
    refine DrawK.quiet (by kernel_rfl) (by kernel_rfl) ?_
    simp only [shs, zts, sos, sls, zss, eqs, sx, sb1, sb2, sb3, sb4, sb5, sb6, sb7, ↓reduceIte, Nat.reduceAdd, Nat.reduceMul, Nat.reduceDiv, Nat.reduceEqDiff, Nat.reduceLT, Nat.reduceLeDiff, reduceCtorEq, Int.reduceEq, Int.reduceNe, Int.reduceLT, Int.reduceLE, Int.reduceAdd, Int.reduceSub, Int.reduceMul, Int.reduceNeg, Int.reduceToNat, Int.cast_ofNat_Int, Int.natCast_zero, Int.natCast_one, Int.toNat_natCast, Nat.reduceBEq, nzs, g0.1, g0.2.1, k0.1, k0.2.1, g1.1, g1.2.1, k1.1, k1.2.1, g2.1, g2.2.1, k2.1, k2.2.1, i1, i2, i1.2, i2.2, hx.len, hy.len, hx.sl, hy.sl, inK, lo, hi, List.toArray_eq_iff]
    refine ⟨fun hne => ?_, fun he => ⟨by omega, (f - 1, i + 1), ⟨⟨by simp only; omega, ?_⟩, by simp only; omega⟩, Ent.of ?_⟩⟩
    · rw [decide_eq_false (fun e => ?_)]
      have := h2.1 e
      rw [hd, hd2] at this
      have := (List.cons.inj this).1
      simp_all
    · have e12 : (a0, a1, a2) = (b0, b1, b2) := by simp_all
      simp only
      rw [h2, hd, hd2, e12]
      exact ⟨fun e => (List.cons.inj e).2, fun e => by rw [e]⟩
    · simp only [sx, sb1, sb2, sb3, sb4, sb5, sb6, sb7, ↓reduceIte, Nat.reduceAdd, Nat.reduceMul, Nat.reduceDiv, Nat.reduceEqDiff, Nat.reduceLT, Nat.reduceLeDiff, reduceCtorEq, Int.reduceEq, Int.reduceNe, Int.reduceLT, Int.reduceLE, Int.reduceAdd, Int.reduceSub, Int.reduceMul, Int.reduceNeg, Int.reduceToNat, Int.cast_ofNat_Int, Int.natCast_zero, Int.natCast_one, Int.toNat_natCast, Nat.reduceBEq, Int.natCast_add]
  · have : i = l.length := by omega
    rw [decide_eq_true (h2.2 (by rw [List.drop_eq_nil_of_le (by omega), List.drop_eq_nil_of_le (by omega)]))]

def volIx (l : List Vol) (n : List UInt8) : Int := fidx (fun v : Vol => decide (v.1 = n)) l 0
theorem volIx_ws (ws : List WV) (n : List UInt8) : volIx (ws.map (·.2)) n = fidx (fun w : WV => decide (w.2.1 = n)) ws 0 := fidx_map (fun w : WV => w.2) _ ws 0
theorem volIx_sp (l : List Vol) (n : List UInt8) : (volIx l n = -1 ∧ ∀ x ∈ l, x.1 ≠ n) ∨ ∃ j x, volIx l n = ((j : Nat) : Int) ∧ l[j]? = some x ∧ x.1 = n := by
  rcases fidx_sp (fun v : Vol => decide (v.1 = n)) l 0 with ⟨h1, h2⟩ | ⟨j, x, h1, h2, h3, _⟩
  · exact .inl ⟨h1, fun x hx => of_decide_eq_false (h2 x hx)⟩
  · exact .inr ⟨j, x, by rw [volIx, h1, Nat.zero_add], h2, of_decide_eq_true h3⟩
theorem volIx_at {ws : List WV} {n : List UInt8} (h : ¬ volIx (ws.map (·.2)) n < 0) : ∃ (j : Nat) (x : WV), volIx (ws.map (·.2)) n = (j : Int) ∧ ws[j]? = some x ∧ x.2.1 = n ∧ (ws.map (·.2))[j]? = some x.2 := by
  rcases volIx_sp (ws.map (·.2)) n with ⟨h1, _⟩ | ⟨j, x, h1, h2, h3⟩
  · rw [h1] at h; exact absurd (by decide) h
  · have h2' := h2
    rw [List.getElem?_map, Option.map_eq_some_iff] at h2
    obtain ⟨y, hy, rfl⟩ := h2
    exact ⟨j, y, h1, hy, h3, h2'⟩
/-- the blocks of the volume of a name -/
def blks (l : List Vol) (n : List UInt8) : List Id3 := ((l[(volIx l n).toNat]?).map (·.2)).getD []
theorem blks_at {l : List Vol} {n : List UInt8} {j : Nat} {x : Vol} (h1 : volIx l n = (j : Int)) (h2 : l[j]? = some x) : blks l n = x.2 := by
  unfold blks
  rw [h1, Int.toNat_natCast, h2]
  rfl
theorem findC1 (bb : Nat) (n : List UInt8) (x : WV) (M : Mem) (h : BoxM M bb [.string ⟨n.toArray⟩]) : Meets Proofs.Tryd.prog 84 [.agg [.v (.string ⟨x.2.1.toArray⟩), .v x.1], .v (ptrV bb)] M fun r _ _ => r = .v (.bool (decide (x.2.1 = n))) := by
  refine Meets.of_body [0,1,2,3] Proofs.Tryd.func84 rfl (by kernel_rfl) rfl fun w => ?_
  have g0 := h.at (j := 0) rfl
  simp only [Proofs.Tryd.f84, shs, zts, sos, sls, zss, eqs, sx, sb1, sb2, sb3, sb4, sb5, sb6, sb7, ↓reduceIte, Nat.reduceAdd, Nat.reduceMul, Nat.reduceDiv, Nat.reduceEqDiff, Nat.reduceLT, Nat.reduceLeDiff, reduceCtorEq, Int.reduceEq, Int.reduceNe, Int.reduceLT, Int.reduceLE, Int.reduceAdd, Int.reduceSub, Int.reduceMul, Int.reduceNeg, Int.reduceToNat, Int.cast_ofNat_Int, Int.natCast_zero, Int.natCast_one, Int.toNat_natCast, Nat.reduceBEq, nzs, g0.1, g0.2, List.toArray_eq_iff]
theorem find (b v : Value) (ws : List WV) (n : List UInt8) (M : Mem) (hv : VolsM M v ws) :
    Meets Proofs.Tryd.prog 54 [stV b v, .v (.string ⟨n.toArray⟩)] M fun r _ _ => r = .v (.int .i64 (volIx (ws.map (·.2)) n)) := by
  refine Meets.of_body [0,1,2,3,4] Proofs.Tryd.func54 rfl (by kernel_rfl) rfl fun w => ?_
  rw [volIx_ws]
  simp only [Proofs.Tryd.f54, stV, shs, zts, sos, sls, zss, eqs, sx, sb1, sb2, sb3, sb4, sb5, sb6, sb7, ↓reduceIte, Nat.reduceAdd, Nat.reduceMul, Nat.reduceDiv, Nat.reduceEqDiff, Nat.reduceLT, Nat.reduceLeDiff, reduceCtorEq, Int.reduceEq, Int.reduceNe, Int.reduceLT, Int.reduceLE, Int.reduceAdd, Int.reduceSub, Int.reduceMul, Int.reduceNeg, Int.reduceToNat, Int.cast_ofNat_Int, Int.natCast_zero, Int.natCast_one, Int.toNat_natCast, Nat.reduceBEq, nzs]
  refine stepK.mkFn rfl rfl ?_
  simp only [shs, zts, sos, sls, zss, eqs, sx, sb1, sb2, sb3, sb4, sb5, sb6, sb7, ↓reduceIte, Nat.reduceAdd, Nat.reduceMul, Nat.reduceDiv, Nat.reduceEqDiff, Nat.reduceLT, Nat.reduceLeDiff, reduceCtorEq, Int.reduceEq, Int.reduceNe, Int.reduceLT, Int.reduceLE, Int.reduceAdd, Int.reduceSub, Int.reduceMul, Int.reduceNeg, Int.reduceToNat, Int.cast_ofNat_Int, Int.natCast_zero, Int.natCast_one, Int.toNat_natCast, Nat.reduceBEq, nzs]
  refine CallK.pubB (k := 24) rfl rfl fun bb M2 hM2 hb2 => ?_
  simp only [shA1, shA2, shs, zts, sos, sls, zss, eqs, sx, sb1, sb2, sb3, sb4, sb5, sb6, sb7, ↓reduceIte, Nat.reduceAdd, Nat.reduceMul, Nat.reduceDiv, Nat.reduceEqDiff, Nat.reduceLT, Nat.reduceLeDiff, reduceCtorEq, Int.reduceEq, Int.reduceNe, Int.reduceLT, Int.reduceLE, Int.reduceAdd, Int.reduceSub, Int.reduceMul, Int.reduceNeg, Int.reduceToNat, Int.cast_ofNat_Int, Int.natCast_zero, Int.natCast_one, Int.toNat_natCast, Nat.reduceBEq]
  refine CallK.pure ⟨rfl, rfl⟩ rfl (idxV (α := WV) (fun x => .string ⟨x.2.1.toArray⟩) (fun x => x.1) (fun w => decide (w.2.1 = n)) _ _ rfl _ ws M2 (hv.row.le hM2) (fun z _ => findC1 bb n z M2 hb2)) ?_
  simp only [shs, zts, sos, sls, zss, eqs, sx, sb1, sb2, sb3, sb4, sb5, sb6, sb7, ↓reduceIte, Nat.reduceAdd, Nat.reduceMul, Nat.reduceDiv, Nat.reduceEqDiff, Nat.reduceLT, Nat.reduceLeDiff, reduceCtorEq, Int.reduceEq, Int.reduceNe, Int.reduceLT, Int.reduceLE, Int.reduceAdd, Int.reduceSub, Int.reduceMul, Int.reduceNeg, Int.reduceToNat, Int.cast_ofNat_Int, Int.natCast_zero, Int.natCast_one, Int.toNat_natCast, Nat.reduceBEq, nzs]
/-- what vol.Blocks answers -/
def blkE (bag : List It) (l : List Vol) (n : List UInt8) : Int := if stE bag l ≠ 0 then stE bag l else if volIx l n < 0 then 4 else 0
def blkL (bag : List It) (l : List Vol) (n : List UInt8) : List Id3 := if blkE bag l n = 0 then blks l n else []
theorem blocks (b v : Value) (bag : List It) (ws : List WV) (n : List UInt8) (M : Mem) (hb : RowM M b 4 (bag.map Bg.encT)) (hv : VolsM M v ws) :
    Meets Proofs.Tryd.prog 19 [stV b v, .v (.string ⟨n.toArray⟩)] M (OwnR (fun s => .tup [s, .v (.int .i64 (blkE bag (ws.map (·.2)) n))]) 3 ((blkL bag (ws.map (·.2)) n).map encI3)) := by
  refine Meets.nilOr (Ctx.fst _) ?_
  refine Meets.of_body [0,1,2,4,5,6,7,11,17] Proofs.Tryd.func19 rfl (by kernel_rfl) rfl fun w => ?_
  have hC := vcheck b v bag ws M hb hv
  have hF := find b v ws n M hv
  generalize hE : blkE bag (ws.map (·.2)) n = e
  have hL : blkL bag (ws.map (·.2)) n = if e = 0 then blks (ws.map (·.2)) n else [] := by rw [← hE]; rfl
  rw [hL]
  unfold blkE at hE
  simp only [stV] at hC hF
  simp only [Proofs.Tryd.f19, stV, shs, zts, sos, sls, zss, eqs, sx, sb1, sb2, sb3, sb4, sb5, sb6, sb7, ↓reduceIte, Nat.reduceAdd, Nat.reduceMul, Nat.reduceDiv, Nat.reduceEqDiff, Nat.reduceLT, Nat.reduceLeDiff, reduceCtorEq, Int.reduceEq, Int.reduceNe, Int.reduceLT, Int.reduceLE, Int.reduceAdd, Int.reduceSub, Int.reduceMul, Int.reduceNeg, Int.reduceToNat, Int.cast_ofNat_Int, Int.natCast_zero, Int.natCast_one, Int.toNat_natCast, Nat.reduceBEq, nzs]
  refine CallK.pure ⟨rfl, rfl⟩ rfl hC ?_
  by_cases h1 : stE bag (ws.map (·.2)) = 0
  rotate_left
  · have c1 := eq_false h1
    rw [if_pos h1] at hE
    subst hE
    rw [if_neg h1]
    simp only [shs, zts, sos, sls, zss, eqs, sx, sb1, sb2, sb3, sb4, sb5, sb6, sb7, ↓reduceIte, Nat.reduceAdd, Nat.reduceMul, Nat.reduceDiv, Nat.reduceEqDiff, Nat.reduceLT, Nat.reduceLeDiff, reduceCtorEq, Int.reduceEq, Int.reduceNe, Int.reduceLT, Int.reduceLE, Int.reduceAdd, Int.reduceSub, Int.reduceMul, Int.reduceNeg, Int.reduceToNat, Int.cast_ofNat_Int, Int.natCast_zero, Int.natCast_one, Int.toNat_natCast, Nat.reduceBEq, nzs, c1]
  rw [if_neg (fun h => h h1)] at hE
  simp only [shs, zts, sos, sls, zss, eqs, sx, sb1, sb2, sb3, sb4, sb5, sb6, sb7, ↓reduceIte, Nat.reduceAdd, Nat.reduceMul, Nat.reduceDiv, Nat.reduceEqDiff, Nat.reduceLT, Nat.reduceLeDiff, reduceCtorEq, Int.reduceEq, Int.reduceNe, Int.reduceLT, Int.reduceLE, Int.reduceAdd, Int.reduceSub, Int.reduceMul, Int.reduceNeg, Int.reduceToNat, Int.cast_ofNat_Int, Int.natCast_zero, Int.natCast_one, Int.toNat_natCast, Nat.reduceBEq, nzs, h1]
  refine CallK.pure ⟨rfl, rfl⟩ rfl hF ?_
  by_cases h2 : volIx (ws.map (·.2)) n < 0
  · have c2 := eq_true h2
    rw [if_pos h2] at hE
    subst hE
    simp only [shs, zts, sos, sls, zss, eqs, sx, sb1, sb2, sb3, sb4, sb5, sb6, sb7, ↓reduceIte, Nat.reduceAdd, Nat.reduceMul, Nat.reduceDiv, Nat.reduceEqDiff, Nat.reduceLT, Nat.reduceLeDiff, reduceCtorEq, Int.reduceEq, Int.reduceNe, Int.reduceLT, Int.reduceLE, Int.reduceAdd, Int.reduceSub, Int.reduceMul, Int.reduceNeg, Int.reduceToNat, Int.cast_ofNat_Int, Int.natCast_zero, Int.natCast_one, Int.toNat_natCast, Nat.reduceBEq, nzs, c2]
  have c2 := eq_false h2
  rw [if_neg h2] at hE
  subst hE
  obtain ⟨j, x, k1, k2, k3, k4⟩ := volIx_at h2
  rw [blks_at k1 k4]
  obtain ⟨g0, g1, i0⟩ := vol_at hv k2
  have hblk := hv.blk x (List.mem_of_getElem? k2)
  obtain ⟨_, hok, _⟩ := stE_ok h1
  have h32 := ((volsE_ok hok).2 x.2 (List.mem_of_getElem? k4)).1
  rw [k1] at c2 ⊢
  simp only [shs, zts, sos, sls, zss, eqs, sx, sb1, sb2, sb3, sb4, sb5, sb6, sb7, ↓reduceIte, Nat.reduceAdd, Nat.reduceMul, Nat.reduceDiv, Nat.reduceEqDiff, Nat.reduceLT, Nat.reduceLeDiff, reduceCtorEq, Int.reduceEq, Int.reduceNe, Int.reduceLT, Int.reduceLE, Int.reduceAdd, Int.reduceSub, Int.reduceMul, Int.reduceNeg, Int.reduceToNat, Int.cast_ofNat_Int, Int.natCast_zero, Int.natCast_one, Int.toNat_natCast, Nat.reduceBEq, nzs, c2, i0, i0.2, g1.1, g1.2]
  refine CallK.own Ctx.id rfl rfl (cloneI x.1 x.2.2 M hblk (by omega)) rfl fun M1 hM1 => ?_
  simp only [shs, zts, sos, sls, zss, eqs, sx, sb1, sb2, sb3, sb4, sb5, sb6, sb7, ↓reduceIte, Nat.reduceAdd, Nat.reduceMul, Nat.reduceDiv, Nat.reduceEqDiff, Nat.reduceLT, Nat.reduceLeDiff, reduceCtorEq, Int.reduceEq, Int.reduceNe, Int.reduceLT, Int.reduceLE, Int.reduceAdd, Int.reduceSub, Int.reduceMul, Int.reduceNeg, Int.reduceToNat, Int.cast_ofNat_Int, Int.natCast_zero, Int.natCast_one, Int.toNat_natCast, Nat.reduceBEq, nzs, if_true]
  exact .inr ⟨_, rfl, rfl⟩
theorem rvol (b v : Value) (ws : List WV) (n : List UInt8) (M : Mem) (hv : VolsM M v ws) :
    Meets Proofs.Tryd.prog 25 [stV b v, .v (.string ⟨n.toArray⟩)] M fun r _ _ => r = .v (.int .i64 (volIx (ws.map (·.2)) n)) := by
  refine Meets.of_body [0,1,2,4,5,6,8,9,10,11,18] Proofs.Tryd.func25 rfl (by kernel_rfl) rfl fun w => ?_
  rw [volIx_ws]
  generalize hc : fidx (fun w : WV => decide (w.2.1 = n)) ws 0 = c
  have hvl := hv.row.len_le
  rw [List.length_map] at hvl
  simp only [Proofs.Tryd.f25, stV, shs, zts, sos, sls, zss, eqs, sx, sb1, sb2, sb3, sb4, sb5, sb6, sb7, ↓reduceIte, Nat.reduceAdd, Nat.reduceMul, Nat.reduceDiv, Nat.reduceEqDiff, Nat.reduceLT, Nat.reduceLeDiff, reduceCtorEq, Int.reduceEq, Int.reduceNe, Int.reduceLT, Int.reduceLE, Int.reduceAdd, Int.reduceSub, Int.reduceMul, Int.reduceNeg, Int.reduceToNat, Int.cast_ofNat_Int, Int.natCast_zero, Int.natCast_one, Int.toNat_natCast, Nat.reduceBEq, nzs, hv.row.len, hv.row.sl, List.length_map]
  refine LoopK.go (X := Nat × Nat) (fun x => ([(1, true, .v (.string ⟨n.toArray⟩)), (4, true, .v (.int .i64 0)), (8, true, .v v), (9, true, .v (.int .i64 ws.length)), (10, true, .v (.int .i64 x.2))], [(16, .box [.v b, .v v] none)], M))
    (fun x => x.1 + x.2 = ws.length ∧ fidx (fun w : WV => decide (w.2.1 = n)) (ws.drop x.2) x.2 = c) (fun x => x.1) (ws.length, 0) ⟨rfl, hc⟩ (Ent.of ?_) ?_
  · simp only [sx, sb1, sb2, sb3, sb4, sb5, sb6, sb7, ↓reduceIte, Nat.reduceAdd, Nat.reduceMul, Nat.reduceDiv, Nat.reduceEqDiff, Nat.reduceLT, Nat.reduceLeDiff, reduceCtorEq, Int.reduceEq, Int.reduceNe, Int.reduceLT, Int.reduceLE, Int.reduceAdd, Int.reduceSub, Int.reduceMul, Int.reduceNeg, Int.reduceToNat, Int.cast_ofNat_Int, Int.natCast_zero, Int.natCast_one, Int.toNat_natCast, Nat.reduceBEq, Int.natCast_zero]
  rintro ⟨f, i⟩ ⟨h1, h2⟩
  simp only at h1 h2
  by_cases hil : i < ws.length
  rotate_left
  · have d1 : ((i : Int) < (ws.length : Int)) = False := eq_false (by omega)
    rw [List.drop_eq_nil_of_le (by omega)] at h2
    simp only [fidx] at h2
    subst h2
    simp only [shs, zts, sos, sls, zss, eqs, sx, sb1, sb2, sb3, sb4, sb5, sb6, sb7, ↓reduceIte, Nat.reduceAdd, Nat.reduceMul, Nat.reduceDiv, Nat.reduceEqDiff, Nat.reduceLT, Nat.reduceLeDiff, reduceCtorEq, Int.reduceEq, Int.reduceNe, Int.reduceLT, Int.reduceLE, Int.reduceAdd, Int.reduceSub, Int.reduceMul, Int.reduceNeg, Int.reduceToNat, Int.cast_ofNat_Int, Int.natCast_zero, Int.natCast_one, Int.toNat_natCast, Nat.reduceBEq, nzs, d1]
  have d1 : ((i : Int) < (ws.length : Int)) = True := eq_true (by omega)
  obtain ⟨x, hx, hd⟩ := l_drop_at (l := ws) (i := i) hil
  rw [hd] at h2
  simp only [fidx] at h2
  obtain ⟨g0, g1, i0⟩ := vol_at hv hx
  have hblk := hv.blk x (List.mem_of_getElem? hx)
  by_cases he : x.2.1 = n
  · have e1 := eq_true he
    rw [if_pos (decide_eq_true he)] at h2
    subst h2
    simp only [shs, zts, sos, sls, zss, eqs, sx, sb1, sb2, sb3, sb4, sb5, sb6, sb7, ↓reduceIte, Nat.reduceAdd, Nat.reduceMul, Nat.reduceDiv, Nat.reduceEqDiff, Nat.reduceLT, Nat.reduceLeDiff, reduceCtorEq, Int.reduceEq, Int.reduceNe, Int.reduceLT, Int.reduceLE, Int.reduceAdd, Int.reduceSub, Int.reduceMul, Int.reduceNeg, Int.reduceToNat, Int.cast_ofNat_Int, Int.natCast_zero, Int.natCast_one, Int.toNat_natCast, Nat.reduceBEq, nzs, d1, i0, i0.2, g0.1, g0.2, g1.1, g1.2, hblk.one, e1, List.toArray_eq_iff]
  · have e1 := eq_false he
    rw [if_neg (by rw [decide_eq_false he]; decide)] at h2
    simp only [shs, zts, sos, sls, zss, eqs, sx, sb1, sb2, sb3, sb4, sb5, sb6, sb7, ↓reduceIte, Nat.reduceAdd, Nat.reduceMul, Nat.reduceDiv, Nat.reduceEqDiff, Nat.reduceLT, Nat.reduceLeDiff, reduceCtorEq, Int.reduceEq, Int.reduceNe, Int.reduceLT, Int.reduceLE, Int.reduceAdd, Int.reduceSub, Int.reduceMul, Int.reduceNeg, Int.reduceToNat, Int.cast_ofNat_Int, Int.natCast_zero, Int.natCast_one, Int.toNat_natCast, Nat.reduceBEq, nzs, d1, i0, i0.2, g0.1, g0.2, g1.1, g1.2, hblk.one, e1, inK, lo, hi]
    refine ⟨by omega, (f - 1, i + 1), ⟨⟨by simp only; omega, h2⟩, by simp only; omega⟩, Ent.of ?_⟩
    simp only [sx, sb1, sb2, sb3, sb4, sb5, sb6, sb7, ↓reduceIte, Nat.reduceAdd, Nat.reduceMul, Nat.reduceDiv, Nat.reduceEqDiff, Nat.reduceLT, Nat.reduceLeDiff, reduceCtorEq, Int.reduceEq, Int.reduceNe, Int.reduceLT, Int.reduceLE, Int.reduceAdd, Int.reduceSub, Int.reduceMul, Int.reduceNeg, Int.reduceToNat, Int.cast_ofNat_Int, Int.natCast_zero, Int.natCast_one, Int.toNat_natCast, Nat.reduceBEq, Int.natCast_add]
end Go.X.Vo
