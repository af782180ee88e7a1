/- Segments: seg.copied, seg.put, seg.Put. Conditions: none. -/
import Derived.Test.YtkhadbanpfngnaaSeg
import Derived.Test.YtkhadbanpfngnaaFwH
set_option linter.unusedSimpArgs false
set_option linter.unusedVariables false
set_option maxHeartbeats 4000000
set_option maxRecDepth 20000
namespace Go.X.Sg
open Go Go.X

theorem cloneR (u : Value) (l : List (Rc)) (M : Mem) (hu : RowM M u 4 (l.map encR)) (hb : l.length ≤ 1000000) :
    Meets Proofs.Try.prog 101 [.v u] M (OwnR (fun s => s) 4 (l.map encR)) := by
  obtain ⟨r1, r2⟩ := hu.rows (by omega)
  cases hs : someV u with
  | true =>
    refine Meets.of_body [0,2,4] Proofs.Try.func101 rfl (by kernel_rfl) rfl fun w => ?_
    simp only [Proofs.Try.f101, shs, zts, sos, sls, zss, eqs, sx, sb1, sb2, sb3, sb4, sb5, ↓reduceIte, Nat.reduceAdd, Nat.reduceMul, Nat.reduceDiv, Nat.reduceEqDiff, Nat.reduceLT, Nat.reduceLeDiff, reduceCtorEq, Int.reduceEq, Int.reduceNe, Int.reduceLT, Int.reduceLE, Int.reduceAdd, Int.reduceSub, Int.reduceMul, Int.reduceNeg, Int.reduceToNat, Int.cast_ofNat_Int, Int.natCast_zero, Int.natCast_one, Int.toNat_natCast, Nat.reduceBEq, hu.sl, hs, r1, List.length_map]
    exact ⟨⟨by omega, r2⟩, 56, rfl, rfl⟩
  | false =>
    have hn : l = [] := by
      cases l with
      | nil => rfl
      | cons a r => have := hu.2.1 (by simp); rw [hs] at this; cases this
    subst hn
    refine Meets.nilOwn ?_
    refine Meets.of_body [0,2,4] Proofs.Try.func101 rfl (by kernel_rfl) rfl fun w => ?_
    simp only [Proofs.Try.f101, shs, zts, sos, sls, zss, eqs, sx, sb1, sb2, sb3, sb4, sb5, ↓reduceIte, Nat.reduceAdd, Nat.reduceMul, Nat.reduceDiv, Nat.reduceEqDiff, Nat.reduceLT, Nat.reduceLeDiff, reduceCtorEq, Int.reduceEq, Int.reduceNe, Int.reduceLT, Int.reduceLE, Int.reduceAdd, Int.reduceSub, Int.reduceMul, Int.reduceNeg, Int.reduceToNat, Int.cast_ofNat_Int, Int.natCast_zero, Int.natCast_one, Int.toNat_natCast, Nat.reduceBEq, hu.sl, hs]

theorem eqR (x y : Value) (l m : List (Rc)) (M : Mem) (hx : RowM M x 4 (l.map encR)) (hy : RowM M y 4 (m.map encR)) :
    Meets Proofs.Try.prog 104 [.v x, .v y] M fun r _ _ => r = .v (.bool (decide (l = m))) := by
  refine Meets.of_body [0,1,4,5,10,12,13,14,24] Proofs.Try.func104 rfl (by kernel_rfl) rfl fun w => ?_
  simp only [Proofs.Try.f104, shs, zts, sos, sls, zss, eqs, sx, sb1, sb2, sb3, sb4, sb5, ↓reduceIte, Nat.reduceAdd, Nat.reduceMul, Nat.reduceDiv, Nat.reduceEqDiff, Nat.reduceLT, Nat.reduceLeDiff, reduceCtorEq, Int.reduceEq, Int.reduceNe, Int.reduceLT, Int.reduceLE, Int.reduceAdd, Int.reduceSub, Int.reduceMul, Int.reduceNeg, Int.reduceToNat, Int.cast_ofNat_Int, Int.natCast_zero, Int.natCast_one, Int.toNat_natCast, Nat.reduceBEq, hx.len, hy.len, hx.sl, hy.sl, List.length_map]
  refine ⟨fun h => ?_, fun h => ?_⟩
  · rw [decide_eq_false (fun e => h (by rw [e]))]
  have hlen : l.length = m.length := by omega
  have hle := hx.len_le
  rw [List.length_map] at hle
  refine LoopK.go (X := Nat × Nat) (fun p => ([(0, true, .v x), (1, true, .v y), (4, true, .v (.bool false)), (12, true, .v (.int .i64 l.length)), (13, true, .v (.int .i64 p.2))], [], M))
    (fun p => p.1 + p.2 = l.length ∧ (l = m ↔ l.drop p.2 = m.drop p.2)) (fun p => p.1) (l.length, 0) ⟨rfl, Iff.rfl⟩ (Ent.of ?_) ?_
  · simp only [sx, sb1, sb2, sb3, sb4, sb5, ↓reduceIte, Nat.reduceAdd, Nat.reduceMul, Nat.reduceDiv, Nat.reduceEqDiff, Nat.reduceLT, Nat.reduceLeDiff, reduceCtorEq, Int.reduceEq, Int.reduceNe, Int.reduceLT, Int.reduceLE, Int.reduceAdd, Int.reduceSub, Int.reduceMul, Int.reduceNeg, Int.reduceToNat, Int.cast_ofNat_Int, Int.natCast_zero, Int.natCast_one, Int.toNat_natCast, Nat.reduceBEq]
  rintro ⟨f, i⟩ ⟨h1, h2⟩
  simp only at h1 h2
  simp only [shs, zts, sos, sls, zss, eqs, sx, sb1, sb2, sb3, sb4, sb5, ↓reduceIte, Nat.reduceAdd, Nat.reduceMul, Nat.reduceDiv, Nat.reduceEqDiff, Nat.reduceLT, Nat.reduceLeDiff, reduceCtorEq, Int.reduceEq, Int.reduceNe, Int.reduceLT, Int.reduceLE, Int.reduceAdd, Int.reduceSub, Int.reduceMul, Int.reduceNeg, Int.reduceToNat, Int.cast_ofNat_Int, Int.natCast_zero, Int.natCast_one, Int.toNat_natCast, Nat.reduceBEq]
  refine ⟨fun h3 => ?_, fun h3 => ?_⟩
  · obtain ⟨⟨⟨a0, a1, a2⟩, a3⟩, hl, hd⟩ := l_drop_at (l := l) (i := i) (by omega)
    obtain ⟨⟨⟨b0, b1, b2⟩, b3⟩, hm, hd2⟩ := l_drop_at (l := m) (i := i) (by omega)
    have g0 := hx.cell (i := i) (e := [.bool a0, .int .i64 a1, .int .i64 a2, .string ⟨a3.toArray⟩]) (by rw [List.getElem?_map, hl]; rfl) (off := 0) (by omega)
    have k0 := hy.cell (i := i) (e := [.bool b0, .int .i64 b1, .int .i64 b2, .string ⟨b3.toArray⟩]) (by rw [List.getElem?_map, hm]; rfl) (off := 0) (by omega)
    have g1 := hx.cell (i := i) (e := [.bool a0, .int .i64 a1, .int .i64 a2, .string ⟨a3.toArray⟩]) (by rw [List.getElem?_map, hl]; rfl) (off := 1) (by omega)
    have k1 := hy.cell (i := i) (e := [.bool b0, .int .i64 b1, .int .i64 b2, .string ⟨b3.toArray⟩]) (by rw [List.getElem?_map, hm]; rfl) (off := 1) (by omega)
    have g2 := hx.cell (i := i) (e := [.bool a0, .int .i64 a1, .int .i64 a2, .string ⟨a3.toArray⟩]) (by rw [List.getElem?_map, hl]; rfl) (off := 2) (by omega)
    have k2 := hy.cell (i := i) (e := [.bool b0, .int .i64 b1, .int .i64 b2, .string ⟨b3.toArray⟩]) (by rw [List.getElem?_map, hm]; rfl) (off := 2) (by omega)
    have g3 := hx.cell (i := i) (e := [.bool a0, .int .i64 a1, .int .i64 a2, .string ⟨a3.toArray⟩]) (by rw [List.getElem?_map, hl]; rfl) (off := 3) (by omega)
    have k3 := hy.cell (i := i) (e := [.bool b0, .int .i64 b1, .int .i64 b2, .string ⟨b3.toArray⟩]) (by rw [List.getElem?_map, hm]; rfl) (off := 3) (by omega)
    have i1 := hx.ix (i := (i : Int)) (by omega) (by rw [List.length_map]; omega)
    have i2 := hy.ix (i := (i : Int)) (by omega) (by rw [List.length_map]; omega)
    simp only [List.getD_cons_zero, List.getD_cons_succ] at g0 k0 g1 k1 g2 k2 g3 k3
    refine DrawK.quiet (by kernel_rfl) (by kernel_rfl) ?_
    simp only [shs, zts, sos, sls, zss, eqs, sx, sb1, sb2, sb3, sb4, sb5, ↓reduceIte, Nat.reduceAdd, Nat.reduceMul, Nat.reduceDiv, Nat.reduceEqDiff, Nat.reduceLT, Nat.reduceLeDiff, reduceCtorEq, Int.reduceEq, Int.reduceNe, Int.reduceLT, Int.reduceLE, Int.reduceAdd, Int.reduceSub, Int.reduceMul, Int.reduceNeg, Int.reduceToNat, Int.cast_ofNat_Int, Int.natCast_zero, Int.natCast_one, Int.toNat_natCast, Nat.reduceBEq, nzs, g0.1, g0.2.1, k0.1, k0.2.1, g1.1, g1.2.1, k1.1, k1.2.1, g2.1, g2.2.1, k2.1, k2.2.1, g3.1, g3.2.1, k3.1, k3.2.1, i1, i2, i1.2, i2.2, hx.len, hy.len, hx.sl, hy.sl, inK, lo, hi, List.toArray_eq_iff]
    refine ⟨fun hne => ?_, fun he => ⟨by omega, (f - 1, i + 1), ⟨⟨by simp only; omega, ?_⟩, by simp only; omega⟩, Ent.of ?_⟩⟩
    · rw [decide_eq_false (fun e => ?_)]
      have := h2.1 e
      rw [hd, hd2] at this
      have := (List.cons.inj this).1
      simp_all
    · have e12 : ((a0, a1, a2), a3) = ((b0, b1, b2), b3) := by simp_all
      simp only
      rw [h2, hd, hd2, e12]
      exact ⟨fun e => (List.cons.inj e).2, fun e => by rw [e]⟩
    · simp only [sx, sb1, sb2, sb3, sb4, sb5, ↓reduceIte, Nat.reduceAdd, Nat.reduceMul, Nat.reduceDiv, Nat.reduceEqDiff, Nat.reduceLT, Nat.reduceLeDiff, reduceCtorEq, Int.reduceEq, Int.reduceNe, Int.reduceLT, Int.reduceLE, Int.reduceAdd, Int.reduceSub, Int.reduceMul, Int.reduceNeg, Int.reduceToNat, Int.cast_ofNat_Int, Int.natCast_zero, Int.natCast_one, Int.toNat_natCast, Nat.reduceBEq, Int.natCast_add]
  · have : i = l.length := by omega
    rw [decide_eq_true (h2.2 (by rw [List.drop_eq_nil_of_le (by omega), List.drop_eq_nil_of_le (by omega)]))]


def copT (_ : List (Value × List Rc)) (f : Nat → SV) : SV := f 0
def copP (s : List Rc) (x : List (Value × List Rc)) (f : Nat → SV) : List PO := [.tab 1 (vv (x.map encV) ++ [[f 1]]), .row 4 (s.map encR)]
theorem natT : NatT copT := fun x f f' ν ν' h => h 0 (by omega)
theorem natP (s : List Rc) : NatP (copP s) := fun x f f' ν ν' h => by
  refine ⟨fun w y hy => ?_, fun w y hy => hy, trivial⟩
  rw [PO.tab_row] at hy ⊢
  have : (vv (x.map encV) ++ [[f 1]]).map (SV.vals ν) = (vv (x.map encV) ++ [[f' 1]]).map (SV.vals ν') := by
    rw [List.map_append, List.map_append, vv_vals, vv_vals]
    simp only [List.map_cons, List.map_nil, SV.vals, h 1 (by omega)]
  rw [← this]
  exact hy
theorem copied (y : Value) (ps : List (Value × List Rc)) (v : Value) (s : List Rc) (M : Mem) (hy : RowM M y 1 ((ps ++ [(v, s)]).map encV)) (hM : SegM M (ps ++ [(v, s)])) (h16 : (ps ++ [(v, s)]).length ≤ 16) (hk : ∀ p ∈ ps ++ [(v, s)], p.2.length ≤ 1000) :
    Meets Proofs.Try.prog 97 [.v y] M (OwnN copT (copP s) (fun x M' => SegM M' x ∧ x.map (·.2) = ps.map (·.2))) := by
  refine Meets.of_body [0,2,3,5,6,7,8,9] Proofs.Try.func97 rfl (by kernel_rfl) rfl fun w => ?_
  have hlen : (ps ++ [(v, s)]).length = ps.length + 1 := by simp
  simp only [Proofs.Try.f97, shs, zts, sos, sls, zss, eqs, sx, sb1, sb2, sb3, sb4, sb5, ↓reduceIte, Nat.reduceAdd, Nat.reduceMul, Nat.reduceDiv, Nat.reduceEqDiff, Nat.reduceLT, Nat.reduceLeDiff, reduceCtorEq, Int.reduceEq, Int.reduceNe, Int.reduceLT, Int.reduceLE, Int.reduceAdd, Int.reduceSub, Int.reduceMul, Int.reduceNeg, Int.reduceToNat, Int.cast_ofNat_Int, Int.natCast_zero, Int.natCast_one, Int.toNat_natCast, Nat.reduceBEq, nzs, hy.len, hy.sl, List.length_map, hlen]
  refine LoopK.nilRow 3 16 1 rfl rfl rfl ?_
  simp only [sx, sb1, sb2, sb3, sb4, sb5, ↓reduceIte, Nat.reduceAdd, Nat.reduceMul, Nat.reduceDiv, Nat.reduceEqDiff, Nat.reduceLT, Nat.reduceLeDiff, reduceCtorEq, Int.reduceEq, Int.reduceNe, Int.reduceLT, Int.reduceLE, Int.reduceAdd, Int.reduceSub, Int.reduceMul, Int.reduceNeg, Int.reduceToNat, Int.cast_ofNat_Int, Int.natCast_zero, Int.natCast_one, Int.toNat_natCast, Nat.reduceBEq]
  refine LoopK.go (X := (Nat × Nat × List (Value × List Rc) × Mem) ⊕ (List (Value × List Rc) × Mem)) (fun x => match x with
      | .inl x => ([(3, true, .own 128), (6, true, .v y), (7, true, .v (.int .i64 ((ps.length + 1 : Nat) : Int))), (8, true, .v (.int .i64 x.2.1))], [(128, .row 1 (x.2.2.1.map encV))], x.2.2.2)
      | .inr x => ([(3, true, .own 128), (6, true, .v y), (7, true, .v (.int .i64 ((ps.length + 1 : Nat) : Int))), (8, true, .v (.int .i64 ((ps.length + 1 : Nat) : Int)))], [(128, .tab 1 (vv (x.1.map encV) ++ [[.own 112]])), (112, .row 4 (s.map encR))], x.2))
    (fun x => match x with
      | .inl x => ((x.1 + x.2.1 = ps.length + 1 ∧ x.2.1 ≤ ps.length) ∧ x.2.2.1.length = x.2.1) ∧ M.le x.2.2.2 ∧ SegM x.2.2.2 x.2.2.1 ∧ x.2.2.1.map (·.2) = (ps.map (·.2)).take x.2.1
      | .inr x => SegM x.2 x.1 ∧ x.1.map (·.2) = ps.map (·.2))
    (fun x => match x with | .inl x => x.1 | .inr _ => 0) (.inl (ps.length + 1, 0, [], M)) ⟨⟨⟨rfl, by simp⟩, rfl⟩, Mem.le.refl M, fun p hp => by simp at hp, rfl⟩ (Ent.of ?_) ?_
  · simp only [sx, sb1, sb2, sb3, sb4, sb5, ↓reduceIte, Nat.reduceAdd, Nat.reduceMul, Nat.reduceDiv, Nat.reduceEqDiff, Nat.reduceLT, Nat.reduceLeDiff, reduceCtorEq, Int.reduceEq, Int.reduceNe, Int.reduceLT, Int.reduceLE, Int.reduceAdd, Int.reduceSub, Int.reduceMul, Int.reduceNeg, Int.reduceToNat, Int.cast_ofNat_Int, Int.natCast_zero, Int.natCast_one, Int.toNat_natCast, Nat.reduceBEq, List.map_nil]
  rintro (⟨f, i, out, M1⟩ | ⟨out, M1⟩) hI
  · obtain ⟨⟨⟨h1, h2⟩, h3⟩, h4, h5, h6⟩ := hI
    simp only at h1 h2 h3 h4 h5 h6
    have c1 : ((i : Int) < ((ps.length + 1 : Nat) : Int)) = True := eq_true (by omega)
    obtain ⟨p, hx, _⟩ := l_drop_at (l := ps ++ [(v, s)]) (i := i) (by omega)
    have hp := hM p (List.mem_of_getElem? hx)
    have hpl := hk p (List.mem_of_getElem? hx)
    have g := (hy.le h4).el1 hx rfl
    have ix := (hy.le h4).ix (i := (i : Int)) (by omega) (by rw [List.length_map]; omega)
    have i2 : inK .i64 ((i : Int) + 1) := i64I (by omega)
    simp only [shs, zts, sos, sls, zss, eqs, sx, sb1, sb2, sb3, sb4, sb5, ↓reduceIte, Nat.reduceAdd, Nat.reduceMul, Nat.reduceDiv, Nat.reduceEqDiff, Nat.reduceLT, Nat.reduceLeDiff, reduceCtorEq, Int.reduceEq, Int.reduceNe, Int.reduceLT, Int.reduceLE, Int.reduceAdd, Int.reduceSub, Int.reduceMul, Int.reduceNeg, Int.reduceToNat, Int.cast_ofNat_Int, Int.natCast_zero, Int.natCast_one, Int.toNat_natCast, Nat.reduceBEq, nzs, c1, g.1, g.2, ix, ix.2, hp.one]
    by_cases hi : i = ps.length
    · subst hi
      have hps : p = (v, s) := by
        rw [List.getElem?_append_right (Nat.le_refl _)] at hx
        simpa using hx.symm
      subst hps
      refine CallK.own Ctx.id rfl rfl (cloneR _ _ M1 (hp.le h4) (by simp only at hpl ⊢; omega)) rfl fun M2 hM2 => ?_
      simp only [shs, zts, sos, sls, zss, eqs, sx, sb1, sb2, sb3, sb4, sb5, ↓reduceIte, Nat.reduceAdd, Nat.reduceMul, Nat.reduceDiv, Nat.reduceEqDiff, Nat.reduceLT, Nat.reduceLeDiff, reduceCtorEq, Int.reduceEq, Int.reduceNe, Int.reduceLT, Int.reduceLE, Int.reduceAdd, Int.reduceSub, Int.reduceMul, Int.reduceNeg, Int.reduceToNat, Int.cast_ofNat_Int, Int.natCast_zero, Int.natCast_one, Int.toNat_natCast, Nat.reduceBEq, nzs]
      refine OpK.bsTab rfl rfl sl71 rfl rfl ⟨⟨⟨rfl, rfl⟩, rfl, rfl⟩, trivial⟩ rfl ?_
      simp only [shs, zts, sos, sls, zss, eqs, sx, sb1, sb2, sb3, sb4, sb5, ↓reduceIte, Nat.reduceAdd, Nat.reduceMul, Nat.reduceDiv, Nat.reduceEqDiff, Nat.reduceLT, Nat.reduceLeDiff, reduceCtorEq, Int.reduceEq, Int.reduceNe, Int.reduceLT, Int.reduceLE, Int.reduceAdd, Int.reduceSub, Int.reduceMul, Int.reduceNeg, Int.reduceToNat, Int.cast_ofNat_Int, Int.natCast_zero, Int.natCast_one, Int.toNat_natCast, Nat.reduceBEq, nzs, st1]
      refine OpK.appTab (es := vv (out.map encV)) (es' := [[.own 112]]) rfl rfl sl71 sh71 rfl rfl rfl rfl rfl (by simp only [vv_len, List.length_map, List.length_singleton]; omega) (by simp only [vv_len, List.length_map, List.length_singleton]; omega) (by simp only [shs, zts, sos, sls, zss, eqs, sx, sb1, sb2, sb3, sb4, sb5, ↓reduceIte, Nat.reduceAdd, Nat.reduceMul, Nat.reduceDiv, Nat.reduceEqDiff, Nat.reduceLT, Nat.reduceLeDiff, reduceCtorEq, Int.reduceEq, Int.reduceNe, Int.reduceLT, Int.reduceLE, Int.reduceAdd, Int.reduceSub, Int.reduceMul, Int.reduceNeg, Int.reduceToNat, Int.cast_ofNat_Int, Int.natCast_zero, Int.natCast_one, Int.toNat_natCast, Nat.reduceBEq, nzs, st1]) ?_
      simp only [shs, zts, sos, sls, zss, eqs, sx, sb1, sb2, sb3, sb4, sb5, ↓reduceIte, Nat.reduceAdd, Nat.reduceMul, Nat.reduceDiv, Nat.reduceEqDiff, Nat.reduceLT, Nat.reduceLeDiff, reduceCtorEq, Int.reduceEq, Int.reduceNe, Int.reduceLT, Int.reduceLE, Int.reduceAdd, Int.reduceSub, Int.reduceMul, Int.reduceNeg, Int.reduceToNat, Int.cast_ofNat_Int, Int.natCast_zero, Int.natCast_one, Int.toNat_natCast, Nat.reduceBEq, nzs, st1, i2]
      refine ⟨.inr (out, M2), ⟨⟨fun p hp => (h5 p hp).le hM2, ?_⟩, by simp only; omega⟩, Ent.of ?_⟩
      · simp only
        rw [h6, List.take_of_length_le (by simp)]
      · simp only [sx, sb1, sb2, sb3, sb4, sb5, ↓reduceIte, Nat.reduceAdd, Nat.reduceMul, Nat.reduceDiv, Nat.reduceEqDiff, Nat.reduceLT, Nat.reduceLeDiff, reduceCtorEq, Int.reduceEq, Int.reduceNe, Int.reduceLT, Int.reduceLE, Int.reduceAdd, Int.reduceSub, Int.reduceMul, Int.reduceNeg, Int.reduceToNat, Int.cast_ofNat_Int, Int.natCast_zero, Int.natCast_one, Int.toNat_natCast, Nat.reduceBEq, Int.natCast_add]
    · refine CallK.row Ctx.id rfl rfl ((cloneR _ _ M1 (hp.le h4) (by omega)).mono fun s H M' _ ⟨k, e, hk⟩ => ⟨.own k, e, hk⟩) fun v2 M2 hM2 hv2 => ?_
      simp only [shs, zts, sos, sls, zss, eqs, sx, sb1, sb2, sb3, sb4, sb5, ↓reduceIte, Nat.reduceAdd, Nat.reduceMul, Nat.reduceDiv, Nat.reduceEqDiff, Nat.reduceLT, Nat.reduceLeDiff, reduceCtorEq, Int.reduceEq, Int.reduceNe, Int.reduceLT, Int.reduceLE, Int.reduceAdd, Int.reduceSub, Int.reduceMul, Int.reduceNeg, Int.reduceToNat, Int.cast_ofNat_Int, Int.natCast_zero, Int.natCast_one, Int.toNat_natCast, Nat.reduceBEq, nzs, hv2.one, i2, List.length_map]
      refine ⟨⟨by omega, by omega⟩, .inl (f - 1, i + 1, out ++ [(v2, p.2)], M2), ⟨⟨⟨⟨by simp only; omega, by simp only; omega⟩, by simp only [List.length_append, List.length_singleton]; omega⟩, h4.trans hM2, ?_, ?_⟩, by simp only; omega⟩, Ent.of ?_⟩
      · intro q hq
        simp only at hq ⊢
        rcases List.mem_append.1 hq with hq | hq
        · exact (h5 q hq).le hM2
        · simp at hq; subst hq; exact hv2
      · simp only
        rw [List.map_append, h6]
        have : (ps.map (·.2))[i]? = some p.2 := by
          rw [List.getElem?_append_left (by omega)] at hx
          rw [List.getElem?_map, hx]
          rfl
        rw [List.take_add_one, this]
        rfl
      · simp only [sx, sb1, sb2, sb3, sb4, sb5, ↓reduceIte, Nat.reduceAdd, Nat.reduceMul, Nat.reduceDiv, Nat.reduceEqDiff, Nat.reduceLT, Nat.reduceLeDiff, reduceCtorEq, Int.reduceEq, Int.reduceNe, Int.reduceLT, Int.reduceLE, Int.reduceAdd, Int.reduceSub, Int.reduceMul, Int.reduceNeg, Int.reduceToNat, Int.cast_ofNat_Int, Int.natCast_zero, Int.natCast_one, Int.toNat_natCast, Nat.reduceBEq, Int.natCast_add, List.map_append, encV]
  · obtain ⟨h1, h2⟩ := hI
    simp only at h1 h2
    have c1 : (((ps.length + 1 : Nat) : Int) < ((ps.length + 1 : Nat) : Int)) = False := eq_false (by omega)
    simp only [shs, zts, sos, sls, zss, eqs, sx, sb1, sb2, sb3, sb4, sb5, ↓reduceIte, Nat.reduceAdd, Nat.reduceMul, Nat.reduceDiv, Nat.reduceEqDiff, Nat.reduceLT, Nat.reduceLeDiff, reduceCtorEq, Int.reduceEq, Int.reduceNe, Int.reduceLT, Int.reduceLE, Int.reduceAdd, Int.reduceSub, Int.reduceMul, Int.reduceNeg, Int.reduceToNat, Int.cast_ofNat_Int, Int.natCast_zero, Int.natCast_one, Int.toNat_natCast, Nat.reduceBEq, nzs, c1]
    exact ⟨out, [128, 112], rfl, ⟨by decide, by decide⟩, ⟨rfl, rfl, trivial⟩, h1, h2⟩

/-! ### put -/
abbrev PutA := List (Value × List Rc) × List Rc
def putT (_ : PutA) (f : Nat → SV) : SV := .tup [f 0, .v (.bool true)]
def putP (x : PutA) (f : Nat → SV) : List PO := copP x.2 x.1 f
theorem natPT : NatT putT := fun x f f' ν ν' h => by
  simp only [putT, SV.val, SV.vals, h 0 (by omega)]
theorem natPP : NatP putP := fun x => natP x.2 x.1
def standR (l : List (List Rc)) (s : List Rc) (r : Rc) : List (List Rc) := if fullR s + sizeR r ≤ 200 then l ++ [s ++ [r]] else l ++ [s] ++ [[r]]
def putIn (x : List (Value × List Rc)) (s : List Rc) (f : Nat → SV) : List PO := copP s x f
theorem put_ok (x : List (Value × List Rc)) (s : List Rc) (r : Rc) (M : Mem) (hx : SegM M x) (hxl : x.length ≤ 15) (hs : s.length ≤ 100) (h64 : ∀ q ∈ s, q.2.length ≤ 64) (hr : r.2.length ≤ 64) (hroom : fullR s + sizeR r ≤ 200 ∨ x.length + 1 ≠ 16) :
    MeetsH Proofs.Try.prog 96 [.own 8000, recV r] (enumK 8000 (copP s x (kd 8000))) M (OwnN putT putP (fun y M' => SegM M' y.1 ∧ y.1.map (·.2) ++ [y.2] = standR (x.map (·.2)) s r)) := by
  refine MeetsH.of_body [0,1,3,4,5,6,22,38] Proofs.Try.func96 rfl (by kernel_rfl) fun w M0 => ?_
  have hfl := full_le h64
  have hsz : sizeR r ≤ 72 := by unfold sizeR; omega
  have c0 : (0 < ((x.length + 1 : Nat) : Int)) = True := eq_true (by omega)
  have e1 : ((x.length + 1 : Nat) : Int) - 1 = (x.length : Int) := by omega
  have i1 : inK .i64 ((x.length : Nat) : Int) := i64I (by omega)
  have i2 : inK .i64 ((fullR s : Int) + (sizeR r : Int)) := i64I (by omega)
  have hg : (vv (x.map encV) ++ [[SV.own 8001]]).getD x.length [] = [.own 8001] := by
    rw [List.getD_eq_getElem?_getD, List.getElem?_append_right (by simp [vv_len])]
    simp [vv_len]
  simp only [Proofs.Try.f96, copP, recV, shA1, shs, zts, sos, sls, zss, eqs, sx, sb1, sb2, sb3, sb4, sb5, ↓reduceIte, Nat.reduceAdd, Nat.reduceMul, Nat.reduceDiv, Nat.reduceEqDiff, Nat.reduceLT, Nat.reduceLeDiff, reduceCtorEq, Int.reduceEq, Int.reduceNe, Int.reduceLT, Int.reduceLE, Int.reduceAdd, Int.reduceSub, Int.reduceMul, Int.reduceNeg, Int.reduceToNat, Int.cast_ofNat_Int, Int.natCast_zero, Int.natCast_one, Int.toNat_natCast, Nat.reduceBEq, nzs, st1, List.length_append, List.length_map, List.length_singleton]
  refine DrawK.held [24] (tk [0, 1, 2, 3, 4, 5, 9] (ones' [6, 7, 8, 10] (tk [11, 12, 13] .done))) (by kernel_rfl) (by kernel_rfl) fun xs => ?_
  simp only [shs, zts, sos, sls, zss, eqs, sx, sb1, sb2, sb3, sb4, sb5, ↓reduceIte, Nat.reduceAdd, Nat.reduceMul, Nat.reduceDiv, Nat.reduceEqDiff, Nat.reduceLT, Nat.reduceLeDiff, reduceCtorEq, Int.reduceEq, Int.reduceNe, Int.reduceLT, Int.reduceLE, Int.reduceAdd, Int.reduceSub, Int.reduceMul, Int.reduceNeg, Int.reduceToNat, Int.cast_ofNat_Int, Int.natCast_zero, Int.natCast_one, Int.toNat_natCast, Nat.reduceBEq, nzs, se1, se2, tks, st1, List.length_append, List.length_map, List.length_singleton, c0, e1, i1, hg, getSV, List.getD_cons_zero]
  refine ⟨by omega, by omega, CallK.lend (k := 8001) rfl rfl rfl (fun _ => rfl) (fun v2 M2 _ hv2 => full v2 s M2 hv2 (by omega) h64) ?_⟩
  simp only [shs, zts, sos, sls, zss, eqs, sx, sb1, sb2, sb3, sb4, sb5, ↓reduceIte, Nat.reduceAdd, Nat.reduceMul, Nat.reduceDiv, Nat.reduceEqDiff, Nat.reduceLT, Nat.reduceLeDiff, reduceCtorEq, Int.reduceEq, Int.reduceNe, Int.reduceLT, Int.reduceLE, Int.reduceAdd, Int.reduceSub, Int.reduceMul, Int.reduceNeg, Int.reduceToNat, Int.cast_ofNat_Int, Int.natCast_zero, Int.natCast_one, Int.toNat_natCast, Nat.reduceBEq, nzs, se1, se2, tks, st1]
  refine CallK.pure ⟨rfl, rfl⟩ rfl (size r M (by omega)) ?_
  by_cases hF : fullR s + sizeR r ≤ 200
  · have c3 : ((fullR s : Int) + (sizeR r : Int) ≤ 200) = True := eq_true (by omega)
    have hst : standR (x.map (·.2)) s r = x.map (·.2) ++ [s ++ [r]] := if_pos hF
    rw [hst]
    simp only [shs, zts, sos, sls, zss, eqs, sx, sb1, sb2, sb3, sb4, sb5, ↓reduceIte, Nat.reduceAdd, Nat.reduceMul, Nat.reduceDiv, Nat.reduceEqDiff, Nat.reduceLT, Nat.reduceLeDiff, reduceCtorEq, Int.reduceEq, Int.reduceNe, Int.reduceLT, Int.reduceLE, Int.reduceAdd, Int.reduceSub, Int.reduceMul, Int.reduceNeg, Int.reduceToNat, Int.cast_ofNat_Int, Int.natCast_zero, Int.natCast_one, Int.toNat_natCast, Nat.reduceBEq, nzs, se1, se2, tks, st1, i2, c3]
    refine DrawK.held [24] (tk [0, 1, 2, 3, 4, 5, 8] (.two 6 (.two 7 (.one 9 (ones' [10, 11, 12] .done)) 9 (.one 7 (ones' [10, 11, 12] .done))) 9 (.one 6 (.one 7 (ones' [10, 11, 12] .done))))) (by kernel_rfl) (by kernel_rfl) fun xs => ?_
    simp only [shs, zts, sos, sls, zss, eqs, sx, sb1, sb2, sb3, sb4, sb5, ↓reduceIte, Nat.reduceAdd, Nat.reduceMul, Nat.reduceDiv, Nat.reduceEqDiff, Nat.reduceLT, Nat.reduceLeDiff, reduceCtorEq, Int.reduceEq, Int.reduceNe, Int.reduceLT, Int.reduceLE, Int.reduceAdd, Int.reduceSub, Int.reduceMul, Int.reduceNeg, Int.reduceToNat, Int.cast_ofNat_Int, Int.natCast_zero, Int.natCast_one, Int.toNat_natCast, Nat.reduceBEq, nzs, se1, se2, tks, st1, List.length_append, List.length_map, List.length_singleton, e1, i1, hg, getSV, List.getD_cons_zero]
    have hset : (vv (x.map encV) ++ [[SV.own 8001]]).set x.length [.own 264] = vv (x.map encV) ++ [[.own 264]] := by
      rw [List.set_append_right _ _ (by simp [vv_len])]
      simp [vv_len]
    and_intros
    all_goals first
      | omega
      | (refine OpK.stTab rfl rfl (of_eq_true so79) rfl rfl rfl rfl (by rw [sh79]; rfl) (by simp [vv_len]) (by decide) ?_
         simp only [shs, zts, sos, sls, zss, eqs, sx, sb1, sb2, sb3, sb4, sb5, ↓reduceIte, Nat.reduceAdd, Nat.reduceMul, Nat.reduceDiv, Nat.reduceEqDiff, Nat.reduceLT, Nat.reduceLeDiff, reduceCtorEq, Int.reduceEq, Int.reduceNe, Int.reduceLT, Int.reduceLE, Int.reduceAdd, Int.reduceSub, Int.reduceMul, Int.reduceNeg, Int.reduceToNat, Int.cast_ofNat_Int, Int.natCast_zero, Int.natCast_one, Int.toNat_natCast, Nat.reduceBEq, nzs, se1, se2, tks, st1, hg, hset]
         exact ⟨(x, s ++ [r]), [8000, 264], rfl, ⟨by decide, by decide⟩, ⟨rfl, by simp only [sx, sb1, sb2, sb3, sb4, sb5, ↓reduceIte, Nat.reduceAdd, Nat.reduceMul, Nat.reduceDiv, Nat.reduceEqDiff, Nat.reduceLT, Nat.reduceLeDiff, reduceCtorEq, Int.reduceEq, Int.reduceNe, Int.reduceLT, Int.reduceLE, Int.reduceAdd, Int.reduceSub, Int.reduceMul, Int.reduceNeg, Int.reduceToNat, Int.cast_ofNat_Int, Int.natCast_zero, Int.natCast_one, Int.toNat_natCast, Nat.reduceBEq, List.map_append]; rfl, trivial⟩, hx, rfl⟩)
  · have c3 : ((fullR s : Int) + (sizeR r : Int) ≤ 200) = False := eq_false (by omega)
    have hst : standR (x.map (·.2)) s r = x.map (·.2) ++ [s] ++ [[r]] := if_neg hF
    have c4 : (((x.length + 1 : Nat) : Int) = 16) = False := eq_false (by omega)
    rw [hst]
    simp only [shs, zts, sos, sls, zss, eqs, sx, sb1, sb2, sb3, sb4, sb5, ↓reduceIte, Nat.reduceAdd, Nat.reduceMul, Nat.reduceDiv, Nat.reduceEqDiff, Nat.reduceLT, Nat.reduceLeDiff, reduceCtorEq, Int.reduceEq, Int.reduceNe, Int.reduceLT, Int.reduceLE, Int.reduceAdd, Int.reduceSub, Int.reduceMul, Int.reduceNeg, Int.reduceToNat, Int.cast_ofNat_Int, Int.natCast_zero, Int.natCast_one, Int.toNat_natCast, Nat.reduceBEq, nzs, se1, se2, tks, st1, i2, c3, c4, List.length_append, List.length_map, List.length_singleton]
    refine OpK.pub (k := 8001) rfl fun v2 M2 hM2 hv2 => ?_
    simp only [sp1, sp2, sp3, shs, zts, sos, sls, zss, eqs, sx, sb1, sb2, sb3, sb4, sb5, ↓reduceIte, Nat.reduceAdd, Nat.reduceMul, Nat.reduceDiv, Nat.reduceEqDiff, Nat.reduceLT, Nat.reduceLeDiff, reduceCtorEq, Int.reduceEq, Int.reduceNe, Int.reduceLT, Int.reduceLE, Int.reduceAdd, Int.reduceSub, Int.reduceMul, Int.reduceNeg, Int.reduceToNat, Int.cast_ofNat_Int, Int.natCast_zero, Int.natCast_one, Int.toNat_natCast, Nat.reduceBEq, nzs, st1]
    refine OpK.bsTab rfl rfl sl71 rfl rfl ⟨⟨⟨rfl, rfl⟩, rfl, rfl⟩, trivial⟩ (by simp only [shs, zts, sos, sls, zss, eqs, sx, sb1, sb2, sb3, sb4, sb5, ↓reduceIte, Nat.reduceAdd, Nat.reduceMul, Nat.reduceDiv, Nat.reduceEqDiff, Nat.reduceLT, Nat.reduceLeDiff, reduceCtorEq, Int.reduceEq, Int.reduceNe, Int.reduceLT, Int.reduceLE, Int.reduceAdd, Int.reduceSub, Int.reduceMul, Int.reduceNeg, Int.reduceToNat, Int.cast_ofNat_Int, Int.natCast_zero, Int.natCast_one, Int.toNat_natCast, Nat.reduceBEq, nzs, st1]) ?_
    simp only [shs, zts, sos, sls, zss, eqs, sx, sb1, sb2, sb3, sb4, sb5, ↓reduceIte, Nat.reduceAdd, Nat.reduceMul, Nat.reduceDiv, Nat.reduceEqDiff, Nat.reduceLT, Nat.reduceLeDiff, reduceCtorEq, Int.reduceEq, Int.reduceNe, Int.reduceLT, Int.reduceLE, Int.reduceAdd, Int.reduceSub, Int.reduceMul, Int.reduceNeg, Int.reduceToNat, Int.cast_ofNat_Int, Int.natCast_zero, Int.natCast_one, Int.toNat_natCast, Nat.reduceBEq, nzs, st1]
    refine OpK.appTab (es := vv (x.map encV) ++ [[.v v2]]) (es' := [[.own 328]]) rfl rfl sl71 sh71 rfl rfl rfl rfl rfl (by simp only [vv_len, List.length_map, List.length_append, List.length_singleton]; omega) (by simp only [vv_len, List.length_map, List.length_append, List.length_singleton]; omega) (by simp only [shs, zts, sos, sls, zss, eqs, sx, sb1, sb2, sb3, sb4, sb5, ↓reduceIte, Nat.reduceAdd, Nat.reduceMul, Nat.reduceDiv, Nat.reduceEqDiff, Nat.reduceLT, Nat.reduceLeDiff, reduceCtorEq, Int.reduceEq, Int.reduceNe, Int.reduceLT, Int.reduceLE, Int.reduceAdd, Int.reduceSub, Int.reduceMul, Int.reduceNeg, Int.reduceToNat, Int.cast_ofNat_Int, Int.natCast_zero, Int.natCast_one, Int.toNat_natCast, Nat.reduceBEq, nzs, st1]) ?_
    simp only [shs, zts, sos, sls, zss, eqs, sx, sb1, sb2, sb3, sb4, sb5, ↓reduceIte, Nat.reduceAdd, Nat.reduceMul, Nat.reduceDiv, Nat.reduceEqDiff, Nat.reduceLT, Nat.reduceLeDiff, reduceCtorEq, Int.reduceEq, Int.reduceNe, Int.reduceLT, Int.reduceLE, Int.reduceAdd, Int.reduceSub, Int.reduceMul, Int.reduceNeg, Int.reduceToNat, Int.cast_ofNat_Int, Int.natCast_zero, Int.natCast_one, Int.toNat_natCast, Nat.reduceBEq, nzs, st1]
    refine ⟨(x ++ [(v2, s)], [r]), [344, 328], rfl, ⟨by decide, by decide⟩, ⟨?_, rfl, trivial⟩, fun p hp => ?_, by simp⟩
    · show some _ = some _
      rw [List.map_append, vv_app]
      rfl
    · rcases List.mem_append.1 hp with hp | hp
      · exact (hx p hp).le hM2
      · simp at hp; subst hp; exact hv2
theorem put_full (x : List (Value × List Rc)) (s : List Rc) (r : Rc) (M : Mem) (hxl : x.length + 1 = 16) (hs : s.length ≤ 100) (h64 : ∀ q ∈ s, q.2.length ≤ 64) (hr : r.2.length ≤ 64) (hroom : ¬ fullR s + sizeR r ≤ 200) :
    MeetsH Proofs.Try.prog 96 [.own 8000, recV r] (enumK 8000 (copP s x (kd 8000))) M (OwnN (fun (_ : Unit) _ => .tup [.v (.slice none 0 0), .v (.bool false)]) (fun _ _ => []) (fun _ _ => True)) := by
  refine MeetsH.of_body [0,1,3,4,5,6,22,38] Proofs.Try.func96 rfl (by kernel_rfl) fun w M0 => ?_
  have hfl := full_le h64
  have hsz : sizeR r ≤ 72 := by unfold sizeR; omega
  have c0 : (0 < ((x.length + 1 : Nat) : Int)) = True := eq_true (by omega)
  have e1 : ((x.length + 1 : Nat) : Int) - 1 = (x.length : Int) := by omega
  have i1 : inK .i64 ((x.length : Nat) : Int) := i64I (by omega)
  have i2 : inK .i64 ((fullR s : Int) + (sizeR r : Int)) := i64I (by omega)
  have hg : (vv (x.map encV) ++ [[SV.own 8001]]).getD x.length [] = [.own 8001] := by
    rw [List.getD_eq_getElem?_getD, List.getElem?_append_right (by simp [vv_len])]
    simp [vv_len]
  simp only [Proofs.Try.f96, copP, recV, shA1, shs, zts, sos, sls, zss, eqs, sx, sb1, sb2, sb3, sb4, sb5, ↓reduceIte, Nat.reduceAdd, Nat.reduceMul, Nat.reduceDiv, Nat.reduceEqDiff, Nat.reduceLT, Nat.reduceLeDiff, reduceCtorEq, Int.reduceEq, Int.reduceNe, Int.reduceLT, Int.reduceLE, Int.reduceAdd, Int.reduceSub, Int.reduceMul, Int.reduceNeg, Int.reduceToNat, Int.cast_ofNat_Int, Int.natCast_zero, Int.natCast_one, Int.toNat_natCast, Nat.reduceBEq, nzs, st1, List.length_append, List.length_map, List.length_singleton]
  refine DrawK.held [24] (tk [0, 1, 2, 3, 4, 5, 9] (ones' [6, 7, 8, 10] (tk [11, 12, 13] .done))) (by kernel_rfl) (by kernel_rfl) fun xs => ?_
  simp only [shs, zts, sos, sls, zss, eqs, sx, sb1, sb2, sb3, sb4, sb5, ↓reduceIte, Nat.reduceAdd, Nat.reduceMul, Nat.reduceDiv, Nat.reduceEqDiff, Nat.reduceLT, Nat.reduceLeDiff, reduceCtorEq, Int.reduceEq, Int.reduceNe, Int.reduceLT, Int.reduceLE, Int.reduceAdd, Int.reduceSub, Int.reduceMul, Int.reduceNeg, Int.reduceToNat, Int.cast_ofNat_Int, Int.natCast_zero, Int.natCast_one, Int.toNat_natCast, Nat.reduceBEq, nzs, se1, se2, tks, st1, List.length_append, List.length_map, List.length_singleton, c0, e1, i1, hg, getSV, List.getD_cons_zero]
  refine ⟨by omega, by omega, CallK.lend (k := 8001) rfl rfl rfl (fun _ => rfl) (fun v2 M2 _ hv2 => full v2 s M2 hv2 (by omega) h64) ?_⟩
  simp only [shs, zts, sos, sls, zss, eqs, sx, sb1, sb2, sb3, sb4, sb5, ↓reduceIte, Nat.reduceAdd, Nat.reduceMul, Nat.reduceDiv, Nat.reduceEqDiff, Nat.reduceLT, Nat.reduceLeDiff, reduceCtorEq, Int.reduceEq, Int.reduceNe, Int.reduceLT, Int.reduceLE, Int.reduceAdd, Int.reduceSub, Int.reduceMul, Int.reduceNeg, Int.reduceToNat, Int.cast_ofNat_Int, Int.natCast_zero, Int.natCast_one, Int.toNat_natCast, Nat.reduceBEq, nzs, se1, se2, tks, st1]
  refine CallK.pure ⟨rfl, rfl⟩ rfl (size r M (by omega)) ?_
  have c3 : ((fullR s : Int) + (sizeR r : Int) ≤ 200) = False := eq_false (by omega)
  have c4 : (((x.length + 1 : Nat) : Int) = 16) = True := eq_true (by omega)
  simp only [shs, zts, sos, sls, zss, eqs, sx, sb1, sb2, sb3, sb4, sb5, ↓reduceIte, Nat.reduceAdd, Nat.reduceMul, Nat.reduceDiv, Nat.reduceEqDiff, Nat.reduceLT, Nat.reduceLeDiff, reduceCtorEq, Int.reduceEq, Int.reduceNe, Int.reduceLT, Int.reduceLE, Int.reduceAdd, Int.reduceSub, Int.reduceMul, Int.reduceNeg, Int.reduceToNat, Int.cast_ofNat_Int, Int.natCast_zero, Int.natCast_one, Int.toNat_natCast, Nat.reduceBEq, nzs, se1, se2, tks, st1, i2, c3, c4, List.length_append, List.length_map, List.length_singleton]
  exact ⟨(), [], rfl, ⟨by decide, by decide⟩, trivial, trivial⟩
def isNew (r : Rc) (es : List (List Value)) (M : Mem) : Prop := ∃ v, es = [[v]] ∧ RowM M v 4 [encR r]
/-- into no segments at all -/
theorem put_nil (r : Rc) (M : Mem) : Meets Proofs.Try.prog 96 [.v (.slice none 0 0), recV r] M (fun r' _ M' => ∃ v es, r' = .tup [.v v, .v (.bool true)] ∧ RowM M' v 1 es ∧ isNew r es M') := by
  refine Meets.pub (T := fun s => .tup [s, .v (.bool true)]) (Ctx.fst _) (fun es M M' hle ⟨v, h1, h2⟩ => ⟨v, h1, h2.le hle⟩) ?_
  refine Meets.of_body [0,1,3,4,5,6,22,38] Proofs.Try.func96 rfl (by kernel_rfl) rfl fun w => ?_
  have hl0 : lenV (.slice none 0 0) = 0 := rfl
  have c0 : (0 < ((0 : Nat) : Int)) = False := eq_false (by omega)
  have c4 : (((0 : Nat) : Int) = 16) = False := eq_false (by omega)
  simp only [Proofs.Try.f96, recV, shA1, shs, zts, sos, sls, zss, eqs, sx, sb1, sb2, sb3, sb4, sb5, ↓reduceIte, Nat.reduceAdd, Nat.reduceMul, Nat.reduceDiv, Nat.reduceEqDiff, Nat.reduceLT, Nat.reduceLeDiff, reduceCtorEq, Int.reduceEq, Int.reduceNe, Int.reduceLT, Int.reduceLE, Int.reduceAdd, Int.reduceSub, Int.reduceMul, Int.reduceNeg, Int.reduceToNat, Int.cast_ofNat_Int, Int.natCast_zero, Int.natCast_one, Int.toNat_natCast, Nat.reduceBEq, nzs, st1, hl0]
  refine DrawK.held [24] (tk [0, 1, 2, 3, 4, 5, 9] (ones' [6, 7, 8, 10] (tk [11, 12, 13] .done))) (by kernel_rfl) (by kernel_rfl) fun xs => ?_
  simp only [shs, zts, sos, sls, zss, eqs, sx, sb1, sb2, sb3, sb4, sb5, ↓reduceIte, Nat.reduceAdd, Nat.reduceMul, Nat.reduceDiv, Nat.reduceEqDiff, Nat.reduceLT, Nat.reduceLeDiff, reduceCtorEq, Int.reduceEq, Int.reduceNe, Int.reduceLT, Int.reduceLE, Int.reduceAdd, Int.reduceSub, Int.reduceMul, Int.reduceNeg, Int.reduceToNat, Int.cast_ofNat_Int, Int.natCast_zero, Int.natCast_one, Int.toNat_natCast, Nat.reduceBEq, nzs, se1, se2, tks, st1, hl0, c0, c4]
  refine OpK.pub (k := 328) rfl fun v2 M2 hM2 hv2 => OpK.step ?_
  simp only [sp1, sp2, sp3, shs, zts, sos, sls, zss, eqs, sx, sb1, sb2, sb3, sb4, sb5, ↓reduceIte, Nat.reduceAdd, Nat.reduceMul, Nat.reduceDiv, Nat.reduceEqDiff, Nat.reduceLT, Nat.reduceLeDiff, reduceCtorEq, Int.reduceEq, Int.reduceNe, Int.reduceLT, Int.reduceLE, Int.reduceAdd, Int.reduceSub, Int.reduceMul, Int.reduceNeg, Int.reduceToNat, Int.cast_ofNat_Int, Int.natCast_zero, Int.natCast_one, Int.toNat_natCast, Nat.reduceBEq, nzs, st1, hv2.one]
  exact ⟨_, _, rfl, rfl, v2, rfl, hv2⟩

/-! ### Put -/
def standL (l : List (List Rc)) (r : Rc) : List (List Rc) := match l.getLast? with
  | none => [[r]]
  | some s => standR l.dropLast s r
theorem standL_nil (r : Rc) : standL [] r = [[r]] := rfl
theorem standL_app (l : List (List Rc)) (s : List Rc) (r : Rc) : standL (l ++ [s]) r = standR l s r := by
  unfold standL
  simp
def putE (l : List (List Rc)) (r : Rc) : Int := if segE l ≠ 0 then segE l else if segE [[r]] ≠ 0 then segE [[r]] else if 16 < (standL l r).length then 8 else 0
def putL (l : List (List Rc)) (r : Rc) : List (List Rc) := if putE l r = 0 then standL l r else []
/-- what Check lets by -/
theorem segE_ok {l : List (List Rc)} (h : segE l = 0) : l.length ≤ 16 ∧ ∀ s ∈ l, (s.length ≠ 0 ∧ s.length ≤ 25) ∧ (∀ r ∈ s, r.1.1 = true ∧ r.2.length ≤ 64) ∧ fullR s ≤ 200 := by
  unfold segE at h
  split at h
  · cases h
  · rename_i h16
    refine ⟨by omega, ?_⟩
    have key : ∀ l : List (List Rc), goE l = 0 → ∀ s ∈ l, (s.length ≠ 0 ∧ s.length ≤ 25) ∧ (∀ r ∈ s, r.1.1 = true ∧ r.2.length ≤ 64) ∧ fullR s ≤ 200 := by
      intro l
      induction l with
      | nil => intro _ s hs; simp at hs
      | cons a l ih =>
        intro h s hs
        simp only [goE] at h
        split at h
        · cases h
        · rename_i h0
          split at h
          · rename_i h1; exact (h1 h).elim
          · rename_i h1
            split at h
            · cases h
            · rename_i h2
              rcases List.mem_cons.1 hs with rfl | hs
              · have h3 := takes_sum s
                exact ⟨⟨h0, by omega⟩, recE_le (by omega), by omega⟩
              · exact ih h s hs
    exact key l h
theorem segE_one (r : Rc) : segE [[r]] = if r.1.1 = false then 3 else if 64 < r.2.length then 2 else 0 := by
  unfold segE
  rw [if_neg (by simp)]
  simp only [goE, recE, List.length_singleton]
  rw [if_neg (by omega)]
  split
  · rfl
  · split
    · rfl
    · rename_i h
      rw [if_neg (by simp), if_neg (by simp [fullR, sizeR]; omega)]
end Go.X.Sg
