/- Segments that are cleaned: seg.Live, slices.Min, slices.Index, seg.Clean. Conditions: none. -/
import Derived.Test.YtoohifeidifocaaMg11
set_option linter.unusedSimpArgs false
set_option linter.unusedVariables false
set_option maxHeartbeats 4000000
set_option maxRecDepth 20000
namespace Go.X.Sg
open Go Go.X

def lookE (l : List (List Rc)) (b : List Bg.It) : Int := if segE l ≠ 0 then segE l else Bg.bagE b
theorem look (y z : Value) (ps : List (Value × List Rc)) (b : List Bg.It) (M : Mem) (hy : RowM M y 1 (ps.map encV)) (hM : SegM M ps) (hk : ∀ p ∈ ps, okS p.2) (hz : RowM M z 4 (b.map Bg.encT)) :
    Meets Proofs.Try.prog 14 [.v y, .v z] M fun r _ _ => r = .v (.int .i64 (lookE (ps.map (·.2)) b)) := by
  refine Meets.of_body [0,1,4,5,9] Proofs.Try.func14 rfl (by kernel_rfl) rfl fun w => ?_
  generalize hc : lookE (ps.map (·.2)) b = c
  unfold lookE at hc
  simp only [Proofs.Try.f14, shs, zts, sos, sls, zss, eqs, sx, sb1, sb2, sb3, sb4, sb5, sb6, sb7, ↓reduceIte, Nat.reduceAdd, Nat.reduceMul, Nat.reduceDiv, Nat.reduceEqDiff, Nat.reduceLT, Nat.reduceLeDiff, reduceCtorEq, Int.reduceEq, Int.reduceNe, Int.reduceLT, Int.reduceLE, Int.reduceAdd, Int.reduceSub, Int.reduceMul, Int.reduceNeg, Int.reduceToNat, Int.cast_ofNat_Int, Int.natCast_zero, Int.natCast_one, Int.toNat_natCast, Nat.reduceBEq, nzs]
  refine CallK.pure ⟨rfl, rfl⟩ rfl (check y ps M hy hM hk) ?_
  by_cases h : segE (ps.map (·.2)) = 0
  · rw [if_neg (fun e => e h)] at hc
    subst hc
    simp only [shs, zts, sos, sls, zss, eqs, sx, sb1, sb2, sb3, sb4, sb5, sb6, sb7, ↓reduceIte, Nat.reduceAdd, Nat.reduceMul, Nat.reduceDiv, Nat.reduceEqDiff, Nat.reduceLT, Nat.reduceLeDiff, reduceCtorEq, Int.reduceEq, Int.reduceNe, Int.reduceLT, Int.reduceLE, Int.reduceAdd, Int.reduceSub, Int.reduceMul, Int.reduceNeg, Int.reduceToNat, Int.cast_ofNat_Int, Int.natCast_zero, Int.natCast_one, Int.toNat_natCast, Nat.reduceBEq, nzs, h]
    refine CallK.pure ⟨rfl, rfl⟩ rfl (Bg.check z b M hz) ?_
    simp only [shs, zts, sos, sls, zss, eqs, sx, sb1, sb2, sb3, sb4, sb5, sb6, sb7, ↓reduceIte, Nat.reduceAdd, Nat.reduceMul, Nat.reduceDiv, Nat.reduceEqDiff, Nat.reduceLT, Nat.reduceLeDiff, reduceCtorEq, Int.reduceEq, Int.reduceNe, Int.reduceLT, Int.reduceLE, Int.reduceAdd, Int.reduceSub, Int.reduceMul, Int.reduceNeg, Int.reduceToNat, Int.cast_ofNat_Int, Int.natCast_zero, Int.natCast_one, Int.toNat_natCast, Nat.reduceBEq, nzs]
  · rw [if_pos h] at hc
    subst hc
    have d1 := eq_false h
    simp only [shs, zts, sos, sls, zss, eqs, sx, sb1, sb2, sb3, sb4, sb5, sb6, sb7, ↓reduceIte, Nat.reduceAdd, Nat.reduceMul, Nat.reduceDiv, Nat.reduceEqDiff, Nat.reduceLT, Nat.reduceLeDiff, reduceCtorEq, Int.reduceEq, Int.reduceNe, Int.reduceLT, Int.reduceLE, Int.reduceAdd, Int.reduceSub, Int.reduceMul, Int.reduceNeg, Int.reduceToNat, Int.cast_ofNat_Int, Int.natCast_zero, Int.natCast_one, Int.toNat_natCast, Nat.reduceBEq, nzs, d1]
theorem lookE_ok {l : List (List Rc)} {b : List Bg.It} (h : lookE l b = 0) : segE l = 0 ∧ Bg.bagE b = 0 := by
  unfold lookE at h
  by_cases h1 : segE l = 0
  · rw [if_neg (fun e => e h1)] at h; exact ⟨h1, h⟩
  · rw [if_pos h1] at h; exact absurd h h1
def liveN (l : List (List Rc)) (b : List Bg.It) : List Nat := if lookE l b = 0 then (aliveL b l).map fullR else []
theorem live_match (b : List Bg.It) (ps : List (Value × List Rc)) : (liveL b (ps.map (·.2))).length = ps.length ∧ ∀ (i : Nat) (p : Value × List Rc) (f : List Bool), ps[i]? = some p → (liveL b (ps.map (·.2)))[i]? = some f → f.length = p.2.length := by
  refine ⟨by rw [liveL_len, List.length_map], fun i p f hp hf => ?_⟩
  rw [liveL_at b (l := ps.map (·.2)) (s := p.2) (by rw [List.getElem?_map, hp]; rfl), Option.some.injEq] at hf
  rw [← hf, liveR_len]
theorem Live (y z : Value) (ps : List (Value × List Rc)) (b : List Bg.It) (M : Mem) (hy : RowM M y 1 (ps.map encV)) (hM : SegM M ps) (hk : ∀ p ∈ ps, okS p.2) (hz : RowM M z 4 (b.map Bg.encT)) :
    Meets Proofs.Try.prog 4 [.v y, .v z] M (RowR (fun s => .tup [s, .v (.int .i64 (lookE (ps.map (·.2)) b))]) 1 ((liveN (ps.map (·.2)) b).map encN)) := by
  refine Meets.of_body [0,1,4,5,6,11] Proofs.Try.func4 rfl (by kernel_rfl) rfl fun w => ?_
  have hL := look y z ps b M hy hM hk hz
  unfold liveN
  generalize hc : lookE (ps.map (·.2)) b = c at hL ⊢
  simp only [Proofs.Try.f4, shs, zts, sos, sls, zss, eqs, sx, sb1, sb2, sb3, sb4, sb5, sb6, sb7, ↓reduceIte, Nat.reduceAdd, Nat.reduceMul, Nat.reduceDiv, Nat.reduceEqDiff, Nat.reduceLT, Nat.reduceLeDiff, reduceCtorEq, Int.reduceEq, Int.reduceNe, Int.reduceLT, Int.reduceLE, Int.reduceAdd, Int.reduceSub, Int.reduceMul, Int.reduceNeg, Int.reduceToNat, Int.cast_ofNat_Int, Int.natCast_zero, Int.natCast_one, Int.toNat_natCast, Nat.reduceBEq, nzs]
  refine CallK.pure ⟨rfl, rfl⟩ rfl hL ?_
  by_cases h : c = 0
  · rw [if_pos h]
    subst h
    obtain ⟨h1, h2⟩ := lookE_ok hc
    obtain ⟨h16, hall⟩ := segE_ok h1
    rw [List.length_map] at h16
    have hg : ∀ p ∈ ps, p.2.length ≤ 25 ∧ ∀ r ∈ p.2, r.2.length ≤ 64 := fun p hp => by
      have := hall p.2 (List.mem_map.2 ⟨p, hp, rfl⟩)
      exact ⟨this.1.2, fun r hr => (this.2.1 r hr).2⟩
    simp only [shs, zts, sos, sls, zss, eqs, sx, sb1, sb2, sb3, sb4, sb5, sb6, sb7, ↓reduceIte, Nat.reduceAdd, Nat.reduceMul, Nat.reduceDiv, Nat.reduceEqDiff, Nat.reduceLT, Nat.reduceLeDiff, reduceCtorEq, Int.reduceEq, Int.reduceNe, Int.reduceLT, Int.reduceLE, Int.reduceAdd, Int.reduceSub, Int.reduceMul, Int.reduceNeg, Int.reduceToNat, Int.cast_ofNat_Int, Int.natCast_zero, Int.natCast_one, Int.toNat_natCast, Nat.reduceBEq, nzs]
    refine CallK.res rfl rfl (R := fun r M' => ∃ v, r = .v v ∧ Outs M' v (liveL b (ps.map (·.2)))) (live' y z ps b M hy hM hz h16 fun p hp => (hg p hp).1) (fun r M' ⟨v, h, _⟩ => by subst h; rfl) fun r M1 hM1 ⟨v, hr, hv⟩ => ?_
    subst hr
    simp only [shs, zts, sos, sls, zss, eqs, sx, sb1, sb2, sb3, sb4, sb5, sb6, sb7, ↓reduceIte, Nat.reduceAdd, Nat.reduceMul, Nat.reduceDiv, Nat.reduceEqDiff, Nat.reduceLT, Nat.reduceLeDiff, reduceCtorEq, Int.reduceEq, Int.reduceNe, Int.reduceLT, Int.reduceLE, Int.reduceAdd, Int.reduceSub, Int.reduceMul, Int.reduceNeg, Int.reduceToNat, Int.cast_ofNat_Int, Int.natCast_zero, Int.natCast_one, Int.toNat_natCast, Nat.reduceBEq, nzs]
    obtain ⟨k1, k2⟩ := live_match b ps
    have hU := used y v ps _ M1 (hy.le hM1) (hM.le hM1) hv h16 hg k1 k2
    rw [used_alive] at hU
    refine CallK.row Ctx.id rfl rfl (hU.mono fun s H M' _ ⟨k, e, hk⟩ => ⟨.own k, e, hk⟩) fun u M2 hM2 hu => ?_
    simp only [shs, zts, sos, sls, zss, eqs, sx, sb1, sb2, sb3, sb4, sb5, sb6, sb7, ↓reduceIte, Nat.reduceAdd, Nat.reduceMul, Nat.reduceDiv, Nat.reduceEqDiff, Nat.reduceLT, Nat.reduceLeDiff, reduceCtorEq, Int.reduceEq, Int.reduceNe, Int.reduceLT, Int.reduceLE, Int.reduceAdd, Int.reduceSub, Int.reduceMul, Int.reduceNeg, Int.reduceToNat, Int.cast_ofNat_Int, Int.natCast_zero, Int.natCast_one, Int.toNat_natCast, Nat.reduceBEq, nzs]
    exact ⟨_, rfl, hu⟩
  · rw [if_neg h]
    have d1 := eq_false h
    simp only [shs, zts, sos, sls, zss, eqs, sx, sb1, sb2, sb3, sb4, sb5, sb6, sb7, ↓reduceIte, Nat.reduceAdd, Nat.reduceMul, Nat.reduceDiv, Nat.reduceEqDiff, Nat.reduceLT, Nat.reduceLeDiff, reduceCtorEq, Int.reduceEq, Int.reduceNe, Int.reduceLT, Int.reduceLE, Int.reduceAdd, Int.reduceSub, Int.reduceMul, Int.reduceNeg, Int.reduceToNat, Int.cast_ofNat_Int, Int.natCast_zero, Int.natCast_one, Int.toNat_natCast, Nat.reduceBEq, nzs, d1]
    exact ⟨_, rfl, RowM.nil _ _⟩

/-! ### the least and its place -/
theorem min_ (y : Value) (l : List Nat) (M : Mem) (hy : RowM M y 1 (l.map encN)) (h0 : l ≠ []) (hl : ∀ x ∈ l, x ≤ 1000000) :
    Meets Proofs.Try.prog 18 [.v y] M fun r _ _ => ∃ m : Nat, r = .v (.int .i64 (m : Int)) ∧ m ∈ l ∧ ∀ x ∈ l, m ≤ x := by
  refine Meets.of_body [0,2,3,4,7,15] Proofs.Try.func18 rfl (by kernel_rfl) rfl fun w => ?_
  have hyl := hy.len_le
  rw [List.length_map] at hyl
  have hpos : 0 < l.length := List.length_pos_iff.2 h0
  have c0 : ((l.length : Int) < 1) = False := eq_false (by omega)
  obtain ⟨a, ha, hd0⟩ := l_drop_at (l := l) (i := 0) hpos
  have g0 := hy.el1 ha rfl
  have i0 := hy.ix (i := 0) (by omega) (by rw [List.length_map]; omega)
  simp only [Proofs.Try.f18, shs, zts, sos, sls, zss, eqs, sx, sb1, sb2, sb3, sb4, sb5, sb6, sb7, ↓reduceIte, Nat.reduceAdd, Nat.reduceMul, Nat.reduceDiv, Nat.reduceEqDiff, Nat.reduceLT, Nat.reduceLeDiff, reduceCtorEq, Int.reduceEq, Int.reduceNe, Int.reduceLT, Int.reduceLE, Int.reduceAdd, Int.reduceSub, Int.reduceMul, Int.reduceNeg, Int.reduceToNat, Int.cast_ofNat_Int, Int.natCast_zero, Int.natCast_one, Int.toNat_natCast, Nat.reduceBEq, nzs, hy.len, hy.sl, List.length_map, c0, i0, g0.1, g0.2]
  refine LoopK.go (X := Nat × Nat) (fun x => ([(0, true, .v y), (3, true, .v (.int .i64 (x.2 : Int))), (4, true, .v (.int .i64 (x.1 : Int)))], [], M))
    (fun x => (1 ≤ x.1 ∧ x.1 ≤ l.length) ∧ x.2 ∈ l.take x.1 ∧ ∀ z ∈ l.take x.1, x.2 ≤ z) (fun x => l.length - x.1) (1, a) ⟨⟨Nat.le_refl _, hpos⟩, ?_⟩ (Ent.of ?_) ?_
  · rw [List.drop_zero] at hd0
    rw [hd0]
    simp
  · simp only [sx, sb1, sb2, sb3, sb4, sb5, sb6, sb7, ↓reduceIte, Nat.reduceAdd, Nat.reduceMul, Nat.reduceDiv, Nat.reduceEqDiff, Nat.reduceLT, Nat.reduceLeDiff, reduceCtorEq, Int.reduceEq, Int.reduceNe, Int.reduceLT, Int.reduceLE, Int.reduceAdd, Int.reduceSub, Int.reduceMul, Int.reduceNeg, Int.reduceToNat, Int.cast_ofNat_Int, Int.natCast_zero, Int.natCast_one, Int.toNat_natCast, Nat.reduceBEq, Int.natCast_one]
  rintro ⟨i, m⟩ ⟨⟨h1, h2⟩, h3, h4⟩
  simp only at h1 h2 h3 h4
  by_cases hil : i < l.length
  · have c1 : ((i : Int) < (l.length : Int)) = True := eq_true (by omega)
    obtain ⟨x, hx, hd⟩ := l_drop_at (l := l) (i := i) hil
    have g := hy.el1 hx rfl
    have ix := hy.ix (i := (i : Int)) (by omega) (by rw [List.length_map]; omega)
    simp only [shs, zts, sos, sls, zss, eqs, sx, sb1, sb2, sb3, sb4, sb5, sb6, sb7, ↓reduceIte, Nat.reduceAdd, Nat.reduceMul, Nat.reduceDiv, Nat.reduceEqDiff, Nat.reduceLT, Nat.reduceLeDiff, reduceCtorEq, Int.reduceEq, Int.reduceNe, Int.reduceLT, Int.reduceLE, Int.reduceAdd, Int.reduceSub, Int.reduceMul, Int.reduceNeg, Int.reduceToNat, Int.cast_ofNat_Int, Int.natCast_zero, Int.natCast_one, Int.toNat_natCast, Nat.reduceBEq, nzs, hy.len, hy.sl, List.length_map, c1, ix, ix.2, g.1, g.2, inK, lo, hi]
    have em : min (m : Int) (x : Int) = ((min m x : Nat) : Int) := by omega
    rw [em]
    refine ⟨⟨by omega, by omega⟩, (i + 1, min m x), ⟨⟨⟨by simp only; omega, by simp only; omega⟩, ?_, fun z hz => ?_⟩, by simp only; omega⟩, Ent.of ?_⟩
    · simp only
      rw [List.take_add_one, hx, Option.toList, List.mem_append, List.mem_singleton]
      by_cases hmx : m ≤ x
      · exact .inl (by rw [Nat.min_eq_left hmx]; exact h3)
      · exact .inr (Nat.min_eq_right (by omega))
    · simp only at hz ⊢
      rw [List.take_add_one, hx, Option.toList, List.mem_append, List.mem_singleton] at hz
      rcases hz with hz | hz
      · have := h4 z hz; omega
      · omega
    · simp only [sx, sb1, sb2, sb3, sb4, sb5, sb6, sb7, ↓reduceIte, Nat.reduceAdd, Nat.reduceMul, Nat.reduceDiv, Nat.reduceEqDiff, Nat.reduceLT, Nat.reduceLeDiff, reduceCtorEq, Int.reduceEq, Int.reduceNe, Int.reduceLT, Int.reduceLE, Int.reduceAdd, Int.reduceSub, Int.reduceMul, Int.reduceNeg, Int.reduceToNat, Int.cast_ofNat_Int, Int.natCast_zero, Int.natCast_one, Int.toNat_natCast, Nat.reduceBEq, Int.natCast_add, Int.natCast_one]
  have c1 : ((i : Int) < (l.length : Int)) = False := eq_false (by omega)
  rw [List.take_of_length_le (by omega)] at h3 h4
  simp only [shs, zts, sos, sls, zss, eqs, sx, sb1, sb2, sb3, sb4, sb5, sb6, sb7, ↓reduceIte, Nat.reduceAdd, Nat.reduceMul, Nat.reduceDiv, Nat.reduceEqDiff, Nat.reduceLT, Nat.reduceLeDiff, reduceCtorEq, Int.reduceEq, Int.reduceNe, Int.reduceLT, Int.reduceLE, Int.reduceAdd, Int.reduceSub, Int.reduceMul, Int.reduceNeg, Int.reduceToNat, Int.cast_ofNat_Int, Int.natCast_zero, Int.natCast_one, Int.toNat_natCast, Nat.reduceBEq, nzs, hy.len, hy.sl, List.length_map, c1]
  exact ⟨m, rfl, h3, h4⟩
theorem index_ (y : Value) (l : List Nat) (m : Nat) (M : Mem) (hy : RowM M y 1 (l.map encN)) :
    Meets Proofs.Try.prog 17 [.v y, .v (.int .i64 (m : Int))] M fun r _ _ => r = .v (.int .i64 (fidx (fun x => decide (x = m)) l 0)) := by
  refine Meets.of_body [0,1,4,5,7,8,9,16] Proofs.Try.func17 rfl (by kernel_rfl) rfl fun w => ?_
  generalize hc : fidx (fun x => decide (x = m)) l 0 = c
  have hyl := hy.len_le
  rw [List.length_map] at hyl
  simp only [Proofs.Try.f17, shs, zts, sos, sls, zss, eqs, sx, sb1, sb2, sb3, sb4, sb5, sb6, sb7, ↓reduceIte, Nat.reduceAdd, Nat.reduceMul, Nat.reduceDiv, Nat.reduceEqDiff, Nat.reduceLT, Nat.reduceLeDiff, reduceCtorEq, Int.reduceEq, Int.reduceNe, Int.reduceLT, Int.reduceLE, Int.reduceAdd, Int.reduceSub, Int.reduceMul, Int.reduceNeg, Int.reduceToNat, Int.cast_ofNat_Int, Int.natCast_zero, Int.natCast_one, Int.toNat_natCast, Nat.reduceBEq, nzs, hy.len, hy.sl, List.length_map]
  refine LoopK.go (X := Nat × Nat) (fun x => ([(0, true, .v y), (1, true, .v (.int .i64 (m : Int))), (7, true, .v (.int .i64 l.length)), (8, true, .v (.int .i64 x.2))], [], M))
    (fun x => x.1 + x.2 = l.length ∧ fidx (fun x => decide (x = m)) (l.drop x.2) x.2 = c) (fun x => x.1) (l.length, 0) ⟨rfl, hc⟩ (Ent.of ?_) ?_
  · simp only [sx, sb1, sb2, sb3, sb4, sb5, sb6, sb7, ↓reduceIte, Nat.reduceAdd, Nat.reduceMul, Nat.reduceDiv, Nat.reduceEqDiff, Nat.reduceLT, Nat.reduceLeDiff, reduceCtorEq, Int.reduceEq, Int.reduceNe, Int.reduceLT, Int.reduceLE, Int.reduceAdd, Int.reduceSub, Int.reduceMul, Int.reduceNeg, Int.reduceToNat, Int.cast_ofNat_Int, Int.natCast_zero, Int.natCast_one, Int.toNat_natCast, Nat.reduceBEq, Int.natCast_zero]
  rintro ⟨f, i⟩ ⟨h1, h2⟩
  simp only at h1 h2
  by_cases hil : i < l.length
  · have c1 : ((i : Int) < (l.length : Int)) = True := eq_true (by omega)
    obtain ⟨x, hx, hd⟩ := l_drop_at (l := l) (i := i) hil
    have g := hy.el1 hx rfl
    have ix := hy.ix (i := (i : Int)) (by omega) (by rw [List.length_map]; omega)
    rw [hd] at h2
    simp only [fidx, decide_eq_true_eq] at h2
    by_cases hxm : x = m
    · have c2 : ((m : Int) = (x : Int)) = True := eq_true (by omega)
      rw [if_pos hxm] at h2
      subst h2
      simp only [shs, zts, sos, sls, zss, eqs, sx, sb1, sb2, sb3, sb4, sb5, sb6, sb7, ↓reduceIte, Nat.reduceAdd, Nat.reduceMul, Nat.reduceDiv, Nat.reduceEqDiff, Nat.reduceLT, Nat.reduceLeDiff, reduceCtorEq, Int.reduceEq, Int.reduceNe, Int.reduceLT, Int.reduceLE, Int.reduceAdd, Int.reduceSub, Int.reduceMul, Int.reduceNeg, Int.reduceToNat, Int.cast_ofNat_Int, Int.natCast_zero, Int.natCast_one, Int.toNat_natCast, Nat.reduceBEq, nzs, c1, c2, ix, ix.2, g.1, g.2]
    · have c2 : ((m : Int) = (x : Int)) = False := eq_false (by omega)
      rw [if_neg hxm] at h2
      simp only [shs, zts, sos, sls, zss, eqs, sx, sb1, sb2, sb3, sb4, sb5, sb6, sb7, ↓reduceIte, Nat.reduceAdd, Nat.reduceMul, Nat.reduceDiv, Nat.reduceEqDiff, Nat.reduceLT, Nat.reduceLeDiff, reduceCtorEq, Int.reduceEq, Int.reduceNe, Int.reduceLT, Int.reduceLE, Int.reduceAdd, Int.reduceSub, Int.reduceMul, Int.reduceNeg, Int.reduceToNat, Int.cast_ofNat_Int, Int.natCast_zero, Int.natCast_one, Int.toNat_natCast, Nat.reduceBEq, nzs, c1, c2, ix, ix.2, g.1, g.2, inK, lo, hi]
      refine ⟨⟨by omega, by omega⟩, (f - 1, i + 1), ⟨⟨by simp only; omega, h2⟩, by simp only; omega⟩, Ent.of ?_⟩
      simp only [sx, sb1, sb2, sb3, sb4, sb5, sb6, sb7, ↓reduceIte, Nat.reduceAdd, Nat.reduceMul, Nat.reduceDiv, Nat.reduceEqDiff, Nat.reduceLT, Nat.reduceLeDiff, reduceCtorEq, Int.reduceEq, Int.reduceNe, Int.reduceLT, Int.reduceLE, Int.reduceAdd, Int.reduceSub, Int.reduceMul, Int.reduceNeg, Int.reduceToNat, Int.cast_ofNat_Int, Int.natCast_zero, Int.natCast_one, Int.toNat_natCast, Nat.reduceBEq, Int.natCast_add]
  have c1 : ((i : Int) < (l.length : Int)) = False := eq_false (by omega)
  rw [List.drop_eq_nil_of_le (by omega)] at h2
  simp only [fidx] at h2
  subst h2
  simp only [shs, zts, sos, sls, zss, eqs, sx, sb1, sb2, sb3, sb4, sb5, sb6, sb7, ↓reduceIte, Nat.reduceAdd, Nat.reduceMul, Nat.reduceDiv, Nat.reduceEqDiff, Nat.reduceLT, Nat.reduceLeDiff, reduceCtorEq, Int.reduceEq, Int.reduceNe, Int.reduceLT, Int.reduceLE, Int.reduceAdd, Int.reduceSub, Int.reduceMul, Int.reduceNeg, Int.reduceToNat, Int.cast_ofNat_Int, Int.natCast_zero, Int.natCast_one, Int.toNat_natCast, Nat.reduceBEq, nzs, c1]
/-! ### put, into a row of none -/
theorem put_zero (r : Rc) (M : Mem) (hr : r.2.length ≤ 64) :
    MeetsH Proofs.Try.prog 20 [.own 8000, recV r] (enumK 8000 [.row 1 []]) M (OwnN putT putP (fun y M' => y.1 = [] ∧ y.2 = [r])) := by
  refine MeetsH.of_body [0,1,3,4,5,6,22,38] Proofs.Try.func20 rfl (by kernel_rfl) fun w M0 => ?_
  have c0 : (0 < ((0 : Nat) : Int)) = False := eq_false (by omega)
  have c4 : (((0 : Nat) : Int) = 16) = False := eq_false (by omega)
  simp only [Proofs.Try.f20, recV, shA1, shs, zts, sos, sls, zss, eqs, sx, sb1, sb2, sb3, sb4, sb5, sb6, sb7, ↓reduceIte, Nat.reduceAdd, Nat.reduceMul, Nat.reduceDiv, Nat.reduceEqDiff, Nat.reduceLT, Nat.reduceLeDiff, reduceCtorEq, Int.reduceEq, Int.reduceNe, Int.reduceLT, Int.reduceLE, Int.reduceAdd, Int.reduceSub, Int.reduceMul, Int.reduceNeg, Int.reduceToNat, Int.cast_ofNat_Int, Int.natCast_zero, Int.natCast_one, Int.toNat_natCast, Nat.reduceBEq, nzs, st1, List.length_nil]
  refine DrawK.held [24] (tk [0, 1, 2, 3, 4, 5, 9] (ones' [6, 7, 8, 10] (tk [11, 12, 13] .done))) (by kernel_rfl) (by kernel_rfl) fun xs => ?_
  simp only [shs, zts, sos, sls, zss, eqs, sx, sb1, sb2, sb3, sb4, sb5, sb6, sb7, ↓reduceIte, Nat.reduceAdd, Nat.reduceMul, Nat.reduceDiv, Nat.reduceEqDiff, Nat.reduceLT, Nat.reduceLeDiff, reduceCtorEq, Int.reduceEq, Int.reduceNe, Int.reduceLT, Int.reduceLE, Int.reduceAdd, Int.reduceSub, Int.reduceMul, Int.reduceNeg, Int.reduceToNat, Int.cast_ofNat_Int, Int.natCast_zero, Int.natCast_one, Int.toNat_natCast, Nat.reduceBEq, nzs, se1, se2, tks, st1, List.length_nil, c0, c4]
  refine OpK.bsTab rfl rfl sl22 rfl rfl ⟨⟨⟨rfl, rfl⟩, rfl, rfl⟩, trivial⟩ (by simp only [shs, zts, sos, sls, zss, eqs, sx, sb1, sb2, sb3, sb4, sb5, sb6, sb7, ↓reduceIte, Nat.reduceAdd, Nat.reduceMul, Nat.reduceDiv, Nat.reduceEqDiff, Nat.reduceLT, Nat.reduceLeDiff, reduceCtorEq, Int.reduceEq, Int.reduceNe, Int.reduceLT, Int.reduceLE, Int.reduceAdd, Int.reduceSub, Int.reduceMul, Int.reduceNeg, Int.reduceToNat, Int.cast_ofNat_Int, Int.natCast_zero, Int.natCast_one, Int.toNat_natCast, Nat.reduceBEq, nzs, st1]) ?_
  simp only [shs, zts, sos, sls, zss, eqs, sx, sb1, sb2, sb3, sb4, sb5, sb6, sb7, ↓reduceIte, Nat.reduceAdd, Nat.reduceMul, Nat.reduceDiv, Nat.reduceEqDiff, Nat.reduceLT, Nat.reduceLeDiff, reduceCtorEq, Int.reduceEq, Int.reduceNe, Int.reduceLT, Int.reduceLE, Int.reduceAdd, Int.reduceSub, Int.reduceMul, Int.reduceNeg, Int.reduceToNat, Int.cast_ofNat_Int, Int.natCast_zero, Int.natCast_one, Int.toNat_natCast, Nat.reduceBEq, nzs, st1]
  refine OpK.appTab (es := vv []) (es' := [[.own 328]]) rfl rfl sl22 sh22 rfl rfl rfl rfl rfl (by decide) (by decide) (by simp only [shs, zts, sos, sls, zss, eqs, sx, sb1, sb2, sb3, sb4, sb5, sb6, sb7, ↓reduceIte, Nat.reduceAdd, Nat.reduceMul, Nat.reduceDiv, Nat.reduceEqDiff, Nat.reduceLT, Nat.reduceLeDiff, reduceCtorEq, Int.reduceEq, Int.reduceNe, Int.reduceLT, Int.reduceLE, Int.reduceAdd, Int.reduceSub, Int.reduceMul, Int.reduceNeg, Int.reduceToNat, Int.cast_ofNat_Int, Int.natCast_zero, Int.natCast_one, Int.toNat_natCast, Nat.reduceBEq, nzs, st1]) ?_
  simp only [shs, zts, sos, sls, zss, eqs, sx, sb1, sb2, sb3, sb4, sb5, sb6, sb7, ↓reduceIte, Nat.reduceAdd, Nat.reduceMul, Nat.reduceDiv, Nat.reduceEqDiff, Nat.reduceLT, Nat.reduceLeDiff, reduceCtorEq, Int.reduceEq, Int.reduceNe, Int.reduceLT, Int.reduceLE, Int.reduceAdd, Int.reduceSub, Int.reduceMul, Int.reduceNeg, Int.reduceToNat, Int.cast_ofNat_Int, Int.natCast_zero, Int.natCast_one, Int.toNat_natCast, Nat.reduceBEq, nzs, st1]
  exact ⟨([], [r]), [344, 328], rfl, ⟨by decide, by decide⟩, ⟨rfl, rfl, trivial⟩, rfl, rfl⟩
theorem growS (n : Nat) (M : Mem) (hn : n ≤ 1000000) : Meets Proofs.Try.prog 30 [.v (.slice none 0 0), .v (.int .i64 n)] M (OwnR (fun s => s) 1 []) := by
  refine Meets.ofH rfl (MeetsH.closeR Ctx.id (fun e he => by cases he) ?_)
  refine MeetsH.of_body [0,1,4,6,16] Proofs.Try.func30 rfl (by kernel_rfl) fun w M0 => ?_
  have c0 : ((n : Int) < 0) = False := eq_false (by omega)
  simp only [Proofs.Try.f30, shs, zts, sos, sls, zss, eqs, sx, sb1, sb2, sb3, sb4, sb5, sb6, sb7, ↓reduceIte, Nat.reduceAdd, Nat.reduceMul, Nat.reduceDiv, Nat.reduceEqDiff, Nat.reduceLT, Nat.reduceLeDiff, reduceCtorEq, Int.reduceEq, Int.reduceNe, Int.reduceLT, Int.reduceLE, Int.reduceAdd, Int.reduceSub, Int.reduceMul, Int.reduceNeg, Int.reduceToNat, Int.cast_ofNat_Int, Int.natCast_zero, Int.natCast_one, Int.toNat_natCast, Nat.reduceBEq, c0]
  refine ⟨rfl, OpK.cap (e := 33) rfl rfl rfl (by kernel_rfl) rfl rfl ?_⟩
  by_cases h0 : n = 0
  · subst h0
    simp only [shs, zts, sos, sls, zss, eqs, sx, sb1, sb2, sb3, sb4, sb5, sb6, sb7, ↓reduceIte, Nat.reduceAdd, Nat.reduceMul, Nat.reduceDiv, Nat.reduceEqDiff, Nat.reduceLT, Nat.reduceLeDiff, reduceCtorEq, Int.reduceEq, Int.reduceNe, Int.reduceLT, Int.reduceLE, Int.reduceAdd, Int.reduceSub, Int.reduceMul, Int.reduceNeg, Int.reduceToNat, Int.cast_ofNat_Int, Int.natCast_zero, Int.natCast_one, Int.toNat_natCast, Nat.reduceBEq, capV, lenV, inK, lo, hi, Int.sub_zero]
    exact .inr trivial
  · have c1 : (0 < (n : Int)) = True := eq_true (by omega)
    simp only [shs, zts, sos, sls, zss, eqs, sx, sb1, sb2, sb3, sb4, sb5, sb6, sb7, ↓reduceIte, Nat.reduceAdd, Nat.reduceMul, Nat.reduceDiv, Nat.reduceEqDiff, Nat.reduceLT, Nat.reduceLeDiff, reduceCtorEq, Int.reduceEq, Int.reduceNe, Int.reduceLT, Int.reduceLE, Int.reduceAdd, Int.reduceSub, Int.reduceMul, Int.reduceNeg, Int.reduceToNat, Int.cast_ofNat_Int, Int.natCast_zero, Int.natCast_one, Int.toNat_natCast, Nat.reduceBEq, capV, lenV, c1, inK, lo, hi, Int.sub_zero]
    refine ⟨by omega, ⟨rfl, OpK.cap (e := 33) rfl rfl rfl (by kernel_rfl) rfl rfl ?_⟩⟩
    simp only [shs, zts, sos, sls, zss, eqs, sx, sb1, sb2, sb3, sb4, sb5, sb6, sb7, ↓reduceIte, Nat.reduceAdd, Nat.reduceMul, Nat.reduceDiv, Nat.reduceEqDiff, Nat.reduceLT, Nat.reduceLeDiff, reduceCtorEq, Int.reduceEq, Int.reduceNe, Int.reduceLT, Int.reduceLE, Int.reduceAdd, Int.reduceSub, Int.reduceMul, Int.reduceNeg, Int.reduceToNat, Int.cast_ofNat_Int, Int.natCast_zero, Int.natCast_one, Int.toNat_natCast, Nat.reduceBEq, capV, lenV, c1, inK, lo, hi, Int.sub_zero]
    refine OpK.appMake (base := none) (n := 0) (m := n) (c := 0) (olds := []) rfl rfl rfl sl22 (kn := .i64) (by kernel_rfl) rfl rfl (.inl ⟨rfl, rfl, rfl⟩) (by omega) (by decide) rfl (by omega) (by omega) rfl fun b cap sp h1 h2 h3 => ?_
    simp only [shs, zts, sos, sls, zss, eqs, sx, sb1, sb2, sb3, sb4, sb5, sb6, sb7, ↓reduceIte, Nat.reduceAdd, Nat.reduceMul, Nat.reduceDiv, Nat.reduceEqDiff, Nat.reduceLT, Nat.reduceLeDiff, reduceCtorEq, Int.reduceEq, Int.reduceNe, Int.reduceLT, Int.reduceLE, Int.reduceAdd, Int.reduceSub, Int.reduceMul, Int.reduceNeg, Int.reduceToNat, Int.cast_ofNat_Int, Int.natCast_zero, Int.natCast_one, Int.toNat_natCast, Nat.reduceBEq, capV, lenV, c1, inK, lo, hi, Int.sub_zero]
    rw [subV_open]
    refine ⟨by omega, .inl ⟨b, 176, cap, _, by simp, by simp only [List.flatten_nil, List.nil_append]; rfl, by simp, h2, by simp [h3]; omega⟩⟩

theorem concatS {α : Type} (enc : α → List Value) (tv : Value) (rs : List (Value × List α)) (M : Mem) (ht : RowM M tv 1 (rs.map fun r => [r.1])) (hr : ∀ r ∈ rs, RowM M r.1 1 (r.2.map enc)) (hb : (rs.flatMap (·.2)).length ≤ 1000000) :
    Meets Proofs.Try.prog 13 [.v tv] M (OwnR (fun s => s) 1 ((rs.flatMap (·.2)).map enc)) := by
  refine Meets.of_body [0,2,3,5,6,8,9,10,11,12,20,25,26,27,28] Proofs.Try.func13 rfl (by kernel_rfl) rfl fun w => ?_
  have hle := ht.len_le
  rw [List.length_map] at hle
  have hsp : ∀ i, ((rs.take i).flatMap (·.2)).length + ((rs.drop i).flatMap (·.2)).length = (rs.flatMap (·.2)).length := fun i => by
    rw [← List.length_append, ← List.flatMap_append, List.take_append_drop]
  simp only [Proofs.Try.f13, shs, zts, sos, sls, zss, eqs, sx, sb1, sb2, sb3, sb4, sb5, sb6, sb7, ↓reduceIte, Nat.reduceAdd, Nat.reduceMul, Nat.reduceDiv, Nat.reduceEqDiff, Nat.reduceLT, Nat.reduceLeDiff, reduceCtorEq, Int.reduceEq, Int.reduceNe, Int.reduceLT, Int.reduceLE, Int.reduceAdd, Int.reduceSub, Int.reduceMul, Int.reduceNeg, Int.reduceToNat, Int.cast_ofNat_Int, Int.natCast_zero, Int.natCast_one, Int.toNat_natCast, Nat.reduceBEq, ht.len, ht.sl, List.length_map]
  refine LoopK.go (X := Nat × Nat) (fun x => ([(0, true, .v tv), (3, true, .v (.int .i64 ((rs.take x.2).flatMap (·.2)).length)), (9, true, .v tv), (10, true, .v (.int .i64 rs.length)), (11, true, .v (.int .i64 x.2))], [], M))
    (fun x => x.1 + x.2 = rs.length) (fun x => x.1) (rs.length, 0) rfl (Ent.of ?_) ?_
  · simp only [sx, sb1, sb2, sb3, sb4, sb5, sb6, sb7, ↓reduceIte, Nat.reduceAdd, Nat.reduceMul, Nat.reduceDiv, Nat.reduceEqDiff, Nat.reduceLT, Nat.reduceLeDiff, reduceCtorEq, Int.reduceEq, Int.reduceNe, Int.reduceLT, Int.reduceLE, Int.reduceAdd, Int.reduceSub, Int.reduceMul, Int.reduceNeg, Int.reduceToNat, Int.cast_ofNat_Int, Int.natCast_zero, Int.natCast_one, Int.toNat_natCast, Nat.reduceBEq, List.take_zero, List.flatMap_nil, List.length_nil]
  rintro ⟨f, i⟩ h1
  simp only at h1
  by_cases hil : i < rs.length
  · have c1 : ((i : Int) < (rs.length : Int)) = True := eq_true (by omega)
    obtain ⟨⟨v, l⟩, hx, hd⟩ := l_drop_at (l := rs) (i := i) hil
    have g0 := ht.cell (i := i) (e := [v]) (by rw [List.getElem?_map, hx]; rfl) (off := 0) (by omega)
    have i0 := ht.ix (i := (i : Int)) (by omega) (by rw [List.length_map]; omega)
    have hv := hr _ (List.mem_of_getElem? hx)
    simp only [List.getD_cons_zero] at g0 hv
    have hs1 := hsp (i + 1)
    have e1 : (rs.take (i + 1)).flatMap (·.2) = (rs.take i).flatMap (·.2) ++ l := by rw [List.take_add_one, hx, List.flatMap_append]; simp
    rw [e1, List.length_append] at hs1
    have c2 : ((((rs.take i).flatMap (·.2)).length : Int) + (l.length : Int) < 0) = False := eq_false (by omega)
    simp only [shs, zts, sos, sls, zss, eqs, sx, sb1, sb2, sb3, sb4, sb5, sb6, sb7, ↓reduceIte, Nat.reduceAdd, Nat.reduceMul, Nat.reduceDiv, Nat.reduceEqDiff, Nat.reduceLT, Nat.reduceLeDiff, reduceCtorEq, Int.reduceEq, Int.reduceNe, Int.reduceLT, Int.reduceLE, Int.reduceAdd, Int.reduceSub, Int.reduceMul, Int.reduceNeg, Int.reduceToNat, Int.cast_ofNat_Int, Int.natCast_zero, Int.natCast_one, Int.toNat_natCast, Nat.reduceBEq, nzs, c1, c2, i0, i0.2, g0.1, g0.2.1, hv.len, hv.sl, List.length_map, inK, lo, hi]
    refine ⟨by omega, by omega, (f - 1, i + 1), ⟨by simp only; omega, by simp only; omega⟩, Ent.of ?_⟩
    simp only [sx, sb1, sb2, sb3, sb4, sb5, sb6, sb7, ↓reduceIte, Nat.reduceAdd, Nat.reduceMul, Nat.reduceDiv, Nat.reduceEqDiff, Nat.reduceLT, Nat.reduceLeDiff, reduceCtorEq, Int.reduceEq, Int.reduceNe, Int.reduceLT, Int.reduceLE, Int.reduceAdd, Int.reduceSub, Int.reduceMul, Int.reduceNeg, Int.reduceToNat, Int.cast_ofNat_Int, Int.natCast_zero, Int.natCast_one, Int.toNat_natCast, Nat.reduceBEq, e1, List.length_append, Int.natCast_add]
  have c1 : ((i : Int) < (rs.length : Int)) = False := eq_false (by omega)
  have e0 : rs.take i = rs := List.take_of_length_le (by omega)
  simp only [shs, zts, sos, sls, zss, eqs, sx, sb1, sb2, sb3, sb4, sb5, sb6, sb7, ↓reduceIte, Nat.reduceAdd, Nat.reduceMul, Nat.reduceDiv, Nat.reduceEqDiff, Nat.reduceLT, Nat.reduceLeDiff, reduceCtorEq, Int.reduceEq, Int.reduceNe, Int.reduceLT, Int.reduceLE, Int.reduceAdd, Int.reduceSub, Int.reduceMul, Int.reduceNeg, Int.reduceToNat, Int.cast_ofNat_Int, Int.natCast_zero, Int.natCast_one, Int.toNat_natCast, Nat.reduceBEq, nzs, c1, e0]
  refine CallK.own Ctx.id rfl rfl (growS _ M hb) rfl fun M2 hM2 => ?_
  have ht2 := ht.le hM2
  simp only [shs, zts, sos, sls, zss, eqs, sx, sb1, sb2, sb3, sb4, sb5, sb6, sb7, ↓reduceIte, Nat.reduceAdd, Nat.reduceMul, Nat.reduceDiv, Nat.reduceEqDiff, Nat.reduceLT, Nat.reduceLeDiff, reduceCtorEq, Int.reduceEq, Int.reduceNe, Int.reduceLT, Int.reduceLE, Int.reduceAdd, Int.reduceSub, Int.reduceMul, Int.reduceNeg, Int.reduceToNat, Int.cast_ofNat_Int, Int.natCast_zero, Int.natCast_one, Int.toNat_natCast, Nat.reduceBEq, nzs, ht.len, ht.sl, List.length_map]
  refine LoopK.go (X := Nat × Nat) (fun x => ([(6, true, .own 264), (25, true, .v tv), (26, true, .v (.int .i64 rs.length)), (27, true, .v (.int .i64 x.2))], [(264, .row 1 (((rs.take x.2).flatMap (·.2)).map enc))], M2))
    (fun x => x.1 + x.2 = rs.length) (fun x => x.1) (rs.length, 0) rfl (Ent.rekey 6 33 192 1 _ rfl rfl rfl rfl (Ent.of ?_)) ?_
  · simp only [sx, sb1, sb2, sb3, sb4, sb5, sb6, sb7, ↓reduceIte, Nat.reduceAdd, Nat.reduceMul, Nat.reduceDiv, Nat.reduceEqDiff, Nat.reduceLT, Nat.reduceLeDiff, reduceCtorEq, Int.reduceEq, Int.reduceNe, Int.reduceLT, Int.reduceLE, Int.reduceAdd, Int.reduceSub, Int.reduceMul, Int.reduceNeg, Int.reduceToNat, Int.cast_ofNat_Int, Int.natCast_zero, Int.natCast_one, Int.toNat_natCast, Nat.reduceBEq, List.take_zero, List.flatMap_nil, List.map_nil]
  rintro ⟨f, i⟩ h1
  simp only at h1
  by_cases hil : i < rs.length
  · have c1 : ((i : Int) < (rs.length : Int)) = True := eq_true (by omega)
    obtain ⟨⟨v, l⟩, hx, hd⟩ := l_drop_at (l := rs) (i := i) hil
    have g0 := ht2.cell (i := i) (e := [v]) (by rw [List.getElem?_map, hx]; rfl) (off := 0) (by omega)
    have i0 := ht2.ix (i := (i : Int)) (by omega) (by rw [List.length_map]; omega)
    have hv := (hr _ (List.mem_of_getElem? hx)).le hM2
    obtain ⟨r1, r2⟩ := hv.rows (by omega)
    simp only [List.getD_cons_zero] at g0 hv r1 r2
    have hs1 := hsp (i + 1)
    have e1 : (rs.take (i + 1)).flatMap (·.2) = (rs.take i).flatMap (·.2) ++ l := by rw [List.take_add_one, hx, List.flatMap_append]; simp
    rw [e1, List.length_append] at hs1
    simp only [shs, zts, sos, sls, zss, eqs, sx, sb1, sb2, sb3, sb4, sb5, sb6, sb7, ↓reduceIte, Nat.reduceAdd, Nat.reduceMul, Nat.reduceDiv, Nat.reduceEqDiff, Nat.reduceLT, Nat.reduceLeDiff, reduceCtorEq, Int.reduceEq, Int.reduceNe, Int.reduceLT, Int.reduceLE, Int.reduceAdd, Int.reduceSub, Int.reduceMul, Int.reduceNeg, Int.reduceToNat, Int.cast_ofNat_Int, Int.natCast_zero, Int.natCast_one, Int.toNat_natCast, Nat.reduceBEq, nzs, c1, i0, i0.2, g0.1, g0.2.1, hv.len, hv.sl, r1, List.length_map, inK, lo, hi]
    refine ⟨⟨⟨by omega, by omega⟩, r2⟩, by omega, (f - 1, i + 1), ⟨by simp only; omega, by simp only; omega⟩, Ent.of ?_⟩
    simp only [sx, sb1, sb2, sb3, sb4, sb5, sb6, sb7, ↓reduceIte, Nat.reduceAdd, Nat.reduceMul, Nat.reduceDiv, Nat.reduceEqDiff, Nat.reduceLT, Nat.reduceLeDiff, reduceCtorEq, Int.reduceEq, Int.reduceNe, Int.reduceLT, Int.reduceLE, Int.reduceAdd, Int.reduceSub, Int.reduceMul, Int.reduceNeg, Int.reduceToNat, Int.cast_ofNat_Int, Int.natCast_zero, Int.natCast_one, Int.toNat_natCast, Nat.reduceBEq, e1, List.map_append, Int.natCast_add]
  have c1 : ((i : Int) < (rs.length : Int)) = False := eq_false (by omega)
  have e0 : rs.take i = rs := List.take_of_length_le (by omega)
  simp only [shs, zts, sos, sls, zss, eqs, sx, sb1, sb2, sb3, sb4, sb5, sb6, sb7, ↓reduceIte, Nat.reduceAdd, Nat.reduceMul, Nat.reduceDiv, Nat.reduceEqDiff, Nat.reduceLT, Nat.reduceLeDiff, reduceCtorEq, Int.reduceEq, Int.reduceNe, Int.reduceLT, Int.reduceLE, Int.reduceAdd, Int.reduceSub, Int.reduceMul, Int.reduceNeg, Int.reduceToNat, Int.cast_ofNat_Int, Int.natCast_zero, Int.natCast_one, Int.toNat_natCast, Nat.reduceBEq, nzs, c1, e0]
  exact ⟨264, rfl, rfl⟩


/-! ### Clean -/
def cutL (l : List (List Rc)) (i : Nat) : List (List Rc) := l.take i ++ l.drop (i + 1)
def curL : Option PutA → List (List Rc)
  | none => []
  | some x => x.1.map (·.2) ++ [x.2]
def curM (M : Mem) : Option PutA → Prop
  | none => True
  | some x => SegM M x.1
theorem curM.le {M M' : Mem} {c : Option PutA} (h : curM M c) (hl : M.le M') : curM M' c := by
  cases c with
  | none => trivial
  | some x => exact SegM.le h hl
def curH : Option PutA → HS
  | none => [(496, .row 1 [])]
  | some x => [(496, .tab 1 (vv (x.1.map encV) ++ [[.own 497]])), (497, .row 4 (x.2.map encR))]
theorem curH_12 (c : Option PutA) : hdel 12 (curH c) = curH c ∧ hNoKey 12 (curH c) = true := by
  cases c with
  | none => exact ⟨rfl, rfl⟩
  | some x =>
    refine ⟨rfl, ?_⟩
    simp only [curH, shs, zts, sos, sls, zss, eqs, sx, sb1, sb2, sb3, sb4, sb5, sb6, sb7, ↓reduceIte, Nat.reduceAdd, Nat.reduceMul, Nat.reduceDiv, Nat.reduceEqDiff, Nat.reduceLT, Nat.reduceLeDiff, reduceCtorEq, Int.reduceEq, Int.reduceNe, Int.reduceLT, Int.reduceLE, Int.reduceAdd, Int.reduceSub, Int.reduceMul, Int.reduceNeg, Int.reduceToNat, Int.cast_ofNat_Int, Int.natCast_zero, Int.natCast_one, Int.toNat_natCast, Nat.reduceBEq, nzs, st1]
theorem curH_sub (c : Option PutA) : subH (curH c) (curH c) := by
  cases c with
  | none => exact ⟨⟨rfl, rfl⟩, trivial⟩
  | some x => exact ⟨⟨rfl, rfl⟩, ⟨rfl, rfl⟩, trivial⟩
theorem cut_len {l : List (List Rc)} {i : Nat} (h : i < l.length) : (cutL l i).length + 1 = l.length := by
  unfold cutL
  simp only [List.length_append, List.length_take, List.length_drop]
  omega
theorem weakL {E : Env} {live : List Nat} {body : Code} {Q : QP} {σ : Sig} {H : HS} {M : Mem} (σ' : Sig) (H' : HS) (M' : Mem) (he : Ent E σ H M (σ', H', M')) (h : LoopK E live body Q σ' H' M') : LoopK E live body Q σ H M := fun a w hr => h a w (he a w hr)
theorem joinC {P : Prop} (R : Option PutA → Mem → Prop) {G : Option PutA → Mem → Prop} (h : (∀ c M, R c M → G c M) → P) (hJ : ∀ c M, R c M → G c M) : P := h hJ
theorem Clean (y z : Value) (ps : List (Value × List Rc)) (b : List Bg.It) (bst : Nat) (M : Mem) (hy : RowM M y 1 (ps.map encV)) (hM : SegM M ps) (hk : ∀ p ∈ ps, okS p.2) (hz : RowM M z 4 (b.map Bg.encT)) (hE : lookE (ps.map (·.2)) b = 0) (h0 : ps ≠ [])
    (hb : isBest ((aliveL b (ps.map (·.2))).map fullR) bst) :
    Meets Proofs.Try.prog 5 [.v y, .v z] M (fun r _ M' => ∃ u, r = .tup [.v u, .v (.int .i64 0)] ∧ Segs u (((aliveL b (ps.map (·.2)))[bst]?.getD []).foldl standL (cutL (ps.map (·.2)) bst)) M') := by
  have hL := look y z ps b M hy hM hk hz
  rw [hE] at hL
  obtain ⟨e1, e2⟩ := lookE_ok hE
  obtain ⟨h16, hall⟩ := segE_ok e1
  rw [List.length_map] at h16
  have hpos : 0 < ps.length := List.length_pos_iff.2 h0
  have hg : ∀ p ∈ ps, p.2.length ≤ 25 ∧ (∀ r ∈ p.2, r.2.length ≤ 64) ∧ fullR p.2 ≤ 200 := fun p hp => by
    have := hall p.2 (List.mem_map.2 ⟨p, hp, rfl⟩)
    exact ⟨this.1.2, fun r hr => (this.2.1 r hr).2, this.2.2⟩
  have hbl : bst < ps.length := by
    obtain ⟨m, hm, _⟩ := hb
    have := (List.getElem?_eq_some_iff.1 hm).1
    rw [List.length_map, aliveL_len, List.length_map] at this
    exact this
  refine Meets.of_body [0,1,4,5,6,7,8,9,10,11,12,17,21,45,46,47,48,58] Proofs.Try.func5 rfl (by kernel_rfl) rfl fun w => ?_
  have c0 : ((ps.length : Int) = 0) = False := eq_false (by omega)
  simp only [Proofs.Try.f5, shs, zts, sos, sls, zss, eqs, sx, sb1, sb2, sb3, sb4, sb5, sb6, sb7, ↓reduceIte, Nat.reduceAdd, Nat.reduceMul, Nat.reduceDiv, Nat.reduceEqDiff, Nat.reduceLT, Nat.reduceLeDiff, reduceCtorEq, Int.reduceEq, Int.reduceNe, Int.reduceLT, Int.reduceLE, Int.reduceAdd, Int.reduceSub, Int.reduceMul, Int.reduceNeg, Int.reduceToNat, Int.cast_ofNat_Int, Int.natCast_zero, Int.natCast_one, Int.toNat_natCast, Nat.reduceBEq, nzs]
  refine CallK.pure ⟨rfl, rfl⟩ rfl hL ?_
  simp only [shs, zts, sos, sls, zss, eqs, sx, sb1, sb2, sb3, sb4, sb5, sb6, sb7, ↓reduceIte, Nat.reduceAdd, Nat.reduceMul, Nat.reduceDiv, Nat.reduceEqDiff, Nat.reduceLT, Nat.reduceLeDiff, reduceCtorEq, Int.reduceEq, Int.reduceNe, Int.reduceLT, Int.reduceLE, Int.reduceAdd, Int.reduceSub, Int.reduceMul, Int.reduceNeg, Int.reduceToNat, Int.cast_ofNat_Int, Int.natCast_zero, Int.natCast_one, Int.toNat_natCast, Nat.reduceBEq, nzs, hy.len, hy.sl, List.length_map, c0]
  refine CallK.res rfl rfl (R := fun r M' => ∃ v, r = .v v ∧ Outs M' v (liveL b (ps.map (·.2)))) (live' y z ps b M hy hM hz h16 fun p hp => (hg p hp).1) (fun r M' ⟨v, h, _⟩ => by subst h; rfl) fun r M1 hM1 ⟨v, hr, hv⟩ => ?_
  subst hr
  simp only [shs, zts, sos, sls, zss, eqs, sx, sb1, sb2, sb3, sb4, sb5, sb6, sb7, ↓reduceIte, Nat.reduceAdd, Nat.reduceMul, Nat.reduceDiv, Nat.reduceEqDiff, Nat.reduceLT, Nat.reduceLeDiff, reduceCtorEq, Int.reduceEq, Int.reduceNe, Int.reduceLT, Int.reduceLE, Int.reduceAdd, Int.reduceSub, Int.reduceMul, Int.reduceNeg, Int.reduceToNat, Int.cast_ofNat_Int, Int.natCast_zero, Int.natCast_one, Int.toNat_natCast, Nat.reduceBEq, nzs]
  obtain ⟨k1, k2⟩ := live_match b ps
  have hU := used y v ps _ M1 (hy.le hM1) (hM.le hM1) hv h16 (fun p hp => ⟨(hg p hp).1, (hg p hp).2.1⟩) k1 k2
  rw [used_alive] at hU
  generalize hN : (aliveL b (ps.map (·.2))).map fullR = N at hU hb
  refine CallK.row Ctx.id rfl rfl (hU.mono fun s H M' _ ⟨k, e, hk⟩ => ⟨.own k, e, hk⟩) fun u M2 hM2 hu => ?_
  have hNl : N.length = ps.length := by rw [← hN, List.length_map, aliveL_len, List.length_map]
  have hN0 : N ≠ [] := fun e => by rw [e] at hNl; simp at hNl; omega
  have hNb : ∀ x ∈ N, x ≤ 1000000 := fun x hx => by
    rw [← hN] at hx
    obtain ⟨s, hs, rfl⟩ := List.mem_map.1 hx
    obtain ⟨i, hi⟩ := List.getElem?_of_mem hs
    have hil : i < ps.length := by
      have := (List.getElem?_eq_some_iff.1 hi).1
      rw [aliveL_len, List.length_map] at this
      exact this
    obtain ⟨p, hp, _⟩ := l_drop_at (l := ps) (i := i) hil
    rw [aliveL_at b (l := ps.map (·.2)) (s := p.2) (by rw [List.getElem?_map, hp]; rfl), Option.some.injEq] at hi
    have h1 := full_sub (pick_sub p.2 (liveR b p.2 ((ps.map (·.2)).drop (i + 1)).flatten))
    have h2 := (hg p (List.mem_of_getElem? hp)).2.2
    rw [hi] at h1
    omega
  simp only [shs, zts, sos, sls, zss, eqs, sx, sb1, sb2, sb3, sb4, sb5, sb6, sb7, ↓reduceIte, Nat.reduceAdd, Nat.reduceMul, Nat.reduceDiv, Nat.reduceEqDiff, Nat.reduceLT, Nat.reduceLeDiff, reduceCtorEq, Int.reduceEq, Int.reduceNe, Int.reduceLT, Int.reduceLE, Int.reduceAdd, Int.reduceSub, Int.reduceMul, Int.reduceNeg, Int.reduceToNat, Int.cast_ofNat_Int, Int.natCast_zero, Int.natCast_one, Int.toNat_natCast, Nat.reduceBEq, nzs]
  refine CallK.res rfl rfl (R := fun r _ => ∃ m : Nat, r = .v (.int .i64 (m : Int)) ∧ m ∈ N ∧ ∀ x ∈ N, m ≤ x) (min_ u N M2 hu hN0 hNb) (fun r M' ⟨m, h, _⟩ => by subst h; rfl) fun r M3 hM3 ⟨m, hr, hm1, hm2⟩ => ?_
  subst hr
  simp only [shs, zts, sos, sls, zss, eqs, sx, sb1, sb2, sb3, sb4, sb5, sb6, sb7, ↓reduceIte, Nat.reduceAdd, Nat.reduceMul, Nat.reduceDiv, Nat.reduceEqDiff, Nat.reduceLT, Nat.reduceLeDiff, reduceCtorEq, Int.reduceEq, Int.reduceNe, Int.reduceLT, Int.reduceLE, Int.reduceAdd, Int.reduceSub, Int.reduceMul, Int.reduceNeg, Int.reduceToNat, Int.cast_ofNat_Int, Int.natCast_zero, Int.natCast_one, Int.toNat_natCast, Nat.reduceBEq, nzs]
  refine CallK.pure ⟨rfl, rfl⟩ rfl (index_ u N m M3 (hu.le hM3)) ?_
  obtain ⟨b2, hb2, _, hb3⟩ := best_idx hm1 hm2
  have := best_uniq hb hb3
  subst this
  rw [hb2]
  have hle := (hM1.trans hM2).trans hM3
  have hy3 := hy.le hle
  have hcap := hy3.1.2.2.1
  rw [hy3.len, List.length_map] at hcap
  have s1 := hy3.sub (lo := 0) (hi := bst) (by omega) (by rw [List.length_map]; omega)
  have s2 := hy3.sub (lo := bst + 1) (hi := ps.length) (by omega) (by rw [List.length_map]; omega)
  rw [List.drop_zero, Nat.sub_zero, ← List.map_take] at s1
  rw [← List.map_drop, ← List.map_take, List.take_of_length_le (by rw [List.length_drop]; omega)] at s2
  have ei : ((bst : Int) + 1).toNat = bst + 1 := by omega
  simp only [shs, zts, sos, sls, zss, eqs, sx, sb1, sb2, sb3, sb4, sb5, sb6, sb7, ↓reduceIte, Nat.reduceAdd, Nat.reduceMul, Nat.reduceDiv, Nat.reduceEqDiff, Nat.reduceLT, Nat.reduceLeDiff, reduceCtorEq, Int.reduceEq, Int.reduceNe, Int.reduceLT, Int.reduceLE, Int.reduceAdd, Int.reduceSub, Int.reduceMul, Int.reduceNeg, Int.reduceToNat, Int.cast_ofNat_Int, Int.natCast_zero, Int.natCast_one, Int.toNat_natCast, Nat.reduceBEq, nzs]
  refine DrawK.held [] (tk [0, 1, 3, 4, 2, 5, 6] (.one 7 (.one 8 (.one 9 (tk [10] .done))))) (by kernel_rfl) (by kernel_rfl) fun xs => ?_
  simp only [shs, zts, sos, sls, zss, eqs, sx, sb1, sb2, sb3, sb4, sb5, sb6, sb7, ↓reduceIte, Nat.reduceAdd, Nat.reduceMul, Nat.reduceDiv, Nat.reduceEqDiff, Nat.reduceLT, Nat.reduceLeDiff, reduceCtorEq, Int.reduceEq, Int.reduceNe, Int.reduceLT, Int.reduceLE, Int.reduceAdd, Int.reduceSub, Int.reduceMul, Int.reduceNeg, Int.reduceToNat, Int.cast_ofNat_Int, Int.natCast_zero, Int.natCast_one, Int.toNat_natCast, Nat.reduceBEq, nzs, se1, se2, tks, hy3.len, hy3.sl, List.length_map, inK, lo, hi, ei]
  refine ⟨⟨by omega, by omega⟩, ⟨by omega, by omega⟩, ⟨⟨by omega, by omega⟩, by omega⟩, ⟨s1.one, s2.one⟩, CallK.pub (k := 312) rfl fun v6 M6 h6 hv6 => ?_⟩
  simp only [shs, zts, sos, sls, zss, eqs, sx, sb1, sb2, sb3, sb4, sb5, sb6, sb7, ↓reduceIte, Nat.reduceAdd, Nat.reduceMul, Nat.reduceDiv, Nat.reduceEqDiff, Nat.reduceLT, Nat.reduceLeDiff, reduceCtorEq, Int.reduceEq, Int.reduceNe, Int.reduceLT, Int.reduceLE, Int.reduceAdd, Int.reduceSub, Int.reduceMul, Int.reduceNeg, Int.reduceToNat, Int.cast_ofNat_Int, Int.natCast_zero, Int.natCast_one, Int.toNat_natCast, Nat.reduceBEq, sp1, sp2, sp3, nzs]
  refine CallK.own Ctx.id rfl rfl (concatS encV v6 [(subV y 1 0 bst, ps.take bst), (subV y 1 (bst + 1) ps.length, ps.drop (bst + 1))] M6 hv6 (fun r hr => ?_) (by simp; omega)) rfl fun M7 h7 => ?_
  · simp only [List.mem_cons, List.not_mem_nil, or_false] at hr
    rcases hr with rfl | rfl
    · exact s1.le h6
    · exact s2.le h6
  have h37 := h6.trans h7
  have hcut : ([(subV y 1 0 bst, ps.take bst), (subV y 1 (bst + 1) ps.length, ps.drop (bst + 1))].flatMap fun x => x.2) = ps.take bst ++ ps.drop (bst + 1) := by simp
  rw [hcut]
  have hcm : (ps.take bst ++ ps.drop (bst + 1)).map (·.2) = cutL (ps.map (·.2)) bst := by rw [List.map_append, List.map_take, List.map_drop]; rfl
  have hcl := cut_len (l := ps.map (·.2)) (i := bst) (by rw [List.length_map]; omega)
  rw [← hcm, List.length_map, List.length_map] at hcl
  have hcg : ∀ p ∈ ps.take bst ++ ps.drop (bst + 1), p ∈ ps := fun p hp => by
    rcases List.mem_append.1 hp with h | h
    · exact List.mem_of_mem_take h
    · exact List.mem_of_mem_drop h
  rw [← hcm]
  generalize ps.take bst ++ ps.drop (bst + 1) = qs at hcl hcg hcm ⊢
  obtain ⟨p0, hp0, _⟩ := l_drop_at (l := ps) (i := bst) hbl
  have hal := aliveL_at b (l := ps.map (·.2)) (i := bst) (s := p0.2) (by rw [List.getElem?_map, hp0]; rfl)
  have hlv := liveL_at b (l := ps.map (·.2)) (i := bst) (s := p0.2) (by rw [List.getElem?_map, hp0]; rfl)
  rw [hal, Option.getD_some]
  have hfl := liveR_len b p0.2 ((ps.map (·.2)).drop (bst + 1)).flatten
  generalize liveR b p0.2 ((ps.map (·.2)).drop (bst + 1)).flatten = fl at hlv hfl ⊢
  have hg0 := hg p0 (List.mem_of_getElem? hp0)
  have hv0 := hM p0 (List.mem_of_getElem? hp0)
  obtain ⟨os, hz0, hz1, hz2⟩ := hv
  obtain ⟨q0, hq0, _⟩ := l_drop_at (l := os) (i := bst) (by
    have := congrArg List.length hz2
    rw [List.length_map, liveL_len, List.length_map] at this
    omega)
  have hq2 : q0.2 = fl := by
    have := congrArg (fun l => l[bst]?) hz2
    simp only [List.getElem?_map, hq0, Option.map_some] at this
    rw [hlv, Option.some.injEq] at this
    exact this
  have hw0 := hz1 q0 (List.mem_of_getElem? hq0)
  rw [hq2] at hw0
  obtain ⟨v0, s⟩ := p0
  obtain ⟨u0, fl'⟩ := q0
  simp only at hfl hg0 hv0 hw0 hq2
  subst hq2
  have g := hy.el1 hp0 rfl
  have ix := hy.ix (i := (bst : Int)) (by omega) (by rw [List.length_map]; omega)
  have gz := hz0.el1 hq0 rfl
  have iz := hz0.ix (i := (bst : Int)) (by omega) (by
    rw [List.length_map]
    have := (List.getElem?_eq_some_iff.1 hq0).1
    omega)
  have hMa := (hle.trans h37)
  have hMb := (hM2.trans hM3).trans h37
  simp only [shs, zts, sos, sls, zss, eqs, sx, sb1, sb2, sb3, sb4, sb5, sb6, sb7, ↓reduceIte, Nat.reduceAdd, Nat.reduceMul, Nat.reduceDiv, Nat.reduceEqDiff, Nat.reduceLT, Nat.reduceLeDiff, reduceCtorEq, Int.reduceEq, Int.reduceNe, Int.reduceLT, Int.reduceLE, Int.reduceAdd, Int.reduceSub, Int.reduceMul, Int.reduceNeg, Int.reduceToNat, Int.cast_ofNat_Int, Int.natCast_zero, Int.natCast_one, Int.toNat_natCast, Nat.reduceBEq, sp1, sp2, sp3, nzs, se1, se2, tks, h37]
  have hfr : fits (qs.map (·.2)) (fullR (pickR s fl')) := ⟨Nat.le_trans (full_sub (pick_sub s fl')) hg0.2.2, .inl (by rw [List.length_map]; omega)⟩
  have hgq : ∀ q ∈ qs.map (·.2), goodS q := fun q hq => by
    obtain ⟨p, hp, rfl⟩ := List.mem_map.1 hq
    exact hg p (hcg p hp)
  generalize hres : (pickR s fl').foldl standL (qs.map (·.2)) = res
  apply joinC (fun cur M8 => M7.le M8 ∧ curM M8 cur ∧ curL cur = qs.map (·.2))
  case h =>
    intro J
    rcases List.eq_nil_or_concat qs with hqs | ⟨ini, ⟨vq, sq⟩, hqs⟩
    · rw [hqs]
      refine CallK.pub (k := 320) rfl fun v9 M9 h9 hv9 => ?_
      simp only [sp1, sp2, sp3]
      refine CallK.pure ⟨rfl, rfl⟩ rfl (copied_nil v9 M9 hv9) ?_
      have hMc := hMa.trans h9
      have h39 := h37.trans h9
      have g9 := (hy.le hMc).el1 hp0 rfl
      have hv09 := hv0.le hMc
      simp only [shs, zts, sos, sls, zss, eqs, sx, sb1, sb2, sb3, sb4, sb5, sb6, sb7, ↓reduceIte, Nat.reduceAdd, Nat.reduceMul, Nat.reduceDiv, Nat.reduceEqDiff, Nat.reduceLT, Nat.reduceLeDiff, reduceCtorEq, Int.reduceEq, Int.reduceNe, Int.reduceLT, Int.reduceLE, Int.reduceAdd, Int.reduceSub, Int.reduceMul, Int.reduceNeg, Int.reduceToNat, Int.cast_ofNat_Int, Int.natCast_zero, Int.natCast_one, Int.toNat_natCast, Nat.reduceBEq, sp1, sp2, sp3, nzs, se1, se2, tks, h39, g9.1, g9.2, ix, ix.2, hv09.one, hv09.len, hv09.sl, List.length_map]
      refine LoopK.nilRow 10 62 1 rfl rfl rfl ?_
      have hR : M7.le M9 ∧ curM M9 none ∧ curL none = qs.map (·.2) := ⟨h9, trivial, by rw [hqs]; rfl⟩
      refine weakL [(7, true, .v v), (9, true, .v (.int .i64 bst)), (10, true, .own 496), (45, true, .v v0), (46, true, .v (.int .i64 s.length)), (47, true, .v (.int .i64 0))] (curH none) M9 (Ent.of ?_) ?_
      · simp only [sx, sb1, sb2, sb3, sb4, sb5, sb6, sb7, ↓reduceIte, Nat.reduceAdd, Nat.reduceMul, Nat.reduceDiv, Nat.reduceEqDiff, Nat.reduceLT, Nat.reduceLeDiff, reduceCtorEq, Int.reduceEq, Int.reduceNe, Int.reduceLT, Int.reduceLE, Int.reduceAdd, Int.reduceSub, Int.reduceMul, Int.reduceNeg, Int.reduceToNat, Int.cast_ofNat_Int, Int.natCast_zero, Int.natCast_one, Int.toNat_natCast, Nat.reduceBEq, curH]
      generalize (none : Option PutA) = cur at hR ⊢
      exact J cur M9 hR
    · rw [List.concat_eq_append] at hqs
      have hcg' : ∀ p ∈ ini ++ [(vq, sq)], p ∈ ps := by rw [← hqs]; exact hcg
      have hcl' : (ini ++ [(vq, sq)]).length + 1 = ps.length := by rw [← hqs]; exact hcl
      rw [hqs]
      refine CallK.pub (k := 320) rfl fun v9 M9 h9 hv9 => ?_
      simp only [sp1, sp2, sp3]
      have hMc := hMa.trans h9
      refine CallK.ownN natT (natP sq) rfl rfl (copied v9 ini vq sq M9 hv9 (fun p hp => (hM p (hcg' p hp)).le hMc) (by omega) (fun p hp => by have := (hg p (hcg' p hp)).1; omega)) rfl fun x M10 h10 ⟨hx1, hx2⟩ => ?_
      have hMd := hMc.trans h10
      have h39 := (h37.trans h9).trans h10
      have g9 := (hy.le hMd).el1 hp0 rfl
      have hv09 := hv0.le hMd
      simp only [copT, copP, shs, zts, sos, sls, zss, eqs, sx, sb1, sb2, sb3, sb4, sb5, sb6, sb7, ↓reduceIte, Nat.reduceAdd, Nat.reduceMul, Nat.reduceDiv, Nat.reduceEqDiff, Nat.reduceLT, Nat.reduceLeDiff, reduceCtorEq, Int.reduceEq, Int.reduceNe, Int.reduceLT, Int.reduceLE, Int.reduceAdd, Int.reduceSub, Int.reduceMul, Int.reduceNeg, Int.reduceToNat, Int.cast_ofNat_Int, Int.natCast_zero, Int.natCast_one, Int.toNat_natCast, Nat.reduceBEq, sp1, sp2, sp3, nzs, se1, se2, tks, shA1, st1, h39, g9.1, g9.2, ix, ix.2, hv09.one, hv09.len, hv09.sl, List.length_map]
      have hR : M7.le M10 ∧ curM M10 (some (x, sq)) ∧ curL (some (x, sq)) = qs.map (·.2) := ⟨h9.trans h10, hx1, by rw [hqs]; simp only [curL, hx2, List.map_append, List.map_cons, List.map_nil]⟩
      refine weakL [(7, true, .v v), (9, true, .v (.int .i64 bst)), (10, true, .own 496), (45, true, .v v0), (46, true, .v (.int .i64 s.length)), (47, true, .v (.int .i64 0))] (curH (some (x, sq))) M10 (Ent.rekeyN (Pin := copP sq x) 10 0 62 [328, 329] (fun _ => natP sq x) rfl rfl ⟨rfl, rfl, trivial⟩ (Ent.of ⟨⟨⟨rfl, rfl, rfl, rfl, rfl, rfl, trivial⟩, ⟨rfl, rfl⟩, ⟨rfl, rfl⟩, trivial⟩, rfl⟩)) ?_
      generalize (some (x, sq) : Option PutA) = cur at hR ⊢
      exact J cur M10 hR
  rintro cur M8 ⟨n1, n2, n3⟩
  refine LoopK.goS (X := Nat × Nat × Option PutA × Mem) (fun x => ([(7, true, .v v), (9, true, .v (.int .i64 bst)), (10, true, .own 496), (45, true, .v v0), (46, true, .v (.int .i64 s.length)), (47, true, .v (.int .i64 x.2.1))], curH x.2.2.1, x.2.2.2))
    (fun x => (x.1 + x.2.1 = s.length ∧ M7.le x.2.2.2) ∧ (curM x.2.2.2 x.2.2.1 ∧ ∀ q ∈ curL x.2.2.1, goodS q) ∧ fits (curL x.2.2.1) (fullR (pickR (s.drop x.2.1) (fl'.drop x.2.1))) ∧ (pickR (s.drop x.2.1) (fl'.drop x.2.1)).foldl standL (curL x.2.2.1) = res) (fun x => x.1) (s.length, 0, cur, M8)
    ⟨⟨rfl, n1⟩, ⟨n2, by rw [n3]; exact hgq⟩, by rw [n3]; exact hfr, by rw [n3]; exact hres⟩ (fun a w h => h) ?_
  rintro ⟨f, k, c, M9⟩ ⟨⟨m1, m2⟩, ⟨m3, m4⟩, m5, m6⟩
  simp only at m1 m2 m3 m4 m5 m6
  by_cases hkl : k < s.length
  rotate_left
  · have c1 : ((k : Int) < (s.length : Int)) = False := eq_false (by omega)
    rw [List.drop_eq_nil_of_le (by omega), List.drop_eq_nil_of_le (by omega)] at m6
    simp only [pickR, List.foldl_nil] at m6
    subst m6
    cases c with
    | none =>
      refine CodeK.pub (k := 496) rfl fun u M10 h10 hu => CodeK.ofW (live := [0,1,4,5,6,7,8,9,10,11,12,17,21,45,46,47,48,58]) ?_
      simp only [sp1, sp2, sp3, curH, shs, zts, sos, sls, zss, eqs, sx, sb1, sb2, sb3, sb4, sb5, sb6, sb7, ↓reduceIte, Nat.reduceAdd, Nat.reduceMul, Nat.reduceDiv, Nat.reduceEqDiff, Nat.reduceLT, Nat.reduceLeDiff, reduceCtorEq, Int.reduceEq, Int.reduceNe, Int.reduceLT, Int.reduceLE, Int.reduceAdd, Int.reduceSub, Int.reduceMul, Int.reduceNeg, Int.reduceToNat, Int.cast_ofNat_Int, Int.natCast_zero, Int.natCast_one, Int.toNat_natCast, Nat.reduceBEq, nzs, c1]
      exact ⟨u, rfl, [], hu, fun p hp => by simp at hp, rfl⟩
    | some x =>
      obtain ⟨x, sq⟩ := x
      refine CodeK.pub (k := 497) rfl fun u2 M10 h10 hu2 => ?_
      rw [show hpub 497 u2 (curH (some (x, sq))) = [(496, .tab 1 (vv ((x ++ [(u2, sq)]).map encV)))] from by
        simp only [curH, sp1, sp2, sp3, shs, zts, sos, sls, zss, eqs, sx, sb1, sb2, sb3, sb4, sb5, sb6, sb7, ↓reduceIte, Nat.reduceAdd, Nat.reduceMul, Nat.reduceDiv, Nat.reduceEqDiff, Nat.reduceLT, Nat.reduceLeDiff, reduceCtorEq, Int.reduceEq, Int.reduceNe, Int.reduceLT, Int.reduceLE, Int.reduceAdd, Int.reduceSub, Int.reduceMul, Int.reduceNeg, Int.reduceToNat, Int.cast_ofNat_Int, Int.natCast_zero, Int.natCast_one, Int.toNat_natCast, Nat.reduceBEq, nzs, pubss_app, pubss_vv, List.map_append, vv_app]
        rfl]
      refine CodeK.heap (HEnt.tabRow (k := 496) rfl) ?_
      refine CodeK.pub (k := 496) (by simp only [hset, sx, sb1, sb2, sb3, sb4, sb5, sb6, sb7, ↓reduceIte, Nat.reduceAdd, Nat.reduceMul, Nat.reduceDiv, Nat.reduceEqDiff, Nat.reduceLT, Nat.reduceLeDiff, reduceCtorEq, Int.reduceEq, Int.reduceNe, Int.reduceLT, Int.reduceLE, Int.reduceAdd, Int.reduceSub, Int.reduceMul, Int.reduceNeg, Int.reduceToNat, Int.cast_ofNat_Int, Int.natCast_zero, Int.natCast_one, Int.toNat_natCast, Nat.reduceBEq]; rfl) fun u M11 h11 hu => CodeK.ofW (live := [0,1,4,5,6,7,8,9,10,11,12,17,21,45,46,47,48,58]) ?_
      simp only [sp1, sp2, sp3, hset, shs, zts, sos, sls, zss, eqs, sx, sb1, sb2, sb3, sb4, sb5, sb6, sb7, ↓reduceIte, Nat.reduceAdd, Nat.reduceMul, Nat.reduceDiv, Nat.reduceEqDiff, Nat.reduceLT, Nat.reduceLeDiff, reduceCtorEq, Int.reduceEq, Int.reduceNe, Int.reduceLT, Int.reduceLE, Int.reduceAdd, Int.reduceSub, Int.reduceMul, Int.reduceNeg, Int.reduceToNat, Int.cast_ofNat_Int, Int.natCast_zero, Int.natCast_one, Int.toNat_natCast, Nat.reduceBEq, nzs, c1]
      refine ⟨u, rfl, x ++ [(u2, sq)], hu, fun p hp => ?_, by simp only [curL, List.map_append, List.map_cons, List.map_nil]⟩
      rcases List.mem_append.1 hp with hp | hp
      · exact (m3 p hp).le (h10.trans h11)
      · simp only [List.mem_singleton] at hp
        subst hp
        exact hu2.le h11
  have c1 : ((k : Int) < (s.length : Int)) = True := eq_true (by omega)
  obtain ⟨q1, q2⟩ := curH_12 c
  refine CodeK.ofW (live := [0,1,4,5,6,7,8,9,10,11,12,17,21,45,46,47,48,58]) ?_
  obtain ⟨r, hr, _⟩ := l_drop_at (l := s) (i := k) hkl
  obtain ⟨t, ht, _⟩ := l_drop_at (l := fl') (i := k) (by omega)
  have hMc := hMa.trans m2
  have hv9 := hv0.le hMc
  obtain ⟨⟨⟨g0, o0⟩, g1, o1⟩, ⟨⟨g2, o2⟩, g3, o3⟩, ixr⟩ := rec_at hv9 hr
  have hMd := hMb.trans m2
  have gz9 := (hz0.le hMd).el1 hq0 rfl
  have hw9 := hw0.le hMd
  have gt := hw9.el1 ht rfl
  have it := hw9.ix (i := (k : Int)) (by omega) (by rw [List.length_map]; omega)
  have hr64 := hg0.2.1 r (List.mem_of_getElem? hr)
  rw [pick_drop hr ht] at m5 m6
  cases t with
  | false =>
    rw [if_neg (by decide)] at m5 m6
    simp only [shs, zts, sos, sls, zss, eqs, sx, sb1, sb2, sb3, sb4, sb5, sb6, sb7, ↓reduceIte, Nat.reduceAdd, Nat.reduceMul, Nat.reduceDiv, Nat.reduceEqDiff, Nat.reduceLT, Nat.reduceLeDiff, reduceCtorEq, Int.reduceEq, Int.reduceNe, Int.reduceLT, Int.reduceLE, Int.reduceAdd, Int.reduceSub, Int.reduceMul, Int.reduceNeg, Int.reduceToNat, Int.cast_ofNat_Int, Int.natCast_zero, Int.natCast_one, Int.toNat_natCast, Nat.reduceBEq, nzs, c1, g0, g1, g2, g3, o0, o1, o2, o3, ixr, ixr.2, one_int, one_bool, one_string, gz9.1, gz9.2, iz, iz.2, hw9.one, gt.1, gt.2, it, it.2, inK, lo, hi, q1, q2]
    refine ⟨⟨by omega, by omega⟩, (f - 1, k + 1, c, M9), ⟨⟨⟨by simp only; omega, m2⟩, ⟨m3, m4⟩, m5, m6⟩, by simp only; omega⟩, ?_⟩
    refine Ent.heap (HEnt.sub (List.sublist_cons_self _ _)) ?_
    refine Ent.of ⟨⟨⟨rfl, rfl, rfl, rfl, rfl, ?_, trivial⟩, curH_sub c⟩, rfl⟩
    simp only [sx, sb1, sb2, sb3, sb4, sb5, sb6, sb7, ↓reduceIte, Nat.reduceAdd, Nat.reduceMul, Nat.reduceDiv, Nat.reduceEqDiff, Nat.reduceLT, Nat.reduceLeDiff, reduceCtorEq, Int.reduceEq, Int.reduceNe, Int.reduceLT, Int.reduceLE, Int.reduceAdd, Int.reduceSub, Int.reduceMul, Int.reduceNeg, Int.reduceToNat, Int.cast_ofNat_Int, Int.natCast_zero, Int.natCast_one, Int.toNat_natCast, Nat.reduceBEq, Int.natCast_add]
  | true =>
    rw [if_pos rfl, fullR_cons] at m5
    rw [if_pos rfl, List.foldl_cons] at m6
    simp only [shs, zts, sos, sls, zss, eqs, sx, sb1, sb2, sb3, sb4, sb5, sb6, sb7, ↓reduceIte, Nat.reduceAdd, Nat.reduceMul, Nat.reduceDiv, Nat.reduceEqDiff, Nat.reduceLT, Nat.reduceLeDiff, reduceCtorEq, Int.reduceEq, Int.reduceNe, Int.reduceLT, Int.reduceLE, Int.reduceAdd, Int.reduceSub, Int.reduceMul, Int.reduceNeg, Int.reduceToNat, Int.cast_ofNat_Int, Int.natCast_zero, Int.natCast_one, Int.toNat_natCast, Nat.reduceBEq, nzs, c1, g0, g1, g2, g3, o0, o1, o2, o3, ixr, ixr.2, one_int, one_bool, one_string, gz9.1, gz9.2, iz, iz.2, hw9.one, gt.1, gt.2, it, it.2, inK, lo, hi, q1, q2]
    have m7 := stand_fits m5
    have m8 := standL_good m4 hr64
    cases c with
    | none =>
      refine CallK.lendN [496] (A := fun f => [f 0, recV r]) (Pin := fun _ => [.row 1 []]) (fun f f' ν ν' h => by simp only [SV.vals, h 0 (by omega)]; rfl) (fun _ f f' ν ν' h => ⟨fun w y hy => hy, trivial⟩) natPT natPP rfl rfl ⟨rfl, trivial⟩ rfl (put_zero r M9 hr64) fun z M10 h10 ⟨z1, z2⟩ => ?_
      obtain ⟨x, sq⟩ := z
      simp only at z1 z2
      subst z1 z2
      simp only [putT, putP, copP, shA1, shs, zts, sos, sls, zss, eqs, sx, sb1, sb2, sb3, sb4, sb5, sb6, sb7, ↓reduceIte, Nat.reduceAdd, Nat.reduceMul, Nat.reduceDiv, Nat.reduceEqDiff, Nat.reduceLT, Nat.reduceLeDiff, reduceCtorEq, Int.reduceEq, Int.reduceNe, Int.reduceLT, Int.reduceLE, Int.reduceAdd, Int.reduceSub, Int.reduceMul, Int.reduceNeg, Int.reduceToNat, Int.cast_ofNat_Int, Int.natCast_zero, Int.natCast_one, Int.toNat_natCast, Nat.reduceBEq, nzs, inK, lo, hi]
      refine ⟨⟨by omega, by omega⟩, (f - 1, k + 1, some ([], [r]), M10), ⟨⟨⟨by simp only; omega, m2.trans h10⟩, ⟨fun p hp => (by cases hp), m8⟩, m7, m6⟩, by simp only; omega⟩, Ent.of ⟨⟨⟨rfl, rfl, rfl, rfl, rfl, ?_, trivial⟩, ⟨rfl, rfl⟩, ⟨rfl, rfl⟩, trivial⟩, rfl⟩⟩
      simp only [sx, sb1, sb2, sb3, sb4, sb5, sb6, sb7, ↓reduceIte, Nat.reduceAdd, Nat.reduceMul, Nat.reduceDiv, Nat.reduceEqDiff, Nat.reduceLT, Nat.reduceLeDiff, reduceCtorEq, Int.reduceEq, Int.reduceNe, Int.reduceLT, Int.reduceLE, Int.reduceAdd, Int.reduceSub, Int.reduceMul, Int.reduceNeg, Int.reduceToNat, Int.cast_ofNat_Int, Int.natCast_zero, Int.natCast_one, Int.toNat_natCast, Nat.reduceBEq, Int.natCast_add]
    | some x =>
      obtain ⟨x, sq⟩ := x
      have hgs := m4 sq (by simp [curL])
      obtain ⟨r1, r2⟩ := fits_room m5 (i := x.map (·.2)) (s := sq) rfl
      rw [List.length_map] at r1 r2
      refine CallK.lendN [496, 497] (A := fun f => [f 0, recV r]) (Pin := copP sq x) (fun f f' ν ν' h => by simp only [SV.vals, h 0 (by omega)]; rfl) (fun _ => natP sq x) natPT natPP rfl rfl ⟨rfl, rfl, trivial⟩ rfl
        (put_ok x sq r M9 m3 r1 (by have := hgs.1; omega) hgs.2.1 hr64 r2) fun z M10 h10 ⟨z1, z2⟩ => ?_
      obtain ⟨x', sq'⟩ := z
      simp only at z1 z2
      have e8 : curL (some (x', sq')) = standL (curL (some (x, sq))) r := by simp only [curL, standL_app, z2]
      rw [← e8] at m6 m7 m8
      simp only [putT, putP, copP, shA1, shs, zts, sos, sls, zss, eqs, sx, sb1, sb2, sb3, sb4, sb5, sb6, sb7, ↓reduceIte, Nat.reduceAdd, Nat.reduceMul, Nat.reduceDiv, Nat.reduceEqDiff, Nat.reduceLT, Nat.reduceLeDiff, reduceCtorEq, Int.reduceEq, Int.reduceNe, Int.reduceLT, Int.reduceLE, Int.reduceAdd, Int.reduceSub, Int.reduceMul, Int.reduceNeg, Int.reduceToNat, Int.cast_ofNat_Int, Int.natCast_zero, Int.natCast_one, Int.toNat_natCast, Nat.reduceBEq, nzs, inK, lo, hi]
      refine ⟨⟨by omega, by omega⟩, (f - 1, k + 1, some (x', sq'), M10), ⟨⟨⟨by simp only; omega, m2.trans h10⟩, ⟨z1, m8⟩, m7, m6⟩, by simp only; omega⟩, Ent.of ⟨⟨⟨rfl, rfl, rfl, rfl, rfl, ?_, trivial⟩, ⟨rfl, rfl⟩, ⟨rfl, rfl⟩, trivial⟩, rfl⟩⟩
      simp only [sx, sb1, sb2, sb3, sb4, sb5, sb6, sb7, ↓reduceIte, Nat.reduceAdd, Nat.reduceMul, Nat.reduceDiv, Nat.reduceEqDiff, Nat.reduceLT, Nat.reduceLeDiff, reduceCtorEq, Int.reduceEq, Int.reduceNe, Int.reduceLT, Int.reduceLE, Int.reduceAdd, Int.reduceSub, Int.reduceMul, Int.reduceNeg, Int.reduceToNat, Int.cast_ofNat_Int, Int.natCast_zero, Int.natCast_one, Int.toNat_natCast, Nat.reduceBEq, Int.natCast_add]
theorem Clean_no (y z : Value) (ps : List (Value × List Rc)) (b : List Bg.It) (M : Mem) (hy : RowM M y 1 (ps.map encV)) (hM : SegM M ps) (hk : ∀ p ∈ ps, okS p.2) (hz : RowM M z 4 (b.map Bg.encT)) (h : lookE (ps.map (·.2)) b ≠ 0 ∨ ps = []) :
    Meets Proofs.Try.prog 5 [.v y, .v z] M (fun r _ _ => r = .tup [.v (.slice none 0 0), .v (.int .i64 (if lookE (ps.map (·.2)) b ≠ 0 then lookE (ps.map (·.2)) b else 4))]) := by
  have hL := look y z ps b M hy hM hk hz
  refine Meets.of_body [0,1,4,5,6,7,8,9,10,11,12,17,21,45,46,47,48,58] Proofs.Try.func5 rfl (by kernel_rfl) rfl fun w => ?_
  generalize lookE (ps.map (·.2)) b = c at hL h ⊢
  simp only [Proofs.Try.f5, shs, zts, sos, sls, zss, eqs, sx, sb1, sb2, sb3, sb4, sb5, sb6, sb7, ↓reduceIte, Nat.reduceAdd, Nat.reduceMul, Nat.reduceDiv, Nat.reduceEqDiff, Nat.reduceLT, Nat.reduceLeDiff, reduceCtorEq, Int.reduceEq, Int.reduceNe, Int.reduceLT, Int.reduceLE, Int.reduceAdd, Int.reduceSub, Int.reduceMul, Int.reduceNeg, Int.reduceToNat, Int.cast_ofNat_Int, Int.natCast_zero, Int.natCast_one, Int.toNat_natCast, Nat.reduceBEq, nzs]
  refine CallK.pure ⟨rfl, rfl⟩ rfl hL ?_
  by_cases hc : c = 0
  · rcases h with h | h
    · exact absurd hc h
    · subst h hc
      have hl := hy.len
      simp only [List.map_nil, List.length_nil] at hl
      rw [if_neg (fun h => h rfl)]
      simp only [shs, zts, sos, sls, zss, eqs, sx, sb1, sb2, sb3, sb4, sb5, sb6, sb7, ↓reduceIte, Nat.reduceAdd, Nat.reduceMul, Nat.reduceDiv, Nat.reduceEqDiff, Nat.reduceLT, Nat.reduceLeDiff, reduceCtorEq, Int.reduceEq, Int.reduceNe, Int.reduceLT, Int.reduceLE, Int.reduceAdd, Int.reduceSub, Int.reduceMul, Int.reduceNeg, Int.reduceToNat, Int.cast_ofNat_Int, Int.natCast_zero, Int.natCast_one, Int.toNat_natCast, Nat.reduceBEq, nzs, hl, hy.sl]
  · have d1 := eq_false hc
    rw [if_pos hc]
    simp only [shs, zts, sos, sls, zss, eqs, sx, sb1, sb2, sb3, sb4, sb5, sb6, sb7, ↓reduceIte, Nat.reduceAdd, Nat.reduceMul, Nat.reduceDiv, Nat.reduceEqDiff, Nat.reduceLT, Nat.reduceLeDiff, reduceCtorEq, Int.reduceEq, Int.reduceNe, Int.reduceLT, Int.reduceLE, Int.reduceAdd, Int.reduceSub, Int.reduceMul, Int.reduceNeg, Int.reduceToNat, Int.cast_ofNat_Int, Int.natCast_zero, Int.natCast_one, Int.toNat_natCast, Nat.reduceBEq, nzs, d1]
end Go.X.Sg

