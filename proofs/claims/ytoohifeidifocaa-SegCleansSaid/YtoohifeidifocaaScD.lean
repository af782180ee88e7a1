/- woollaw.SegCleans returns true. Conditions: none. -/
import Derived.Test.YtoohifeidifocaaScC
set_option linter.unusedSimpArgs false
set_option linter.unusedVariables false
set_option maxHeartbeats 4000000
set_option maxRecDepth 20000
namespace Go.X.Sg
open Go Go.X

theorem eqN (x y : Value) (l m : List (Nat)) (M : Mem) (hx : RowM M x 1 (l.map encN)) (hy : RowM M y 1 (m.map encN)) :
    Meets Proofs.Try.prog 10 [.v x, .v y] M fun r _ _ => r = .v (.bool (decide (l = m))) := by
  refine Meets.of_body [0,1,4,5,10,12,13,14,24] Proofs.Try.func10 rfl (by kernel_rfl) rfl fun w => ?_
  simp only [Proofs.Try.f10, shs, zts, sos, sls, zss, eqs, sx, sb1, sb2, sb3, sb4, sb5, sb6, sb7, ↓reduceIte, Nat.reduceAdd, Nat.reduceMul, Nat.reduceDiv, Nat.reduceEqDiff, Nat.reduceLT, Nat.reduceLeDiff, reduceCtorEq, Int.reduceEq, Int.reduceNe, Int.reduceLT, Int.reduceLE, Int.reduceAdd, Int.reduceSub, Int.reduceMul, Int.reduceNeg, Int.reduceToNat, Int.cast_ofNat_Int, Int.natCast_zero, Int.natCast_one, Int.toNat_natCast, Nat.reduceBEq, hx.len, hy.len, hx.sl, hy.sl, List.length_map]
  refine ⟨fun h => ?_, fun h => ?_⟩
  · rw [decide_eq_false (fun e => h (by rw [e]))]
  have hlen : l.length = m.length := by omega
  have hle := hx.len_le
  rw [List.length_map] at hle
  refine LoopK.go (X := Nat × Nat) (fun p => ([(0, true, .v x), (1, true, .v y), (4, true, .v (.bool false)), (12, true, .v (.int .i64 l.length)), (13, true, .v (.int .i64 p.2))], [], M))
    (fun p => p.1 + p.2 = l.length ∧ (l = m ↔ l.drop p.2 = m.drop p.2)) (fun p => p.1) (l.length, 0) ⟨rfl, Iff.rfl⟩ (Ent.of ?_) ?_
  · simp only [sx, sb1, sb2, sb3, sb4, sb5, sb6, sb7, ↓reduceIte, Nat.reduceAdd, Nat.reduceMul, Nat.reduceDiv, Nat.reduceEqDiff, Nat.reduceLT, Nat.reduceLeDiff, reduceCtorEq, Int.reduceEq, Int.reduceNe, Int.reduceLT, Int.reduceLE, Int.reduceAdd, Int.reduceSub, Int.reduceMul, Int.reduceNeg, Int.reduceToNat, Int.cast_ofNat_Int, Int.natCast_zero, Int.natCast_one, Int.toNat_natCast, Nat.reduceBEq]
  rintro ⟨f, i⟩ ⟨h1, h2⟩
  simp only at h1 h2
  simp only [shs, zts, sos, sls, zss, eqs, sx, sb1, sb2, sb3, sb4, sb5, sb6, sb7, ↓reduceIte, Nat.reduceAdd, Nat.reduceMul, Nat.reduceDiv, Nat.reduceEqDiff, Nat.reduceLT, Nat.reduceLeDiff, reduceCtorEq, Int.reduceEq, Int.reduceNe, Int.reduceLT, Int.reduceLE, Int.reduceAdd, Int.reduceSub, Int.reduceMul, Int.reduceNeg, Int.reduceToNat, Int.cast_ofNat_Int, Int.natCast_zero, Int.natCast_one, Int.toNat_natCast, Nat.reduceBEq]
  refine ⟨fun h3 => ?_, fun h3 => ?_⟩
  · obtain ⟨a0, hl, hd⟩ := l_drop_at (l := l) (i := i) (by omega)
    obtain ⟨b0, hm, hd2⟩ := l_drop_at (l := m) (i := i) (by omega)
    have g0 := hx.cell (i := i) (e := [.int .i64 (a0 : Int)]) (by rw [List.getElem?_map, hl]; rfl) (off := 0) (by omega)
    have k0 := hy.cell (i := i) (e := [.int .i64 (b0 : Int)]) (by rw [List.getElem?_map, hm]; rfl) (off := 0) (by omega)
    have i1 := hx.ix (i := (i : Int)) (by omega) (by rw [List.length_map]; omega)
    have i2 := hy.ix (i := (i : Int)) (by omega) (by rw [List.length_map]; omega)
    simp only [List.getD_cons_zero, List.getD_cons_succ] at g0 k0
    refine DrawK.quiet (by kernel_rfl) (by kernel_rfl) ?_
    simp only [shs, zts, sos, sls, zss, eqs, sx, sb1, sb2, sb3, sb4, sb5, sb6, sb7, ↓reduceIte, Nat.reduceAdd, Nat.reduceMul, Nat.reduceDiv, Nat.reduceEqDiff, Nat.reduceLT, Nat.reduceLeDiff, reduceCtorEq, Int.reduceEq, Int.reduceNe, Int.reduceLT, Int.reduceLE, Int.reduceAdd, Int.reduceSub, Int.reduceMul, Int.reduceNeg, Int.reduceToNat, Int.cast_ofNat_Int, Int.natCast_zero, Int.natCast_one, Int.toNat_natCast, Nat.reduceBEq, nzs, g0.1, g0.2.1, k0.1, k0.2.1, i1, i2, i1.2, i2.2, hx.len, hy.len, hx.sl, hy.sl, inK, lo, hi, List.toArray_eq_iff]
    refine ⟨fun hne => ?_, fun he => ⟨by omega, (f - 1, i + 1), ⟨⟨by simp only; omega, ?_⟩, by simp only; omega⟩, Ent.of ?_⟩⟩
    · rw [decide_eq_false (fun e => ?_)]
      have := h2.1 e
      rw [hd, hd2] at this
      have := (List.cons.inj this).1
      simp_all
    · have e12 : a0 = b0 := by omega
      simp only
      rw [h2, hd, hd2, e12]
      exact ⟨fun e => (List.cons.inj e).2, fun e => by rw [e]⟩
    · simp only [sx, sb1, sb2, sb3, sb4, sb5, sb6, sb7, ↓reduceIte, Nat.reduceAdd, Nat.reduceMul, Nat.reduceDiv, Nat.reduceEqDiff, Nat.reduceLT, Nat.reduceLeDiff, reduceCtorEq, Int.reduceEq, Int.reduceNe, Int.reduceLT, Int.reduceLE, Int.reduceAdd, Int.reduceSub, Int.reduceMul, Int.reduceNeg, Int.reduceToNat, Int.cast_ofNat_Int, Int.natCast_zero, Int.natCast_one, Int.toNat_natCast, Nat.reduceBEq, Int.natCast_add]
  · have : i = l.length := by omega
    rw [decide_eq_true (h2.2 (by rw [List.drop_eq_nil_of_le (by omega), List.drop_eq_nil_of_le (by omega)]))]

theorem best_ex : ∀ {l : List Nat}, l ≠ [] → ∃ b, isBest l b := by
  intro l h
  have key : ∀ l : List Nat, l ≠ [] → ∃ m, m ∈ l ∧ ∀ x ∈ l, m ≤ x := by
    intro l
    induction l with
    | nil => intro h; exact absurd rfl h
    | cons a l ih =>
      intro _
      by_cases hl : l = []
      · subst hl
        exact ⟨a, by simp, fun x hx => by simp at hx; omega⟩
      · obtain ⟨m, h1, h2⟩ := ih hl
        by_cases hm : m ≤ a
        · exact ⟨m, List.mem_cons_of_mem _ h1, fun x hx => by
            rcases List.mem_cons.1 hx with rfl | hx
            · exact hm
            · exact h2 x hx⟩
        · exact ⟨a, List.mem_cons_self, fun x hx => by
            rcases List.mem_cons.1 hx with rfl | hx
            · exact Nat.le_refl _
            · have := h2 x hx; omega⟩
  obtain ⟨m, h1, h2⟩ := key l h
  obtain ⟨b, _, _, hb⟩ := best_idx h1 h2
  exact ⟨b, hb⟩
open Classical in
noncomputable def bestOf (l : List Nat) : Nat := if h : ∃ b, isBest l b then h.choose else 0
theorem bestOf_eq {l : List Nat} {b : Nat} (h : isBest l b) : bestOf l = b := by
  have hx : ∃ b, isBest l b := ⟨b, h⟩
  unfold bestOf
  rw [dif_pos hx]
  exact best_uniq hx.choose_spec h
noncomputable def cleanR (b : List Bg.It) (l : List (List Rc)) : List (List Rc) := if l = [] then [] else ((aliveL b l)[bestOf ((aliveL b l).map fullR)]?.getD []).foldl standL (cutL l (bestOf ((aliveL b l).map fullR)))
theorem CleanU (y z : Value) (ps : List (Value × List Rc)) (b : List Bg.It) (M : Mem) (hy : RowM M y 1 (ps.map encV)) (hM : SegM M ps) (hk : ∀ p ∈ ps, okS p.2) (hz : RowM M z 4 (b.map Bg.encT)) (hE : lookE (ps.map (·.2)) b = 0) :
    Meets Proofs.Try.prog 5 [.v y, .v z] M (fun r _ M' => ∃ u, r = .tup [.v u, .v (.int .i64 (if ps.length = 0 then 4 else 0))] ∧ Segs u (cleanR b (ps.map (·.2))) M') := by
  by_cases h0 : ps = []
  · have hC := Clean_no y z ps b M hy hM hk hz (.inr h0)
    rw [if_neg (fun h => h hE)] at hC
    subst h0
    rw [show (if ([] : List (Value × List Rc)).length = 0 then (4 : Int) else 0) = 4 from rfl]
    refine hC.mono fun s H M' _ h => ⟨_, h, ?_⟩
    have : cleanR b (([] : List (Value × List Rc)).map (·.2)) = [] := if_pos rfl
    rw [this]
    exact Segs.nil _
  · have hN : (aliveL b (ps.map (·.2))).map fullR ≠ [] := fun e => by
      have := congrArg List.length e
      rw [List.length_map, aliveL_len, List.length_map] at this
      exact h0 (List.eq_nil_of_length_eq_zero this)
    obtain ⟨bst, hb⟩ := best_ex hN
    have hC := Clean y z ps b bst M hy hM hk hz hE h0 hb
    have e1 : cleanR b (ps.map (·.2)) = ((aliveL b (ps.map (·.2)))[bst]?.getD []).foldl standL (cutL (ps.map (·.2)) bst) := by
      unfold cleanR
      rw [if_neg (by simpa using h0), bestOf_eq hb]
    rw [e1, if_neg (fun e => h0 (List.eq_nil_of_length_eq_zero e))]
    exact hC
theorem segs_len {v : Value} {ls : List (List Rc)} {M : Mem} (h : Segs v ls M) : lenV v = ls.length ∧ isSl v = true := by
  obtain ⟨qs, h1, h2, h3⟩ := h
  exact ⟨by rw [h1.len, List.length_map, ← h3, List.length_map], h1.sl⟩
theorem cleans (y z : Value) (ps : List (Value × List Rc)) (b : List Bg.It) (M : Mem) (hy : RowM M y 1 (ps.map encV)) (hM : SegM M ps) (hk : ∀ p ∈ ps, okS p.2) (hz : RowM M z 4 (b.map Bg.encT)) :
    Meets Proofs.Try.prog 3 [.v y, .v z] M fun r _ _ => r = .v (.bool true) := by
  refine Meets.of_body [0,1,4,5,6,7,8,9,10,11,12,13,14,30,34,56,57,58,59,76,86,89] Proofs.Try.func3 rfl (by kernel_rfl) rfl fun w => ?_
  have hL := Live y z ps b M hy hM hk hz
  by_cases hE : lookE (ps.map (·.2)) b = 0
  rotate_left
  · have hN : liveN (ps.map (·.2)) b = [] := if_neg hE
    rw [hN] at hL
    simp only [Proofs.Try.f3, shs, zts, sos, sls, zss, eqs, sx, sb1, sb2, sb3, sb4, sb5, sb6, sb7, ↓reduceIte, Nat.reduceAdd, Nat.reduceMul, Nat.reduceDiv, Nat.reduceEqDiff, Nat.reduceLT, Nat.reduceLeDiff, reduceCtorEq, Int.reduceEq, Int.reduceNe, Int.reduceLT, Int.reduceLE, Int.reduceAdd, Int.reduceSub, Int.reduceMul, Int.reduceNeg, Int.reduceToNat, Int.cast_ofNat_Int, Int.natCast_zero, Int.natCast_one, Int.toNat_natCast, Nat.reduceBEq, nzs]
    refine CallK.row (Ctx.fst _) rfl rfl hL fun n M1 hM1 hn => ?_
    have hC := Clean_no y z ps b M1 (hy.le hM1) (hM.le hM1) hk (hz.le hM1) (.inl hE)
    rw [if_pos hE] at hC
    have hnl := hn.len
    have hl0 : lenV (.slice none 0 0) = 0 := rfl
    have hns := hn.sl
    simp only [List.map_nil, List.length_nil] at hnl
    simp only [shs, zts, sos, sls, zss, eqs, sx, sb1, sb2, sb3, sb4, sb5, sb6, sb7, ↓reduceIte, Nat.reduceAdd, Nat.reduceMul, Nat.reduceDiv, Nat.reduceEqDiff, Nat.reduceLT, Nat.reduceLeDiff, reduceCtorEq, Int.reduceEq, Int.reduceNe, Int.reduceLT, Int.reduceLE, Int.reduceAdd, Int.reduceSub, Int.reduceMul, Int.reduceNeg, Int.reduceToNat, Int.cast_ofNat_Int, Int.natCast_zero, Int.natCast_one, Int.toNat_natCast, Nat.reduceBEq, nzs]
    refine CallK.pure ⟨rfl, rfl⟩ rfl hC ?_
    have hS := segs y ps M1 (hy.le hM1) (hM.le hM1) hk
    have hB := Bg.rbag z b M1 (hz.le hM1)
    simp only [shs, zts, sos, sls, zss, eqs, sx, sb1, sb2, sb3, sb4, sb5, sb6, sb7, ↓reduceIte, Nat.reduceAdd, Nat.reduceMul, Nat.reduceDiv, Nat.reduceEqDiff, Nat.reduceLT, Nat.reduceLeDiff, reduceCtorEq, Int.reduceEq, Int.reduceNe, Int.reduceLT, Int.reduceLE, Int.reduceAdd, Int.reduceSub, Int.reduceMul, Int.reduceNeg, Int.reduceToNat, Int.cast_ofNat_Int, Int.natCast_zero, Int.natCast_one, Int.toNat_natCast, Nat.reduceBEq, nzs]
    refine CallK.pure ⟨rfl, rfl⟩ rfl hS ?_
    unfold lookE at hE ⊢
    by_cases h1 : segE (ps.map (·.2)) = 0
    · rw [if_neg (fun h => h h1)] at hE ⊢
      have d1 := eq_false hE
      simp only [shs, zts, sos, sls, zss, eqs, sx, sb1, sb2, sb3, sb4, sb5, sb6, sb7, ↓reduceIte, Nat.reduceAdd, Nat.reduceMul, Nat.reduceDiv, Nat.reduceEqDiff, Nat.reduceLT, Nat.reduceLeDiff, reduceCtorEq, Int.reduceEq, Int.reduceNe, Int.reduceLT, Int.reduceLE, Int.reduceAdd, Int.reduceSub, Int.reduceMul, Int.reduceNeg, Int.reduceToNat, Int.cast_ofNat_Int, Int.natCast_zero, Int.natCast_one, Int.toNat_natCast, Nat.reduceBEq, nzs, h1]
      refine CallK.pure ⟨rfl, rfl⟩ rfl hB ?_
      simp only [shs, zts, sos, sls, zss, eqs, sx, sb1, sb2, sb3, sb4, sb5, sb6, sb7, ↓reduceIte, Nat.reduceAdd, Nat.reduceMul, Nat.reduceDiv, Nat.reduceEqDiff, Nat.reduceLT, Nat.reduceLeDiff, reduceCtorEq, Int.reduceEq, Int.reduceNe, Int.reduceLT, Int.reduceLE, Int.reduceAdd, Int.reduceSub, Int.reduceMul, Int.reduceNeg, Int.reduceToNat, Int.cast_ofNat_Int, Int.natCast_zero, Int.natCast_one, Int.toNat_natCast, Nat.reduceBEq, nzs, d1, hnl, hns, hl0]
    · rw [if_pos h1] at hE ⊢
      have d1 := eq_false h1
      simp only [shs, zts, sos, sls, zss, eqs, sx, sb1, sb2, sb3, sb4, sb5, sb6, sb7, ↓reduceIte, Nat.reduceAdd, Nat.reduceMul, Nat.reduceDiv, Nat.reduceEqDiff, Nat.reduceLT, Nat.reduceLeDiff, reduceCtorEq, Int.reduceEq, Int.reduceNe, Int.reduceLT, Int.reduceLE, Int.reduceAdd, Int.reduceSub, Int.reduceMul, Int.reduceNeg, Int.reduceToNat, Int.cast_ofNat_Int, Int.natCast_zero, Int.natCast_one, Int.toNat_natCast, Nat.reduceBEq, nzs, d1, hnl, hns, hl0]
  obtain ⟨e1, e2⟩ := lookE_ok hE
  obtain ⟨h16, hall⟩ := segE_ok e1
  rw [List.length_map] at h16
  have hN : liveN (ps.map (·.2)) b = (aliveL b (ps.map (·.2))).map fullR := if_pos hE
  rw [hN, hE] at hL
  have hg : ∀ p ∈ ps, goodS p.2 := fun p hp => by
    have := hall p.2 (List.mem_map.2 ⟨p, hp, rfl⟩)
    exact ⟨this.1.2, fun r hr => (this.2.1 r hr).2, this.2.2⟩
  simp only [Proofs.Try.f3, shs, zts, sos, sls, zss, eqs, sx, sb1, sb2, sb3, sb4, sb5, sb6, sb7, ↓reduceIte, Nat.reduceAdd, Nat.reduceMul, Nat.reduceDiv, Nat.reduceEqDiff, Nat.reduceLT, Nat.reduceLeDiff, reduceCtorEq, Int.reduceEq, Int.reduceNe, Int.reduceLT, Int.reduceLE, Int.reduceAdd, Int.reduceSub, Int.reduceMul, Int.reduceNeg, Int.reduceToNat, Int.cast_ofNat_Int, Int.natCast_zero, Int.natCast_one, Int.toNat_natCast, Nat.reduceBEq, nzs]
  refine CallK.row (Ctx.fst _) rfl rfl hL fun n M1 hM1 hn => ?_
  simp only [shs, zts, sos, sls, zss, eqs, sx, sb1, sb2, sb3, sb4, sb5, sb6, sb7, ↓reduceIte, Nat.reduceAdd, Nat.reduceMul, Nat.reduceDiv, Nat.reduceEqDiff, Nat.reduceLT, Nat.reduceLeDiff, reduceCtorEq, Int.reduceEq, Int.reduceNe, Int.reduceLT, Int.reduceLE, Int.reduceAdd, Int.reduceSub, Int.reduceMul, Int.reduceNeg, Int.reduceToNat, Int.cast_ofNat_Int, Int.natCast_zero, Int.natCast_one, Int.toNat_natCast, Nat.reduceBEq, nzs]
  refine CallK.res rfl rfl (R := fun r M' => ∃ u, r = .tup [.v u, .v (.int .i64 (if ps.length = 0 then 4 else 0))] ∧ Segs u (cleanR b (ps.map (·.2))) M') (CleanU y z ps b M1 (hy.le hM1) (hM.le hM1) hk (hz.le hM1) hE) (fun r M' ⟨u, h, _⟩ => by subst h; rfl) fun r M2 hM2 ⟨u, hr, hu⟩ => ?_
  subst hr
  have hM12 := hM1.trans hM2
  have hS := segs y ps M2 (hy.le hM12) (hM.le hM12) hk
  have hB := Bg.rbag z b M2 (hz.le hM12)
  rw [e1] at hS
  rw [e2] at hB
  generalize hfe : (if ps.length = 0 then (4 : Int) else 0) = fe
  simp only [shs, zts, sos, sls, zss, eqs, sx, sb1, sb2, sb3, sb4, sb5, sb6, sb7, ↓reduceIte, Nat.reduceAdd, Nat.reduceMul, Nat.reduceDiv, Nat.reduceEqDiff, Nat.reduceLT, Nat.reduceLeDiff, reduceCtorEq, Int.reduceEq, Int.reduceNe, Int.reduceLT, Int.reduceLE, Int.reduceAdd, Int.reduceSub, Int.reduceMul, Int.reduceNeg, Int.reduceToNat, Int.cast_ofNat_Int, Int.natCast_zero, Int.natCast_one, Int.toNat_natCast, Nat.reduceBEq, nzs]
  refine CallK.pure ⟨rfl, rfl⟩ rfl hS ?_
  simp only [shs, zts, sos, sls, zss, eqs, sx, sb1, sb2, sb3, sb4, sb5, sb6, sb7, ↓reduceIte, Nat.reduceAdd, Nat.reduceMul, Nat.reduceDiv, Nat.reduceEqDiff, Nat.reduceLT, Nat.reduceLeDiff, reduceCtorEq, Int.reduceEq, Int.reduceNe, Int.reduceLT, Int.reduceLE, Int.reduceAdd, Int.reduceSub, Int.reduceMul, Int.reduceNeg, Int.reduceToNat, Int.cast_ofNat_Int, Int.natCast_zero, Int.natCast_one, Int.toNat_natCast, Nat.reduceBEq, nzs]
  refine CallK.pure ⟨rfl, rfl⟩ rfl hB ?_
  simp only [shs, zts, sos, sls, zss, eqs, sx, sb1, sb2, sb3, sb4, sb5, sb6, sb7, ↓reduceIte, Nat.reduceAdd, Nat.reduceMul, Nat.reduceDiv, Nat.reduceEqDiff, Nat.reduceLT, Nat.reduceLeDiff, reduceCtorEq, Int.reduceEq, Int.reduceNe, Int.reduceLT, Int.reduceLE, Int.reduceAdd, Int.reduceSub, Int.reduceMul, Int.reduceNeg, Int.reduceToNat, Int.cast_ofNat_Int, Int.natCast_zero, Int.natCast_one, Int.toNat_natCast, Nat.reduceBEq, nzs]
  refine CallK.res rfl rfl (R := fun r M' => ∃ v es, r = .v v ∧ RowM M' v 1 es ∧ ∃ os : List (Value × List Rc), es = os.map encV ∧ SegM M' os ∧ os.map (·.2) = aliveL b (ps.map (·.2))) (alive y z ps b M2 (hy.le hM12) (hM.le hM12) (hz.le hM12) h16 fun p hp => (hg p hp).1) (fun r M' ⟨v, es, h, _⟩ => by subst h; rfl) fun r M3 hM3 ⟨v, es, hr, hv, os, hes, hos, hosA⟩ => ?_
  subst hr hes
  have hol : os.length = ps.length := by
    have := congrArg List.length hosA
    rw [List.length_map, aliveL_len, List.length_map] at this
    exact this
  have hog : ∀ q ∈ os, goodS q.2 := fun q hq => by
    have hq2 : q.2 ∈ aliveL b (ps.map (·.2)) := by rw [← hosA]; exact List.mem_map.2 ⟨q, hq, rfl⟩
    obtain ⟨i, hi⟩ := List.getElem?_of_mem hq2
    have hil : i < ps.length := by
      have := (List.getElem?_eq_some_iff.1 hi).1
      rw [aliveL_len, List.length_map] at this
      exact this
    obtain ⟨p, hp, _⟩ := l_drop_at (l := ps) (i := i) hil
    rw [aliveL_at b (l := ps.map (·.2)) (s := p.2) (by rw [List.getElem?_map, hp]; rfl), Option.some.injEq] at hi
    have hsub := pick_sub p.2 (liveR b p.2 ((ps.map (·.2)).drop (i + 1)).flatten)
    rw [hi] at hsub
    obtain ⟨k1, k2, k3⟩ := hg p (List.mem_of_getElem? hp)
    have := full_sub hsub
    exact ⟨Nat.le_trans hsub.length_le k1, fun r hr => k2 r (hsub.subset hr), by omega⟩
  rw [← hosA] at hn
  have hN2 : (aliveL b (ps.map (·.2))).map fullR = os.map (fun q => fullR q.2) := by rw [← hosA, List.map_map]; rfl
  simp only [shs, zts, sos, sls, zss, eqs, sx, sb1, sb2, sb3, sb4, sb5, sb6, sb7, ↓reduceIte, Nat.reduceAdd, Nat.reduceMul, Nat.reduceDiv, Nat.reduceEqDiff, Nat.reduceLT, Nat.reduceLeDiff, reduceCtorEq, Int.reduceEq, Int.reduceNe, Int.reduceLT, Int.reduceLE, Int.reduceAdd, Int.reduceSub, Int.reduceMul, Int.reduceNeg, Int.reduceToNat, Int.cast_ofNat_Int, Int.natCast_zero, Int.natCast_one, Int.toNat_natCast, Nat.reduceBEq, nzs, hv.len, hv.sl, List.length_map]
  refine LoopK.nilRow 11 100 1 rfl rfl rfl ?_
  simp only [sx, sb1, sb2, sb3, sb4, sb5, sb6, sb7, ↓reduceIte, Nat.reduceAdd, Nat.reduceMul, Nat.reduceDiv, Nat.reduceEqDiff, Nat.reduceLT, Nat.reduceLeDiff, reduceCtorEq, Int.reduceEq, Int.reduceNe, Int.reduceLT, Int.reduceLE, Int.reduceAdd, Int.reduceSub, Int.reduceMul, Int.reduceNeg, Int.reduceToNat, Int.cast_ofNat_Int, Int.natCast_zero, Int.natCast_one, Int.toNat_natCast, Nat.reduceBEq]
  have hM123 := hM12.trans hM3
  refine LoopK.go (X := Nat × Nat × Nat) (fun x => ([(0, true, .v y), (5, true, .v n), (6, true, .v (.int .i64 0)), (7, true, .v u), (8, true, .v (.int .i64 fe)), (10, true, .v v), (11, true, .own 800), (12, true, .v (.int .i64 x.2.2)), (56, true, .v v), (57, true, .v (.int .i64 os.length)), (58, true, .v (.int .i64 x.2.1))], [(800, .row 1 (((os.take x.2.1).map fun q => fullR q.2).map encN))], M3))
    (fun x => x.1 + x.2.1 = os.length ∧ ((x.2.1 = 0 ∧ x.2.2 = 0) ∨ isBest ((os.take x.2.1).map fun q => fullR q.2) x.2.2)) (fun x => x.1) (os.length, 0, 0) ⟨rfl, .inl ⟨rfl, rfl⟩⟩ (Ent.of ?_) ?_
  · simp only [sx, sb1, sb2, sb3, sb4, sb5, sb6, sb7, ↓reduceIte, Nat.reduceAdd, Nat.reduceMul, Nat.reduceDiv, Nat.reduceEqDiff, Nat.reduceLT, Nat.reduceLeDiff, reduceCtorEq, Int.reduceEq, Int.reduceNe, Int.reduceLT, Int.reduceLE, Int.reduceAdd, Int.reduceSub, Int.reduceMul, Int.reduceNeg, Int.reduceToNat, Int.cast_ofNat_Int, Int.natCast_zero, Int.natCast_one, Int.toNat_natCast, Nat.reduceBEq, List.take_zero, List.map_nil, Int.natCast_zero]
  rintro ⟨f, i, bst⟩ ⟨h1, h2⟩
  simp only at h1 h2
  by_cases hil : i < os.length
  · have c1 : ((i : Int) < (os.length : Int)) = True := eq_true (by omega)
    obtain ⟨q, hq, _⟩ := l_drop_at (l := os) (i := i) hil
    have hqv := hos q (List.mem_of_getElem? hq)
    have hqg := hog q (List.mem_of_getElem? hq)
    have gq := hv.el1 hq rfl
    have iq := hv.ix (i := (i : Int)) (by omega) (by rw [List.length_map]; omega)
    have htk : (os.take (i + 1)).map (fun q => fullR q.2) = (os.take i).map (fun q => fullR q.2) ++ [fullR q.2] := by rw [List.take_add_one, hq, List.map_append]; rfl
    have htl : ((os.take i).map fun q => fullR q.2).length = i := by rw [List.length_map, List.length_take]; omega
    simp only [shs, zts, sos, sls, zss, eqs, sx, sb1, sb2, sb3, sb4, sb5, sb6, sb7, ↓reduceIte, Nat.reduceAdd, Nat.reduceMul, Nat.reduceDiv, Nat.reduceEqDiff, Nat.reduceLT, Nat.reduceLeDiff, reduceCtorEq, Int.reduceEq, Int.reduceNe, Int.reduceLT, Int.reduceLE, Int.reduceAdd, Int.reduceSub, Int.reduceMul, Int.reduceNeg, Int.reduceToNat, Int.cast_ofNat_Int, Int.natCast_zero, Int.natCast_one, Int.toNat_natCast, Nat.reduceBEq, nzs, c1, gq.1, gq.2, iq, iq.2, hqv.one]
    refine CallK.pure ⟨rfl, rfl⟩ rfl (takes q.1 q.2 M3 hqv (by have := hqg.1; omega) hqg.2.1) ?_
    have hnext : ∀ b', ((i = 0 ∧ b' = 0) ∨ (i ≠ 0 ∧ b' = if fullR q.2 < (((os.take i).map fun q => fullR q.2)[bst]?).getD 0 then i else bst)) → isBest ((os.take i).map (fun q => fullR q.2) ++ [fullR q.2]) b' := fun b' hb => by
      rcases hb with ⟨rfl, rfl⟩ | ⟨h0, rfl⟩
      · rw [List.take_zero, List.map_nil, List.nil_append]
        exact best_one _
      · rcases h2 with ⟨h2, _⟩ | h2
        · exact absurd h2 h0
        · have := best_step (x := fullR q.2) h2
          rw [htl] at this
          exact this
    generalize hL : (os.take i).map (fun q => fullR q.2) = L at htl htk hnext h2 ⊢
    have hbl : bst < i + 1 := by
      rcases h2 with ⟨_, h2⟩ | ⟨m, h2, _⟩
      · omega
      · have := (List.getElem?_eq_some_iff.1 h2).1
        omega
    have hLl : (L ++ [fullR q.2]).length = i + 1 := by rw [List.length_append, htl, List.length_singleton]
    have hmap : (L.map encN) ++ [[Value.int .i64 (fullR q.2 : Int)]] = (L ++ [fullR q.2]).map encN := by rw [List.map_append]; rfl
    obtain ⟨x, hx, _⟩ := l_drop_at (l := L ++ [fullR q.2]) (i := bst) (by omega)
    have gx : ((L ++ [fullR q.2]).map encN).getD bst [] = [.int .i64 (x : Int)] := by rw [List.getD_eq_getElem?_getD, List.getElem?_map, hx]; rfl
    have gi : ((L ++ [fullR q.2]).map encN).getD i [] = [.int .i64 (fullR q.2 : Int)] := by
      rw [List.getD_eq_getElem?_getD, List.getElem?_map, List.getElem?_append_right (by omega), htl, Nat.sub_self]
      rfl
    simp only [shs, zts, sos, sls, zss, eqs, sx, sb1, sb2, sb3, sb4, sb5, sb6, sb7, ↓reduceIte, Nat.reduceAdd, Nat.reduceMul, Nat.reduceDiv, Nat.reduceEqDiff, Nat.reduceLT, Nat.reduceLeDiff, reduceCtorEq, Int.reduceEq, Int.reduceNe, Int.reduceLT, Int.reduceLE, Int.reduceAdd, Int.reduceSub, Int.reduceMul, Int.reduceNeg, Int.reduceToNat, Int.cast_ofNat_Int, Int.natCast_zero, Int.natCast_one, Int.toNat_natCast, Nat.reduceBEq, nzs, List.length_map, htl, hmap]
    refine ⟨⟨by omega, by omega⟩, ?_⟩
    refine DrawK.quiet rfl (by kernel_rfl) ?_
    simp only [shs, zts, sos, sls, zss, eqs, sx, sb1, sb2, sb3, sb4, sb5, sb6, sb7, ↓reduceIte, Nat.reduceAdd, Nat.reduceMul, Nat.reduceDiv, Nat.reduceEqDiff, Nat.reduceLT, Nat.reduceLeDiff, reduceCtorEq, Int.reduceEq, Int.reduceNe, Int.reduceLT, Int.reduceLE, Int.reduceAdd, Int.reduceSub, Int.reduceMul, Int.reduceNeg, Int.reduceToNat, Int.cast_ofNat_Int, Int.natCast_zero, Int.natCast_one, Int.toNat_natCast, Nat.reduceBEq, nzs, List.length_map, hLl, gx, gi, List.getD_cons_zero, getSV, inK, lo, hi]
    have hxL : i ≠ 0 → (L[bst]?).getD 0 = x := fun h0 => by
      rcases h2 with ⟨h2, _⟩ | ⟨m, h2, _⟩
      · exact absurd h2 h0
      · rw [List.getElem?_append_left (List.getElem?_eq_some_iff.1 h2).1] at hx
        rw [hx]
        rfl
    have hx0 : i = 0 → x = fullR q.2 := fun h0 => by
      have hb0 : bst = 0 := by omega
      have hL0 : L = [] := List.eq_nil_of_length_eq_zero (by omega)
      subst hb0 hL0
      simp only [List.nil_append, List.getElem?_cons_zero, Option.some.injEq] at hx
      exact hx.symm
    refine ⟨⟨by omega, by omega⟩, by omega, ⟨by omega, by omega⟩, by omega, fun h => ?_, fun h => ?_⟩
    · refine ⟨⟨by omega, by omega⟩, (f - 1, i + 1, i), ⟨⟨by simp only; omega, .inr ?_⟩, by simp only; omega⟩, Ent.rekey 11 100 536 1 _ rfl rfl rfl rfl (Ent.of ?_)⟩
      · simp only
        rw [htk]
        refine hnext i ?_
        have h0 : i ≠ 0 := fun h0 => by have := hx0 h0; omega
        exact .inr ⟨h0, by rw [hxL h0, if_pos (by omega)]⟩
      · simp only [sx, sb1, sb2, sb3, sb4, sb5, sb6, sb7, ↓reduceIte, Nat.reduceAdd, Nat.reduceMul, Nat.reduceDiv, Nat.reduceEqDiff, Nat.reduceLT, Nat.reduceLeDiff, reduceCtorEq, Int.reduceEq, Int.reduceNe, Int.reduceLT, Int.reduceLE, Int.reduceAdd, Int.reduceSub, Int.reduceMul, Int.reduceNeg, Int.reduceToNat, Int.cast_ofNat_Int, Int.natCast_zero, Int.natCast_one, Int.toNat_natCast, Nat.reduceBEq, htk, Int.natCast_add, Int.natCast_one]
    · refine ⟨⟨by omega, by omega⟩, (f - 1, i + 1, bst), ⟨⟨by simp only; omega, .inr ?_⟩, by simp only; omega⟩, Ent.rekey 11 100 536 1 _ rfl rfl rfl rfl (Ent.of ?_)⟩
      · simp only
        rw [htk]
        refine hnext bst ?_
        by_cases h0 : i = 0
        · exact .inl ⟨h0, by omega⟩
        · exact .inr ⟨h0, by rw [hxL h0, if_neg (by omega)]⟩
      · simp only [sx, sb1, sb2, sb3, sb4, sb5, sb6, sb7, ↓reduceIte, Nat.reduceAdd, Nat.reduceMul, Nat.reduceDiv, Nat.reduceEqDiff, Nat.reduceLT, Nat.reduceLeDiff, reduceCtorEq, Int.reduceEq, Int.reduceNe, Int.reduceLT, Int.reduceLE, Int.reduceAdd, Int.reduceSub, Int.reduceMul, Int.reduceNeg, Int.reduceToNat, Int.cast_ofNat_Int, Int.natCast_zero, Int.natCast_one, Int.toNat_natCast, Nat.reduceBEq, htk, Int.natCast_add, Int.natCast_one]
  have c1 : ((i : Int) < (os.length : Int)) = False := eq_false (by omega)
  have htk0 : os.take i = os := List.take_of_length_le (by omega)
  rw [htk0] at h2 ⊢
  have hnN : RowM M1 n 1 ((os.map fun q => fullR q.2).map encN) := by
    have e : (os.map (·.2)).map fullR = os.map fun q => fullR q.2 := by rw [List.map_map]; rfl
    rw [e] at hn
    exact hn
  simp only [shs, zts, sos, sls, zss, eqs, sx, sb1, sb2, sb3, sb4, sb5, sb6, sb7, ↓reduceIte, Nat.reduceAdd, Nat.reduceMul, Nat.reduceDiv, Nat.reduceEqDiff, Nat.reduceLT, Nat.reduceLeDiff, reduceCtorEq, Int.reduceEq, Int.reduceNe, Int.reduceLT, Int.reduceLE, Int.reduceAdd, Int.reduceSub, Int.reduceMul, Int.reduceNeg, Int.reduceToNat, Int.cast_ofNat_Int, Int.natCast_zero, Int.natCast_one, Int.toNat_natCast, Nat.reduceBEq, nzs, c1]
  refine CallK.lend (s := .v (.bool true)) (k := 800) rfl rfl rfl (fun _ => rfl) (fun v4 M4 h4 hv4 => ?_) ?_
  · have := eqN n v4 (os.map fun q => fullR q.2) (os.map fun q => fullR q.2) M4 (hnN.le ((hM2.trans hM3).trans h4)) hv4
    rw [decide_eq_true rfl] at this
    simp only [sp1, sp2, sp3, shs, zts, sos, sls, zss, eqs, sx, sb1, sb2, sb3, sb4, sb5, sb6, sb7, ↓reduceIte, Nat.reduceAdd, Nat.reduceMul, Nat.reduceDiv, Nat.reduceEqDiff, Nat.reduceLT, Nat.reduceLeDiff, reduceCtorEq, Int.reduceEq, Int.reduceNe, Int.reduceLT, Int.reduceLE, Int.reduceAdd, Int.reduceSub, Int.reduceMul, Int.reduceNeg, Int.reduceToNat, Int.cast_ofNat_Int, Int.natCast_zero, Int.natCast_one, Int.toNat_natCast, Nat.reduceBEq]
    exact this
  have hul := segs_len hu
  by_cases h0 : ps.length = 0
  · rw [if_pos h0] at hfe
    subst hfe
    have hps : ps = [] := List.eq_nil_of_length_eq_zero h0
    have hcr : cleanR b (ps.map (·.2)) = [] := by rw [hps]; exact if_pos rfl
    rw [hcr, List.length_nil] at hul
    simp only [shs, zts, sos, sls, zss, eqs, sx, sb1, sb2, sb3, sb4, sb5, sb6, sb7, ↓reduceIte, Nat.reduceAdd, Nat.reduceMul, Nat.reduceDiv, Nat.reduceEqDiff, Nat.reduceLT, Nat.reduceLeDiff, reduceCtorEq, Int.reduceEq, Int.reduceNe, Int.reduceLT, Int.reduceLE, Int.reduceAdd, Int.reduceSub, Int.reduceMul, Int.reduceNeg, Int.reduceToNat, Int.cast_ofNat_Int, Int.natCast_zero, Int.natCast_one, Int.toNat_natCast, Nat.reduceBEq, nzs, hy.len, hy.sl, List.length_map, h0, hul.1, hul.2]
  rw [if_neg h0] at hfe
  subst hfe
  have d1 : ((ps.length : Int) = 0) = False := eq_false (by omega)
  rcases h2 with ⟨h2, _⟩ | h2
  · omega
  have hbl : bst < ps.length := by
    obtain ⟨m, hm, _⟩ := h2
    have := (List.getElem?_eq_some_iff.1 hm).1
    rw [List.length_map] at this
    omega
  have hcr : cleanR b (ps.map (·.2)) = ((aliveL b (ps.map (·.2)))[bst]?.getD []).foldl standL (cutL (ps.map (·.2)) bst) := by
    unfold cleanR
    rw [if_neg (fun e => h0 (by simpa using congrArg List.length e)), hN2, bestOf_eq h2]
  obtain ⟨q, hq, _⟩ := l_drop_at (l := os) (i := bst) (by omega)
  have hqA : (aliveL b (ps.map (·.2)))[bst]? = some q.2 := by rw [← hosA, List.getElem?_map, hq]; rfl
  rw [hcr, hqA, Option.getD_some] at hu
  simp only [shs, zts, sos, sls, zss, eqs, sx, sb1, sb2, sb3, sb4, sb5, sb6, sb7, ↓reduceIte, Nat.reduceAdd, Nat.reduceMul, Nat.reduceDiv, Nat.reduceEqDiff, Nat.reduceLT, Nat.reduceLeDiff, reduceCtorEq, Int.reduceEq, Int.reduceNe, Int.reduceLT, Int.reduceLE, Int.reduceAdd, Int.reduceSub, Int.reduceMul, Int.reduceNeg, Int.reduceToNat, Int.cast_ofNat_Int, Int.natCast_zero, Int.natCast_one, Int.toNat_natCast, Nat.reduceBEq, nzs, hy.len, hy.sl, List.length_map, d1]
  have hqv := hos q (List.mem_of_getElem? hq)
  have hqg := hog q (List.mem_of_getElem? hq)
  have gq := hv.el1 hq rfl
  have iq := hv.ix (i := (bst : Int)) (by omega) (by rw [List.length_map]; omega)
  have hy3 := hy.le hM123
  have hcap := hy3.1.2.2.1
  rw [hy3.len, List.length_map] at hcap
  have s1 := hy3.sub (lo := 0) (hi := bst) (by omega) (by rw [List.length_map]; omega)
  have s2 := hy3.sub (lo := bst + 1) (hi := ps.length) (by omega) (by rw [List.length_map]; omega)
  rw [List.drop_zero, Nat.sub_zero, ← List.map_take] at s1
  rw [← List.map_drop, ← List.map_take, List.take_of_length_le (by rw [List.length_drop]; omega)] at s2
  have ei : ((bst : Int) + 1).toNat = bst + 1 := by omega
  refine DrawK.held [] (tk [0, 1, 2, 3, 4, 5, 7, 8, 13, 14, 6, 9, 15, 10, 16] (.one 11 (.one 12 (.one 17 (.one 18 (tk [19, 20] .done)))))) (by kernel_rfl) (by kernel_rfl) fun xs => ?_
  simp only [shs, zts, sos, sls, zss, eqs, sx, sb1, sb2, sb3, sb4, sb5, sb6, sb7, ↓reduceIte, Nat.reduceAdd, Nat.reduceMul, Nat.reduceDiv, Nat.reduceEqDiff, Nat.reduceLT, Nat.reduceLeDiff, reduceCtorEq, Int.reduceEq, Int.reduceNe, Int.reduceLT, Int.reduceLE, Int.reduceAdd, Int.reduceSub, Int.reduceMul, Int.reduceNeg, Int.reduceToNat, Int.cast_ofNat_Int, Int.natCast_zero, Int.natCast_one, Int.toNat_natCast, Nat.reduceBEq, nzs, se1, se2, tks, hy3.len, hy3.sl, List.length_map, inK, lo, hi, ei, gq.1, gq.2, iq, iq.2, hqv.one]
  refine ⟨⟨by omega, by omega⟩, ⟨by omega, by omega⟩, ⟨⟨by omega, by omega⟩, by omega⟩, ⟨s1.one, s2.one⟩, CallK.pub (k := 864) rfl fun v6 M6 h6 hv6 => ?_⟩
  simp only [shs, zts, sos, sls, zss, eqs, sx, sb1, sb2, sb3, sb4, sb5, sb6, sb7, ↓reduceIte, Nat.reduceAdd, Nat.reduceMul, Nat.reduceDiv, Nat.reduceEqDiff, Nat.reduceLT, Nat.reduceLeDiff, reduceCtorEq, Int.reduceEq, Int.reduceNe, Int.reduceLT, Int.reduceLE, Int.reduceAdd, Int.reduceSub, Int.reduceMul, Int.reduceNeg, Int.reduceToNat, Int.cast_ofNat_Int, Int.natCast_zero, Int.natCast_one, Int.toNat_natCast, Nat.reduceBEq, sp1, sp2, sp3, nzs]
  refine CallK.own Ctx.id rfl rfl (concatS encV v6 [(subV y 1 0 bst, ps.take bst), (subV y 1 (bst + 1) ps.length, ps.drop (bst + 1))] M6 hv6 (fun r hr => ?_) (by simp; omega)) rfl fun M7 h7 => ?_
  · simp only [List.mem_cons, List.not_mem_nil, or_false] at hr
    rcases hr with rfl | rfl
    · exact s1.le h6
    · exact s2.le h6
  have h37 := h6.trans h7
  have hcut : ([(subV y 1 0 bst, ps.take bst), (subV y 1 (bst + 1) ps.length, ps.drop (bst + 1))].flatMap fun x => x.2) = ps.take bst ++ ps.drop (bst + 1) := by simp
  rw [hcut]
  have hcm : (ps.take bst ++ ps.drop (bst + 1)).map (·.2) = cutL (ps.map (·.2)) bst := by rw [List.map_append, List.map_take, List.map_drop]; rfl
  have hcl := cut_len (l := ps.map (·.2)) (i := bst) (by rw [List.length_map]; omega)
  rw [← hcm, List.length_map, List.length_map] at hcl
  have hcg : ∀ p ∈ ps.take bst ++ ps.drop (bst + 1), p ∈ ps := fun p hp => by
    rcases List.mem_append.1 hp with h | h
    · exact List.mem_of_mem_take h
    · exact List.mem_of_mem_drop h
  simp only [shs, zts, sos, sls, zss, eqs, sx, sb1, sb2, sb3, sb4, sb5, sb6, sb7, ↓reduceIte, Nat.reduceAdd, Nat.reduceMul, Nat.reduceDiv, Nat.reduceEqDiff, Nat.reduceLT, Nat.reduceLeDiff, reduceCtorEq, Int.reduceEq, Int.reduceNe, Int.reduceLT, Int.reduceLE, Int.reduceAdd, Int.reduceSub, Int.reduceMul, Int.reduceNeg, Int.reduceToNat, Int.cast_ofNat_Int, Int.natCast_zero, Int.natCast_one, Int.toNat_natCast, Nat.reduceBEq, sp1, sp2, sp3, nzs, se1, se2, tks, h37]
  refine CallK.pub (k := 872) rfl fun v8 M8 h8 hv8 => ?_
  have h38 := h37.trans h8
  simp only [shs, zts, sos, sls, zss, eqs, sx, sb1, sb2, sb3, sb4, sb5, sb6, sb7, ↓reduceIte, Nat.reduceAdd, Nat.reduceMul, Nat.reduceDiv, Nat.reduceEqDiff, Nat.reduceLT, Nat.reduceLeDiff, reduceCtorEq, Int.reduceEq, Int.reduceNe, Int.reduceLT, Int.reduceLE, Int.reduceAdd, Int.reduceSub, Int.reduceMul, Int.reduceNeg, Int.reduceToNat, Int.cast_ofNat_Int, Int.natCast_zero, Int.natCast_one, Int.toNat_natCast, Nat.reduceBEq, sp1, sp2, sp3, nzs]
  refine CallK.res rfl rfl (R := fun r' M' => ∃ u, r' = .v u ∧ Segs u (q.2.foldl standL ((ps.take bst ++ ps.drop (bst + 1)).map (fun p : Value × List Rc => p.2))) M') (stand v8 q.1 (ps.take bst ++ ps.drop (bst + 1)) q.2 M8 hv8 (fun p hp => (hM p (hcg p hp)).le (hM123.trans h38)) (hqv.le h38) (fun p hp => hg p (hcg p hp)) hqg.2.1 (by omega) (by have := hqg.1; omega)) (fun r' M' ⟨u, h, _⟩ => by subst h; rfl) fun r' M9 h9 ⟨u9, hr9, hu9⟩ => ?_
  subst hr9
  rw [hcm] at hu9
  have h39 := h38.trans h9
  simp only [shs, zts, sos, sls, zss, eqs, sx, sb1, sb2, sb3, sb4, sb5, sb6, sb7, ↓reduceIte, Nat.reduceAdd, Nat.reduceMul, Nat.reduceDiv, Nat.reduceEqDiff, Nat.reduceLT, Nat.reduceLeDiff, reduceCtorEq, Int.reduceEq, Int.reduceNe, Int.reduceLT, Int.reduceLE, Int.reduceAdd, Int.reduceSub, Int.reduceMul, Int.reduceNeg, Int.reduceToNat, Int.cast_ofNat_Int, Int.natCast_zero, Int.natCast_one, Int.toNat_natCast, Nat.reduceBEq, sp1, sp2, sp3, nzs, se1, se2, tks, h39]
  refine CallK.pure ⟨rfl, rfl⟩ rfl (sameSegs u u9 _ _ M9 (hu.le (hM3.trans h39)) hu9) ?_
  simp only [shs, zts, sos, sls, zss, eqs, sx, sb1, sb2, sb3, sb4, sb5, sb6, sb7, ↓reduceIte, Nat.reduceAdd, Nat.reduceMul, Nat.reduceDiv, Nat.reduceEqDiff, Nat.reduceLT, Nat.reduceLeDiff, reduceCtorEq, Int.reduceEq, Int.reduceNe, Int.reduceLT, Int.reduceLE, Int.reduceAdd, Int.reduceSub, Int.reduceMul, Int.reduceNeg, Int.reduceToNat, Int.cast_ofNat_Int, Int.natCast_zero, Int.natCast_one, Int.toNat_natCast, Nat.reduceBEq, nzs, se1, se2, tks, h39]
theorem cleansL (a0 : Value × List (Value × List Rc)) (a1 : Value × List Bg.It) (M : Mem)
    (h : RowM M a0.1 1 (a0.2.map encV) ∧ a0.2.length * 24 ≤ reachBytes ∧ ∀ x ∈ a0.2, RowM M x.1 4 (x.2.map encR) ∧ x.2.length * 40 ≤ reachBytes ∧ ∀ q ∈ x.2, ((True ∧ inK .i64 q.1.2.1 ∧ inK .i64 q.1.2.2) ∧ q.2.length ≤ reachBytes))
    (h1 : RowM M a1.1 4 (a1.2.map Bg.encT) ∧ a1.2.length * 40 ≤ reachBytes ∧ ∀ x ∈ a1.2, inK .i64 x.1 ∧ inK .i64 x.2.1 ∧ x.2.2.1.length ≤ reachBytes ∧ inK .i64 x.2.2.2) :
    Meets Proofs.Try.prog 3 [.v a0.1, .v a1.1] M fun r' _ _ => r' = .v (.bool true) :=
  cleans a0.1 a1.1 a0.2 a1.2 M h.1 (fun p hp => (h.2.2 p hp).1) (fun p hp => ⟨by have := (h.2.2 p hp).2.1; unfold reachBytes at this; omega, fun q hq => by have := ((h.2.2 p hp).2.2 q hq).2; unfold reachBytes at this; omega⟩) h1.1
end Go.X.Sg

