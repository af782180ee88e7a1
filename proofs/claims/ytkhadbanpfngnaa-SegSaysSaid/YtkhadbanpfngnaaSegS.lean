/- woolref.Stand, woolref.SameSegs; woollaw.SegSays returns true. Conditions: none. -/
import Derived.Test.YtkhadbanpfngnaaSegL
set_option linter.unusedSimpArgs false
set_option linter.unusedVariables false
set_option maxHeartbeats 4000000
set_option maxRecDepth 20000
namespace Go.X.Sg
open Go Go.X

theorem cloneS (u : Value) (l : List (Value × List Rc)) (M : Mem) (hu : RowM M u 1 (l.map encV)) (hb : l.length ≤ 1000000) :
    Meets Proofs.Try.prog 100 [.v u] M (OwnR (fun s => s) 1 (l.map encV)) := by
  obtain ⟨r1, r2⟩ := hu.rows (by omega)
  cases hs : someV u with
  | true =>
    refine Meets.of_body [0,2,4] Proofs.Try.func100 rfl (by kernel_rfl) rfl fun w => ?_
    simp only [Proofs.Try.f100, shs, zts, sos, sls, zss, eqs, sx, sb1, sb2, sb3, sb4, sb5, ↓reduceIte, Nat.reduceAdd, Nat.reduceMul, Nat.reduceDiv, Nat.reduceEqDiff, Nat.reduceLT, Nat.reduceLeDiff, reduceCtorEq, Int.reduceEq, Int.reduceNe, Int.reduceLT, Int.reduceLE, Int.reduceAdd, Int.reduceSub, Int.reduceMul, Int.reduceNeg, Int.reduceToNat, Int.cast_ofNat_Int, Int.natCast_zero, Int.natCast_one, Int.toNat_natCast, Nat.reduceBEq, hu.sl, hs, r1, List.length_map]
    exact ⟨⟨by omega, r2⟩, 56, rfl, rfl⟩
  | false =>
    have hn : l = [] := by
      cases l with
      | nil => rfl
      | cons a r => have := hu.2.1 (by simp); rw [hs] at this; cases this
    subst hn
    refine Meets.nilOwn ?_
    refine Meets.of_body [0,2,4] Proofs.Try.func100 rfl (by kernel_rfl) rfl fun w => ?_
    simp only [Proofs.Try.f100, shs, zts, sos, sls, zss, eqs, sx, sb1, sb2, sb3, sb4, sb5, ↓reduceIte, Nat.reduceAdd, Nat.reduceMul, Nat.reduceDiv, Nat.reduceEqDiff, Nat.reduceLT, Nat.reduceLeDiff, reduceCtorEq, Int.reduceEq, Int.reduceNe, Int.reduceLT, Int.reduceLE, Int.reduceAdd, Int.reduceSub, Int.reduceMul, Int.reduceNeg, Int.reduceToNat, Int.cast_ofNat_Int, Int.natCast_zero, Int.natCast_one, Int.toNat_natCast, Nat.reduceBEq, hu.sl, hs]


def goodS (s : List Rc) : Prop := s.length ≤ 25 ∧ (∀ r ∈ s, r.2.length ≤ 64) ∧ fullR s ≤ 200
theorem standL_good {l : List (List Rc)} {r : Rc} (hl : ∀ s ∈ l, goodS s) (hr : r.2.length ≤ 64) : ∀ s ∈ standL l r, goodS s := by
  have h1 : goodS [r] := ⟨by simp, fun q hq => by simp at hq; subst hq; exact hr, by simp [fullR, sizeR]; omega⟩
  rcases List.eq_nil_or_concat l with rfl | ⟨ini, s, rfl⟩
  · intro s hs
    rw [standL_nil] at hs
    simp at hs; subst hs; exact h1
  · rw [List.concat_eq_append] at *
    rw [standL_app]
    unfold standR
    split
    · rename_i h
      intro q hq
      rcases List.mem_append.1 hq with hq | hq
      · exact hl q (by simp [hq])
      · simp only [List.mem_singleton] at hq
        subst hq
        obtain ⟨g1, g2, g3⟩ := hl s (by simp)
        have g4 : fullR (s ++ [r]) ≤ 200 := by rw [fullR_app]; simpa [fullR] using h
        refine ⟨?_, fun q hq => ?_, g4⟩
        · have := takes_sum (s ++ [r]); omega
        · rcases List.mem_append.1 hq with hq | hq
          · exact g2 q hq
          · simp at hq; subst hq; exact hr
    · intro q hq
      rcases List.mem_append.1 hq with hq | hq
      · rcases List.mem_append.1 hq with hq | hq
        · exact hl q (by simp [hq])
        · simp at hq; subst hq; exact hl q (by simp)
      · simp at hq; subst hq; exact h1
theorem standL_len (l : List (List Rc)) (r : Rc) : (standL l r).length ≤ l.length + 1 := by
  rcases List.eq_nil_or_concat l with rfl | ⟨ini, s, rfl⟩
  · simp [standL]
  · rw [List.concat_eq_append, standL_app]
    unfold standR
    split <;> simp

theorem stand (y z : Value) (ps : List (Value × List Rc)) (rs : List Rc) (M : Mem) (hy : RowM M y 1 (ps.map encV)) (hM : SegM M ps) (hz : RowM M z 4 (rs.map encR)) (hg : ∀ p ∈ ps, goodS p.2) (hr : ∀ r ∈ rs, r.2.length ≤ 64) (hpl : ps.length ≤ 100) (hrl : rs.length ≤ 100) :
    Meets Proofs.Try.prog 51 [.v y, .v z] M (fun r' _ M' => ∃ u, r' = .v u ∧ Segs u (rs.foldl standL (ps.map (·.2))) M') := by
  suffices h : Meets Proofs.Try.prog 51 [.v y, .v z] M (fun r H M' => ∃ s es, r = s ∧ IsRow H M' s 1 es ∧ ∃ qs : List (Value × List Rc), es = qs.map encV ∧ SegM M' qs ∧ qs.map (·.2) = rs.foldl standL (ps.map (·.2))) by
    refine (Meets.pub (T := fun s => s) Ctx.id (fun es M M' hle ⟨qs, h1, h2, h3⟩ => ⟨qs, h1, h2.le hle, h3⟩) h).mono fun s H M' _ ⟨v, es, h1, h2, qs, h3, h4, h5⟩ => ⟨v, h1, qs, by rw [← h3]; exact h2, h4, h5⟩
  refine Meets.of_body [0,1,4,5,7,8,11,12,13,14,33] Proofs.Try.func51 rfl (by kernel_rfl) rfl fun w => ?_
  generalize hc : rs.foldl standL (ps.map (·.2)) = c
  simp only [Proofs.Try.f51, shs, zts, sos, sls, zss, eqs, sx, sb1, sb2, sb3, sb4, sb5, ↓reduceIte, Nat.reduceAdd, Nat.reduceMul, Nat.reduceDiv, Nat.reduceEqDiff, Nat.reduceLT, Nat.reduceLeDiff, reduceCtorEq, Int.reduceEq, Int.reduceNe, Int.reduceLT, Int.reduceLE, Int.reduceAdd, Int.reduceSub, Int.reduceMul, Int.reduceNeg, Int.reduceToNat, Int.cast_ofNat_Int, Int.natCast_zero, Int.natCast_one, Int.toNat_natCast, Nat.reduceBEq, nzs]
  refine CallK.own Ctx.id rfl rfl (cloneS y ps M hy (by omega)) rfl fun M1 hM1 => ?_
  simp only [shs, zts, sos, sls, zss, eqs, sx, sb1, sb2, sb3, sb4, sb5, ↓reduceIte, Nat.reduceAdd, Nat.reduceMul, Nat.reduceDiv, Nat.reduceEqDiff, Nat.reduceLT, Nat.reduceLeDiff, reduceCtorEq, Int.reduceEq, Int.reduceNe, Int.reduceLT, Int.reduceLE, Int.reduceAdd, Int.reduceSub, Int.reduceMul, Int.reduceNeg, Int.reduceToNat, Int.cast_ofNat_Int, Int.natCast_zero, Int.natCast_one, Int.toNat_natCast, Nat.reduceBEq, nzs, hz.len, hz.sl, List.length_map]
  refine LoopK.go (X := Nat × Nat × List (Value × List Rc) × Mem) (fun x => ([(5, true, .own 80), (11, true, .v z), (12, true, .v (.int .i64 rs.length)), (13, true, .v (.int .i64 x.2.1))], [(80, .row 1 (x.2.2.1.map encV))], x.2.2.2))
    (fun x => ((x.1 + x.2.1 = rs.length ∧ x.2.2.1.length ≤ ps.length + x.2.1) ∧ M.le x.2.2.2) ∧ SegM x.2.2.2 x.2.2.1 ∧ (∀ p ∈ x.2.2.1, goodS p.2) ∧ (rs.drop x.2.1).foldl standL (x.2.2.1.map (·.2)) = c) (fun x => x.1) (rs.length, 0, ps, M1)
    ⟨⟨⟨rfl, by simp⟩, hM1⟩, hM.le hM1, hg, hc⟩ (Ent.of ?_) ?_
  · simp only [sx, sb1, sb2, sb3, sb4, sb5, ↓reduceIte, Nat.reduceAdd, Nat.reduceMul, Nat.reduceDiv, Nat.reduceEqDiff, Nat.reduceLT, Nat.reduceLeDiff, reduceCtorEq, Int.reduceEq, Int.reduceNe, Int.reduceLT, Int.reduceLE, Int.reduceAdd, Int.reduceSub, Int.reduceMul, Int.reduceNeg, Int.reduceToNat, Int.cast_ofNat_Int, Int.natCast_zero, Int.natCast_one, Int.toNat_natCast, Nat.reduceBEq]
  rintro ⟨f, i, qs, M2⟩ ⟨⟨⟨h1, h2⟩, h3⟩, h4, h5, h6⟩
  simp only at h1 h2 h3 h4 h5 h6
  by_cases hil : i < rs.length
  · have c1 : ((i : Int) < (rs.length : Int)) = True := eq_true (by omega)
    obtain ⟨r, hx, hd⟩ := l_drop_at (l := rs) (i := i) hil
    have hzz := hz.le h3
    obtain ⟨⟨⟨g0, o0⟩, g1, o1⟩, ⟨⟨g2, o2⟩, g3, o3⟩, ix⟩ := rec_at hzz hx
    have hr64 := hr r (List.mem_of_getElem? hx)
    rw [hd, List.foldl_cons] at h6
    rcases List.eq_nil_or_concat qs with rfl | ⟨ini, ⟨v, s⟩, rfl⟩
    · have e1 : ((0 : Nat) : Int) - 1 = -1 := rfl
      have i1 : inK .i64 (-1) := i64I (by omega)
      have c0 : (0 ≤ (-1 : Int)) = False := eq_false (by omega)
      simp only [shs, zts, sos, sls, zss, eqs, sx, sb1, sb2, sb3, sb4, sb5, ↓reduceIte, Nat.reduceAdd, Nat.reduceMul, Nat.reduceDiv, Nat.reduceEqDiff, Nat.reduceLT, Nat.reduceLeDiff, reduceCtorEq, Int.reduceEq, Int.reduceNe, Int.reduceLT, Int.reduceLE, Int.reduceAdd, Int.reduceSub, Int.reduceMul, Int.reduceNeg, Int.reduceToNat, Int.cast_ofNat_Int, Int.natCast_zero, Int.natCast_one, Int.toNat_natCast, Nat.reduceBEq, nzs, c1, g0, g1, g2, g3, o0, o1, o2, o3, ix, ix.2, one_int, one_bool, one_string, List.length_map, List.length_nil, e1, i1]
      refine DrawK.ent (X := Unit) (fun _ => True) (fun _ => ([(33, true, .v (.bool false)), (8, true, .v (.int .i64 (-1))), (7, true, .ptr 56 0 0 0), (5, true, .own 80), (11, true, .v z), (12, true, .v (.int .i64 rs.length)), (13, true, .v (.int .i64 i))], [(80, .row 1 []), (56, .box [.v (.bool r.1.1), .v (.int .i64 r.1.2.1), .v (.int .i64 r.1.2.2), .v (.string ⟨r.2.toArray⟩)] none)], M2)) ?_ ?_
      · refine DrawK.held [56] (tk [0, 1, 2, 3, 4, 8, 5, 6, 9] (ones' [7] (tk [10] (ones' [11] (tk [12, 13] .done))))) (by kernel_rfl) (by kernel_rfl) fun xs => ?_
        simp only [shs, zts, sos, sls, zss, eqs, sx, sb1, sb2, sb3, sb4, sb5, ↓reduceIte, Nat.reduceAdd, Nat.reduceMul, Nat.reduceDiv, Nat.reduceEqDiff, Nat.reduceLT, Nat.reduceLeDiff, reduceCtorEq, Int.reduceEq, Int.reduceNe, Int.reduceLT, Int.reduceLE, Int.reduceAdd, Int.reduceSub, Int.reduceMul, Int.reduceNeg, Int.reduceToNat, Int.cast_ofNat_Int, Int.natCast_zero, Int.natCast_one, Int.toNat_natCast, Nat.reduceBEq, nzs, se1, se2, tks, st1, c0, List.map_nil]
        exact ⟨(), Ent.heap (HEnt.untie (k := 56) rfl) (Ent.of (by simp only [sx, sb1, sb2, sb3, sb4, sb5, ↓reduceIte, Nat.reduceAdd, Nat.reduceMul, Nat.reduceDiv, Nat.reduceEqDiff, Nat.reduceLT, Nat.reduceLeDiff, reduceCtorEq, Int.reduceEq, Int.reduceNe, Int.reduceLT, Int.reduceLE, Int.reduceAdd, Int.reduceSub, Int.reduceMul, Int.reduceNeg, Int.reduceToNat, Int.cast_ofNat_Int, Int.natCast_zero, Int.natCast_one, Int.toNat_natCast, Nat.reduceBEq]))⟩
      · intro _ _
        have i2 : inK .i64 ((i : Int) + 1) := i64I (by omega)
        simp only [shs, zts, sos, sls, zss, eqs, sx, sb1, sb2, sb3, sb4, sb5, ↓reduceIte, Nat.reduceAdd, Nat.reduceMul, Nat.reduceDiv, Nat.reduceEqDiff, Nat.reduceLT, Nat.reduceLeDiff, reduceCtorEq, Int.reduceEq, Int.reduceNe, Int.reduceLT, Int.reduceLE, Int.reduceAdd, Int.reduceSub, Int.reduceMul, Int.reduceNeg, Int.reduceToNat, Int.cast_ofNat_Int, Int.natCast_zero, Int.natCast_one, Int.toNat_natCast, Nat.reduceBEq, nzs]
        refine OpK.pub (k := 376) rfl fun v5 M5 hM5 hv5 => OpK.step ?_
        simp only [sp1, sp2, sp3, shs, zts, sos, sls, zss, eqs, sx, sb1, sb2, sb3, sb4, sb5, ↓reduceIte, Nat.reduceAdd, Nat.reduceMul, Nat.reduceDiv, Nat.reduceEqDiff, Nat.reduceLT, Nat.reduceLeDiff, reduceCtorEq, Int.reduceEq, Int.reduceNe, Int.reduceLT, Int.reduceLE, Int.reduceAdd, Int.reduceSub, Int.reduceMul, Int.reduceNeg, Int.reduceToNat, Int.cast_ofNat_Int, Int.natCast_zero, Int.natCast_one, Int.toNat_natCast, Nat.reduceBEq, nzs, st1, hv5.one, i2]
        refine ⟨(f - 1, i + 1, [(v5, [r])], M5), ⟨⟨⟨⟨by simp only; omega, by simp only [List.length_singleton]; omega⟩, h3.trans hM5⟩, fun p hp => by simp at hp; subst hp; exact hv5, fun p hp => by
          simp at hp; subst hp
          exact ⟨by simp, fun q hq => by simp at hq; subst hq; exact hr64, by simp [fullR, sizeR]; omega⟩, h6⟩, by simp only; omega⟩, Ent.rekey 5 10 392 1 _ rfl rfl rfl rfl (Ent.of ?_)⟩
        simp only [sx, sb1, sb2, sb3, sb4, sb5, ↓reduceIte, Nat.reduceAdd, Nat.reduceMul, Nat.reduceDiv, Nat.reduceEqDiff, Nat.reduceLT, Nat.reduceLeDiff, reduceCtorEq, Int.reduceEq, Int.reduceNe, Int.reduceLT, Int.reduceLE, Int.reduceAdd, Int.reduceSub, Int.reduceMul, Int.reduceNeg, Int.reduceToNat, Int.cast_ofNat_Int, Int.natCast_zero, Int.natCast_one, Int.toNat_natCast, Nat.reduceBEq, Int.natCast_add, List.map_nil, List.map_cons, encV]
    · rw [List.concat_eq_append] at *
      rw [List.map_append, List.map_cons, List.map_nil, standL_app] at h6
      have hlc : (ini ++ [(v, s)]).length = ini.length + 1 := by simp
      have hv : RowM M2 v 4 (s.map encR) := h4 (v, s) (by simp)
      obtain ⟨gs1, gs2, gs3⟩ := h5 (v, s) (by simp)
      simp only at gs1 gs2 gs3
      have e1 : ((ini.length + 1 : Nat) : Int) - 1 = (ini.length : Int) := by omega
      have i1 : inK .i64 ((ini.length : Nat) : Int) := i64I (by omega)
      have c0 : (0 ≤ (ini.length : Int)) = True := eq_true (by omega)
      have hg : ((ini ++ [(v, s)]).map encV).getD ini.length [] = [v] := by
        rw [List.getD_eq_getElem?_getD, List.getElem?_map, List.getElem?_append_right (Nat.le_refl _)]
        simp [encV]
      simp only [shs, zts, sos, sls, zss, eqs, sx, sb1, sb2, sb3, sb4, sb5, ↓reduceIte, Nat.reduceAdd, Nat.reduceMul, Nat.reduceDiv, Nat.reduceEqDiff, Nat.reduceLT, Nat.reduceLeDiff, reduceCtorEq, Int.reduceEq, Int.reduceNe, Int.reduceLT, Int.reduceLE, Int.reduceAdd, Int.reduceSub, Int.reduceMul, Int.reduceNeg, Int.reduceToNat, Int.cast_ofNat_Int, Int.natCast_zero, Int.natCast_one, Int.toNat_natCast, Nat.reduceBEq, nzs, c1, g0, g1, g2, g3, o0, o1, o2, o3, ix, ix.2, one_int, one_bool, one_string, List.length_map, hlc, e1, i1]
      have hdec : ((fullR (s ++ [r]) : Int) ≤ 200) = (fullR (s ++ [r]) ≤ 200) := by apply propext; omega
      have hapl : (s ++ [r]).length = s.length + 1 := by simp
      refine DrawK.ent (X := Mem) (fun M' => M2.le M') (fun M' => ([(33, true, .v (.bool (decide (fullR (s ++ [r]) ≤ 200)))), (8, true, .v (.int .i64 ini.length)), (7, true, .ptr 56 0 0 0), (5, true, .own 80), (11, true, .v z), (12, true, .v (.int .i64 rs.length)), (13, true, .v (.int .i64 i))], [(80, .row 1 ((ini ++ [(v, s)]).map encV)), (56, .box [.v (.bool r.1.1), .v (.int .i64 r.1.2.1), .v (.int .i64 r.1.2.2), .v (.string ⟨r.2.toArray⟩)] none)], M')) ?_ ?_
      · refine DrawK.held [56] (tk [0, 1, 2, 3, 4, 8] (.two 5 (.two 6 (.two 7 (ones' [9, 10, 11] (tk [12, 13] .done)) 9 (ones' [7, 10, 11] (tk [12, 13] .done))) 9 (ones' [6, 7, 10, 11] (tk [12, 13] .done))) 9 (ones' [5, 6, 7, 10, 11] (tk [12, 13] .done)))) (by kernel_rfl) (by kernel_rfl) fun xs => ?_
        simp only [shs, zts, sos, sls, zss, eqs, sx, sb1, sb2, sb3, sb4, sb5, ↓reduceIte, Nat.reduceAdd, Nat.reduceMul, Nat.reduceDiv, Nat.reduceEqDiff, Nat.reduceLT, Nat.reduceLeDiff, reduceCtorEq, Int.reduceEq, Int.reduceNe, Int.reduceLT, Int.reduceLE, Int.reduceAdd, Int.reduceSub, Int.reduceMul, Int.reduceNeg, Int.reduceToNat, Int.cast_ofNat_Int, Int.natCast_zero, Int.natCast_one, Int.toNat_natCast, Nat.reduceBEq, nzs, se1, se2, tks, st1, c0, hlc, hg, List.length_map, List.getD_cons_zero]
        and_intros
        all_goals first
          | omega
          | (refine CallK.own Ctx.id rfl rfl (cloneR v s M2 hv (by omega)) rfl fun M3 hM3 => ⟨⟨⟨rfl, trivial⟩, hM3⟩, ?_⟩
             simp only [shs, zts, sos, sls, zss, eqs, sx, sb1, sb2, sb3, sb4, sb5, ↓reduceIte, Nat.reduceAdd, Nat.reduceMul, Nat.reduceDiv, Nat.reduceEqDiff, Nat.reduceLT, Nat.reduceLeDiff, reduceCtorEq, Int.reduceEq, Int.reduceNe, Int.reduceLT, Int.reduceLE, Int.reduceAdd, Int.reduceSub, Int.reduceMul, Int.reduceNeg, Int.reduceToNat, Int.cast_ofNat_Int, Int.natCast_zero, Int.natCast_one, Int.toNat_natCast, Nat.reduceBEq, nzs, se1, se2, tks, st1, List.length_map, hM3]
             refine ⟨by omega, CallK.lend (k := 240) rfl rfl rfl (fun _ => rfl) (fun v4 M4 hM4 hv4 => takes v4 (s ++ [r]) M4 (by rw [List.map_append]; exact hv4) (by omega) (fun q hq => by
               rcases List.mem_append.1 hq with hq | hq
               · exact gs2 q hq
               · simp at hq; subst hq; exact hr64)) ?_⟩
             simp only [shs, zts, sos, sls, zss, eqs, sx, sb1, sb2, sb3, sb4, sb5, ↓reduceIte, Nat.reduceAdd, Nat.reduceMul, Nat.reduceDiv, Nat.reduceEqDiff, Nat.reduceLT, Nat.reduceLeDiff, reduceCtorEq, Int.reduceEq, Int.reduceNe, Int.reduceLT, Int.reduceLE, Int.reduceAdd, Int.reduceSub, Int.reduceMul, Int.reduceNeg, Int.reduceToNat, Int.cast_ofNat_Int, Int.natCast_zero, Int.natCast_one, Int.toNat_natCast, Nat.reduceBEq, nzs, se1, se2, tks, st1, hM3, hdec]
             refine ⟨M3, hM3, Ent.heap (HEnt.untie (k := 56) rfl) (Ent.of ?_)⟩
             simp only [sx, sb1, sb2, sb3, sb4, sb5, ↓reduceIte, Nat.reduceAdd, Nat.reduceMul, Nat.reduceDiv, Nat.reduceEqDiff, Nat.reduceLT, Nat.reduceLeDiff, reduceCtorEq, Int.reduceEq, Int.reduceNe, Int.reduceLT, Int.reduceLE, Int.reduceAdd, Int.reduceSub, Int.reduceMul, Int.reduceNeg, Int.reduceToNat, Int.cast_ofNat_Int, Int.natCast_zero, Int.natCast_one, Int.toNat_natCast, Nat.reduceBEq])
      · intro M3 hM3
        have hv3 := hv.le hM3
        by_cases hF : fullR (s ++ [r]) ≤ 200
        · have d1 : decide (fullR (s ++ [r]) ≤ 200) = true := decide_eq_true hF
          simp only [shs, zts, sos, sls, zss, eqs, sx, sb1, sb2, sb3, sb4, sb5, ↓reduceIte, Nat.reduceAdd, Nat.reduceMul, Nat.reduceDiv, Nat.reduceEqDiff, Nat.reduceLT, Nat.reduceLeDiff, reduceCtorEq, Int.reduceEq, Int.reduceNe, Int.reduceLT, Int.reduceLE, Int.reduceAdd, Int.reduceSub, Int.reduceMul, Int.reduceNeg, Int.reduceToNat, Int.cast_ofNat_Int, Int.natCast_zero, Int.natCast_one, Int.toNat_natCast, Nat.reduceBEq, nzs, d1]
          refine DrawK.ent (X := Mem × Value) (fun x => M3.le x.1 ∧ RowM x.1 x.2 4 ((s ++ [r]).map encR)) (fun x => ([(5, true, .own 80), (11, true, .v z), (12, true, .v (.int .i64 rs.length)), (13, true, .v (.int .i64 i))], [(80, .row 1 ((ini ++ [(x.2, s ++ [r])]).map encV))], x.1)) ?_ ?_
          · refine DrawK.held [56] (tk [0, 1, 2, 3, 7] (.two 4 (.two 5 (.two 6 (ones' [8, 9, 10, 11] .done) 8 (ones' [6, 9, 10, 11] .done)) 8 (ones' [5, 6, 9, 10, 11] .done)) 8 (ones' [4, 5, 6, 9, 10, 11] .done))) (by kernel_rfl) (by kernel_rfl) fun xs => ?_
            simp only [shs, zts, sos, sls, zss, eqs, sx, sb1, sb2, sb3, sb4, sb5, ↓reduceIte, Nat.reduceAdd, Nat.reduceMul, Nat.reduceDiv, Nat.reduceEqDiff, Nat.reduceLT, Nat.reduceLeDiff, reduceCtorEq, Int.reduceEq, Int.reduceNe, Int.reduceLT, Int.reduceLE, Int.reduceAdd, Int.reduceSub, Int.reduceMul, Int.reduceNeg, Int.reduceToNat, Int.cast_ofNat_Int, Int.natCast_zero, Int.natCast_one, Int.toNat_natCast, Nat.reduceBEq, nzs, se1, se2, tks, st1, c0, hlc, hg, List.length_map, List.getD_cons_zero]
            and_intros
            all_goals first
              | omega
              | (refine CallK.own Ctx.id rfl rfl (cloneR v s M3 hv3 (by omega)) rfl fun M4 hM4 => ⟨⟨⟨rfl, trivial⟩, hM4⟩, ?_⟩
                 simp only [shs, zts, sos, sls, zss, eqs, sx, sb1, sb2, sb3, sb4, sb5, ↓reduceIte, Nat.reduceAdd, Nat.reduceMul, Nat.reduceDiv, Nat.reduceEqDiff, Nat.reduceLT, Nat.reduceLeDiff, reduceCtorEq, Int.reduceEq, Int.reduceNe, Int.reduceLT, Int.reduceLE, Int.reduceAdd, Int.reduceSub, Int.reduceMul, Int.reduceNeg, Int.reduceToNat, Int.cast_ofNat_Int, Int.natCast_zero, Int.natCast_one, Int.toNat_natCast, Nat.reduceBEq, nzs, se1, se2, tks, st1, List.length_map, hlc, hM4]
                 refine ⟨by omega, by omega, OpK.pub (k := 344) rfl fun v5 M5 hM5 hv5 => OpK.step ?_⟩
                 have hM35 := hM4.trans hM5
                 have hset : ((ini ++ [(v, s)]).map encV).set ini.length [v5] = (ini ++ [(v5, s ++ [r])]).map encV := by
                   rw [List.map_append, List.set_append_right _ _ (by simp), List.map_append]
                   simp [encV]
                 simp only [sp1, sp2, sp3, shs, zts, sos, sls, zss, eqs, sx, sb1, sb2, sb3, sb4, sb5, ↓reduceIte, Nat.reduceAdd, Nat.reduceMul, Nat.reduceDiv, Nat.reduceEqDiff, Nat.reduceLT, Nat.reduceLeDiff, reduceCtorEq, Int.reduceEq, Int.reduceNe, Int.reduceLT, Int.reduceLE, Int.reduceAdd, Int.reduceSub, Int.reduceMul, Int.reduceNeg, Int.reduceToNat, Int.cast_ofNat_Int, Int.natCast_zero, Int.natCast_one, Int.toNat_natCast, Nat.reduceBEq, nzs, se1, se2, tks, st1, hv5.one, hlc, List.length_map, hM35, hset]
                 refine ⟨by omega, (M5, v5), ⟨hM35, by rw [List.map_append]; exact hv5⟩, Ent.of ?_⟩
                 simp only [sx, sb1, sb2, sb3, sb4, sb5, ↓reduceIte, Nat.reduceAdd, Nat.reduceMul, Nat.reduceDiv, Nat.reduceEqDiff, Nat.reduceLT, Nat.reduceLeDiff, reduceCtorEq, Int.reduceEq, Int.reduceNe, Int.reduceLT, Int.reduceLE, Int.reduceAdd, Int.reduceSub, Int.reduceMul, Int.reduceNeg, Int.reduceToNat, Int.cast_ofNat_Int, Int.natCast_zero, Int.natCast_one, Int.toNat_natCast, Nat.reduceBEq])
          · rintro ⟨M4, v4⟩ ⟨hM4, hv4⟩
            simp only at hM4 hv4
            have i2 : inK .i64 ((i : Int) + 1) := i64I (by omega)
            have hst : standR (ini.map (·.2)) s r = (ini ++ [(v4, s ++ [r])]).map (·.2) := by
              unfold standR
              rw [if_pos (by rw [fullR_app] at hF; simpa [fullR] using hF)]
              simp
            simp only [shs, zts, sos, sls, zss, eqs, sx, sb1, sb2, sb3, sb4, sb5, ↓reduceIte, Nat.reduceAdd, Nat.reduceMul, Nat.reduceDiv, Nat.reduceEqDiff, Nat.reduceLT, Nat.reduceLeDiff, reduceCtorEq, Int.reduceEq, Int.reduceNe, Int.reduceLT, Int.reduceLE, Int.reduceAdd, Int.reduceSub, Int.reduceMul, Int.reduceNeg, Int.reduceToNat, Int.cast_ofNat_Int, Int.natCast_zero, Int.natCast_one, Int.toNat_natCast, Nat.reduceBEq, nzs, i2]
            have hgn := standL_good (l := (ini ++ [(v, s)]).map (·.2)) (r := r) (fun q hq => by obtain ⟨p, hp, rfl⟩ := List.mem_map.1 hq; exact h5 p hp) hr64
            rw [List.map_append, List.map_cons, List.map_nil, standL_app, hst] at hgn
            rw [hst] at h6
            refine ⟨(f - 1, i + 1, ini ++ [(v4, s ++ [r])], M4), ⟨⟨⟨⟨by simp only; omega, by simp only [List.length_append, List.length_singleton]; omega⟩, (h3.trans hM3).trans hM4⟩, fun p hp => ?_, fun p hp => hgn p.2 (List.mem_map.2 ⟨p, hp, rfl⟩), h6⟩, by simp only; omega⟩, Ent.of ?_⟩
            · rcases List.mem_append.1 hp with hp | hp
              · exact (h4 p (by simp [hp])).le (hM3.trans hM4)
              · simp at hp; subst hp; exact hv4
            · simp only [sx, sb1, sb2, sb3, sb4, sb5, ↓reduceIte, Nat.reduceAdd, Nat.reduceMul, Nat.reduceDiv, Nat.reduceEqDiff, Nat.reduceLT, Nat.reduceLeDiff, reduceCtorEq, Int.reduceEq, Int.reduceNe, Int.reduceLT, Int.reduceLE, Int.reduceAdd, Int.reduceSub, Int.reduceMul, Int.reduceNeg, Int.reduceToNat, Int.cast_ofNat_Int, Int.natCast_zero, Int.natCast_one, Int.toNat_natCast, Nat.reduceBEq, Int.natCast_add]
        · have d1 : decide (fullR (s ++ [r]) ≤ 200) = false := decide_eq_false hF
          have i2 : inK .i64 ((i : Int) + 1) := i64I (by omega)
          simp only [shs, zts, sos, sls, zss, eqs, sx, sb1, sb2, sb3, sb4, sb5, ↓reduceIte, Nat.reduceAdd, Nat.reduceMul, Nat.reduceDiv, Nat.reduceEqDiff, Nat.reduceLT, Nat.reduceLeDiff, reduceCtorEq, Int.reduceEq, Int.reduceNe, Int.reduceLT, Int.reduceLE, Int.reduceAdd, Int.reduceSub, Int.reduceMul, Int.reduceNeg, Int.reduceToNat, Int.cast_ofNat_Int, Int.natCast_zero, Int.natCast_one, Int.toNat_natCast, Nat.reduceBEq, nzs, d1]
          refine OpK.pub (k := 376) rfl fun v5 M5 hM5 hv5 => OpK.step ?_
          simp only [sp1, sp2, sp3, shs, zts, sos, sls, zss, eqs, sx, sb1, sb2, sb3, sb4, sb5, ↓reduceIte, Nat.reduceAdd, Nat.reduceMul, Nat.reduceDiv, Nat.reduceEqDiff, Nat.reduceLT, Nat.reduceLeDiff, reduceCtorEq, Int.reduceEq, Int.reduceNe, Int.reduceLT, Int.reduceLE, Int.reduceAdd, Int.reduceSub, Int.reduceMul, Int.reduceNeg, Int.reduceToNat, Int.cast_ofNat_Int, Int.natCast_zero, Int.natCast_one, Int.toNat_natCast, Nat.reduceBEq, nzs, st1, hv5.one, hlc, List.length_map, i2]
          have hst : standR (ini.map (·.2)) s r = (ini ++ [(v, s)] ++ [(v5, [r])]).map (·.2) := by
            unfold standR
            rw [if_neg (by rw [fullR_app] at hF; simpa [fullR] using hF)]
            simp
          have hgn := standL_good (l := (ini ++ [(v, s)]).map (·.2)) (r := r) (fun q hq => by obtain ⟨p, hp, rfl⟩ := List.mem_map.1 hq; exact h5 p hp) hr64
          rw [List.map_append, List.map_cons, List.map_nil, standL_app, hst] at hgn
          rw [hst] at h6
          refine ⟨⟨by omega, by omega⟩, (f - 1, i + 1, ini ++ [(v, s)] ++ [(v5, [r])], M5), ⟨⟨⟨⟨by simp only; omega, by simp only [List.length_append, List.length_singleton]; simp at h2; omega⟩, (h3.trans hM3).trans hM5⟩, fun p hp => ?_, fun p hp => hgn p.2 (List.mem_map.2 ⟨p, hp, rfl⟩), h6⟩, by simp only; omega⟩, Ent.rekey 5 10 392 1 _ rfl rfl rfl rfl (Ent.of ?_)⟩
          · rcases List.mem_append.1 hp with hp | hp
            · exact (h4 p hp).le (hM3.trans hM5)
            · simp at hp; subst hp; exact hv5
          · simp only [sx, sb1, sb2, sb3, sb4, sb5, ↓reduceIte, Nat.reduceAdd, Nat.reduceMul, Nat.reduceDiv, Nat.reduceEqDiff, Nat.reduceLT, Nat.reduceLeDiff, reduceCtorEq, Int.reduceEq, Int.reduceNe, Int.reduceLT, Int.reduceLE, Int.reduceAdd, Int.reduceSub, Int.reduceMul, Int.reduceNeg, Int.reduceToNat, Int.cast_ofNat_Int, Int.natCast_zero, Int.natCast_one, Int.toNat_natCast, Nat.reduceBEq, Int.natCast_add, List.map_append, encV]
  · have c1 : ((i : Int) < (rs.length : Int)) = False := eq_false (by omega)
    have hd : rs.drop i = [] := List.drop_eq_nil_of_le (by omega)
    rw [hd, List.foldl_nil] at h6
    simp only [shs, zts, sos, sls, zss, eqs, sx, sb1, sb2, sb3, sb4, sb5, ↓reduceIte, Nat.reduceAdd, Nat.reduceMul, Nat.reduceDiv, Nat.reduceEqDiff, Nat.reduceLT, Nat.reduceLeDiff, reduceCtorEq, Int.reduceEq, Int.reduceNe, Int.reduceLT, Int.reduceLE, Int.reduceAdd, Int.reduceSub, Int.reduceMul, Int.reduceNeg, Int.reduceToNat, Int.cast_ofNat_Int, Int.natCast_zero, Int.natCast_one, Int.toNat_natCast, Nat.reduceBEq, nzs, c1]
    exact ⟨.own 80, _, rfl, rfl, qs, rfl, h4, h6⟩

/-! ### are they the same? -/
theorem eqClo (x y : Value) (l m : List Rc) (M : Mem) (hx : RowM M x 4 (l.map encR)) (hy : RowM M y 4 (m.map encR)) :
    Meets Proofs.Try.prog 103 [.v x, .v y] M fun r _ _ => r = .v (.bool (decide (l = m))) := by
  refine Meets.of_body [0,1,4] Proofs.Try.func103 rfl (by kernel_rfl) rfl fun w => ?_
  simp only [Proofs.Try.f103, shs, zts, sos, sls, zss, eqs, sx, sb1, sb2, sb3, sb4, sb5, ↓reduceIte, Nat.reduceAdd, Nat.reduceMul, Nat.reduceDiv, Nat.reduceEqDiff, Nat.reduceLT, Nat.reduceLeDiff, reduceCtorEq, Int.reduceEq, Int.reduceNe, Int.reduceLT, Int.reduceLE, Int.reduceAdd, Int.reduceSub, Int.reduceMul, Int.reduceNeg, Int.reduceToNat, Int.cast_ofNat_Int, Int.natCast_zero, Int.natCast_one, Int.toNat_natCast, Nat.reduceBEq, nzs]
  refine CallK.pure ⟨rfl, rfl⟩ rfl (eqR x y l m M hx hy) ?_
  simp only [shs, zts, sos, sls, zss, eqs, sx, sb1, sb2, sb3, sb4, sb5, ↓reduceIte, Nat.reduceAdd, Nat.reduceMul, Nat.reduceDiv, Nat.reduceEqDiff, Nat.reduceLT, Nat.reduceLeDiff, reduceCtorEq, Int.reduceEq, Int.reduceNe, Int.reduceLT, Int.reduceLE, Int.reduceAdd, Int.reduceSub, Int.reduceMul, Int.reduceNeg, Int.reduceToNat, Int.cast_ofNat_Int, Int.natCast_zero, Int.natCast_one, Int.toNat_natCast, Nat.reduceBEq]
theorem eqFunc (x y : Value) (l m : List (Value × List Rc)) (M : Mem) (hx : RowM M x 1 (l.map encV)) (hy : RowM M y 1 (m.map encV)) (hl : SegM M l) (hm : SegM M m) :
    Meets Proofs.Try.prog 102 [.v x, .v y, .fn 103 []] M fun r _ _ => r = .v (.bool (decide (l.map (·.2) = m.map (·.2)))) := by
  refine Meets.of_body [0,1,2,6,7,8,9,14,15,16,17,18,30] Proofs.Try.func102 rfl (by kernel_rfl) rfl fun w => ?_
  simp only [Proofs.Try.f102, shs, zts, sos, sls, zss, eqs, sx, sb1, sb2, sb3, sb4, sb5, ↓reduceIte, Nat.reduceAdd, Nat.reduceMul, Nat.reduceDiv, Nat.reduceEqDiff, Nat.reduceLT, Nat.reduceLeDiff, reduceCtorEq, Int.reduceEq, Int.reduceNe, Int.reduceLT, Int.reduceLE, Int.reduceAdd, Int.reduceSub, Int.reduceMul, Int.reduceNeg, Int.reduceToNat, Int.cast_ofNat_Int, Int.natCast_zero, Int.natCast_one, Int.toNat_natCast, Nat.reduceBEq, nzs, hx.len, hy.len, hx.sl, hy.sl, List.length_map]
  refine ⟨fun h => ?_, fun h => ?_⟩
  · rw [decide_eq_false (fun e => h (by have := congrArg List.length e; simp at this; omega))]
  have hlen : l.length = m.length := by omega
  have hle := hx.len_le
  rw [List.length_map] at hle
  refine LoopK.go (X := Nat × Nat) (fun p => ([(1, true, .v y), (2, true, .fn 103 []), (15, true, .v x), (16, true, .v (.int .i64 l.length)), (17, true, .v (.int .i64 p.2))], [], M))
    (fun p => p.1 + p.2 = l.length ∧ (l.map (·.2) = m.map (·.2) ↔ (l.drop p.2).map (·.2) = (m.drop p.2).map (·.2))) (fun p => p.1) (l.length, 0) ⟨rfl, Iff.rfl⟩ (Ent.of ?_) ?_
  · simp only [sx, sb1, sb2, sb3, sb4, sb5, ↓reduceIte, Nat.reduceAdd, Nat.reduceMul, Nat.reduceDiv, Nat.reduceEqDiff, Nat.reduceLT, Nat.reduceLeDiff, reduceCtorEq, Int.reduceEq, Int.reduceNe, Int.reduceLT, Int.reduceLE, Int.reduceAdd, Int.reduceSub, Int.reduceMul, Int.reduceNeg, Int.reduceToNat, Int.cast_ofNat_Int, Int.natCast_zero, Int.natCast_one, Int.toNat_natCast, Nat.reduceBEq]
  rintro ⟨f, i⟩ ⟨h1, h2⟩
  simp only at h1 h2
  by_cases hil : i < l.length
  · have c1 : ((i : Int) < (l.length : Int)) = True := eq_true (by omega)
    obtain ⟨⟨v1, s1⟩, hl1, hd⟩ := l_drop_at (l := l) (i := i) hil
    obtain ⟨⟨v2, s2⟩, hm1, hd2⟩ := l_drop_at (l := m) (i := i) (by omega)
    have g1 := hx.el1 hl1 rfl
    have g2 := hy.el1 hm1 rfl
    have i1 := hx.ix (i := (i : Int)) (by omega) (by rw [List.length_map]; omega)
    have i2 := hy.ix (i := (i : Int)) (by omega) (by rw [List.length_map]; omega)
    have r1 : RowM M v1 4 (s1.map encR) := hl (v1, s1) (List.mem_of_getElem? hl1)
    have r2 : RowM M v2 4 (s2.map encR) := hm (v2, s2) (List.mem_of_getElem? hm1)
    have i3 : inK .i64 ((i : Int) + 1) := i64I (by omega)
    rw [hd, hd2, List.map_cons, List.map_cons] at h2
    simp only [shs, zts, sos, sls, zss, eqs, sx, sb1, sb2, sb3, sb4, sb5, ↓reduceIte, Nat.reduceAdd, Nat.reduceMul, Nat.reduceDiv, Nat.reduceEqDiff, Nat.reduceLT, Nat.reduceLeDiff, reduceCtorEq, Int.reduceEq, Int.reduceNe, Int.reduceLT, Int.reduceLE, Int.reduceAdd, Int.reduceSub, Int.reduceMul, Int.reduceNeg, Int.reduceToNat, Int.cast_ofNat_Int, Int.natCast_zero, Int.natCast_one, Int.toNat_natCast, Nat.reduceBEq, nzs, c1, g1.1, g1.2, g2.1, g2.2, i1, i1.2, i2, i2.2, r1.one, r2.one, i3]
    refine CallK.pure ⟨rfl, rfl⟩ rfl (eqClo v1 v2 s1 s2 M r1 r2) ?_
    by_cases he : s1 = s2
    · have d1 : decide (s1 = s2) = true := decide_eq_true he
      simp only [shs, zts, sos, sls, zss, eqs, sx, sb1, sb2, sb3, sb4, sb5, ↓reduceIte, Nat.reduceAdd, Nat.reduceMul, Nat.reduceDiv, Nat.reduceEqDiff, Nat.reduceLT, Nat.reduceLeDiff, reduceCtorEq, Int.reduceEq, Int.reduceNe, Int.reduceLT, Int.reduceLE, Int.reduceAdd, Int.reduceSub, Int.reduceMul, Int.reduceNeg, Int.reduceToNat, Int.cast_ofNat_Int, Int.natCast_zero, Int.natCast_one, Int.toNat_natCast, Nat.reduceBEq, nzs, d1, i3]
      refine ⟨(f - 1, i + 1), ⟨⟨by simp only; omega, ?_⟩, by simp only; omega⟩, Ent.of ?_⟩
      · simp only
        rw [h2, he]
        exact ⟨fun e => (List.cons.inj e).2, fun e => by rw [e]⟩
      · simp only [sx, sb1, sb2, sb3, sb4, sb5, ↓reduceIte, Nat.reduceAdd, Nat.reduceMul, Nat.reduceDiv, Nat.reduceEqDiff, Nat.reduceLT, Nat.reduceLeDiff, reduceCtorEq, Int.reduceEq, Int.reduceNe, Int.reduceLT, Int.reduceLE, Int.reduceAdd, Int.reduceSub, Int.reduceMul, Int.reduceNeg, Int.reduceToNat, Int.cast_ofNat_Int, Int.natCast_zero, Int.natCast_one, Int.toNat_natCast, Nat.reduceBEq, Int.natCast_add]
    · have d1 : decide (s1 = s2) = false := decide_eq_false he
      have d2 : decide (l.map (·.2) = m.map (·.2)) = false := decide_eq_false (fun e => he (List.cons.inj (h2.1 e)).1)
      simp only [shs, zts, sos, sls, zss, eqs, sx, sb1, sb2, sb3, sb4, sb5, ↓reduceIte, Nat.reduceAdd, Nat.reduceMul, Nat.reduceDiv, Nat.reduceEqDiff, Nat.reduceLT, Nat.reduceLeDiff, reduceCtorEq, Int.reduceEq, Int.reduceNe, Int.reduceLT, Int.reduceLE, Int.reduceAdd, Int.reduceSub, Int.reduceMul, Int.reduceNeg, Int.reduceToNat, Int.cast_ofNat_Int, Int.natCast_zero, Int.natCast_one, Int.toNat_natCast, Nat.reduceBEq, nzs, d1, d2]
  · have c1 : ((i : Int) < (l.length : Int)) = False := eq_false (by omega)
    have d2 : decide (l.map (·.2) = m.map (·.2)) = true := decide_eq_true (h2.2 (by rw [List.drop_eq_nil_of_le (by omega), List.drop_eq_nil_of_le (by omega)]))
    simp only [shs, zts, sos, sls, zss, eqs, sx, sb1, sb2, sb3, sb4, sb5, ↓reduceIte, Nat.reduceAdd, Nat.reduceMul, Nat.reduceDiv, Nat.reduceEqDiff, Nat.reduceLT, Nat.reduceLeDiff, reduceCtorEq, Int.reduceEq, Int.reduceNe, Int.reduceLT, Int.reduceLE, Int.reduceAdd, Int.reduceSub, Int.reduceMul, Int.reduceNeg, Int.reduceToNat, Int.cast_ofNat_Int, Int.natCast_zero, Int.natCast_one, Int.toNat_natCast, Nat.reduceBEq, nzs, c1, d2]
theorem sameSegs (x y : Value) (l m : List (List Rc)) (M : Mem) (hx : Segs x l M) (hy : Segs y m M) :
    Meets Proofs.Try.prog 52 [.v x, .v y] M fun r _ _ => r = .v (.bool (decide (l = m))) := by
  obtain ⟨ps, h1, h2, rfl⟩ := hx
  obtain ⟨qs, h3, h4, rfl⟩ := hy
  refine Meets.of_body [0,1,4] Proofs.Try.func52 rfl (by kernel_rfl) rfl fun w => ?_
  simp only [Proofs.Try.f52, shs, zts, sos, sls, zss, eqs, sx, sb1, sb2, sb3, sb4, sb5, ↓reduceIte, Nat.reduceAdd, Nat.reduceMul, Nat.reduceDiv, Nat.reduceEqDiff, Nat.reduceLT, Nat.reduceLeDiff, reduceCtorEq, Int.reduceEq, Int.reduceNe, Int.reduceLT, Int.reduceLE, Int.reduceAdd, Int.reduceSub, Int.reduceMul, Int.reduceNeg, Int.reduceToNat, Int.cast_ofNat_Int, Int.natCast_zero, Int.natCast_one, Int.toNat_natCast, Nat.reduceBEq, nzs]
  refine CallK.pure ⟨rfl, rfl⟩ rfl (eqFunc x y ps qs M h1 h3 h2 h4) ?_
  simp only [shs, zts, sos, sls, zss, eqs, sx, sb1, sb2, sb3, sb4, sb5, ↓reduceIte, Nat.reduceAdd, Nat.reduceMul, Nat.reduceDiv, Nat.reduceEqDiff, Nat.reduceLT, Nat.reduceLeDiff, reduceCtorEq, Int.reduceEq, Int.reduceNe, Int.reduceLT, Int.reduceLE, Int.reduceAdd, Int.reduceSub, Int.reduceMul, Int.reduceNeg, Int.reduceToNat, Int.cast_ofNat_Int, Int.natCast_zero, Int.natCast_one, Int.toNat_natCast, Nat.reduceBEq]

theorem says (y : Value) (ps : List (Value × List Rc)) (r : Rc) (M : Mem) (hy : RowM M y 1 (ps.map encV)) (hM : SegM M ps) (hk : ∀ p ∈ ps, okS p.2) (hr0 : r.2.length ≤ 140737488351232) :
    Meets Proofs.Try.prog 11 [.v y, recV r] M fun r' _ _ => r' = .v (.bool true) := by
  refine Meets.of_body [0,1,3,4,5,6,7,8,25,27,33,48] Proofs.Try.func11 rfl (by kernel_rfl) rfl fun w => ?_
  simp only [Proofs.Try.f11, recV, shs, zts, sos, sls, zss, eqs, sx, sb1, sb2, sb3, sb4, sb5, ↓reduceIte, Nat.reduceAdd, Nat.reduceMul, Nat.reduceDiv, Nat.reduceEqDiff, Nat.reduceLT, Nat.reduceLeDiff, reduceCtorEq, Int.reduceEq, Int.reduceNe, Int.reduceLT, Int.reduceLE, Int.reduceAdd, Int.reduceSub, Int.reduceMul, Int.reduceNeg, Int.reduceToNat, Int.cast_ofNat_Int, Int.natCast_zero, Int.natCast_one, Int.toNat_natCast, Nat.reduceBEq, nzs]
  refine CallK.res rfl rfl (R := fun r' M' => ∃ u, r' = .tup [.v u, .v (.int .i64 (putE (ps.map (fun p : Value × List Rc => p.2)) r))] ∧ Segs u (putL (ps.map (fun p : Value × List Rc => p.2)) r) M') (Put y ps r M hy hM hk hr0) (fun r' M' ⟨u, h, _⟩ => by subst h; rfl) fun r' M1 hM1 ⟨u, hr', hu⟩ => ?_
  subst hr'
  have hy1 := hy.le hM1
  have hM1' := hM.le hM1
  simp only [shs, zts, sos, sls, zss, eqs, sx, sb1, sb2, sb3, sb4, sb5, ↓reduceIte, Nat.reduceAdd, Nat.reduceMul, Nat.reduceDiv, Nat.reduceEqDiff, Nat.reduceLT, Nat.reduceLeDiff, reduceCtorEq, Int.reduceEq, Int.reduceNe, Int.reduceLT, Int.reduceLE, Int.reduceAdd, Int.reduceSub, Int.reduceMul, Int.reduceNeg, Int.reduceToNat, Int.cast_ofNat_Int, Int.natCast_zero, Int.natCast_one, Int.toNat_natCast, Nat.reduceBEq, nzs]
  refine CallK.pure ⟨rfl, rfl⟩ rfl (segs y ps M1 hy1 hM1' hk) ?_
  simp only [shs, zts, sos, sls, zss, eqs, sx, sb1, sb2, sb3, sb4, sb5, ↓reduceIte, Nat.reduceAdd, Nat.reduceMul, Nat.reduceDiv, Nat.reduceEqDiff, Nat.reduceLT, Nat.reduceLeDiff, reduceCtorEq, Int.reduceEq, Int.reduceNe, Int.reduceLT, Int.reduceLE, Int.reduceAdd, Int.reduceSub, Int.reduceMul, Int.reduceNeg, Int.reduceToNat, Int.cast_ofNat_Int, Int.natCast_zero, Int.natCast_one, Int.toNat_natCast, Nat.reduceBEq, nzs]
  refine CallK.pure ⟨rfl, rfl⟩ rfl (check y ps M1 hy1 hM1' hk) ?_
  simp only [shs, zts, sos, sls, zss, eqs, sx, sb1, sb2, sb3, sb4, sb5, ↓reduceIte, Nat.reduceAdd, Nat.reduceMul, Nat.reduceDiv, Nat.reduceEqDiff, Nat.reduceLT, Nat.reduceLeDiff, reduceCtorEq, Int.reduceEq, Int.reduceNe, Int.reduceLT, Int.reduceLE, Int.reduceAdd, Int.reduceSub, Int.reduceMul, Int.reduceNeg, Int.reduceToNat, Int.cast_ofNat_Int, Int.natCast_zero, Int.natCast_one, Int.toNat_natCast, Nat.reduceBEq, nzs]
  refine CallK.lend (s := .v (.int .i64 3)) (k := 176) rfl rfl rfl (fun _ => rfl) (fun v3 M3 hM3 hv3 => check v3 [(.slice none 0 0, [])] M3 hv3 (fun p hp => by simp at hp; subst hp; exact RowM.nil _ _) (fun p hp => by simp at hp; subst hp; exact ⟨by simp, fun q hq => by simp at hq⟩)) ?_
  have hul : ∃ qs : List (Value × List Rc), lenV u = qs.length ∧ isSl u = true ∧ qs.map (·.2) = putL (ps.map (·.2)) r := by
    obtain ⟨qs, h1, h2, h3⟩ := hu
    exact ⟨qs, by rw [h1.len, List.length_map], h1.sl, h3⟩
  obtain ⟨qs, hul1, hul2, hul3⟩ := hul
  have hql : qs.length = (putL (ps.map (·.2)) r).length := by rw [← hul3, List.length_map]
  by_cases e1 : segE (ps.map (·.2)) = 0
  · obtain ⟨h16, hall⟩ := segE_ok e1
    rw [List.length_map] at h16
    simp only [shs, zts, sos, sls, zss, eqs, sx, sb1, sb2, sb3, sb4, sb5, ↓reduceIte, Nat.reduceAdd, Nat.reduceMul, Nat.reduceDiv, Nat.reduceEqDiff, Nat.reduceLT, Nat.reduceLeDiff, reduceCtorEq, Int.reduceEq, Int.reduceNe, Int.reduceLT, Int.reduceLE, Int.reduceAdd, Int.reduceSub, Int.reduceMul, Int.reduceNeg, Int.reduceToNat, Int.cast_ofNat_Int, Int.natCast_zero, Int.natCast_one, Int.toNat_natCast, Nat.reduceBEq, nzs, e1]
    refine OpK.pub (k := 232) rfl fun v2 M2 hM2 hv2 => OpK.step ?_
    simp only [sp1, sp2, sp3, shs, zts, sos, sls, zss, eqs, sx, sb1, sb2, sb3, sb4, sb5, ↓reduceIte, Nat.reduceAdd, Nat.reduceMul, Nat.reduceDiv, Nat.reduceEqDiff, Nat.reduceLT, Nat.reduceLeDiff, reduceCtorEq, Int.reduceEq, Int.reduceNe, Int.reduceLT, Int.reduceLE, Int.reduceAdd, Int.reduceSub, Int.reduceMul, Int.reduceNeg, Int.reduceToNat, Int.cast_ofNat_Int, Int.natCast_zero, Int.natCast_one, Int.toNat_natCast, Nat.reduceBEq, nzs, st1, hv2.one]
    refine CallK.lend (s := .v (.int .i64 (segE [[r]]))) (k := 240) rfl rfl rfl (fun _ => rfl) (fun v3 M3 hM3 hv3 => ?_) ?_
    · have := segs v3 [(v2, [r])] M3 hv3 (fun p hp => by simp at hp; subst hp; exact hv2.le hM3) (fun p hp => by simp at hp; subst hp; exact ⟨by simp, fun q hq => by simp at hq; subst hq; exact hr0⟩)
      simp only [sp1, sp2, sp3, shs, zts, sos, sls, zss, eqs, sx, sb1, sb2, sb3, sb4, sb5, ↓reduceIte, Nat.reduceAdd, Nat.reduceMul, Nat.reduceDiv, Nat.reduceEqDiff, Nat.reduceLT, Nat.reduceLeDiff, reduceCtorEq, Int.reduceEq, Int.reduceNe, Int.reduceLT, Int.reduceLE, Int.reduceAdd, Int.reduceSub, Int.reduceMul, Int.reduceNeg, Int.reduceToNat, Int.cast_ofNat_Int, Int.natCast_zero, Int.natCast_one, Int.toNat_natCast, Nat.reduceBEq]
      exact this
    by_cases e2 : segE [[r]] = 0
    · have hr64 : r.2.length ≤ 64 := by
        rw [segE_one] at e2
        split at e2
        · cases e2
        · split at e2
          · cases e2
          · omega
      simp only [shs, zts, sos, sls, zss, eqs, sx, sb1, sb2, sb3, sb4, sb5, ↓reduceIte, Nat.reduceAdd, Nat.reduceMul, Nat.reduceDiv, Nat.reduceEqDiff, Nat.reduceLT, Nat.reduceLeDiff, reduceCtorEq, Int.reduceEq, Int.reduceNe, Int.reduceLT, Int.reduceLE, Int.reduceAdd, Int.reduceSub, Int.reduceMul, Int.reduceNeg, Int.reduceToNat, Int.cast_ofNat_Int, Int.natCast_zero, Int.natCast_one, Int.toNat_natCast, Nat.reduceBEq, nzs, e2]
      refine CallK.pub (k := 352) rfl fun v4 M4 hM4 hv4 => ?_
      simp only [sp1, sp2, sp3, shs, zts, sos, sls, zss, eqs, sx, sb1, sb2, sb3, sb4, sb5, ↓reduceIte, Nat.reduceAdd, Nat.reduceMul, Nat.reduceDiv, Nat.reduceEqDiff, Nat.reduceLT, Nat.reduceLeDiff, reduceCtorEq, Int.reduceEq, Int.reduceNe, Int.reduceLT, Int.reduceLE, Int.reduceAdd, Int.reduceSub, Int.reduceMul, Int.reduceNeg, Int.reduceToNat, Int.cast_ofNat_Int, Int.natCast_zero, Int.natCast_one, Int.toNat_natCast, Nat.reduceBEq, nzs]
      have hle := (hM1.trans hM2).trans hM4
      refine CallK.res rfl rfl (R := fun r' M' => ∃ u, r' = .v u ∧ Segs u ([r].foldl standL (ps.map (fun p : Value × List Rc => p.2))) M') (stand y v4 ps [r] M4 (hy.le hle) (hM.le hle) hv4 (fun p hp => by
        obtain ⟨g1, g2, g3⟩ := hall p.2 (List.mem_map.2 ⟨p, hp, rfl⟩)
        exact ⟨g1.2, fun q hq => (g2 q hq).2, g3⟩) (fun q hq => by simp at hq; subst hq; exact hr64) (by omega) (by simp)) (fun r' M' ⟨u, h, _⟩ => by subst h; rfl) fun r' M5 hM5 ⟨u5, hr5, hu5⟩ => ?_
      subst hr5
      rw [List.foldl_cons, List.foldl_nil] at hu5
      have hu5l : lenV u5 = (standL (ps.map (·.2)) r).length ∧ isSl u5 = true := by
        obtain ⟨qs, h1, h2, h3⟩ := hu5
        exact ⟨by rw [h1.len, List.length_map, ← h3, List.length_map], h1.sl⟩
      by_cases e3 : 16 < (standL (ps.map (·.2)) r).length
      · have d3 : (16 < ((standL (ps.map (·.2)) r).length : Int)) = True := eq_true (by omega)
        have hE : putE (ps.map (·.2)) r = 8 := by unfold putE; rw [if_neg (by omega), if_neg (by omega), if_pos e3]
        have hL : (putL (ps.map (·.2)) r).length = 0 := by unfold putL; rw [if_neg (by omega)]; rfl
        simp only [shs, zts, sos, sls, zss, eqs, sx, sb1, sb2, sb3, sb4, sb5, ↓reduceIte, Nat.reduceAdd, Nat.reduceMul, Nat.reduceDiv, Nat.reduceEqDiff, Nat.reduceLT, Nat.reduceLeDiff, reduceCtorEq, Int.reduceEq, Int.reduceNe, Int.reduceLT, Int.reduceLE, Int.reduceAdd, Int.reduceSub, Int.reduceMul, Int.reduceNeg, Int.reduceToNat, Int.cast_ofNat_Int, Int.natCast_zero, Int.natCast_one, Int.toNat_natCast, Nat.reduceBEq, nzs, hu5l.1, hu5l.2, d3, hE, hul1, hul2, hql, hL]
      · have d3 : (16 < ((standL (ps.map (·.2)) r).length : Int)) = False := eq_false (by omega)
        have hE : putE (ps.map (·.2)) r = 0 := by unfold putE; rw [if_neg (by omega), if_neg (by omega), if_neg e3]
        have hL : putL (ps.map (·.2)) r = standL (ps.map (·.2)) r := by unfold putL; rw [if_pos hE]
        rw [hL] at hu
        simp only [shs, zts, sos, sls, zss, eqs, sx, sb1, sb2, sb3, sb4, sb5, ↓reduceIte, Nat.reduceAdd, Nat.reduceMul, Nat.reduceDiv, Nat.reduceEqDiff, Nat.reduceLT, Nat.reduceLeDiff, reduceCtorEq, Int.reduceEq, Int.reduceNe, Int.reduceLT, Int.reduceLE, Int.reduceAdd, Int.reduceSub, Int.reduceMul, Int.reduceNeg, Int.reduceToNat, Int.cast_ofNat_Int, Int.natCast_zero, Int.natCast_one, Int.toNat_natCast, Nat.reduceBEq, nzs, hu5l.1, hu5l.2, d3, hE]
        refine CallK.pure ⟨rfl, rfl⟩ rfl (sameSegs u u5 _ _ M5 (hu.le ((hM2.trans hM4).trans hM5)) hu5) ?_
        simp only [shs, zts, sos, sls, zss, eqs, sx, sb1, sb2, sb3, sb4, sb5, ↓reduceIte, Nat.reduceAdd, Nat.reduceMul, Nat.reduceDiv, Nat.reduceEqDiff, Nat.reduceLT, Nat.reduceLeDiff, reduceCtorEq, Int.reduceEq, Int.reduceNe, Int.reduceLT, Int.reduceLE, Int.reduceAdd, Int.reduceSub, Int.reduceMul, Int.reduceNeg, Int.reduceToNat, Int.cast_ofNat_Int, Int.natCast_zero, Int.natCast_one, Int.toNat_natCast, Nat.reduceBEq, nzs]
    · have de : (segE [[r]] = 0) = False := eq_false e2
      have hE : putE (ps.map (·.2)) r = segE [[r]] := by unfold putE; rw [if_neg (by omega), if_pos e2]
      have hL : (putL (ps.map (·.2)) r).length = 0 := by unfold putL; rw [if_neg (by omega)]; rfl
      simp only [shs, zts, sos, sls, zss, eqs, sx, sb1, sb2, sb3, sb4, sb5, ↓reduceIte, Nat.reduceAdd, Nat.reduceMul, Nat.reduceDiv, Nat.reduceEqDiff, Nat.reduceLT, Nat.reduceLeDiff, reduceCtorEq, Int.reduceEq, Int.reduceNe, Int.reduceLT, Int.reduceLE, Int.reduceAdd, Int.reduceSub, Int.reduceMul, Int.reduceNeg, Int.reduceToNat, Int.cast_ofNat_Int, Int.natCast_zero, Int.natCast_one, Int.toNat_natCast, Nat.reduceBEq, nzs, de, hE, hul1, hul2, hql, hL]
  · have de : (segE (ps.map (·.2)) = 0) = False := eq_false e1
    have hE : putE (ps.map (·.2)) r = segE (ps.map (·.2)) := by unfold putE; rw [if_pos e1]
    have hL : (putL (ps.map (·.2)) r).length = 0 := by unfold putL; rw [if_neg (by omega)]; rfl
    simp only [shs, zts, sos, sls, zss, eqs, sx, sb1, sb2, sb3, sb4, sb5, ↓reduceIte, Nat.reduceAdd, Nat.reduceMul, Nat.reduceDiv, Nat.reduceEqDiff, Nat.reduceLT, Nat.reduceLeDiff, reduceCtorEq, Int.reduceEq, Int.reduceNe, Int.reduceLT, Int.reduceLE, Int.reduceAdd, Int.reduceSub, Int.reduceMul, Int.reduceNeg, Int.reduceToNat, Int.cast_ofNat_Int, Int.natCast_zero, Int.natCast_one, Int.toNat_natCast, Nat.reduceBEq, nzs, de, hE, hul1, hul2, hql, hL]
theorem law (a : Value × List (Value × List Rc)) (r : Rc) (M : Mem)
    (h : RowM M a.1 1 (a.2.map encV) ∧ a.2.length * 24 ≤ reachBytes ∧ ∀ x ∈ a.2, RowM M x.1 4 (x.2.map encR) ∧ x.2.length * 40 ≤ reachBytes ∧ ∀ q ∈ x.2, ((True ∧ inK .i64 q.1.2.1 ∧ inK .i64 q.1.2.2) ∧ q.2.length ≤ reachBytes))
    (hr : (True ∧ inK .i64 r.1.2.1 ∧ inK .i64 r.1.2.2) ∧ r.2.length ≤ reachBytes) :
    Meets Proofs.Try.prog 11 [.v a.1, recV r] M fun r' _ _ => r' = .v (.bool true) :=
  says a.1 a.2 r M h.1 (fun p hp => (h.2.2 p hp).1) (fun p hp => ⟨by have := (h.2.2 p hp).2.1; unfold reachBytes at this; omega, fun q hq => by have := ((h.2.2 p hp).2.2 q hq).2; unfold reachBytes at this; omega⟩) (by have := hr.2; unfold reachBytes at this; omega)
end Go.X.Sg
