/- Contracts of functions and the logic that they are proved in (3 texts in one). Conditions: none. -/
import Derived.Test.YtoohifeidifocaaMg7
import Derived.KernelRfl
import Derived.Test.YtoohifeidifocaaMg3
namespace Go.X.Pol
end Go.X.Pol
set_option linter.unusedSimpArgs false
set_option linter.unusedVariables false
set_option maxHeartbeats 4000000
set_option maxRecDepth 20000
namespace Go.X.Sg
open Go Go.X

theorem cloneS (u : Value) (l : List (Value × List Rc)) (M : Mem) (hu : RowM M u 1 (l.map encV)) (hb : l.length ≤ 1000000) :
    Meets Proofs.Try.prog 28 [.v u] M (OwnR (fun s => s) 1 (l.map encV)) := by
  obtain ⟨r1, r2⟩ := hu.rows (by omega)
  cases hs : someV u with
  | true =>
    refine Meets.of_body [0,2,4] Proofs.Try.func28 rfl (by kernel_rfl) rfl fun w => ?_
    simp only [Proofs.Try.f28, shs, zts, sos, sls, zss, eqs, sx, sb1, sb2, sb3, sb4, sb5, sb6, sb7, ↓reduceIte, Nat.reduceAdd, Nat.reduceMul, Nat.reduceDiv, Nat.reduceEqDiff, Nat.reduceLT, Nat.reduceLeDiff, reduceCtorEq, Int.reduceEq, Int.reduceNe, Int.reduceLT, Int.reduceLE, Int.reduceAdd, Int.reduceSub, Int.reduceMul, Int.reduceNeg, Int.reduceToNat, Int.cast_ofNat_Int, Int.natCast_zero, Int.natCast_one, Int.toNat_natCast, Nat.reduceBEq, hu.sl, hs, r1, List.length_map]
    exact ⟨⟨by omega, r2⟩, 56, rfl, rfl⟩
  | false =>
    have hn : l = [] := by
      cases l with
      | nil => rfl
      | cons a r => have := hu.2.1 (by simp); rw [hs] at this; cases this
    subst hn
    refine Meets.nilOwn ?_
    refine Meets.of_body [0,2,4] Proofs.Try.func28 rfl (by kernel_rfl) rfl fun w => ?_
    simp only [Proofs.Try.f28, shs, zts, sos, sls, zss, eqs, sx, sb1, sb2, sb3, sb4, sb5, sb6, sb7, ↓reduceIte, Nat.reduceAdd, Nat.reduceMul, Nat.reduceDiv, Nat.reduceEqDiff, Nat.reduceLT, Nat.reduceLeDiff, reduceCtorEq, Int.reduceEq, Int.reduceNe, Int.reduceLT, Int.reduceLE, Int.reduceAdd, Int.reduceSub, Int.reduceMul, Int.reduceNeg, Int.reduceToNat, Int.cast_ofNat_Int, Int.natCast_zero, Int.natCast_one, Int.toNat_natCast, Nat.reduceBEq, hu.sl, hs]


def goodS (s : List Rc) : Prop := s.length ≤ 25 ∧ (∀ r ∈ s, r.2.length ≤ 64) ∧ fullR s ≤ 200
theorem standL_good {l : List (List Rc)} {r : Rc} (hl : ∀ s ∈ l, goodS s) (hr : r.2.length ≤ 64) : ∀ s ∈ standL l r, goodS s := by
  have h1 : goodS [r] := ⟨by simp, fun q hq => by simp at hq; subst hq; exact hr, by simp [fullR, sizeR]; omega⟩
  rcases List.eq_nil_or_concat l with rfl | ⟨ini, s, rfl⟩
  · intro s hs
    rw [standL_nil] at hs
    simp at hs; subst hs; exact h1
  · rw [List.concat_eq_append] at *
    rw [standL_app]
    unfold standR
    split
    · rename_i h
      intro q hq
      rcases List.mem_append.1 hq with hq | hq
      · exact hl q (by simp [hq])
      · simp only [List.mem_singleton] at hq
        subst hq
        obtain ⟨g1, g2, g3⟩ := hl s (by simp)
        have g4 : fullR (s ++ [r]) ≤ 200 := by rw [fullR_app]; simpa [fullR] using h
        refine ⟨?_, fun q hq => ?_, g4⟩
        · have := takes_sum (s ++ [r]); omega
        · rcases List.mem_append.1 hq with hq | hq
          · exact g2 q hq
          · simp at hq; subst hq; exact hr
    · intro q hq
      rcases List.mem_append.1 hq with hq | hq
      · rcases List.mem_append.1 hq with hq | hq
        · exact hl q (by simp [hq])
        · simp at hq; subst hq; exact hl q (by simp)
      · simp at hq; subst hq; exact h1
theorem stand (y z : Value) (ps : List (Value × List Rc)) (rs : List Rc) (M : Mem) (hy : RowM M y 1 (ps.map encV)) (hM : SegM M ps) (hz : RowM M z 4 (rs.map encR)) (hg : ∀ p ∈ ps, goodS p.2) (hr : ∀ r ∈ rs, r.2.length ≤ 64) (hpl : ps.length ≤ 100) (hrl : rs.length ≤ 100) :
    Meets Proofs.Try.prog 12 [.v y, .v z] M (fun r' _ M' => ∃ u, r' = .v u ∧ Segs u (rs.foldl standL (ps.map (·.2))) M') := by
  suffices h : Meets Proofs.Try.prog 12 [.v y, .v z] M (fun r H M' => ∃ s es, r = s ∧ IsRow H M' s 1 es ∧ ∃ qs : List (Value × List Rc), es = qs.map encV ∧ SegM M' qs ∧ qs.map (·.2) = rs.foldl standL (ps.map (·.2))) by
    refine (Meets.pub (T := fun s => s) Ctx.id (fun es M M' hle ⟨qs, h1, h2, h3⟩ => ⟨qs, h1, h2.le hle, h3⟩) h).mono fun s H M' _ ⟨v, es, h1, h2, qs, h3, h4, h5⟩ => ⟨v, h1, qs, by rw [← h3]; exact h2, h4, h5⟩
  refine Meets.of_body [0,1,4,5,7,8,11,12,13,14,33] Proofs.Try.func12 rfl (by kernel_rfl) rfl fun w => ?_
  generalize hc : rs.foldl standL (ps.map (·.2)) = c
  simp only [Proofs.Try.f12, shs, zts, sos, sls, zss, eqs, sx, sb1, sb2, sb3, sb4, sb5, sb6, sb7, ↓reduceIte, Nat.reduceAdd, Nat.reduceMul, Nat.reduceDiv, Nat.reduceEqDiff, Nat.reduceLT, Nat.reduceLeDiff, reduceCtorEq, Int.reduceEq, Int.reduceNe, Int.reduceLT, Int.reduceLE, Int.reduceAdd, Int.reduceSub, Int.reduceMul, Int.reduceNeg, Int.reduceToNat, Int.cast_ofNat_Int, Int.natCast_zero, Int.natCast_one, Int.toNat_natCast, Nat.reduceBEq, nzs]
  refine CallK.own Ctx.id rfl rfl (cloneS y ps M hy (by omega)) rfl fun M1 hM1 => ?_
  simp only [shs, zts, sos, sls, zss, eqs, sx, sb1, sb2, sb3, sb4, sb5, sb6, sb7, ↓reduceIte, Nat.reduceAdd, Nat.reduceMul, Nat.reduceDiv, Nat.reduceEqDiff, Nat.reduceLT, Nat.reduceLeDiff, reduceCtorEq, Int.reduceEq, Int.reduceNe, Int.reduceLT, Int.reduceLE, Int.reduceAdd, Int.reduceSub, Int.reduceMul, Int.reduceNeg, Int.reduceToNat, Int.cast_ofNat_Int, Int.natCast_zero, Int.natCast_one, Int.toNat_natCast, Nat.reduceBEq, nzs, hz.len, hz.sl, List.length_map]
  refine LoopK.go (X := Nat × Nat × List (Value × List Rc) × Mem) (fun x => ([(5, true, .own 80), (11, true, .v z), (12, true, .v (.int .i64 rs.length)), (13, true, .v (.int .i64 x.2.1))], [(80, .row 1 (x.2.2.1.map encV))], x.2.2.2))
    (fun x => ((x.1 + x.2.1 = rs.length ∧ x.2.2.1.length ≤ ps.length + x.2.1) ∧ M.le x.2.2.2) ∧ SegM x.2.2.2 x.2.2.1 ∧ (∀ p ∈ x.2.2.1, goodS p.2) ∧ (rs.drop x.2.1).foldl standL (x.2.2.1.map (·.2)) = c) (fun x => x.1) (rs.length, 0, ps, M1)
    ⟨⟨⟨rfl, by simp⟩, hM1⟩, hM.le hM1, hg, hc⟩ (Ent.of ?_) ?_
  · simp only [sx, sb1, sb2, sb3, sb4, sb5, sb6, sb7, ↓reduceIte, Nat.reduceAdd, Nat.reduceMul, Nat.reduceDiv, Nat.reduceEqDiff, Nat.reduceLT, Nat.reduceLeDiff, reduceCtorEq, Int.reduceEq, Int.reduceNe, Int.reduceLT, Int.reduceLE, Int.reduceAdd, Int.reduceSub, Int.reduceMul, Int.reduceNeg, Int.reduceToNat, Int.cast_ofNat_Int, Int.natCast_zero, Int.natCast_one, Int.toNat_natCast, Nat.reduceBEq]
  rintro ⟨f, i, qs, M2⟩ ⟨⟨⟨h1, h2⟩, h3⟩, h4, h5, h6⟩
  simp only at h1 h2 h3 h4 h5 h6
  by_cases hil : i < rs.length
  · have c1 : ((i : Int) < (rs.length : Int)) = True := eq_true (by omega)
    obtain ⟨r, hx, hd⟩ := l_drop_at (l := rs) (i := i) hil
    have hzz := hz.le h3
    obtain ⟨⟨⟨g0, o0⟩, g1, o1⟩, ⟨⟨g2, o2⟩, g3, o3⟩, ix⟩ := rec_at hzz hx
    have hr64 := hr r (List.mem_of_getElem? hx)
    rw [hd, List.foldl_cons] at h6
    rcases List.eq_nil_or_concat qs with rfl | ⟨ini, ⟨v, s⟩, rfl⟩
    · have e1 : ((0 : Nat) : Int) - 1 = -1 := rfl
      have i1 : inK .i64 (-1) := i64I (by omega)
      have c0 : (0 ≤ (-1 : Int)) = False := eq_false (by omega)
      simp only [shs, zts, sos, sls, zss, eqs, sx, sb1, sb2, sb3, sb4, sb5, sb6, sb7, ↓reduceIte, Nat.reduceAdd, Nat.reduceMul, Nat.reduceDiv, Nat.reduceEqDiff, Nat.reduceLT, Nat.reduceLeDiff, reduceCtorEq, Int.reduceEq, Int.reduceNe, Int.reduceLT, Int.reduceLE, Int.reduceAdd, Int.reduceSub, Int.reduceMul, Int.reduceNeg, Int.reduceToNat, Int.cast_ofNat_Int, Int.natCast_zero, Int.natCast_one, Int.toNat_natCast, Nat.reduceBEq, nzs, c1, g0, g1, g2, g3, o0, o1, o2, o3, ix, ix.2, one_int, one_bool, one_string, List.length_map, List.length_nil, e1, i1]
      refine DrawK.ent (X := Unit) (fun _ => True) (fun _ => ([(33, true, .v (.bool false)), (8, true, .v (.int .i64 (-1))), (7, true, .ptr 56 0 0 0), (5, true, .own 80), (11, true, .v z), (12, true, .v (.int .i64 rs.length)), (13, true, .v (.int .i64 i))], [(80, .row 1 []), (56, .box [.v (.bool r.1.1), .v (.int .i64 r.1.2.1), .v (.int .i64 r.1.2.2), .v (.string ⟨r.2.toArray⟩)] none)], M2)) ?_ ?_
      · refine DrawK.held [56] (tk [0, 1, 2, 3, 4, 8, 5, 6, 9] (ones' [7] (tk [10] (ones' [11] (tk [12, 13] .done))))) (by kernel_rfl) (by kernel_rfl) fun xs => ?_
        simp only [shs, zts, sos, sls, zss, eqs, sx, sb1, sb2, sb3, sb4, sb5, sb6, sb7, ↓reduceIte, Nat.reduceAdd, Nat.reduceMul, Nat.reduceDiv, Nat.reduceEqDiff, Nat.reduceLT, Nat.reduceLeDiff, reduceCtorEq, Int.reduceEq, Int.reduceNe, Int.reduceLT, Int.reduceLE, Int.reduceAdd, Int.reduceSub, Int.reduceMul, Int.reduceNeg, Int.reduceToNat, Int.cast_ofNat_Int, Int.natCast_zero, Int.natCast_one, Int.toNat_natCast, Nat.reduceBEq, nzs, se1, se2, tks, st1, c0, List.map_nil]
        exact ⟨(), Ent.heap (HEnt.untie (k := 56) rfl) (Ent.of (by simp only [sx, sb1, sb2, sb3, sb4, sb5, sb6, sb7, ↓reduceIte, Nat.reduceAdd, Nat.reduceMul, Nat.reduceDiv, Nat.reduceEqDiff, Nat.reduceLT, Nat.reduceLeDiff, reduceCtorEq, Int.reduceEq, Int.reduceNe, Int.reduceLT, Int.reduceLE, Int.reduceAdd, Int.reduceSub, Int.reduceMul, Int.reduceNeg, Int.reduceToNat, Int.cast_ofNat_Int, Int.natCast_zero, Int.natCast_one, Int.toNat_natCast, Nat.reduceBEq]))⟩
      · intro _ _
        have i2 : inK .i64 ((i : Int) + 1) := i64I (by omega)
        simp only [shs, zts, sos, sls, zss, eqs, sx, sb1, sb2, sb3, sb4, sb5, sb6, sb7, ↓reduceIte, Nat.reduceAdd, Nat.reduceMul, Nat.reduceDiv, Nat.reduceEqDiff, Nat.reduceLT, Nat.reduceLeDiff, reduceCtorEq, Int.reduceEq, Int.reduceNe, Int.reduceLT, Int.reduceLE, Int.reduceAdd, Int.reduceSub, Int.reduceMul, Int.reduceNeg, Int.reduceToNat, Int.cast_ofNat_Int, Int.natCast_zero, Int.natCast_one, Int.toNat_natCast, Nat.reduceBEq, nzs]
        refine OpK.pub (k := 376) rfl fun v5 M5 hM5 hv5 => OpK.step ?_
        simp only [sp1, sp2, sp3, shs, zts, sos, sls, zss, eqs, sx, sb1, sb2, sb3, sb4, sb5, sb6, sb7, ↓reduceIte, Nat.reduceAdd, Nat.reduceMul, Nat.reduceDiv, Nat.reduceEqDiff, Nat.reduceLT, Nat.reduceLeDiff, reduceCtorEq, Int.reduceEq, Int.reduceNe, Int.reduceLT, Int.reduceLE, Int.reduceAdd, Int.reduceSub, Int.reduceMul, Int.reduceNeg, Int.reduceToNat, Int.cast_ofNat_Int, Int.natCast_zero, Int.natCast_one, Int.toNat_natCast, Nat.reduceBEq, nzs, st1, hv5.one, i2]
        refine ⟨(f - 1, i + 1, [(v5, [r])], M5), ⟨⟨⟨⟨by simp only; omega, by simp only [List.length_singleton]; omega⟩, h3.trans hM5⟩, fun p hp => by simp at hp; subst hp; exact hv5, fun p hp => by
          simp at hp; subst hp
          exact ⟨by simp, fun q hq => by simp at hq; subst hq; exact hr64, by simp [fullR, sizeR]; omega⟩, h6⟩, by simp only; omega⟩, Ent.rekey 5 10 392 1 _ rfl rfl rfl rfl (Ent.of ?_)⟩
        simp only [sx, sb1, sb2, sb3, sb4, sb5, sb6, sb7, ↓reduceIte, Nat.reduceAdd, Nat.reduceMul, Nat.reduceDiv, Nat.reduceEqDiff, Nat.reduceLT, Nat.reduceLeDiff, reduceCtorEq, Int.reduceEq, Int.reduceNe, Int.reduceLT, Int.reduceLE, Int.reduceAdd, Int.reduceSub, Int.reduceMul, Int.reduceNeg, Int.reduceToNat, Int.cast_ofNat_Int, Int.natCast_zero, Int.natCast_one, Int.toNat_natCast, Nat.reduceBEq, Int.natCast_add, List.map_nil, List.map_cons, encV]
    · rw [List.concat_eq_append] at *
      rw [List.map_append, List.map_cons, List.map_nil, standL_app] at h6
      have hlc : (ini ++ [(v, s)]).length = ini.length + 1 := by simp
      have hv : RowM M2 v 4 (s.map encR) := h4 (v, s) (by simp)
      obtain ⟨gs1, gs2, gs3⟩ := h5 (v, s) (by simp)
      simp only at gs1 gs2 gs3
      have e1 : ((ini.length + 1 : Nat) : Int) - 1 = (ini.length : Int) := by omega
      have i1 : inK .i64 ((ini.length : Nat) : Int) := i64I (by omega)
      have c0 : (0 ≤ (ini.length : Int)) = True := eq_true (by omega)
      have hg : ((ini ++ [(v, s)]).map encV).getD ini.length [] = [v] := by
        rw [List.getD_eq_getElem?_getD, List.getElem?_map, List.getElem?_append_right (Nat.le_refl _)]
        simp [encV]
      simp only [shs, zts, sos, sls, zss, eqs, sx, sb1, sb2, sb3, sb4, sb5, sb6, sb7, ↓reduceIte, Nat.reduceAdd, Nat.reduceMul, Nat.reduceDiv, Nat.reduceEqDiff, Nat.reduceLT, Nat.reduceLeDiff, reduceCtorEq, Int.reduceEq, Int.reduceNe, Int.reduceLT, Int.reduceLE, Int.reduceAdd, Int.reduceSub, Int.reduceMul, Int.reduceNeg, Int.reduceToNat, Int.cast_ofNat_Int, Int.natCast_zero, Int.natCast_one, Int.toNat_natCast, Nat.reduceBEq, nzs, c1, g0, g1, g2, g3, o0, o1, o2, o3, ix, ix.2, one_int, one_bool, one_string, List.length_map, hlc, e1, i1]
      have hdec : ((fullR (s ++ [r]) : Int) ≤ 200) = (fullR (s ++ [r]) ≤ 200) := by apply propext; omega
      have hapl : (s ++ [r]).length = s.length + 1 := by simp
      refine DrawK.ent (X := Mem) (fun M' => M2.le M') (fun M' => ([(33, true, .v (.bool (decide (fullR (s ++ [r]) ≤ 200)))), (8, true, .v (.int .i64 ini.length)), (7, true, .ptr 56 0 0 0), (5, true, .own 80), (11, true, .v z), (12, true, .v (.int .i64 rs.length)), (13, true, .v (.int .i64 i))], [(80, .row 1 ((ini ++ [(v, s)]).map encV)), (56, .box [.v (.bool r.1.1), .v (.int .i64 r.1.2.1), .v (.int .i64 r.1.2.2), .v (.string ⟨r.2.toArray⟩)] none)], M')) ?_ ?_
      · refine DrawK.held [56] (tk [0, 1, 2, 3, 4, 8] (.two 5 (.two 6 (.two 7 (ones' [9, 10, 11] (tk [12, 13] .done)) 9 (ones' [7, 10, 11] (tk [12, 13] .done))) 9 (ones' [6, 7, 10, 11] (tk [12, 13] .done))) 9 (ones' [5, 6, 7, 10, 11] (tk [12, 13] .done)))) (by kernel_rfl) (by kernel_rfl) fun xs => ?_
        simp only [shs, zts, sos, sls, zss, eqs, sx, sb1, sb2, sb3, sb4, sb5, sb6, sb7, ↓reduceIte, Nat.reduceAdd, Nat.reduceMul, Nat.reduceDiv, Nat.reduceEqDiff, Nat.reduceLT, Nat.reduceLeDiff, reduceCtorEq, Int.reduceEq, Int.reduceNe, Int.reduceLT, Int.reduceLE, Int.reduceAdd, Int.reduceSub, Int.reduceMul, Int.reduceNeg, Int.reduceToNat, Int.cast_ofNat_Int, Int.natCast_zero, Int.natCast_one, Int.toNat_natCast, Nat.reduceBEq, nzs, se1, se2, tks, st1, c0, hlc, hg, List.length_map, List.getD_cons_zero]
        and_intros
        all_goals first
          | omega
          | (refine CallK.own Ctx.id rfl rfl (cloneR v s M2 hv (by omega)) rfl fun M3 hM3 => ⟨⟨⟨rfl, trivial⟩, hM3⟩, ?_⟩
             simp only [shs, zts, sos, sls, zss, eqs, sx, sb1, sb2, sb3, sb4, sb5, sb6, sb7, ↓reduceIte, Nat.reduceAdd, Nat.reduceMul, Nat.reduceDiv, Nat.reduceEqDiff, Nat.reduceLT, Nat.reduceLeDiff, reduceCtorEq, Int.reduceEq, Int.reduceNe, Int.reduceLT, Int.reduceLE, Int.reduceAdd, Int.reduceSub, Int.reduceMul, Int.reduceNeg, Int.reduceToNat, Int.cast_ofNat_Int, Int.natCast_zero, Int.natCast_one, Int.toNat_natCast, Nat.reduceBEq, nzs, se1, se2, tks, st1, List.length_map, hM3]
             refine ⟨by omega, CallK.lend (k := 240) rfl rfl rfl (fun _ => rfl) (fun v4 M4 hM4 hv4 => takes v4 (s ++ [r]) M4 (by rw [List.map_append]; exact hv4) (by omega) (fun q hq => by
               rcases List.mem_append.1 hq with hq | hq
               · exact gs2 q hq
               · simp at hq; subst hq; exact hr64)) ?_⟩
             simp only [shs, zts, sos, sls, zss, eqs, sx, sb1, sb2, sb3, sb4, sb5, sb6, sb7, ↓reduceIte, Nat.reduceAdd, Nat.reduceMul, Nat.reduceDiv, Nat.reduceEqDiff, Nat.reduceLT, Nat.reduceLeDiff, reduceCtorEq, Int.reduceEq, Int.reduceNe, Int.reduceLT, Int.reduceLE, Int.reduceAdd, Int.reduceSub, Int.reduceMul, Int.reduceNeg, Int.reduceToNat, Int.cast_ofNat_Int, Int.natCast_zero, Int.natCast_one, Int.toNat_natCast, Nat.reduceBEq, nzs, se1, se2, tks, st1, hM3, hdec]
             refine ⟨M3, hM3, Ent.heap (HEnt.untie (k := 56) rfl) (Ent.of ?_)⟩
             simp only [sx, sb1, sb2, sb3, sb4, sb5, sb6, sb7, ↓reduceIte, Nat.reduceAdd, Nat.reduceMul, Nat.reduceDiv, Nat.reduceEqDiff, Nat.reduceLT, Nat.reduceLeDiff, reduceCtorEq, Int.reduceEq, Int.reduceNe, Int.reduceLT, Int.reduceLE, Int.reduceAdd, Int.reduceSub, Int.reduceMul, Int.reduceNeg, Int.reduceToNat, Int.cast_ofNat_Int, Int.natCast_zero, Int.natCast_one, Int.toNat_natCast, Nat.reduceBEq])
      · intro M3 hM3
        have hv3 := hv.le hM3
        by_cases hF : fullR (s ++ [r]) ≤ 200
        · have d1 : decide (fullR (s ++ [r]) ≤ 200) = true := decide_eq_true hF
          simp only [shs, zts, sos, sls, zss, eqs, sx, sb1, sb2, sb3, sb4, sb5, sb6, sb7, ↓reduceIte, Nat.reduceAdd, Nat.reduceMul, Nat.reduceDiv, Nat.reduceEqDiff, Nat.reduceLT, Nat.reduceLeDiff, reduceCtorEq, Int.reduceEq, Int.reduceNe, Int.reduceLT, Int.reduceLE, Int.reduceAdd, Int.reduceSub, Int.reduceMul, Int.reduceNeg, Int.reduceToNat, Int.cast_ofNat_Int, Int.natCast_zero, Int.natCast_one, Int.toNat_natCast, Nat.reduceBEq, nzs, d1]
          refine DrawK.ent (X := Mem × Value) (fun x => M3.le x.1 ∧ RowM x.1 x.2 4 ((s ++ [r]).map encR)) (fun x => ([(5, true, .own 80), (11, true, .v z), (12, true, .v (.int .i64 rs.length)), (13, true, .v (.int .i64 i))], [(80, .row 1 ((ini ++ [(x.2, s ++ [r])]).map encV))], x.1)) ?_ ?_
          · refine DrawK.held [56] (tk [0, 1, 2, 3, 7] (.two 4 (.two 5 (.two 6 (ones' [8, 9, 10, 11] .done) 8 (ones' [6, 9, 10, 11] .done)) 8 (ones' [5, 6, 9, 10, 11] .done)) 8 (ones' [4, 5, 6, 9, 10, 11] .done))) (by kernel_rfl) (by kernel_rfl) fun xs => ?_
            simp only [shs, zts, sos, sls, zss, eqs, sx, sb1, sb2, sb3, sb4, sb5, sb6, sb7, ↓reduceIte, Nat.reduceAdd, Nat.reduceMul, Nat.reduceDiv, Nat.reduceEqDiff, Nat.reduceLT, Nat.reduceLeDiff, reduceCtorEq, Int.reduceEq, Int.reduceNe, Int.reduceLT, Int.reduceLE, Int.reduceAdd, Int.reduceSub, Int.reduceMul, Int.reduceNeg, Int.reduceToNat, Int.cast_ofNat_Int, Int.natCast_zero, Int.natCast_one, Int.toNat_natCast, Nat.reduceBEq, nzs, se1, se2, tks, st1, c0, hlc, hg, List.length_map, List.getD_cons_zero]
            and_intros
            all_goals first
              | omega
              | (refine CallK.own Ctx.id rfl rfl (cloneR v s M3 hv3 (by omega)) rfl fun M4 hM4 => ⟨⟨⟨rfl, trivial⟩, hM4⟩, ?_⟩
                 simp only [shs, zts, sos, sls, zss, eqs, sx, sb1, sb2, sb3, sb4, sb5, sb6, sb7, ↓reduceIte, Nat.reduceAdd, Nat.reduceMul, Nat.reduceDiv, Nat.reduceEqDiff, Nat.reduceLT, Nat.reduceLeDiff, reduceCtorEq, Int.reduceEq, Int.reduceNe, Int.reduceLT, Int.reduceLE, Int.reduceAdd, Int.reduceSub, Int.reduceMul, Int.reduceNeg, Int.reduceToNat, Int.cast_ofNat_Int, Int.natCast_zero, Int.natCast_one, Int.toNat_natCast, Nat.reduceBEq, nzs, se1, se2, tks, st1, List.length_map, hlc, hM4]
                 refine ⟨by omega, by omega, OpK.pub (k := 344) rfl fun v5 M5 hM5 hv5 => OpK.step ?_⟩
                 have hM35 := hM4.trans hM5
                 have hset : ((ini ++ [(v, s)]).map encV).set ini.length [v5] = (ini ++ [(v5, s ++ [r])]).map encV := by
                   rw [List.map_append, List.set_append_right _ _ (by simp), List.map_append]
                   simp [encV]
                 simp only [sp1, sp2, sp3, shs, zts, sos, sls, zss, eqs, sx, sb1, sb2, sb3, sb4, sb5, sb6, sb7, ↓reduceIte, Nat.reduceAdd, Nat.reduceMul, Nat.reduceDiv, Nat.reduceEqDiff, Nat.reduceLT, Nat.reduceLeDiff, reduceCtorEq, Int.reduceEq, Int.reduceNe, Int.reduceLT, Int.reduceLE, Int.reduceAdd, Int.reduceSub, Int.reduceMul, Int.reduceNeg, Int.reduceToNat, Int.cast_ofNat_Int, Int.natCast_zero, Int.natCast_one, Int.toNat_natCast, Nat.reduceBEq, nzs, se1, se2, tks, st1, hv5.one, hlc, List.length_map, hM35, hset]
                 refine ⟨by omega, (M5, v5), ⟨hM35, by rw [List.map_append]; exact hv5⟩, Ent.of ?_⟩
                 simp only [sx, sb1, sb2, sb3, sb4, sb5, sb6, sb7, ↓reduceIte, Nat.reduceAdd, Nat.reduceMul, Nat.reduceDiv, Nat.reduceEqDiff, Nat.reduceLT, Nat.reduceLeDiff, reduceCtorEq, Int.reduceEq, Int.reduceNe, Int.reduceLT, Int.reduceLE, Int.reduceAdd, Int.reduceSub, Int.reduceMul, Int.reduceNeg, Int.reduceToNat, Int.cast_ofNat_Int, Int.natCast_zero, Int.natCast_one, Int.toNat_natCast, Nat.reduceBEq])
          · rintro ⟨M4, v4⟩ ⟨hM4, hv4⟩
            simp only at hM4 hv4
            have i2 : inK .i64 ((i : Int) + 1) := i64I (by omega)
            have hst : standR (ini.map (·.2)) s r = (ini ++ [(v4, s ++ [r])]).map (·.2) := by
              unfold standR
              rw [if_pos (by rw [fullR_app] at hF; simpa [fullR] using hF)]
              simp
            simp only [shs, zts, sos, sls, zss, eqs, sx, sb1, sb2, sb3, sb4, sb5, sb6, sb7, ↓reduceIte, Nat.reduceAdd, Nat.reduceMul, Nat.reduceDiv, Nat.reduceEqDiff, Nat.reduceLT, Nat.reduceLeDiff, reduceCtorEq, Int.reduceEq, Int.reduceNe, Int.reduceLT, Int.reduceLE, Int.reduceAdd, Int.reduceSub, Int.reduceMul, Int.reduceNeg, Int.reduceToNat, Int.cast_ofNat_Int, Int.natCast_zero, Int.natCast_one, Int.toNat_natCast, Nat.reduceBEq, nzs, i2]
            have hgn := standL_good (l := (ini ++ [(v, s)]).map (·.2)) (r := r) (fun q hq => by obtain ⟨p, hp, rfl⟩ := List.mem_map.1 hq; exact h5 p hp) hr64
            rw [List.map_append, List.map_cons, List.map_nil, standL_app, hst] at hgn
            rw [hst] at h6
            refine ⟨(f - 1, i + 1, ini ++ [(v4, s ++ [r])], M4), ⟨⟨⟨⟨by simp only; omega, by simp only [List.length_append, List.length_singleton]; omega⟩, (h3.trans hM3).trans hM4⟩, fun p hp => ?_, fun p hp => hgn p.2 (List.mem_map.2 ⟨p, hp, rfl⟩), h6⟩, by simp only; omega⟩, Ent.of ?_⟩
            · rcases List.mem_append.1 hp with hp | hp
              · exact (h4 p (by simp [hp])).le (hM3.trans hM4)
              · simp at hp; subst hp; exact hv4
            · simp only [sx, sb1, sb2, sb3, sb4, sb5, sb6, sb7, ↓reduceIte, Nat.reduceAdd, Nat.reduceMul, Nat.reduceDiv, Nat.reduceEqDiff, Nat.reduceLT, Nat.reduceLeDiff, reduceCtorEq, Int.reduceEq, Int.reduceNe, Int.reduceLT, Int.reduceLE, Int.reduceAdd, Int.reduceSub, Int.reduceMul, Int.reduceNeg, Int.reduceToNat, Int.cast_ofNat_Int, Int.natCast_zero, Int.natCast_one, Int.toNat_natCast, Nat.reduceBEq, Int.natCast_add]
        · have d1 : decide (fullR (s ++ [r]) ≤ 200) = false := decide_eq_false hF
          have i2 : inK .i64 ((i : Int) + 1) := i64I (by omega)
          simp only [shs, zts, sos, sls, zss, eqs, sx, sb1, sb2, sb3, sb4, sb5, sb6, sb7, ↓reduceIte, Nat.reduceAdd, Nat.reduceMul, Nat.reduceDiv, Nat.reduceEqDiff, Nat.reduceLT, Nat.reduceLeDiff, reduceCtorEq, Int.reduceEq, Int.reduceNe, Int.reduceLT, Int.reduceLE, Int.reduceAdd, Int.reduceSub, Int.reduceMul, Int.reduceNeg, Int.reduceToNat, Int.cast_ofNat_Int, Int.natCast_zero, Int.natCast_one, Int.toNat_natCast, Nat.reduceBEq, nzs, d1]
          refine OpK.pub (k := 376) rfl fun v5 M5 hM5 hv5 => OpK.step ?_
          simp only [sp1, sp2, sp3, shs, zts, sos, sls, zss, eqs, sx, sb1, sb2, sb3, sb4, sb5, sb6, sb7, ↓reduceIte, Nat.reduceAdd, Nat.reduceMul, Nat.reduceDiv, Nat.reduceEqDiff, Nat.reduceLT, Nat.reduceLeDiff, reduceCtorEq, Int.reduceEq, Int.reduceNe, Int.reduceLT, Int.reduceLE, Int.reduceAdd, Int.reduceSub, Int.reduceMul, Int.reduceNeg, Int.reduceToNat, Int.cast_ofNat_Int, Int.natCast_zero, Int.natCast_one, Int.toNat_natCast, Nat.reduceBEq, nzs, st1, hv5.one, hlc, List.length_map, i2]
          have hst : standR (ini.map (·.2)) s r = (ini ++ [(v, s)] ++ [(v5, [r])]).map (·.2) := by
            unfold standR
            rw [if_neg (by rw [fullR_app] at hF; simpa [fullR] using hF)]
            simp
          have hgn := standL_good (l := (ini ++ [(v, s)]).map (·.2)) (r := r) (fun q hq => by obtain ⟨p, hp, rfl⟩ := List.mem_map.1 hq; exact h5 p hp) hr64
          rw [List.map_append, List.map_cons, List.map_nil, standL_app, hst] at hgn
          rw [hst] at h6
          refine ⟨⟨by omega, by omega⟩, (f - 1, i + 1, ini ++ [(v, s)] ++ [(v5, [r])], M5), ⟨⟨⟨⟨by simp only; omega, by simp only [List.length_append, List.length_singleton]; simp at h2; omega⟩, (h3.trans hM3).trans hM5⟩, fun p hp => ?_, fun p hp => hgn p.2 (List.mem_map.2 ⟨p, hp, rfl⟩), h6⟩, by simp only; omega⟩, Ent.rekey 5 10 392 1 _ rfl rfl rfl rfl (Ent.of ?_)⟩
          · rcases List.mem_append.1 hp with hp | hp
            · exact (h4 p hp).le (hM3.trans hM5)
            · simp at hp; subst hp; exact hv5
          · simp only [sx, sb1, sb2, sb3, sb4, sb5, sb6, sb7, ↓reduceIte, Nat.reduceAdd, Nat.reduceMul, Nat.reduceDiv, Nat.reduceEqDiff, Nat.reduceLT, Nat.reduceLeDiff, reduceCtorEq, Int.reduceEq, Int.reduceNe, Int.reduceLT, Int.reduceLE, Int.reduceAdd, Int.reduceSub, Int.reduceMul, Int.reduceNeg, Int.reduceToNat, Int.cast_ofNat_Int, Int.natCast_zero, Int.natCast_one, Int.toNat_natCast, Nat.reduceBEq, Int.natCast_add, List.map_append, encV]
  · have c1 : ((i : Int) < (rs.length : Int)) = False := eq_false (by omega)
    have hd : rs.drop i = [] := List.drop_eq_nil_of_le (by omega)
    rw [hd, List.foldl_nil] at h6
    simp only [shs, zts, sos, sls, zss, eqs, sx, sb1, sb2, sb3, sb4, sb5, sb6, sb7, ↓reduceIte, Nat.reduceAdd, Nat.reduceMul, Nat.reduceDiv, Nat.reduceEqDiff, Nat.reduceLT, Nat.reduceLeDiff, reduceCtorEq, Int.reduceEq, Int.reduceNe, Int.reduceLT, Int.reduceLE, Int.reduceAdd, Int.reduceSub, Int.reduceMul, Int.reduceNeg, Int.reduceToNat, Int.cast_ofNat_Int, Int.natCast_zero, Int.natCast_one, Int.toNat_natCast, Nat.reduceBEq, nzs, c1]
    exact ⟨.own 80, _, rfl, rfl, qs, rfl, h4, h6⟩

/-! ### are they the same? -/
theorem eqClo (x y : Value) (l m : List Rc) (M : Mem) (hx : RowM M x 4 (l.map encR)) (hy : RowM M y 4 (m.map encR)) :
    Meets Proofs.Try.prog 26 [.v x, .v y] M fun r _ _ => r = .v (.bool (decide (l = m))) := by
  refine Meets.of_body [0,1,4] Proofs.Try.func26 rfl (by kernel_rfl) rfl fun w => ?_
  simp only [Proofs.Try.f26, shs, zts, sos, sls, zss, eqs, sx, sb1, sb2, sb3, sb4, sb5, sb6, sb7, ↓reduceIte, Nat.reduceAdd, Nat.reduceMul, Nat.reduceDiv, Nat.reduceEqDiff, Nat.reduceLT, Nat.reduceLeDiff, reduceCtorEq, Int.reduceEq, Int.reduceNe, Int.reduceLT, Int.reduceLE, Int.reduceAdd, Int.reduceSub, Int.reduceMul, Int.reduceNeg, Int.reduceToNat, Int.cast_ofNat_Int, Int.natCast_zero, Int.natCast_one, Int.toNat_natCast, Nat.reduceBEq, nzs]
  refine CallK.pure ⟨rfl, rfl⟩ rfl (eqR x y l m M hx hy) ?_
  simp only [shs, zts, sos, sls, zss, eqs, sx, sb1, sb2, sb3, sb4, sb5, sb6, sb7, ↓reduceIte, Nat.reduceAdd, Nat.reduceMul, Nat.reduceDiv, Nat.reduceEqDiff, Nat.reduceLT, Nat.reduceLeDiff, reduceCtorEq, Int.reduceEq, Int.reduceNe, Int.reduceLT, Int.reduceLE, Int.reduceAdd, Int.reduceSub, Int.reduceMul, Int.reduceNeg, Int.reduceToNat, Int.cast_ofNat_Int, Int.natCast_zero, Int.natCast_one, Int.toNat_natCast, Nat.reduceBEq]
theorem eqFunc (x y : Value) (l m : List (Value × List Rc)) (M : Mem) (hx : RowM M x 1 (l.map encV)) (hy : RowM M y 1 (m.map encV)) (hl : SegM M l) (hm : SegM M m) :
    Meets Proofs.Try.prog 25 [.v x, .v y, .fn 26 []] M fun r _ _ => r = .v (.bool (decide (l.map (·.2) = m.map (·.2)))) := by
  refine Meets.of_body [0,1,2,6,7,8,9,14,15,16,17,18,30] Proofs.Try.func25 rfl (by kernel_rfl) rfl fun w => ?_
  simp only [Proofs.Try.f25, shs, zts, sos, sls, zss, eqs, sx, sb1, sb2, sb3, sb4, sb5, sb6, sb7, ↓reduceIte, Nat.reduceAdd, Nat.reduceMul, Nat.reduceDiv, Nat.reduceEqDiff, Nat.reduceLT, Nat.reduceLeDiff, reduceCtorEq, Int.reduceEq, Int.reduceNe, Int.reduceLT, Int.reduceLE, Int.reduceAdd, Int.reduceSub, Int.reduceMul, Int.reduceNeg, Int.reduceToNat, Int.cast_ofNat_Int, Int.natCast_zero, Int.natCast_one, Int.toNat_natCast, Nat.reduceBEq, nzs, hx.len, hy.len, hx.sl, hy.sl, List.length_map]
  refine ⟨fun h => ?_, fun h => ?_⟩
  · rw [decide_eq_false (fun e => h (by have := congrArg List.length e; simp at this; omega))]
  have hlen : l.length = m.length := by omega
  have hle := hx.len_le
  rw [List.length_map] at hle
  refine LoopK.go (X := Nat × Nat) (fun p => ([(1, true, .v y), (2, true, .fn 26 []), (15, true, .v x), (16, true, .v (.int .i64 l.length)), (17, true, .v (.int .i64 p.2))], [], M))
    (fun p => p.1 + p.2 = l.length ∧ (l.map (·.2) = m.map (·.2) ↔ (l.drop p.2).map (·.2) = (m.drop p.2).map (·.2))) (fun p => p.1) (l.length, 0) ⟨rfl, Iff.rfl⟩ (Ent.of ?_) ?_
  · simp only [sx, sb1, sb2, sb3, sb4, sb5, sb6, sb7, ↓reduceIte, Nat.reduceAdd, Nat.reduceMul, Nat.reduceDiv, Nat.reduceEqDiff, Nat.reduceLT, Nat.reduceLeDiff, reduceCtorEq, Int.reduceEq, Int.reduceNe, Int.reduceLT, Int.reduceLE, Int.reduceAdd, Int.reduceSub, Int.reduceMul, Int.reduceNeg, Int.reduceToNat, Int.cast_ofNat_Int, Int.natCast_zero, Int.natCast_one, Int.toNat_natCast, Nat.reduceBEq]
  rintro ⟨f, i⟩ ⟨h1, h2⟩
  simp only at h1 h2
  by_cases hil : i < l.length
  · have c1 : ((i : Int) < (l.length : Int)) = True := eq_true (by omega)
    obtain ⟨⟨v1, s1⟩, hl1, hd⟩ := l_drop_at (l := l) (i := i) hil
    obtain ⟨⟨v2, s2⟩, hm1, hd2⟩ := l_drop_at (l := m) (i := i) (by omega)
    have g1 := hx.el1 hl1 rfl
    have g2 := hy.el1 hm1 rfl
    have i1 := hx.ix (i := (i : Int)) (by omega) (by rw [List.length_map]; omega)
    have i2 := hy.ix (i := (i : Int)) (by omega) (by rw [List.length_map]; omega)
    have r1 : RowM M v1 4 (s1.map encR) := hl (v1, s1) (List.mem_of_getElem? hl1)
    have r2 : RowM M v2 4 (s2.map encR) := hm (v2, s2) (List.mem_of_getElem? hm1)
    have i3 : inK .i64 ((i : Int) + 1) := i64I (by omega)
    rw [hd, hd2, List.map_cons, List.map_cons] at h2
    simp only [shs, zts, sos, sls, zss, eqs, sx, sb1, sb2, sb3, sb4, sb5, sb6, sb7, ↓reduceIte, Nat.reduceAdd, Nat.reduceMul, Nat.reduceDiv, Nat.reduceEqDiff, Nat.reduceLT, Nat.reduceLeDiff, reduceCtorEq, Int.reduceEq, Int.reduceNe, Int.reduceLT, Int.reduceLE, Int.reduceAdd, Int.reduceSub, Int.reduceMul, Int.reduceNeg, Int.reduceToNat, Int.cast_ofNat_Int, Int.natCast_zero, Int.natCast_one, Int.toNat_natCast, Nat.reduceBEq, nzs, c1, g1.1, g1.2, g2.1, g2.2, i1, i1.2, i2, i2.2, r1.one, r2.one, i3]
    refine CallK.pure ⟨rfl, rfl⟩ rfl (eqClo v1 v2 s1 s2 M r1 r2) ?_
    by_cases he : s1 = s2
    · have d1 : decide (s1 = s2) = true := decide_eq_true he
      simp only [shs, zts, sos, sls, zss, eqs, sx, sb1, sb2, sb3, sb4, sb5, sb6, sb7, ↓reduceIte, Nat.reduceAdd, Nat.reduceMul, Nat.reduceDiv, Nat.reduceEqDiff, Nat.reduceLT, Nat.reduceLeDiff, reduceCtorEq, Int.reduceEq, Int.reduceNe, Int.reduceLT, Int.reduceLE, Int.reduceAdd, Int.reduceSub, Int.reduceMul, Int.reduceNeg, Int.reduceToNat, Int.cast_ofNat_Int, Int.natCast_zero, Int.natCast_one, Int.toNat_natCast, Nat.reduceBEq, nzs, d1, i3]
      refine ⟨(f - 1, i + 1), ⟨⟨by simp only; omega, ?_⟩, by simp only; omega⟩, Ent.of ?_⟩
      · simp only
        rw [h2, he]
        exact ⟨fun e => (List.cons.inj e).2, fun e => by rw [e]⟩
      · simp only [sx, sb1, sb2, sb3, sb4, sb5, sb6, sb7, ↓reduceIte, Nat.reduceAdd, Nat.reduceMul, Nat.reduceDiv, Nat.reduceEqDiff, Nat.reduceLT, Nat.reduceLeDiff, reduceCtorEq, Int.reduceEq, Int.reduceNe, Int.reduceLT, Int.reduceLE, Int.reduceAdd, Int.reduceSub, Int.reduceMul, Int.reduceNeg, Int.reduceToNat, Int.cast_ofNat_Int, Int.natCast_zero, Int.natCast_one, Int.toNat_natCast, Nat.reduceBEq, Int.natCast_add]
    · have d1 : decide (s1 = s2) = false := decide_eq_false he
      have d2 : decide (l.map (·.2) = m.map (·.2)) = false := decide_eq_false (fun e => he (List.cons.inj (h2.1 e)).1)
      simp only [shs, zts, sos, sls, zss, eqs, sx, sb1, sb2, sb3, sb4, sb5, sb6, sb7, ↓reduceIte, Nat.reduceAdd, Nat.reduceMul, Nat.reduceDiv, Nat.reduceEqDiff, Nat.reduceLT, Nat.reduceLeDiff, reduceCtorEq, Int.reduceEq, Int.reduceNe, Int.reduceLT, Int.reduceLE, Int.reduceAdd, Int.reduceSub, Int.reduceMul, Int.reduceNeg, Int.reduceToNat, Int.cast_ofNat_Int, Int.natCast_zero, Int.natCast_one, Int.toNat_natCast, Nat.reduceBEq, nzs, d1, d2]
  · have c1 : ((i : Int) < (l.length : Int)) = False := eq_false (by omega)
    have d2 : decide (l.map (·.2) = m.map (·.2)) = true := decide_eq_true (h2.2 (by rw [List.drop_eq_nil_of_le (by omega), List.drop_eq_nil_of_le (by omega)]))
    simp only [shs, zts, sos, sls, zss, eqs, sx, sb1, sb2, sb3, sb4, sb5, sb6, sb7, ↓reduceIte, Nat.reduceAdd, Nat.reduceMul, Nat.reduceDiv, Nat.reduceEqDiff, Nat.reduceLT, Nat.reduceLeDiff, reduceCtorEq, Int.reduceEq, Int.reduceNe, Int.reduceLT, Int.reduceLE, Int.reduceAdd, Int.reduceSub, Int.reduceMul, Int.reduceNeg, Int.reduceToNat, Int.cast_ofNat_Int, Int.natCast_zero, Int.natCast_one, Int.toNat_natCast, Nat.reduceBEq, nzs, c1, d2]
theorem sameSegs (x y : Value) (l m : List (List Rc)) (M : Mem) (hx : Segs x l M) (hy : Segs y m M) :
    Meets Proofs.Try.prog 11 [.v x, .v y] M fun r _ _ => r = .v (.bool (decide (l = m))) := by
  obtain ⟨ps, h1, h2, rfl⟩ := hx
  obtain ⟨qs, h3, h4, rfl⟩ := hy
  refine Meets.of_body [0,1,4] Proofs.Try.func11 rfl (by kernel_rfl) rfl fun w => ?_
  simp only [Proofs.Try.f11, shs, zts, sos, sls, zss, eqs, sx, sb1, sb2, sb3, sb4, sb5, sb6, sb7, ↓reduceIte, Nat.reduceAdd, Nat.reduceMul, Nat.reduceDiv, Nat.reduceEqDiff, Nat.reduceLT, Nat.reduceLeDiff, reduceCtorEq, Int.reduceEq, Int.reduceNe, Int.reduceLT, Int.reduceLE, Int.reduceAdd, Int.reduceSub, Int.reduceMul, Int.reduceNeg, Int.reduceToNat, Int.cast_ofNat_Int, Int.natCast_zero, Int.natCast_one, Int.toNat_natCast, Nat.reduceBEq, nzs]
  refine CallK.pure ⟨rfl, rfl⟩ rfl (eqFunc x y ps qs M h1 h3 h2 h4) ?_
  simp only [shs, zts, sos, sls, zss, eqs, sx, sb1, sb2, sb3, sb4, sb5, sb6, sb7, ↓reduceIte, Nat.reduceAdd, Nat.reduceMul, Nat.reduceDiv, Nat.reduceEqDiff, Nat.reduceLT, Nat.reduceLeDiff, reduceCtorEq, Int.reduceEq, Int.reduceNe, Int.reduceLT, Int.reduceLE, Int.reduceAdd, Int.reduceSub, Int.reduceMul, Int.reduceNeg, Int.reduceToNat, Int.cast_ofNat_Int, Int.natCast_zero, Int.natCast_one, Int.toNat_natCast, Nat.reduceBEq]

end Go.X.Sg

namespace Go.X.Pol

def sz (n : Nat) : Nat := if n = 0 then 0 else n.log2 + 1

theorem sz_le {n k : Nat} : sz n ≤ k ↔ n < 2 ^ k := by
  unfold sz
  split
  · rename_i h
    subst h
    exact ⟨fun _ => Nat.two_pow_pos k, fun _ => Nat.zero_le k⟩
  · rename_i h
    rw [Nat.succ_le_iff, Nat.log2_lt h]
theorem lt_sz {n k : Nat} : k < sz n ↔ 2 ^ k ≤ n := by
  have := @sz_le n k
  omega
theorem sz_pos {n : Nat} : 0 < sz n ↔ n ≠ 0 := by
  rw [lt_sz]; simp; omega
theorem sz_eq {n k : Nat} (h1 : 2 ^ k ≤ n) (h2 : n < 2 ^ (k + 1)) : sz n = k + 1 := by
  have := lt_sz.2 h1
  have := sz_le.2 h2
  omega
theorem sz_rng {n : Nat} (h : n ≠ 0) : 2 ^ (sz n - 1) ≤ n ∧ n < 2 ^ (sz n) ∧ sz n = (sz n - 1) + 1 := by
  have := sz_pos.2 h
  exact ⟨lt_sz.1 (by omega), sz_le.1 (Nat.le_refl _), by omega⟩
theorem xor_pow (x y k : Nat) : (x ^^^ y) * 2 ^ k = x * 2 ^ k ^^^ y * 2 ^ k := by
  have := Nat.shiftLeft_xor_distrib (a := x) (b := y) (i := k)
  simpa only [Nat.shiftLeft_eq] using this
theorem two_xor (x y : Nat) : 2 * (x ^^^ y) = 2 * x ^^^ 2 * y := by
  have := xor_pow x y 1
  simp only [Nat.pow_one] at this
  rw [Nat.mul_comm 2, this, Nat.mul_comm 2, Nat.mul_comm 2]
theorem xor_top {x y n : Nat} (h1 : 2 ^ n ≤ x) (h2 : x < 2 ^ (n + 1)) (h3 : y < 2 ^ n) : 2 ^ n ≤ x ^^^ y ∧ x ^^^ y < 2 ^ (n + 1) := by
  have hp : 2 ^ (n + 1) = 2 * 2 ^ n := by rw [Nat.pow_succ]; omega
  have hx : x / 2 ^ n = 1 := Nat.div_eq_of_lt_le (by omega) (by omega)
  have hy : y / 2 ^ n = 0 := Nat.div_eq_of_lt h3
  have := Nat.xor_div_two_pow (a := x) (b := y) (n := n)
  rw [hx, hy] at this
  refine ⟨?_, Nat.xor_lt_two_pow h2 (by omega)⟩
  have hq : (x ^^^ y) / 2 ^ n ≠ 0 := by rw [this]; decide
  rcases Nat.lt_or_ge (x ^^^ y) (2 ^ n) with h | h
  · exact (hq (Nat.div_eq_of_lt h)).elim
  · exact h
theorem xor_drop {x y n : Nat} (h1 : 2 ^ n ≤ x) (h2 : x < 2 ^ (n + 1)) (h3 : 2 ^ n ≤ y) (h4 : y < 2 ^ (n + 1)) : x ^^^ y < 2 ^ n := by
  have hp : 2 ^ (n + 1) = 2 * 2 ^ n := by rw [Nat.pow_succ]; omega
  have hx : x / 2 ^ n = 1 := Nat.div_eq_of_lt_le (by omega) (by omega)
  have hy : y / 2 ^ n = 1 := Nat.div_eq_of_lt_le (by omega) (by omega)
  have := Nat.xor_div_two_pow (a := x) (b := y) (n := n)
  rw [hx, hy, Nat.xor_self] at this
  have h0 := Nat.two_pow_pos n
  rcases Nat.lt_or_ge (x ^^^ y) (2 ^ n) with h | h
  · exact h
  · have := Nat.div_pos h h0
    omega
theorem bit_xor {e x : Nat} (he : e < 2) : e ^^^ 2 * x = e + 2 * x := by
  have h1 := Nat.xor_div_two (a := e) (b := 2 * x)
  rw [show e / 2 = 0 by omega, Nat.mul_div_cancel_left x (by omega), Nat.zero_xor] at h1
  have h2 := @Nat.xor_mod_two_eq_one e (2 * x)
  have : (2 * x) % 2 = 0 := by omega
  rw [this] at h2
  have : e = 0 ∨ e = 1 := by omega
  rcases this with rfl | rfl
  · simp
  · have h3 : (1 ^^^ 2 * x) % 2 = 1 := h2.2 (by decide)
    omega
theorem xor_cancel {a b c : Nat} (h : a ^^^ b = c) : a = c ^^^ b := by
  rw [← h, Nat.xor_assoc, Nat.xor_self, Nat.xor_zero]
theorem xor_eq_zero {a b : Nat} (h : a ^^^ b = 0) : a = b := by
  rw [xor_cancel h, Nat.zero_xor]

/-- the product of two polynomials -/
def mulp (a b : Nat) : Nat := if a = 0 then 0 else (if a % 2 = 1 then b else 0) ^^^ 2 * mulp (a / 2) b
termination_by a
decreasing_by omega

theorem mulp_zero (b : Nat) : mulp 0 b = 0 := by rw [mulp]; rfl
theorem mulp_rec (a b : Nat) : mulp a b = (if a % 2 = 1 then b else 0) ^^^ 2 * mulp (a / 2) b := by
  by_cases h : a = 0
  · subst h; simp [mulp_zero]
  · rw [mulp, if_neg h]
theorem halves {P : Nat → Prop} (h0 : P 0) (h : ∀ a, a ≠ 0 → P (a / 2) → P a) : ∀ a, P a := by
  intro a
  induction a using Nat.strongRecOn with
  | _ a ih =>
    by_cases h1 : a = 0
    · subst h1; exact h0
    · exact h a h1 (ih _ (by omega))
theorem mulp_zero_right (a : Nat) : mulp a 0 = 0 := by
  refine halves (P := fun a => mulp a 0 = 0) (mulp_zero 0) (fun a _ ih => ?_) a
  rw [mulp_rec, ih]; simp
theorem mulp_xor_right (a b c : Nat) : mulp a (b ^^^ c) = mulp a b ^^^ mulp a c := by
  refine halves (P := fun a => mulp a (b ^^^ c) = mulp a b ^^^ mulp a c) (by simp [mulp_zero]) (fun a _ ih => ?_) a
  rw [mulp_rec a (b ^^^ c), mulp_rec a b, mulp_rec a c, ih, two_xor]
  split
  · ac_rfl
  · simp only [Nat.zero_xor]
theorem mulp_two_right (a b : Nat) : mulp a (2 * b) = 2 * mulp a b := by
  refine halves (P := fun a => mulp a (2 * b) = 2 * mulp a b) (by simp [mulp_zero]) (fun a _ ih => ?_) a
  rw [mulp_rec a (2 * b), mulp_rec a b, ih, two_xor]
  split
  · rfl
  · simp only [Nat.mul_zero]
theorem mulp_two (a b : Nat) : mulp (2 * a) b = 2 * mulp a b := by
  rw [mulp_rec, if_neg (by omega), Nat.mul_div_cancel_left a (by omega), Nat.zero_xor]
theorem mulp_one (b : Nat) : mulp 1 b = b := by
  rw [mulp_rec]; simp [mulp_zero]
theorem mulp_xor (a c b : Nat) : mulp (a ^^^ c) b = mulp a b ^^^ mulp c b := by
  refine halves (P := fun a => ∀ c, mulp (a ^^^ c) b = mulp a b ^^^ mulp c b) (fun c => by simp [mulp_zero]) (fun a _ ih c => ?_) a c
  rw [mulp_rec (a ^^^ c), mulp_rec a, mulp_rec c, Nat.xor_div_two, ih, two_xor]
  by_cases h1 : a % 2 = 1 <;> by_cases h2 : c % 2 = 1 <;> simp only [Nat.xor_mod_two_eq_one, h1, h2, if_true, if_false, iff_true, iff_false, not_true, not_false_eq_true, Nat.zero_xor]
  · rw [show b ^^^ 2 * mulp (a / 2) b ^^^ (b ^^^ 2 * mulp (c / 2) b) = (b ^^^ b) ^^^ (2 * mulp (a / 2) b ^^^ 2 * mulp (c / 2) b) by ac_rfl, Nat.xor_self, Nat.zero_xor]
  · ac_rfl
  · ac_rfl
theorem mod_xor (a : Nat) : a = a % 2 ^^^ 2 * (a / 2) := by
  rw [bit_xor (by omega)]; omega
theorem mulp_one_right (a : Nat) : mulp a 1 = a := by
  refine halves (P := fun a => mulp a 1 = a) (mulp_zero 1) (fun a _ ih => ?_) a
  rw [mulp_rec, ih]
  conv => rhs; rw [mod_xor a]
  split
  · rename_i h; rw [h]
  · rename_i h; rw [show a % 2 = 0 by omega]
theorem mulp_comm (a b : Nat) : mulp a b = mulp b a := by
  refine halves (P := fun a => mulp a b = mulp b a) (by rw [mulp_zero, mulp_zero_right]) (fun a _ ih => ?_) a
  conv => rhs; rw [mod_xor a, mulp_xor_right, mulp_two_right]
  rw [mulp_rec a b, ih]
  split
  · rename_i h; rw [h, mulp_one_right]
  · rename_i h; rw [show a % 2 = 0 by omega, mulp_zero_right]
theorem mulp_assoc (a b c : Nat) : mulp (mulp a b) c = mulp a (mulp b c) := by
  refine halves (P := fun a => mulp (mulp a b) c = mulp a (mulp b c)) (by simp [mulp_zero]) (fun a _ ih => ?_) a
  rw [mulp_rec a b, mulp_xor, mulp_two, ih, mulp_rec a (mulp b c)]
  split
  · rfl
  · rw [mulp_zero]
theorem mulp_pow (a b k : Nat) : mulp (a * 2 ^ k) b = mulp a b * 2 ^ k := by
  induction k with
  | zero => simp
  | succ k ih => rw [Nat.pow_succ, ← Nat.mul_assoc, Nat.mul_comm _ 2, mulp_two, ih, Nat.mul_left_comm, Nat.mul_comm 2]
theorem mulp_pow1 (b k : Nat) : mulp (2 ^ k) b = b * 2 ^ k := by
  have := mulp_pow 1 b k
  rw [Nat.one_mul, mulp_one] at this
  exact this

theorem mulp_rng : ∀ (k l a b : Nat), 2 ^ k ≤ a → a < 2 ^ (k + 1) → 2 ^ l ≤ b → b < 2 ^ (l + 1) → 2 ^ (k + l) ≤ mulp a b ∧ mulp a b < 2 ^ (k + l + 1)
  | 0, l, a, b, h1, h2, h3, h4 => by
    obtain rfl : a = 1 := by simp at h1 h2; omega
    rw [mulp_one, Nat.zero_add]
    exact ⟨h3, h4⟩
  | k + 1, l, a, b, h1, h2, h3, h4 => by
    have e1 : 2 ^ (k + 1) = 2 * 2 ^ k := by rw [Nat.pow_succ]; omega
    have e2 : 2 ^ (k + 1 + 1) = 2 * 2 ^ (k + 1) := by rw [Nat.pow_succ]; omega
    obtain ⟨g1, g2⟩ := mulp_rng k l (a / 2) b (by omega) (by omega) h3 h4
    have e3 : 2 ^ (k + 1 + l) = 2 * 2 ^ (k + l) := by rw [show k + 1 + l = (k + l) + 1 by omega, Nat.pow_succ]; omega
    have e4 : 2 ^ (k + 1 + l + 1) = 2 * 2 ^ (k + l + 1) := by rw [show k + 1 + l + 1 = (k + l + 1) + 1 by omega, Nat.pow_succ]; omega
    have e5 : 2 ^ (l + 1) ≤ 2 ^ (k + 1 + l) := Nat.pow_le_pow_right (by omega) (by omega)
    rw [mulp_rec, Nat.xor_comm]
    have hy : (if a % 2 = 1 then b else 0) < 2 ^ (k + 1 + l) := by split <;> omega
    exact xor_top (by omega) (by omega) hy
theorem sz_mulp {a b : Nat} (ha : a ≠ 0) (hb : b ≠ 0) : sz (mulp a b) + 1 = sz a + sz b := by
  obtain ⟨h1, h2, h3⟩ := sz_rng ha
  obtain ⟨h4, h5, h6⟩ := sz_rng hb
  rw [h3] at h2
  rw [h6] at h5
  obtain ⟨h7, h8⟩ := mulp_rng _ _ _ _ h1 h2 h4 h5
  rw [sz_eq h7 h8]
  omega
theorem sz_mul_pow {b k : Nat} (hb : b ≠ 0) : sz (b * 2 ^ k) = sz b + k := by
  have h := sz_mulp (a := 2 ^ k) (Nat.ne_of_gt (Nat.two_pow_pos k)) hb
  rw [mulp_pow1, sz_eq (n := 2 ^ k) (k := k) (Nat.le_refl _) (Nat.pow_lt_pow_right (by omega) (by omega))] at h
  omega
theorem sz_xor {a b n : Nat} (h1 : sz a ≤ n) (h2 : sz b ≤ n) : sz (a ^^^ b) ≤ n := by
  rw [sz_le] at *
  exact Nat.xor_lt_two_pow h1 h2
theorem sz_xor_drop {a b : Nat} (h : a ≠ 0) (he : sz a = sz b) : sz (a ^^^ b) < sz a := by
  obtain ⟨h1, h2, h3⟩ := sz_rng h
  have hb : b ≠ 0 := sz_pos.1 (by rw [← he]; exact sz_pos.2 h)
  obtain ⟨h4, h5, h6⟩ := sz_rng hb
  rw [h3] at h2
  rw [← he] at h4 h5
  rw [h3] at h5
  have := sz_le.2 (xor_drop h1 h2 h4 h5)
  omega

theorem uniq {q q' r r' b : Nat} (h : mulp q b ^^^ r = mulp q' b ^^^ r') (h1 : sz r < sz b) (h2 : sz r' < sz b) : q = q' ∧ r = r' := by
  have hb : b ≠ 0 := sz_pos.1 (by omega)
  have h3 : mulp (q ^^^ q') b = r ^^^ r' := by
    rw [mulp_xor]
    have := xor_cancel h
    rw [this, show mulp q' b ^^^ r' ^^^ r ^^^ mulp q' b = (mulp q' b ^^^ mulp q' b) ^^^ (r ^^^ r') by ac_rfl, Nat.xor_self, Nat.zero_xor]
  by_cases hq : q ^^^ q' = 0
  · rw [hq, mulp_zero] at h3
    exact ⟨xor_eq_zero hq, xor_eq_zero h3.symm⟩
  · have h4 := sz_mulp hq hb
    rw [h3] at h4
    have h5 := sz_xor (n := sz b - 1) (a := r) (b := r') (by omega) (by omega)
    have := sz_pos.2 hq
    omega

/-- division -/
def pdm : Nat → Nat → Nat → Nat × Nat
  | 0, a, _ => (0, a)
  | f + 1, a, b => if sz a < sz b then (0, a) else ((pdm f (a ^^^ b * 2 ^ (sz a - sz b)) b).1 ^^^ 2 ^ (sz a - sz b), (pdm f (a ^^^ b * 2 ^ (sz a - sz b)) b).2)
theorem sz_step {a b : Nat} (hb : b ≠ 0) (h : sz b ≤ sz a) : sz (a ^^^ b * 2 ^ (sz a - sz b)) < sz a := by
  have ha : a ≠ 0 := sz_pos.1 (by have := sz_pos.2 hb; omega)
  exact sz_xor_drop ha (by rw [sz_mul_pow hb]; omega)
theorem pdm_spec : ∀ (f a b : Nat), b ≠ 0 → sz a ≤ f → a = mulp (pdm f a b).1 b ^^^ (pdm f a b).2 ∧ sz (pdm f a b).2 < sz b
  | 0, a, b, hb, hf => by
    simp only [pdm, mulp_zero, Nat.zero_xor, true_and]
    have := sz_pos.2 hb
    omega
  | f + 1, a, b, hb, hf => by
    simp only [pdm]
    split
    · rename_i h
      simp only [mulp_zero, Nat.zero_xor, true_and]
      exact h
    · rename_i h
      obtain ⟨h1, h2⟩ := pdm_spec f (a ^^^ b * 2 ^ (sz a - sz b)) b hb (by have := sz_step hb (show sz b ≤ sz a by omega); omega)
      refine ⟨?_, h2⟩
      have h3 := xor_cancel h1
      simp only [mulp_xor, mulp_pow1]
      refine h3.trans ?_
      ac_rfl
def pdiv (a b : Nat) : Nat := (pdm (sz a) a b).1
def pmod (a b : Nat) : Nat := (pdm (sz a) a b).2
theorem divmod {a b : Nat} (hb : b ≠ 0) : a = mulp (pdiv a b) b ^^^ pmod a b ∧ sz (pmod a b) < sz b := pdm_spec _ a b hb (Nat.le_refl _)
theorem divmod_uniq {a b q r : Nat} (h : a = mulp q b ^^^ r) (hr : sz r < sz b) : pdiv a b = q ∧ pmod a b = r := by
  have hb : b ≠ 0 := sz_pos.1 (by omega)
  obtain ⟨h1, h2⟩ := divmod (a := a) hb
  exact uniq (by rw [← h1, ← h]) h2 hr
theorem pmod_small {a m : Nat} (h : sz a < sz m) : pmod a m = a := (divmod_uniq (q := 0) (by rw [mulp_zero, Nat.zero_xor]) h).2
theorem pmod_add {q x m : Nat} (hm : m ≠ 0) : pmod (mulp q m ^^^ x) m = pmod x m := by
  obtain ⟨h1, h2⟩ := divmod (a := x) hm
  refine (divmod_uniq (q := q ^^^ pdiv x m) ?_ h2).2
  conv => lhs; rw [h1]
  rw [mulp_xor]
  ac_rfl
theorem pmod_xor {a b m : Nat} (hm : m ≠ 0) : pmod (a ^^^ b) m = pmod a m ^^^ pmod b m := by
  obtain ⟨h1, h2⟩ := divmod (a := a) hm
  obtain ⟨h3, h4⟩ := divmod (a := b) hm
  refine (divmod_uniq (q := pdiv a m ^^^ pdiv b m) ?_ ?_).2
  · conv => lhs; rw [h1, h3]
    rw [mulp_xor]
    ac_rfl
  · have := sz_xor (n := sz m - 1) (a := pmod a m) (b := pmod b m) (by omega) (by omega)
    omega
theorem pmod_mul_left {a b m : Nat} (hm : m ≠ 0) : pmod (mulp (pmod a m) b) m = pmod (mulp a b) m := by
  obtain ⟨h1, h2⟩ := divmod (a := a) hm
  conv => rhs; rw [h1]
  rw [mulp_xor, mulp_assoc, mulp_comm m b, ← mulp_assoc, pmod_add hm]
/-! ### Lists of coefficients -/
theorem testBit_flip (x k i : Nat) : (x ^^^ 2 ^ k).testBit i = if i = k then !x.testBit i else x.testBit i := by
  rw [Nat.testBit_xor, Nat.testBit_two_pow]
  by_cases h : k = i
  · subst h; simp
  · rw [if_neg (fun e => h e.symm)]; simp [h]
/-- an addend whose bits are free is an or -/
theorem or_pow {q s : Nat} (h : q.testBit s = false) : q ||| 2 ^ s = q ^^^ 2 ^ s := by
  apply Nat.eq_of_testBit_eq
  intro i
  rw [Nat.testBit_or, Nat.testBit_xor, Nat.testBit_two_pow]
  by_cases hi : s = i
  · subst hi; simp [h]
  · simp [hi]
theorem or_low {p c k : Nat} (h : c < 2 ^ k) : p * 2 ^ k ||| c = p * 2 ^ k + c := by
  have := Nat.shiftLeft_add_eq_or_of_lt h p
  rw [Nat.shiftLeft_eq] at this
  exact this.symm
end Go.X.Pol

namespace Go.X.Pl
open Go Go.X Go.X.Pol

theorem sz_shift {x k : Nat} (h : 2 ^ k ≤ x) : sz x = k + sz (x / 2 ^ k) := by
  have h0 := Nat.two_pow_pos k
  have h1 : x / 2 ^ k ≠ 0 := Nat.ne_of_gt (Nat.div_pos h h0)
  obtain ⟨h2, h3, h4⟩ := sz_rng h1
  have h5 := Nat.div_mul_le_self x (2 ^ k)
  have h6 : 2 ^ (sz (x / 2 ^ k) - 1) * 2 ^ k ≤ x := Nat.le_trans (Nat.mul_le_mul_right _ h2) h5
  have h7 : x < 2 ^ sz (x / 2 ^ k) * 2 ^ k := (Nat.div_lt_iff_lt_mul h0).1 h3
  rw [← Nat.pow_add] at h6 h7
  rw [sz_eq (k := sz (x / 2 ^ k) - 1 + k) h6 (by rw [show sz (x / 2 ^ k) - 1 + k + 1 = sz (x / 2 ^ k) + k by omega]; exact h7)]
  omega

def tabB (T : List UInt8) : Bool := T.length == 256 && (List.range 256).all fun i => strIx T (i : Int) == (sz i : Int)
theorem tab (T : List UInt8) (hT : tabB T = true) (c y : Int) (n x : Nat) (hy : y = (n : Int)) (hn : n < 256) (hx : (sz x : Int) = c + sz n) (hc : 0 ≤ c ∧ c ≤ 56) :
    Shp.int IntKind.u64 ≠ Shp.bad ∧ (0 ≤ IntKind.u8.wrap y ∧ IntKind.u8.wrap y < (T.length : Int)) ∧ Shp.int IntKind.u8 ≠ Shp.bad ∧ inK IntKind.i64 (c + IntKind.i64.wrap (strIx T (IntKind.u8.wrap y))) ∧
      SV.v (Value.int IntKind.i64 (c + IntKind.i64.wrap (strIx T (IntKind.u8.wrap y)))) = SV.v (Value.int IntKind.i64 ((sz x : Nat) : Int)) := by
  simp only [tabB, Bool.and_eq_true, beq_iff_eq, List.all_eq_true, List.mem_range] at hT
  obtain ⟨h1, h2⟩ := hT
  have h3 := h2 n hn
  have h4 : IntKind.u8.wrap y = (n : Int) := by rw [hy]; exact wrap_in (k := .u8) ⟨by simp only [lo]; omega, by simp only [hi]; omega⟩
  have h5 : sz n ≤ 8 := sz_le.2 (by omega)
  rw [h4, h3, h1, wrap_in (k := .i64) (n := ((sz n : Nat) : Int)) ⟨by simp only [lo]; omega, by simp only [hi]; omega⟩, hx]
  exact ⟨(fun h => by cases h), ⟨by omega, by omega⟩, (fun h => by cases h), ⟨by simp only [lo]; omega, by simp only [hi]; omega⟩, rfl⟩
theorem tab0 (T : List UInt8) (hT : tabB T = true) (y : Int) (n x : Nat) (hy : y = (n : Int)) (hn : n < 256) (hx : (sz x : Int) = sz n) :
    Shp.int IntKind.u64 ≠ Shp.bad ∧ (0 ≤ IntKind.u8.wrap y ∧ IntKind.u8.wrap y < (T.length : Int)) ∧ Shp.int IntKind.u8 ≠ Shp.bad ∧ inK IntKind.i64 (0 + IntKind.i64.wrap (strIx T (IntKind.u8.wrap y))) ∧
      SV.v (Value.int IntKind.i64 (0 + IntKind.i64.wrap (strIx T (IntKind.u8.wrap y)))) = SV.v (Value.int IntKind.i64 ((sz x : Nat) : Int)) := tab T hT 0 y n x hy hn (by omega) (by omega)

theorem len64 (x : Nat) (M : Mem) (hx : x < 18446744073709551616) :
    Meets Proofs.Try.prog 48 [.v (.int .u64 (x : Int))] M fun r _ _ => r = .v (.int .i64 ((sz x : Nat) : Int)) := by
  refine Meets.of_body [0,2,4,8,14] Proofs.Try.func48 rfl (by kernel_rfl) rfl fun w => ?_
  simp only [Proofs.Try.f48, shs, zts, sos, sls, zss, eqs, sx, sb1, sb2, sb3, sb4, sb5, sb6, sb7, ↓reduceIte, Nat.reduceAdd, Nat.reduceMul, Nat.reduceDiv, Nat.reduceEqDiff, Nat.reduceLT, Nat.reduceLeDiff, reduceCtorEq, Int.reduceEq, Int.reduceNe, Int.reduceLT, Int.reduceLE, Int.reduceAdd, Int.reduceSub, Int.reduceMul, Int.reduceNeg, Int.reduceToNat, Int.cast_ofNat_Int, Int.natCast_zero, Int.natCast_one, Int.toNat_natCast, Nat.reduceBEq, inK, lo, hi]
  rw [show ((IntKind.u64.bits : Nat) : Int) = 64 from rfl]
  have e1 : 4294967296 ≤ x → sz x = 32 + sz (x / 4294967296) := fun h => sz_shift (k := 32) h
  have e2 : ∀ y, 65536 ≤ y → sz y = 16 + sz (y / 65536) := fun y h => sz_shift (k := 16) h
  have e3 : ∀ y, 256 ≤ y → sz y = 8 + sz (y / 256) := fun y h => sz_shift (k := 8) h
  have tx := e2 x
  have ty := e2 (x / 4294967296)
  have t1 := e3 x
  have t2 := e3 (x / 4294967296)
  have t3 := e3 (x / 65536)
  have t4 := e3 (x / 4294967296 / 65536)
  refine ⟨fun h1 => ⟨by omega, fun h2 => ⟨by omega, fun h3 => ⟨by omega, ?_⟩, fun h3 => ?_⟩, fun h2 => ⟨fun h3 => ⟨by omega, ?_⟩, fun h3 => ?_⟩⟩,
    fun h1 => ⟨fun h2 => ⟨by omega, fun h3 => ⟨by omega, ?_⟩, fun h3 => ?_⟩, fun h2 => ⟨fun h3 => ⟨by omega, ?_⟩, fun h3 => ?_⟩⟩⟩
  · exact tab _ (by kernel_rfl) _ _ (x / 4294967296 / 65536 / 256) x (by omega) (by omega) (by omega) (by omega)
  · exact tab _ (by kernel_rfl) _ _ (x / 4294967296 / 65536) x (by omega) (by omega) (by omega) (by omega)
  · exact tab _ (by kernel_rfl) _ _ (x / 4294967296 / 256) x (by omega) (by omega) (by omega) (by omega)
  · exact tab _ (by kernel_rfl) _ _ (x / 4294967296) x (by omega) (by omega) (by omega) (by omega)
  · exact tab _ (by kernel_rfl) _ _ (x / 65536 / 256) x (by omega) (by omega) (by omega) (by omega)
  · exact tab _ (by kernel_rfl) _ _ (x / 65536) x (by omega) (by omega) (by omega) (by omega)
  · exact tab _ (by kernel_rfl) _ _ (x / 256) x (by omega) (by omega) (by omega) (by omega)
  · exact tab0 _ (by kernel_rfl) _ x x (by omega) (by omega) (by omega)

theorem deg (x : Nat) (M : Mem) (hx : x < 18446744073709551616) :
    Meets Proofs.Try.prog 47 [.v (.int .u64 (x : Int))] M fun r _ _ => r = .v (.int .i64 ((sz x : Nat) - 1 : Int)) := by
  refine Meets.of_body [0,2] Proofs.Try.func47 rfl (by kernel_rfl) rfl fun w => ?_
  simp only [Proofs.Try.f47, shs, zts, sos, sls, zss, eqs, sx, sb1, sb2, sb3, sb4, sb5, sb6, sb7, ↓reduceIte, Nat.reduceAdd, Nat.reduceMul, Nat.reduceDiv, Nat.reduceEqDiff, Nat.reduceLT, Nat.reduceLeDiff, reduceCtorEq, Int.reduceEq, Int.reduceNe, Int.reduceLT, Int.reduceLE, Int.reduceAdd, Int.reduceSub, Int.reduceMul, Int.reduceNeg, Int.reduceToNat, Int.cast_ofNat_Int, Int.natCast_zero, Int.natCast_one, Int.toNat_natCast, Nat.reduceBEq, inK, lo, hi]
  refine CallK.pure ⟨rfl, rfl⟩ rfl (len64 x M hx) ?_
  have : sz x ≤ 64 := sz_le.2 hx
  simp only [shs, zts, sos, sls, zss, eqs, sx, sb1, sb2, sb3, sb4, sb5, sb6, sb7, ↓reduceIte, Nat.reduceAdd, Nat.reduceMul, Nat.reduceDiv, Nat.reduceEqDiff, Nat.reduceLT, Nat.reduceLeDiff, reduceCtorEq, Int.reduceEq, Int.reduceNe, Int.reduceLT, Int.reduceLE, Int.reduceAdd, Int.reduceSub, Int.reduceMul, Int.reduceNeg, Int.reduceToNat, Int.cast_ofNat_Int, Int.natCast_zero, Int.natCast_one, Int.toNat_natCast, Nat.reduceBEq, inK, lo, hi]
  omega

theorem pw (s : Nat) : (2 : Int) ^ s = ((2 ^ s : Nat) : Int) := by simp
theorem mw (a s : Nat) : (a : Int) * 2 ^ s = ((a * 2 ^ s : Nat) : Int) := by simp
theorem mwc (a s : Nat) : (a : Int) * ((2 ^ s : Nat) : Int) = ((a * 2 ^ s : Nat) : Int) := by simp
theorem b64 : ((IntKind.i64.bits : Nat) : Int) = 64 := rfl
theorem b64u : ((IntKind.u64.bits : Nat) : Int) = 64 := rfl
theorem uw {a : Nat} (h : a < 18446744073709551616) : IntKind.u64.wrap (a : Int) = (a : Int) := wrap_in (k := .u64) ⟨by simp only [lo]; omega, by simp only [hi]; omega⟩
theorem iw {a : Nat} (h : a < 9223372036854775808) : IntKind.i64.wrap (a : Int) = (a : Int) := wrap_in (k := .i64) ⟨by simp only [lo]; omega, by simp only [hi]; omega⟩
theorem orw {x y : Nat} (hx : x < 18446744073709551616) (hy : y < 18446744073709551616) : orV .u64 (x : Int) (y : Int) = ((x ||| y : Nat) : Int) := by
  show IntKind.u64.wrap ((BitVec.ofInt 64 (x : Int) ||| BitVec.ofInt 64 (y : Int)).toNat : Int) = _
  have hl := Nat.or_lt_two_pow (n := 64) hx hy
  rw [BitVec.toNat_or, toNat_ofInt _ _ (by omega) (by omega), toNat_ofInt _ _ (by omega) (by omega), Int.toNat_natCast, Int.toNat_natCast]
  exact uw hl
theorem sz31 {a : Nat} (h : a ≤ 2147483647) : sz a ≤ 31 := sz_le.2 (by omega)
theorem over (a b : Nat) (M : Mem) (ha : a < 18446744073709551616) (hb : b ≤ 2147483647) (hb0 : b ≠ 0) :
    Meets Proofs.Try.prog 45 [.v (.int .u64 (a : Int)), .v (.int .i64 (b : Int))] M fun r _ _ => r = .tup [.v (.int .u64 ((pdiv a b : Nat) : Int)), .v (.int .u64 ((pmod a b : Nat) : Int))] := by
  refine Meets.of_body [0,1,4,5,6,7,8,15] Proofs.Try.func45 rfl (by kernel_rfl) rfl fun w => ?_
  have hb' : b < 18446744073709551616 := by omega
  have hsb := sz_pos.2 hb0
  simp only [Proofs.Try.f45, shs, zts, sos, sls, zss, eqs, sx, sb1, sb2, sb3, sb4, sb5, sb6, sb7, ↓reduceIte, Nat.reduceAdd, Nat.reduceMul, Nat.reduceDiv, Nat.reduceEqDiff, Nat.reduceLT, Nat.reduceLeDiff, reduceCtorEq, Int.reduceEq, Int.reduceNe, Int.reduceLT, Int.reduceLE, Int.reduceAdd, Int.reduceSub, Int.reduceMul, Int.reduceNeg, Int.reduceToNat, Int.cast_ofNat_Int, Int.natCast_zero, Int.natCast_one, Int.toNat_natCast, Nat.reduceBEq, uw hb']
  refine ⟨(fun h => by cases h), ?_⟩
  refine CallK.pure ⟨rfl, rfl⟩ rfl (deg b M hb') ?_
  simp only [shs, zts, sos, sls, zss, eqs, sx, sb1, sb2, sb3, sb4, sb5, sb6, sb7, ↓reduceIte, Nat.reduceAdd, Nat.reduceMul, Nat.reduceDiv, Nat.reduceEqDiff, Nat.reduceLT, Nat.reduceLeDiff, reduceCtorEq, Int.reduceEq, Int.reduceNe, Int.reduceLT, Int.reduceLE, Int.reduceAdd, Int.reduceSub, Int.reduceMul, Int.reduceNeg, Int.reduceToNat, Int.cast_ofNat_Int, Int.natCast_zero, Int.natCast_one, Int.toNat_natCast, Nat.reduceBEq]
  refine LoopK.go (X := Nat × Nat) (fun p => ([(0, true, .v (.int .u64 (p.2 : Int))), (1, true, .v (.int .i64 b)), (6, true, .v (.int .u64 (p.1 : Int))), (7, true, .v (.int .i64 ((sz b : Nat) - 1 : Int)))], [], M))
    (fun p => ((a = mulp p.1 b ^^^ p.2 ∧ ∀ j, j + sz b ≤ sz p.2 → p.1.testBit j = false) ∧ p.2 < 2 ^ 64) ∧ p.1 < 2 ^ 64) (fun p => sz p.2) (0, a) ⟨⟨⟨by rw [mulp_zero, Nat.zero_xor], fun j _ => Nat.zero_testBit j⟩, ha⟩, Nat.two_pow_pos 64⟩ (Ent.of ?_) ?_
  · simp only [sx, sb1, sb2, sb3, sb4, sb5, sb6, sb7, ↓reduceIte, Nat.reduceAdd, Nat.reduceMul, Nat.reduceDiv, Nat.reduceEqDiff, Nat.reduceLT, Nat.reduceLeDiff, reduceCtorEq, Int.reduceEq, Int.reduceNe, Int.reduceLT, Int.reduceLE, Int.reduceAdd, Int.reduceSub, Int.reduceMul, Int.reduceNeg, Int.reduceToNat, Int.cast_ofNat_Int, Int.natCast_zero, Int.natCast_one, Int.toNat_natCast, Nat.reduceBEq]
  rintro ⟨q, x⟩ ⟨⟨⟨h1, h2⟩, h3⟩, h4⟩
  simp only at h1 h2 h3 h4
  have h3' : x < 18446744073709551616 := h3
  have h4' : q < 18446744073709551616 := h4
  have hsx : sz x ≤ 64 := sz_le.2 h3
  simp only [shs, zts, sos, sls, zss, eqs, sx, sb1, sb2, sb3, sb4, sb5, sb6, sb7, ↓reduceIte, Nat.reduceAdd, Nat.reduceMul, Nat.reduceDiv, Nat.reduceEqDiff, Nat.reduceLT, Nat.reduceLeDiff, reduceCtorEq, Int.reduceEq, Int.reduceNe, Int.reduceLT, Int.reduceLE, Int.reduceAdd, Int.reduceSub, Int.reduceMul, Int.reduceNeg, Int.reduceToNat, Int.cast_ofNat_Int, Int.natCast_zero, Int.natCast_one, Int.toNat_natCast, Nat.reduceBEq]
  refine CallK.pure ⟨rfl, rfl⟩ rfl (deg x M h3') ?_
  simp only [shs, zts, sos, sls, zss, eqs, sx, sb1, sb2, sb3, sb4, sb5, sb6, sb7, ↓reduceIte, Nat.reduceAdd, Nat.reduceMul, Nat.reduceDiv, Nat.reduceEqDiff, Nat.reduceLT, Nat.reduceLeDiff, reduceCtorEq, Int.reduceEq, Int.reduceNe, Int.reduceLT, Int.reduceLE, Int.reduceAdd, Int.reduceSub, Int.reduceMul, Int.reduceNeg, Int.reduceToNat, Int.cast_ofNat_Int, Int.natCast_zero, Int.natCast_one, Int.toNat_natCast, Nat.reduceBEq]
  refine ⟨fun h5 => ?_, fun h5 => ?_⟩
  · refine CallK.pure ⟨rfl, rfl⟩ rfl (deg x M h3') ?_
    have hs : (sz x : Int) - 1 - ((sz b : Int) - 1) = ((sz x - sz b : Nat) : Int) := by omega
    have h6 : 2 ^ (sz x - sz b) < 2 ^ 64 := Nat.pow_lt_pow_right (by omega) (by omega)
    have h6' : 2 ^ (sz x - sz b) < 18446744073709551616 := h6
    have h7 : sz (b * 2 ^ (sz x - sz b)) = sz x := by rw [sz_mul_pow hb0]; omega
    have h8 : b * 2 ^ (sz x - sz b) < 2 ^ 64 := sz_le.1 (by omega)
    have h9 := sz_step hb0 (show sz b ≤ sz x by omega)
    have h10 := h2 (sz x - sz b) (by omega)
    have h11 : (0 : Int) ≤ ((2 ^ (sz x - sz b) : Nat) : Int) ∧ ((2 ^ (sz x - sz b) : Nat) : Int) ≤ 18446744073709551615 := by
      clear h10 h9 h8 h7 h6 hs
      generalize 2 ^ (sz x - sz b) = P at h6' ⊢
      omega
    simp only [shs, zts, sos, sls, zss, eqs, sx, sb1, sb2, sb3, sb4, sb5, sb6, sb7, ↓reduceIte, Nat.reduceAdd, Nat.reduceMul, Nat.reduceDiv, Nat.reduceEqDiff, Nat.reduceLT, Nat.reduceLeDiff, reduceCtorEq, Int.reduceEq, Int.reduceNe, Int.reduceLT, Int.reduceLE, Int.reduceAdd, Int.reduceSub, Int.reduceMul, Int.reduceNeg, Int.reduceToNat, Int.cast_ofNat_Int, Int.natCast_zero, Int.natCast_one, Int.toNat_natCast, Nat.reduceBEq, inK, lo, hi, hs, pw, mwc, Int.one_mul, b64, b64u, uw hb', orw h4' h6', or_pow h10]
    refine ⟨by omega, ⟨by omega, h11⟩, (fun h => by cases h), by omega, by omega, (q ^^^ 2 ^ (sz x - sz b), x ^^^ b * 2 ^ (sz x - sz b)), ⟨⟨⟨⟨?_, fun j hj => ?_⟩, Nat.xor_lt_two_pow h3 h8⟩, Nat.xor_lt_two_pow h4 h6⟩, h9⟩, Ent.of ?_⟩
    · simp only
      rw [mulp_xor, mulp_pow1]
      conv => lhs; rw [h1]
      rw [show mulp q b ^^^ b * 2 ^ (sz x - sz b) ^^^ (x ^^^ b * 2 ^ (sz x - sz b)) = (mulp q b ^^^ x) ^^^ (b * 2 ^ (sz x - sz b) ^^^ b * 2 ^ (sz x - sz b)) by ac_rfl, Nat.xor_self, Nat.xor_zero]
    · simp only at hj ⊢
      rw [testBit_flip, if_neg (by omega)]
      exact h2 j (by omega)
    · simp only [sx, sb1, sb2, sb3, sb4, sb5, sb6, sb7, ↓reduceIte, Nat.reduceAdd, Nat.reduceMul, Nat.reduceDiv, Nat.reduceEqDiff, Nat.reduceLT, Nat.reduceLeDiff, reduceCtorEq, Int.reduceEq, Int.reduceNe, Int.reduceLT, Int.reduceLE, Int.reduceAdd, Int.reduceSub, Int.reduceMul, Int.reduceNeg, Int.reduceToNat, Int.cast_ofNat_Int, Int.natCast_zero, Int.natCast_one, Int.toNat_natCast, Nat.reduceBEq]
  · obtain ⟨e1, e2⟩ := divmod_uniq h1 (show sz x < sz b by omega)
    rw [e1, e2]

/-! ### the exported functions -/
def bad (a : Int) : Prop := a < 0 ∨ 2147483647 < a
instance (a : Int) : Decidable (bad a) := inferInstanceAs (Decidable (_ ∨ _))
/-! ### greatest common divisors -/
end Go.X.Pl

