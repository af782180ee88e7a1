/- seg.Put, woolref.Stand; woollaw.SegSays returns true. Conditions: none. -/
import Derived.Test.YtkhadbanpfngnaaSegP
set_option linter.unusedSimpArgs false
set_option linter.unusedVariables false
set_option maxHeartbeats 4000000
set_option maxRecDepth 20000
namespace Go.X.Sg
open Go Go.X

/-- segments, as they lie -/
def Segs (v : Value) (ls : List (List Rc)) (M : Mem) : Prop := ∃ ps : List (Value × List Rc), RowM M v 1 (ps.map encV) ∧ SegM M ps ∧ ps.map (·.2) = ls
theorem Segs.nil (M : Mem) : Segs (.slice none 0 0) [] M := ⟨[], RowM.nil _ _, fun p hp => by simp at hp, rfl⟩
theorem Segs.le {v : Value} {ls : List (List Rc)} {M M' : Mem} (h : Segs v ls M) (hle : M.le M') : Segs v ls M' := by
  obtain ⟨ps, h1, h2, h3⟩ := h
  exact ⟨ps, h1.le hle, h2.le hle, h3⟩
theorem copied_nil (y : Value) (M : Mem) (hy : RowM M y 1 []) : Meets Proofs.Try.prog 97 [.v y] M (fun r _ _ => r = .v (.slice none 0 0)) := by
  refine Meets.of_body [0,2,3,5,6,7,8,9] Proofs.Try.func97 rfl (by kernel_rfl) rfl fun w => ?_
  have hl := hy.len
  rw [List.length_nil] at hl
  simp only [Proofs.Try.f97, shs, zts, sos, sls, zss, eqs, sx, sb1, sb2, sb3, sb4, sb5, ↓reduceIte, Nat.reduceAdd, Nat.reduceMul, Nat.reduceDiv, Nat.reduceEqDiff, Nat.reduceLT, Nat.reduceLeDiff, reduceCtorEq, Int.reduceEq, Int.reduceNe, Int.reduceLT, Int.reduceLE, Int.reduceAdd, Int.reduceSub, Int.reduceMul, Int.reduceNeg, Int.reduceToNat, Int.cast_ofNat_Int, Int.natCast_zero, Int.natCast_one, Int.toNat_natCast, Nat.reduceBEq, nzs, hl, hy.sl]
  refine LoopK.go (X := Unit) (fun x => ([(3, true, .v (.slice none 0 0)), (6, true, .v y), (7, true, .v (.int .i64 ((0 : Nat) : Int))), (8, true, .v (.int .i64 0))], [], M)) (fun _ => True) (fun _ => 0) () trivial (Ent.of ?_) ?_
  · simp only [sx, sb1, sb2, sb3, sb4, sb5, ↓reduceIte, Nat.reduceAdd, Nat.reduceMul, Nat.reduceDiv, Nat.reduceEqDiff, Nat.reduceLT, Nat.reduceLeDiff, reduceCtorEq, Int.reduceEq, Int.reduceNe, Int.reduceLT, Int.reduceLE, Int.reduceAdd, Int.reduceSub, Int.reduceMul, Int.reduceNeg, Int.reduceToNat, Int.cast_ofNat_Int, Int.natCast_zero, Int.natCast_one, Int.toNat_natCast, Nat.reduceBEq]
  rintro _ _
  simp only [shs, zts, sos, sls, zss, eqs, sx, sb1, sb2, sb3, sb4, sb5, ↓reduceIte, Nat.reduceAdd, Nat.reduceMul, Nat.reduceDiv, Nat.reduceEqDiff, Nat.reduceLT, Nat.reduceLeDiff, reduceCtorEq, Int.reduceEq, Int.reduceNe, Int.reduceLT, Int.reduceLE, Int.reduceAdd, Int.reduceSub, Int.reduceMul, Int.reduceNeg, Int.reduceToNat, Int.cast_ofNat_Int, Int.natCast_zero, Int.natCast_one, Int.toNat_natCast, Nat.reduceBEq, nzs]
theorem Put_ok (y : Value) (ps : List (Value × List Rc)) (r : Rc) (M : Mem) (hy : RowM M y 1 (ps.map encV)) (hM : SegM M ps) (hk : ∀ p ∈ ps, okS p.2) (hr0 : r.2.length ≤ 140737488351232) (hE : putE (ps.map (·.2)) r = 0) :
    Meets Proofs.Try.prog 48 [.v y, recV r] M (fun r' _ M' => ∃ u, r' = .tup [.v u, .v (.int .i64 0)] ∧ Segs u (standL (ps.map (·.2)) r) M') := by
  have hC := check y ps M hy hM hk
  have hEE := hE
  unfold putE at hE
  have e1 : segE (ps.map (·.2)) = 0 := by
    rcases Int.lt_trichotomy (segE (ps.map (·.2))) 0 with h | h | h
    · rw [if_pos (by omega)] at hE; omega
    · exact h
    · rw [if_pos (by omega)] at hE; omega
  rw [if_neg (by omega)] at hE
  have e2 : segE [[r]] = 0 := by
    rcases Int.lt_trichotomy (segE [[r]]) 0 with h | h | h
    · rw [if_pos (by omega)] at hE; omega
    · exact h
    · rw [if_pos (by omega)] at hE; omega
  rw [if_neg (by omega)] at hE
  have e3 : (standL (ps.map (·.2)) r).length ≤ 16 := by
    rcases Nat.lt_or_ge 16 (standL (ps.map (·.2)) r).length with h | h
    · rw [if_pos h] at hE; cases hE
    · exact h
  rw [e1] at hC
  have hr64 : r.2.length ≤ 64 := by
    rw [segE_one] at e2
    split at e2
    · cases e2
    · split at e2
      · cases e2
      · omega
  obtain ⟨h16, hall⟩ := segE_ok e1
  rw [List.length_map] at h16
  rcases List.eq_nil_or_concat ps with rfl | ⟨ini, ⟨v, s⟩, rfl⟩
  · refine (Meets.of_body (R := fun r' _ M' => ∃ u v, r' = .tup [.v u, .v (.int .i64 0)] ∧ RowM M' u 1 [[v]] ∧ RowM M' v 4 [encR r]) [0,1,3,4,5,6,7,8,9,13,20,30] Proofs.Try.func48 rfl (by kernel_rfl) rfl fun w => ?_).mono fun s' H M' _ ⟨u, v, h1, h2, h3⟩ => ⟨u, h1, [(v, [r])], h2, fun p hp => by simp at hp; subst hp; exact h3, rfl⟩
    simp only [Proofs.Try.f48, recV, shs, zts, sos, sls, zss, eqs, sx, sb1, sb2, sb3, sb4, sb5, ↓reduceIte, Nat.reduceAdd, Nat.reduceMul, Nat.reduceDiv, Nat.reduceEqDiff, Nat.reduceLT, Nat.reduceLeDiff, reduceCtorEq, Int.reduceEq, Int.reduceNe, Int.reduceLT, Int.reduceLE, Int.reduceAdd, Int.reduceSub, Int.reduceMul, Int.reduceNeg, Int.reduceToNat, Int.cast_ofNat_Int, Int.natCast_zero, Int.natCast_one, Int.toNat_natCast, Nat.reduceBEq, nzs]
    refine CallK.pure ⟨rfl, rfl⟩ rfl hC ?_
    simp only [shs, zts, sos, sls, zss, eqs, sx, sb1, sb2, sb3, sb4, sb5, ↓reduceIte, Nat.reduceAdd, Nat.reduceMul, Nat.reduceDiv, Nat.reduceEqDiff, Nat.reduceLT, Nat.reduceLeDiff, reduceCtorEq, Int.reduceEq, Int.reduceNe, Int.reduceLT, Int.reduceLE, Int.reduceAdd, Int.reduceSub, Int.reduceMul, Int.reduceNeg, Int.reduceToNat, Int.cast_ofNat_Int, Int.natCast_zero, Int.natCast_one, Int.toNat_natCast, Nat.reduceBEq, nzs]
    refine OpK.pub (k := 128) rfl fun v2 M2 hM2 hv2 => OpK.step ?_
    simp only [sp1, sp2, sp3, shs, zts, sos, sls, zss, eqs, sx, sb1, sb2, sb3, sb4, sb5, ↓reduceIte, Nat.reduceAdd, Nat.reduceMul, Nat.reduceDiv, Nat.reduceEqDiff, Nat.reduceLT, Nat.reduceLeDiff, reduceCtorEq, Int.reduceEq, Int.reduceNe, Int.reduceLT, Int.reduceLE, Int.reduceAdd, Int.reduceSub, Int.reduceMul, Int.reduceNeg, Int.reduceToNat, Int.cast_ofNat_Int, Int.natCast_zero, Int.natCast_one, Int.toNat_natCast, Nat.reduceBEq, nzs, st1, hv2.one]
    refine CallK.lend (s := .v (.int .i64 0)) (k := 136) rfl rfl rfl (fun _ => rfl) (fun v3 M3 hM3 hv3 => ?_) ?_
    · have := check v3 [(v2, [r])] M3 hv3 (fun p hp => by simp at hp; subst hp; exact hv2.le hM3) (fun p hp => by simp at hp; subst hp; exact ⟨by simp, fun q hq => by simp at hq; subst hq; exact hr0⟩)
      rw [show [(v2, [r])].map (·.2) = [[r]] from rfl, e2] at this
      simp only [sp1, sp2, sp3, shs, zts, sos, sls, zss, eqs, sx, sb1, sb2, sb3, sb4, sb5, ↓reduceIte, Nat.reduceAdd, Nat.reduceMul, Nat.reduceDiv, Nat.reduceEqDiff, Nat.reduceLT, Nat.reduceLeDiff, reduceCtorEq, Int.reduceEq, Int.reduceNe, Int.reduceLT, Int.reduceLE, Int.reduceAdd, Int.reduceSub, Int.reduceMul, Int.reduceNeg, Int.reduceToNat, Int.cast_ofNat_Int, Int.natCast_zero, Int.natCast_one, Int.toNat_natCast, Nat.reduceBEq]
      exact this
    simp only [shs, zts, sos, sls, zss, eqs, sx, sb1, sb2, sb3, sb4, sb5, ↓reduceIte, Nat.reduceAdd, Nat.reduceMul, Nat.reduceDiv, Nat.reduceEqDiff, Nat.reduceLT, Nat.reduceLeDiff, reduceCtorEq, Int.reduceEq, Int.reduceNe, Int.reduceLT, Int.reduceLE, Int.reduceAdd, Int.reduceSub, Int.reduceMul, Int.reduceNeg, Int.reduceToNat, Int.cast_ofNat_Int, Int.natCast_zero, Int.natCast_one, Int.toNat_natCast, Nat.reduceBEq, nzs]
    refine DrawK.pubB (k := 24) rfl rfl fun b M3 hM3 hb => ?_
    simp only [shA1, shA2, sp1, sp2, sp3, shs, zts, sos, sls, zss, eqs, sx, sb1, sb2, sb3, sb4, sb5, ↓reduceIte, Nat.reduceAdd, Nat.reduceMul, Nat.reduceDiv, Nat.reduceEqDiff, Nat.reduceLT, Nat.reduceLeDiff, reduceCtorEq, Int.reduceEq, Int.reduceNe, Int.reduceLT, Int.reduceLE, Int.reduceAdd, Int.reduceSub, Int.reduceMul, Int.reduceNeg, Int.reduceToNat, Int.cast_ofNat_Int, Int.natCast_zero, Int.natCast_one, Int.toNat_natCast, Nat.reduceBEq, nzs]
    refine DrawK.plan (tk [0, 2] (ones' [1, 3] (tk [4, 5, 6, 7, 8] .done))) (by kernel_rfl) (by kernel_rfl) ?_
    have b0 := hb.at (j := 0) rfl
    have b1 := hb.at (j := 1) rfl
    have b2 := hb.at (j := 2) rfl
    have b3 := hb.at (j := 3) rfl
    have hle : M.le M3 := hM2.trans hM3
    simp only [shs, zts, sos, sls, zss, eqs, sx, sb1, sb2, sb3, sb4, sb5, ↓reduceIte, Nat.reduceAdd, Nat.reduceMul, Nat.reduceDiv, Nat.reduceEqDiff, Nat.reduceLT, Nat.reduceLeDiff, reduceCtorEq, Int.reduceEq, Int.reduceNe, Int.reduceLT, Int.reduceLE, Int.reduceAdd, Int.reduceSub, Int.reduceMul, Int.reduceNeg, Int.reduceToNat, Int.cast_ofNat_Int, Int.natCast_zero, Int.natCast_one, Int.toNat_natCast, Nat.reduceBEq, nzs, se1, se2, tks, b0.1, b0.2, b1.1, b1.2, b2.1, b2.2, b3.1, b3.2, cellsP.eq_1, cellsP.eq_2, oksP.eq_1, oksP.eq_2]
    refine CallK.pure ⟨rfl, rfl⟩ rfl (copied_nil y M3 (hy.le hle)) ?_
    simp only [shs, zts, sos, sls, zss, eqs, sx, sb1, sb2, sb3, sb4, sb5, ↓reduceIte, Nat.reduceAdd, Nat.reduceMul, Nat.reduceDiv, Nat.reduceEqDiff, Nat.reduceLT, Nat.reduceLeDiff, reduceCtorEq, Int.reduceEq, Int.reduceNe, Int.reduceLT, Int.reduceLE, Int.reduceAdd, Int.reduceSub, Int.reduceMul, Int.reduceNeg, Int.reduceToNat, Int.cast_ofNat_Int, Int.natCast_zero, Int.natCast_one, Int.toNat_natCast, Nat.reduceBEq, nzs, se1, se2, tks]
    refine CallK.res rfl rfl (R := fun r' M' => ∃ v es, r' = .tup [.v v, .v (.bool true)] ∧ RowM M' v 1 es ∧ isNew r es M') (put_nil r M3) (fun r' M' ⟨v, es, h, _⟩ => by subst h; rfl) fun r' M4 hM4 ⟨v4, es, hr4, hv4, v5, he, hv5⟩ => ⟨⟨trivial, hM4⟩, ?_⟩
    subst hr4 he
    simp only [shs, zts, sos, sls, zss, eqs, sx, sb1, sb2, sb3, sb4, sb5, ↓reduceIte, Nat.reduceAdd, Nat.reduceMul, Nat.reduceDiv, Nat.reduceEqDiff, Nat.reduceLT, Nat.reduceLeDiff, reduceCtorEq, Int.reduceEq, Int.reduceNe, Int.reduceLT, Int.reduceLE, Int.reduceAdd, Int.reduceSub, Int.reduceMul, Int.reduceNeg, Int.reduceToNat, Int.cast_ofNat_Int, Int.natCast_zero, Int.natCast_one, Int.toNat_natCast, Nat.reduceBEq, nzs, se1, se2, tks]
    exact ⟨v4, v5, rfl, hv4, hv5⟩
  · rw [List.concat_eq_append] at *
    refine (Meets.settle (T := fun s => .tup [s, .v (.int .i64 0)]) (sz := 1) (sz2 := 4) (F := fun (x : PutA) t => vv (x.1.map encV) ++ [[t]]) (G := fun x u => x.1.map encV ++ [[u]]) (es2 := fun x => x.2.map encR)
      (Φ := fun x M' => SegM M' x.1 ∧ x.1.map (·.2) ++ [x.2] = standL ((ini ++ [(v, s)]).map (·.2)) r) (Ctx.fst _) (fun x k u => ?_) (fun x M M' hle h => ⟨h.1.le hle, h.2⟩) ?_).mono fun s' H M' _ ⟨x, u, u2, h1, h2, h3, h4, h5⟩ => ⟨u, h1, x.1 ++ [(u2, x.2)], ?_, ?_, ?_⟩
    · rw [pubss_app, pubss_vv, vv_app]
      simp only [pubss, SV.pubs, SV.pub, if_true]
      rfl
    · refine Meets.of_body [0,1,3,4,5,6,7,8,9,13,20,30] Proofs.Try.func48 rfl (by kernel_rfl) rfl fun w => ?_
      simp only [Proofs.Try.f48, recV, shs, zts, sos, sls, zss, eqs, sx, sb1, sb2, sb3, sb4, sb5, ↓reduceIte, Nat.reduceAdd, Nat.reduceMul, Nat.reduceDiv, Nat.reduceEqDiff, Nat.reduceLT, Nat.reduceLeDiff, reduceCtorEq, Int.reduceEq, Int.reduceNe, Int.reduceLT, Int.reduceLE, Int.reduceAdd, Int.reduceSub, Int.reduceMul, Int.reduceNeg, Int.reduceToNat, Int.cast_ofNat_Int, Int.natCast_zero, Int.natCast_one, Int.toNat_natCast, Nat.reduceBEq, nzs]
      refine CallK.pure ⟨rfl, rfl⟩ rfl hC ?_
      simp only [shs, zts, sos, sls, zss, eqs, sx, sb1, sb2, sb3, sb4, sb5, ↓reduceIte, Nat.reduceAdd, Nat.reduceMul, Nat.reduceDiv, Nat.reduceEqDiff, Nat.reduceLT, Nat.reduceLeDiff, reduceCtorEq, Int.reduceEq, Int.reduceNe, Int.reduceLT, Int.reduceLE, Int.reduceAdd, Int.reduceSub, Int.reduceMul, Int.reduceNeg, Int.reduceToNat, Int.cast_ofNat_Int, Int.natCast_zero, Int.natCast_one, Int.toNat_natCast, Nat.reduceBEq, nzs]
      refine OpK.pub (k := 128) rfl fun v2 M2 hM2 hv2 => OpK.step ?_
      simp only [sp1, sp2, sp3, shs, zts, sos, sls, zss, eqs, sx, sb1, sb2, sb3, sb4, sb5, ↓reduceIte, Nat.reduceAdd, Nat.reduceMul, Nat.reduceDiv, Nat.reduceEqDiff, Nat.reduceLT, Nat.reduceLeDiff, reduceCtorEq, Int.reduceEq, Int.reduceNe, Int.reduceLT, Int.reduceLE, Int.reduceAdd, Int.reduceSub, Int.reduceMul, Int.reduceNeg, Int.reduceToNat, Int.cast_ofNat_Int, Int.natCast_zero, Int.natCast_one, Int.toNat_natCast, Nat.reduceBEq, nzs, st1, hv2.one]
      refine CallK.lend (s := .v (.int .i64 0)) (k := 136) rfl rfl rfl (fun _ => rfl) (fun v3 M3 hM3 hv3 => ?_) ?_
      · have := check v3 [(v2, [r])] M3 hv3 (fun p hp => by simp at hp; subst hp; exact hv2.le hM3) (fun p hp => by simp at hp; subst hp; exact ⟨by simp, fun q hq => by simp at hq; subst hq; exact hr0⟩)
        rw [show [(v2, [r])].map (·.2) = [[r]] from rfl, e2] at this
        simp only [sp1, sp2, sp3, shs, zts, sos, sls, zss, eqs, sx, sb1, sb2, sb3, sb4, sb5, ↓reduceIte, Nat.reduceAdd, Nat.reduceMul, Nat.reduceDiv, Nat.reduceEqDiff, Nat.reduceLT, Nat.reduceLeDiff, reduceCtorEq, Int.reduceEq, Int.reduceNe, Int.reduceLT, Int.reduceLE, Int.reduceAdd, Int.reduceSub, Int.reduceMul, Int.reduceNeg, Int.reduceToNat, Int.cast_ofNat_Int, Int.natCast_zero, Int.natCast_one, Int.toNat_natCast, Nat.reduceBEq]
        exact this
      simp only [shs, zts, sos, sls, zss, eqs, sx, sb1, sb2, sb3, sb4, sb5, ↓reduceIte, Nat.reduceAdd, Nat.reduceMul, Nat.reduceDiv, Nat.reduceEqDiff, Nat.reduceLT, Nat.reduceLeDiff, reduceCtorEq, Int.reduceEq, Int.reduceNe, Int.reduceLT, Int.reduceLE, Int.reduceAdd, Int.reduceSub, Int.reduceMul, Int.reduceNeg, Int.reduceToNat, Int.cast_ofNat_Int, Int.natCast_zero, Int.natCast_one, Int.toNat_natCast, Nat.reduceBEq, nzs]
      refine DrawK.pubB (k := 24) rfl rfl fun b M3 hM3 hb => ?_
      simp only [shA1, shA2, sp1, sp2, sp3, shs, zts, sos, sls, zss, eqs, sx, sb1, sb2, sb3, sb4, sb5, ↓reduceIte, Nat.reduceAdd, Nat.reduceMul, Nat.reduceDiv, Nat.reduceEqDiff, Nat.reduceLT, Nat.reduceLeDiff, reduceCtorEq, Int.reduceEq, Int.reduceNe, Int.reduceLT, Int.reduceLE, Int.reduceAdd, Int.reduceSub, Int.reduceMul, Int.reduceNeg, Int.reduceToNat, Int.cast_ofNat_Int, Int.natCast_zero, Int.natCast_one, Int.toNat_natCast, Nat.reduceBEq, nzs]
      refine DrawK.plan (tk [0, 2] (ones' [1, 3] (tk [4, 5, 6, 7, 8] .done))) (by kernel_rfl) (by kernel_rfl) ?_
      have b0 := hb.at (j := 0) rfl
      have b1 := hb.at (j := 1) rfl
      have b2 := hb.at (j := 2) rfl
      have b3 := hb.at (j := 3) rfl
      have hle : M.le M3 := hM2.trans hM3
      simp only [shs, zts, sos, sls, zss, eqs, sx, sb1, sb2, sb3, sb4, sb5, ↓reduceIte, Nat.reduceAdd, Nat.reduceMul, Nat.reduceDiv, Nat.reduceEqDiff, Nat.reduceLT, Nat.reduceLeDiff, reduceCtorEq, Int.reduceEq, Int.reduceNe, Int.reduceLT, Int.reduceLE, Int.reduceAdd, Int.reduceSub, Int.reduceMul, Int.reduceNeg, Int.reduceToNat, Int.cast_ofNat_Int, Int.natCast_zero, Int.natCast_one, Int.toNat_natCast, Nat.reduceBEq, nzs, se1, se2, tks, b0.1, b0.2, b1.1, b1.2, b2.1, b2.2, b3.1, b3.2, cellsP.eq_1, cellsP.eq_2, oksP.eq_1, oksP.eq_2]
      have hsa := hall s (List.mem_map.2 ⟨(v, s), by simp, rfl⟩)
      have hlc : (ini ++ [(v, s)]).length = ini.length + 1 := by simp
      refine CallK.ownN natT (natP s) rfl rfl (copied y ini v s M3 (hy.le hle) (hM.le hle) h16 (fun p hp => by have := (hall p.2 (List.mem_map.2 ⟨p, hp, rfl⟩)).1.2; omega)) rfl fun x M4 hM4 ⟨hx1, hx2⟩ => ⟨⟨trivial, hM4⟩, ?_⟩
      have hxl : x.length = ini.length := by have := congrArg List.length hx2; simpa using this
      simp only [copT, copP, shA1, shs, zts, sos, sls, zss, eqs, sx, sb1, sb2, sb3, sb4, sb5, ↓reduceIte, Nat.reduceAdd, Nat.reduceMul, Nat.reduceDiv, Nat.reduceEqDiff, Nat.reduceLT, Nat.reduceLeDiff, reduceCtorEq, Int.reduceEq, Int.reduceNe, Int.reduceLT, Int.reduceLE, Int.reduceAdd, Int.reduceSub, Int.reduceMul, Int.reduceNeg, Int.reduceToNat, Int.cast_ofNat_Int, Int.natCast_zero, Int.natCast_one, Int.toNat_natCast, Nat.reduceBEq, nzs, se1, se2, tks, st1]
      rw [List.map_append, List.map_cons, List.map_nil, standL_app] at e3 ⊢
      have hst : standR (ini.map (·.2)) s r = standR (x.map (·.2)) s r := by rw [hx2]
      refine CallK.lendN [192, 193] (A := fun f => [f 0, recV r]) (Pin := copP s x) (fun f f' ν ν' h => by simp only [SV.vals, h 0 (by omega)]; rfl) (fun _ => natP s x) natPT natPP rfl rfl ⟨rfl, rfl, trivial⟩ rfl
        (put_ok x s r M4 hx1 (by omega) (by omega) (fun q hq => (hsa.2.1 q hq).2) hr64 (by
          rcases Nat.lt_or_ge 200 (fullR s + sizeR r) with h | h
          · right
            unfold standR at e3
            simp only at e3
            rw [if_neg (by omega)] at e3
            simp at e3
            omega
          · exact .inl h)) fun z M5 hM5 ⟨hz1, hz2⟩ => ⟨⟨trivial, hM4.trans hM5⟩, ?_⟩
      simp only [putT, putP, copP, shA1, shs, zts, sos, sls, zss, eqs, sx, sb1, sb2, sb3, sb4, sb5, ↓reduceIte, Nat.reduceAdd, Nat.reduceMul, Nat.reduceDiv, Nat.reduceEqDiff, Nat.reduceLT, Nat.reduceLeDiff, reduceCtorEq, Int.reduceEq, Int.reduceNe, Int.reduceLT, Int.reduceLE, Int.reduceAdd, Int.reduceSub, Int.reduceMul, Int.reduceNeg, Int.reduceToNat, Int.cast_ofNat_Int, Int.natCast_zero, Int.natCast_one, Int.toNat_natCast, Nat.reduceBEq, nzs, se1, se2, tks, st1]
      exact ⟨z, 208, 209, rfl, by decide, rfl, rfl, hz1, by rw [hst]; exact hz2⟩
    · rw [List.map_append]
      exact h2
    · intro p hp
      rcases List.mem_append.1 hp with hp | hp
      · exact h4 p hp
      · simp at hp; subst hp; exact h3
    · rw [List.map_append]
      exact h5
theorem Put_full (y : Value) (ps : List (Value × List Rc)) (r : Rc) (M : Mem) (hy : RowM M y 1 (ps.map encV)) (hM : SegM M ps) (hk : ∀ p ∈ ps, okS p.2) (hr0 : r.2.length ≤ 140737488351232) (e1 : segE (ps.map (·.2)) = 0) (e2 : segE [[r]] = 0) (e3 : 16 < (standL (ps.map (·.2)) r).length) :
    Meets Proofs.Try.prog 48 [.v y, recV r] M (fun r' _ M' => r' = .tup [.v (.slice none 0 0), .v (.int .i64 8)]) := by
  have hC := check y ps M hy hM hk
  rw [e1] at hC
  have hr64 : r.2.length ≤ 64 := by
    rw [segE_one] at e2
    split at e2
    · cases e2
    · split at e2
      · cases e2
      · omega
  obtain ⟨h16, hall⟩ := segE_ok e1
  rw [List.length_map] at h16
  rcases List.eq_nil_or_concat ps with rfl | ⟨ini, ⟨v, s⟩, rfl⟩
  · simp [standL] at e3
  · rw [List.concat_eq_append] at *
    refine Meets.of_body [0,1,3,4,5,6,7,8,9,13,20,30] Proofs.Try.func48 rfl (by kernel_rfl) rfl fun w => ?_
    simp only [Proofs.Try.f48, recV, shs, zts, sos, sls, zss, eqs, sx, sb1, sb2, sb3, sb4, sb5, ↓reduceIte, Nat.reduceAdd, Nat.reduceMul, Nat.reduceDiv, Nat.reduceEqDiff, Nat.reduceLT, Nat.reduceLeDiff, reduceCtorEq, Int.reduceEq, Int.reduceNe, Int.reduceLT, Int.reduceLE, Int.reduceAdd, Int.reduceSub, Int.reduceMul, Int.reduceNeg, Int.reduceToNat, Int.cast_ofNat_Int, Int.natCast_zero, Int.natCast_one, Int.toNat_natCast, Nat.reduceBEq, nzs]
    refine CallK.pure ⟨rfl, rfl⟩ rfl hC ?_
    simp only [shs, zts, sos, sls, zss, eqs, sx, sb1, sb2, sb3, sb4, sb5, ↓reduceIte, Nat.reduceAdd, Nat.reduceMul, Nat.reduceDiv, Nat.reduceEqDiff, Nat.reduceLT, Nat.reduceLeDiff, reduceCtorEq, Int.reduceEq, Int.reduceNe, Int.reduceLT, Int.reduceLE, Int.reduceAdd, Int.reduceSub, Int.reduceMul, Int.reduceNeg, Int.reduceToNat, Int.cast_ofNat_Int, Int.natCast_zero, Int.natCast_one, Int.toNat_natCast, Nat.reduceBEq, nzs]
    refine OpK.pub (k := 128) rfl fun v2 M2 hM2 hv2 => OpK.step ?_
    simp only [sp1, sp2, sp3, shs, zts, sos, sls, zss, eqs, sx, sb1, sb2, sb3, sb4, sb5, ↓reduceIte, Nat.reduceAdd, Nat.reduceMul, Nat.reduceDiv, Nat.reduceEqDiff, Nat.reduceLT, Nat.reduceLeDiff, reduceCtorEq, Int.reduceEq, Int.reduceNe, Int.reduceLT, Int.reduceLE, Int.reduceAdd, Int.reduceSub, Int.reduceMul, Int.reduceNeg, Int.reduceToNat, Int.cast_ofNat_Int, Int.natCast_zero, Int.natCast_one, Int.toNat_natCast, Nat.reduceBEq, nzs, st1, hv2.one]
    refine CallK.lend (s := .v (.int .i64 0)) (k := 136) rfl rfl rfl (fun _ => rfl) (fun v3 M3 hM3 hv3 => ?_) ?_
    · have := check v3 [(v2, [r])] M3 hv3 (fun p hp => by simp at hp; subst hp; exact hv2.le hM3) (fun p hp => by simp at hp; subst hp; exact ⟨by simp, fun q hq => by simp at hq; subst hq; exact hr0⟩)
      rw [show [(v2, [r])].map (·.2) = [[r]] from rfl, e2] at this
      simp only [sp1, sp2, sp3, shs, zts, sos, sls, zss, eqs, sx, sb1, sb2, sb3, sb4, sb5, ↓reduceIte, Nat.reduceAdd, Nat.reduceMul, Nat.reduceDiv, Nat.reduceEqDiff, Nat.reduceLT, Nat.reduceLeDiff, reduceCtorEq, Int.reduceEq, Int.reduceNe, Int.reduceLT, Int.reduceLE, Int.reduceAdd, Int.reduceSub, Int.reduceMul, Int.reduceNeg, Int.reduceToNat, Int.cast_ofNat_Int, Int.natCast_zero, Int.natCast_one, Int.toNat_natCast, Nat.reduceBEq]
      exact this
    simp only [shs, zts, sos, sls, zss, eqs, sx, sb1, sb2, sb3, sb4, sb5, ↓reduceIte, Nat.reduceAdd, Nat.reduceMul, Nat.reduceDiv, Nat.reduceEqDiff, Nat.reduceLT, Nat.reduceLeDiff, reduceCtorEq, Int.reduceEq, Int.reduceNe, Int.reduceLT, Int.reduceLE, Int.reduceAdd, Int.reduceSub, Int.reduceMul, Int.reduceNeg, Int.reduceToNat, Int.cast_ofNat_Int, Int.natCast_zero, Int.natCast_one, Int.toNat_natCast, Nat.reduceBEq, nzs]
    refine DrawK.pubB (k := 24) rfl rfl fun b M3 hM3 hb => ?_
    simp only [shA1, shA2, sp1, sp2, sp3, shs, zts, sos, sls, zss, eqs, sx, sb1, sb2, sb3, sb4, sb5, ↓reduceIte, Nat.reduceAdd, Nat.reduceMul, Nat.reduceDiv, Nat.reduceEqDiff, Nat.reduceLT, Nat.reduceLeDiff, reduceCtorEq, Int.reduceEq, Int.reduceNe, Int.reduceLT, Int.reduceLE, Int.reduceAdd, Int.reduceSub, Int.reduceMul, Int.reduceNeg, Int.reduceToNat, Int.cast_ofNat_Int, Int.natCast_zero, Int.natCast_one, Int.toNat_natCast, Nat.reduceBEq, nzs]
    refine DrawK.plan (tk [0, 2] (ones' [1, 3] (tk [4, 5, 6, 7, 8] .done))) (by kernel_rfl) (by kernel_rfl) ?_
    have b0 := hb.at (j := 0) rfl
    have b1 := hb.at (j := 1) rfl
    have b2 := hb.at (j := 2) rfl
    have b3 := hb.at (j := 3) rfl
    have hle : M.le M3 := hM2.trans hM3
    simp only [shs, zts, sos, sls, zss, eqs, sx, sb1, sb2, sb3, sb4, sb5, ↓reduceIte, Nat.reduceAdd, Nat.reduceMul, Nat.reduceDiv, Nat.reduceEqDiff, Nat.reduceLT, Nat.reduceLeDiff, reduceCtorEq, Int.reduceEq, Int.reduceNe, Int.reduceLT, Int.reduceLE, Int.reduceAdd, Int.reduceSub, Int.reduceMul, Int.reduceNeg, Int.reduceToNat, Int.cast_ofNat_Int, Int.natCast_zero, Int.natCast_one, Int.toNat_natCast, Nat.reduceBEq, nzs, se1, se2, tks, b0.1, b0.2, b1.1, b1.2, b2.1, b2.2, b3.1, b3.2, cellsP.eq_1, cellsP.eq_2, oksP.eq_1, oksP.eq_2]
    have hsa := hall s (List.mem_map.2 ⟨(v, s), by simp, rfl⟩)
    have hlc : (ini ++ [(v, s)]).length = ini.length + 1 := by simp
    refine CallK.ownN natT (natP s) rfl rfl (copied y ini v s M3 (hy.le hle) (hM.le hle) h16 (fun p hp => by have := (hall p.2 (List.mem_map.2 ⟨p, hp, rfl⟩)).1.2; omega)) rfl fun x M4 hM4 ⟨hx1, hx2⟩ => ⟨⟨trivial, hM4⟩, ?_⟩
    have hxl : x.length = ini.length := by have := congrArg List.length hx2; simpa using this
    simp only [copT, copP, shA1, shs, zts, sos, sls, zss, eqs, sx, sb1, sb2, sb3, sb4, sb5, ↓reduceIte, Nat.reduceAdd, Nat.reduceMul, Nat.reduceDiv, Nat.reduceEqDiff, Nat.reduceLT, Nat.reduceLeDiff, reduceCtorEq, Int.reduceEq, Int.reduceNe, Int.reduceLT, Int.reduceLE, Int.reduceAdd, Int.reduceSub, Int.reduceMul, Int.reduceNeg, Int.reduceToNat, Int.cast_ofNat_Int, Int.natCast_zero, Int.natCast_one, Int.toNat_natCast, Nat.reduceBEq, nzs, se1, se2, tks, st1]
    rw [List.map_append, List.map_cons, List.map_nil, standL_app] at e3
    unfold standR at e3
    simp only at e3
    have hno : ¬ fullR s + sizeR r ≤ 200 := fun h => by
      rw [if_pos h] at e3
      simp at e3
      omega
    rw [if_neg hno] at e3
    simp at e3
    refine CallK.lendN [192, 193] (A := fun f => [f 0, recV r]) (Pin := copP s x) (fun f f' ν ν' h => by simp only [SV.vals, h 0 (by omega)]; rfl) (fun _ => natP s x) (T := fun (_ : Unit) _ => .tup [.v (.slice none 0 0), .v (.bool false)]) (P := fun _ _ => []) (fun _ _ _ _ _ _ => rfl) (fun _ _ _ _ _ _ => trivial) rfl rfl ⟨rfl, rfl, trivial⟩ rfl
      (put_full x s r M4 (by omega) (by omega) (fun q hq => (hsa.2.1 q hq).2) hr64 hno) fun z M5 hM5 _ => ⟨⟨trivial, hM4.trans hM5⟩, ?_⟩
    simp only [copP, shA1, shs, zts, sos, sls, zss, eqs, sx, sb1, sb2, sb3, sb4, sb5, ↓reduceIte, Nat.reduceAdd, Nat.reduceMul, Nat.reduceDiv, Nat.reduceEqDiff, Nat.reduceLT, Nat.reduceLeDiff, reduceCtorEq, Int.reduceEq, Int.reduceNe, Int.reduceLT, Int.reduceLE, Int.reduceAdd, Int.reduceSub, Int.reduceMul, Int.reduceNeg, Int.reduceToNat, Int.cast_ofNat_Int, Int.natCast_zero, Int.natCast_one, Int.toNat_natCast, Nat.reduceBEq, nzs, se1, se2, tks, st1]
theorem Put (y : Value) (ps : List (Value × List Rc)) (r : Rc) (M : Mem) (hy : RowM M y 1 (ps.map encV)) (hM : SegM M ps) (hk : ∀ p ∈ ps, okS p.2) (hr0 : r.2.length ≤ 140737488351232) :
    Meets Proofs.Try.prog 48 [.v y, recV r] M (fun r' _ M' => ∃ u, r' = .tup [.v u, .v (.int .i64 (putE (ps.map (·.2)) r))] ∧ Segs u (putL (ps.map (·.2)) r) M') := by
  by_cases e1 : segE (ps.map (·.2)) = 0
  · by_cases e2 : segE [[r]] = 0
    · by_cases e3 : 16 < (standL (ps.map (·.2)) r).length
      · have hE : putE (ps.map (·.2)) r = 8 := by unfold putE; rw [if_neg (by omega), if_neg (by omega), if_pos e3]
        have hL : putL (ps.map (·.2)) r = [] := by unfold putL; rw [if_neg (by omega)]
        rw [hE, hL]
        exact (Put_full y ps r M hy hM hk hr0 e1 e2 e3).mono fun s H M' _ h => ⟨_, h, Segs.nil _⟩
      · have hE : putE (ps.map (·.2)) r = 0 := by unfold putE; rw [if_neg (by omega), if_neg (by omega), if_neg e3]
        have hL : putL (ps.map (·.2)) r = standL (ps.map (·.2)) r := by unfold putL; rw [if_pos hE]
        have := Put_ok y ps r M hy hM hk hr0 hE
        rw [hE, hL]
        exact this
    · have hE : putE (ps.map (·.2)) r = segE [[r]] := by unfold putE; rw [if_neg (by omega), if_pos e2]
      have hL : putL (ps.map (·.2)) r = [] := by unfold putL; rw [if_neg (by omega)]
      have hC := check y ps M hy hM hk
      have de : (segE [[r]] = 0) = False := eq_false e2
      rw [hE, hL]
      rw [e1] at hC
      refine Meets.of_body [0,1,3,4,5,6,7,8,9,13,20,30] Proofs.Try.func48 rfl (by kernel_rfl) rfl fun w => ?_
      simp only [Proofs.Try.f48, recV, shs, zts, sos, sls, zss, eqs, sx, sb1, sb2, sb3, sb4, sb5, ↓reduceIte, Nat.reduceAdd, Nat.reduceMul, Nat.reduceDiv, Nat.reduceEqDiff, Nat.reduceLT, Nat.reduceLeDiff, reduceCtorEq, Int.reduceEq, Int.reduceNe, Int.reduceLT, Int.reduceLE, Int.reduceAdd, Int.reduceSub, Int.reduceMul, Int.reduceNeg, Int.reduceToNat, Int.cast_ofNat_Int, Int.natCast_zero, Int.natCast_one, Int.toNat_natCast, Nat.reduceBEq, nzs]
      refine CallK.pure ⟨rfl, rfl⟩ rfl hC ?_
      simp only [shs, zts, sos, sls, zss, eqs, sx, sb1, sb2, sb3, sb4, sb5, ↓reduceIte, Nat.reduceAdd, Nat.reduceMul, Nat.reduceDiv, Nat.reduceEqDiff, Nat.reduceLT, Nat.reduceLeDiff, reduceCtorEq, Int.reduceEq, Int.reduceNe, Int.reduceLT, Int.reduceLE, Int.reduceAdd, Int.reduceSub, Int.reduceMul, Int.reduceNeg, Int.reduceToNat, Int.cast_ofNat_Int, Int.natCast_zero, Int.natCast_one, Int.toNat_natCast, Nat.reduceBEq, nzs]
      refine OpK.pub (k := 128) rfl fun v2 M2 hM2 hv2 => OpK.step ?_
      simp only [sp1, sp2, sp3, shs, zts, sos, sls, zss, eqs, sx, sb1, sb2, sb3, sb4, sb5, ↓reduceIte, Nat.reduceAdd, Nat.reduceMul, Nat.reduceDiv, Nat.reduceEqDiff, Nat.reduceLT, Nat.reduceLeDiff, reduceCtorEq, Int.reduceEq, Int.reduceNe, Int.reduceLT, Int.reduceLE, Int.reduceAdd, Int.reduceSub, Int.reduceMul, Int.reduceNeg, Int.reduceToNat, Int.cast_ofNat_Int, Int.natCast_zero, Int.natCast_one, Int.toNat_natCast, Nat.reduceBEq, nzs, st1, hv2.one]
      refine CallK.lend (s := .v (.int .i64 (segE [[r]]))) (k := 136) rfl rfl rfl (fun _ => rfl) (fun v3 M3 hM3 hv3 => ?_) ?_
      · have := check v3 [(v2, [r])] M3 hv3 (fun p hp => by simp at hp; subst hp; exact hv2.le hM3) (fun p hp => by simp at hp; subst hp; exact ⟨by simp, fun q hq => by simp at hq; subst hq; exact hr0⟩)
        simp only [sp1, sp2, sp3, shs, zts, sos, sls, zss, eqs, sx, sb1, sb2, sb3, sb4, sb5, ↓reduceIte, Nat.reduceAdd, Nat.reduceMul, Nat.reduceDiv, Nat.reduceEqDiff, Nat.reduceLT, Nat.reduceLeDiff, reduceCtorEq, Int.reduceEq, Int.reduceNe, Int.reduceLT, Int.reduceLE, Int.reduceAdd, Int.reduceSub, Int.reduceMul, Int.reduceNeg, Int.reduceToNat, Int.cast_ofNat_Int, Int.natCast_zero, Int.natCast_one, Int.toNat_natCast, Nat.reduceBEq]
        exact this
      simp only [shs, zts, sos, sls, zss, eqs, sx, sb1, sb2, sb3, sb4, sb5, ↓reduceIte, Nat.reduceAdd, Nat.reduceMul, Nat.reduceDiv, Nat.reduceEqDiff, Nat.reduceLT, Nat.reduceLeDiff, reduceCtorEq, Int.reduceEq, Int.reduceNe, Int.reduceLT, Int.reduceLE, Int.reduceAdd, Int.reduceSub, Int.reduceMul, Int.reduceNeg, Int.reduceToNat, Int.cast_ofNat_Int, Int.natCast_zero, Int.natCast_one, Int.toNat_natCast, Nat.reduceBEq, nzs, de]
      exact ⟨_, rfl, Segs.nil _⟩
  · have hE : putE (ps.map (·.2)) r = segE (ps.map (·.2)) := by unfold putE; rw [if_pos e1]
    have hL : putL (ps.map (·.2)) r = [] := by unfold putL; rw [if_neg (by omega)]
    have hC := check y ps M hy hM hk
    have de : (segE (ps.map (·.2)) = 0) = False := eq_false e1
    rw [hE, hL]
    refine Meets.of_body [0,1,3,4,5,6,7,8,9,13,20,30] Proofs.Try.func48 rfl (by kernel_rfl) rfl fun w => ?_
    simp only [Proofs.Try.f48, recV, shs, zts, sos, sls, zss, eqs, sx, sb1, sb2, sb3, sb4, sb5, ↓reduceIte, Nat.reduceAdd, Nat.reduceMul, Nat.reduceDiv, Nat.reduceEqDiff, Nat.reduceLT, Nat.reduceLeDiff, reduceCtorEq, Int.reduceEq, Int.reduceNe, Int.reduceLT, Int.reduceLE, Int.reduceAdd, Int.reduceSub, Int.reduceMul, Int.reduceNeg, Int.reduceToNat, Int.cast_ofNat_Int, Int.natCast_zero, Int.natCast_one, Int.toNat_natCast, Nat.reduceBEq, nzs]
    refine CallK.pure ⟨rfl, rfl⟩ rfl hC ?_
    simp only [shs, zts, sos, sls, zss, eqs, sx, sb1, sb2, sb3, sb4, sb5, ↓reduceIte, Nat.reduceAdd, Nat.reduceMul, Nat.reduceDiv, Nat.reduceEqDiff, Nat.reduceLT, Nat.reduceLeDiff, reduceCtorEq, Int.reduceEq, Int.reduceNe, Int.reduceLT, Int.reduceLE, Int.reduceAdd, Int.reduceSub, Int.reduceMul, Int.reduceNeg, Int.reduceToNat, Int.cast_ofNat_Int, Int.natCast_zero, Int.natCast_one, Int.toNat_natCast, Nat.reduceBEq, nzs, de]
    exact ⟨_, rfl, Segs.nil _⟩
end Go.X.Sg
