/- Segments that are cleaned: woolref.Alive. Conditions: none. -/
import Derived.Test.YtoohifeidifocaaScB
set_option linter.unusedSimpArgs false
set_option linter.unusedVariables false
set_option maxHeartbeats 4000000
set_option maxRecDepth 20000
namespace Go.X.Sg
open Go Go.X

theorem idxR (y : Value) (l : List Rc) (r : Rc) (M : Mem) (hy : RowM M y 4 (l.map encR)) :
    Meets Proofs.Try.prog 37 [.v y, recV r] M fun r' _ _ => r' = .v (.int .i64 (fidx (fun x => decide (x = r)) l 0)) := by
  refine Meets.of_body [0,1,3,4,5,7,8,9,16] Proofs.Try.func37 rfl (by kernel_rfl) rfl fun w => ?_
  generalize hc : fidx (fun x => decide (x = r)) l 0 = c
  have hyl := hy.len_le
  rw [List.length_map] at hyl
  simp only [Proofs.Try.f37, recV, shs, zts, sos, sls, zss, eqs, sx, sb1, sb2, sb3, sb4, sb5, sb6, sb7, ↓reduceIte, Nat.reduceAdd, Nat.reduceMul, Nat.reduceDiv, Nat.reduceEqDiff, Nat.reduceLT, Nat.reduceLeDiff, reduceCtorEq, Int.reduceEq, Int.reduceNe, Int.reduceLT, Int.reduceLE, Int.reduceAdd, Int.reduceSub, Int.reduceMul, Int.reduceNeg, Int.reduceToNat, Int.cast_ofNat_Int, Int.natCast_zero, Int.natCast_one, Int.toNat_natCast, Nat.reduceBEq, nzs, hy.len, hy.sl, List.length_map]
  refine LoopK.go (X := Nat × Nat) (fun x => ([(0, true, .v y), (3, true, .ptr 24 0 0 0), (7, true, .v (.int .i64 l.length)), (8, true, .v (.int .i64 x.2))], [(24, .box [.v (.bool r.1.1), .v (.int .i64 r.1.2.1), .v (.int .i64 r.1.2.2), .v (.string ⟨r.2.toArray⟩)] none)], M))
    (fun x => x.1 + x.2 = l.length ∧ fidx (fun x => decide (x = r)) (l.drop x.2) x.2 = c) (fun x => x.1) (l.length, 0) ⟨rfl, hc⟩ (Ent.of ?_) ?_
  · simp only [sx, sb1, sb2, sb3, sb4, sb5, sb6, sb7, ↓reduceIte, Nat.reduceAdd, Nat.reduceMul, Nat.reduceDiv, Nat.reduceEqDiff, Nat.reduceLT, Nat.reduceLeDiff, reduceCtorEq, Int.reduceEq, Int.reduceNe, Int.reduceLT, Int.reduceLE, Int.reduceAdd, Int.reduceSub, Int.reduceMul, Int.reduceNeg, Int.reduceToNat, Int.cast_ofNat_Int, Int.natCast_zero, Int.natCast_one, Int.toNat_natCast, Nat.reduceBEq, Int.natCast_zero]
  rintro ⟨f, i⟩ ⟨h1, h2⟩
  simp only at h1 h2
  by_cases hil : i < l.length
  · have c1 : ((i : Int) < (l.length : Int)) = True := eq_true (by omega)
    obtain ⟨x, hx, hd⟩ := l_drop_at (l := l) (i := i) hil
    obtain ⟨⟨⟨g0, o0⟩, g1, o1⟩, ⟨⟨g2, o2⟩, g3, o3⟩, ix⟩ := rec_at hy hx
    rw [hd] at h2
    simp only [fidx, decide_eq_true_eq] at h2
    simp only [shs, zts, sos, sls, zss, eqs, sx, sb1, sb2, sb3, sb4, sb5, sb6, sb7, ↓reduceIte, Nat.reduceAdd, Nat.reduceMul, Nat.reduceDiv, Nat.reduceEqDiff, Nat.reduceLT, Nat.reduceLeDiff, reduceCtorEq, Int.reduceEq, Int.reduceNe, Int.reduceLT, Int.reduceLE, Int.reduceAdd, Int.reduceSub, Int.reduceMul, Int.reduceNeg, Int.reduceToNat, Int.cast_ofNat_Int, Int.natCast_zero, Int.natCast_one, Int.toNat_natCast, Nat.reduceBEq, nzs, c1]
    refine DrawK.quiet rfl (by kernel_rfl) ?_
    simp only [shs, zts, sos, sls, zss, eqs, sx, sb1, sb2, sb3, sb4, sb5, sb6, sb7, ↓reduceIte, Nat.reduceAdd, Nat.reduceMul, Nat.reduceDiv, Nat.reduceEqDiff, Nat.reduceLT, Nat.reduceLeDiff, reduceCtorEq, Int.reduceEq, Int.reduceNe, Int.reduceLT, Int.reduceLE, Int.reduceAdd, Int.reduceSub, Int.reduceMul, Int.reduceNeg, Int.reduceToNat, Int.cast_ofNat_Int, Int.natCast_zero, Int.natCast_one, Int.toNat_natCast, Nat.reduceBEq, nzs, g0, g1, g2, g3, o0, o1, o2, o3, ix, ix.2, one_int, one_bool, one_string]
    refine ⟨fun h => ?_, fun h => ?_⟩
    · obtain ⟨k1, k2, k3, k4⟩ := h
      have e : x = r := by
        obtain ⟨⟨x1, x2, x3⟩, x4⟩ := x
        obtain ⟨⟨r1, r2, r3⟩, r4⟩ := r
        simp only [beq_iff_eq] at k1
        simp only at k2 k3 k4
        rw [k1, k2, k3, k4]
      rw [if_pos e] at h2
      rw [h2]
    · have e : ¬ x = r := fun e => by
        subst e
        exact h (by simp) rfl rfl rfl
      rw [if_neg e] at h2
      refine ⟨⟨by simp only [lo]; omega, by simp only [hi]; omega⟩, (f - 1, i + 1), ⟨⟨by simp only; omega, h2⟩, by simp only; omega⟩, Ent.of ?_⟩
      simp only [sx, sb1, sb2, sb3, sb4, sb5, sb6, sb7, ↓reduceIte, Nat.reduceAdd, Nat.reduceMul, Nat.reduceDiv, Nat.reduceEqDiff, Nat.reduceLT, Nat.reduceLeDiff, reduceCtorEq, Int.reduceEq, Int.reduceNe, Int.reduceLT, Int.reduceLE, Int.reduceAdd, Int.reduceSub, Int.reduceMul, Int.reduceNeg, Int.reduceToNat, Int.cast_ofNat_Int, Int.natCast_zero, Int.natCast_one, Int.toNat_natCast, Nat.reduceBEq, Int.natCast_add]
  have c1 : ((i : Int) < (l.length : Int)) = False := eq_false (by omega)
  rw [List.drop_eq_nil_of_le (by omega)] at h2
  simp only [fidx] at h2
  subst h2
  simp only [shs, zts, sos, sls, zss, eqs, sx, sb1, sb2, sb3, sb4, sb5, sb6, sb7, ↓reduceIte, Nat.reduceAdd, Nat.reduceMul, Nat.reduceDiv, Nat.reduceEqDiff, Nat.reduceLT, Nat.reduceLeDiff, reduceCtorEq, Int.reduceEq, Int.reduceNe, Int.reduceLT, Int.reduceLE, Int.reduceAdd, Int.reduceSub, Int.reduceMul, Int.reduceNeg, Int.reduceToNat, Int.cast_ofNat_Int, Int.natCast_zero, Int.natCast_one, Int.toNat_natCast, Nat.reduceBEq, nzs, c1]
theorem contains (y : Value) (l : List Rc) (r : Rc) (M : Mem) (hy : RowM M y 4 (l.map encR)) :
    Meets Proofs.Try.prog 24 [.v y, recV r] M fun r' _ _ => r' = .v (.bool (decide (r ∈ l))) := by
  refine Meets.of_body [0,1,3,4] Proofs.Try.func24 rfl (by kernel_rfl) rfl fun w => ?_
  have hI := idxR y l r M hy
  have e : decide (r ∈ l) = decide (0 ≤ fidx (fun x => decide (x = r)) l 0) := by
    rw [fidx_any]
    rw [Bool.eq_iff_iff]
    simp
  rw [e]
  simp only [recV] at hI
  simp only [Proofs.Try.f24, recV, shs, zts, sos, sls, zss, eqs, sx, sb1, sb2, sb3, sb4, sb5, sb6, sb7, ↓reduceIte, Nat.reduceAdd, Nat.reduceMul, Nat.reduceDiv, Nat.reduceEqDiff, Nat.reduceLT, Nat.reduceLeDiff, reduceCtorEq, Int.reduceEq, Int.reduceNe, Int.reduceLT, Int.reduceLE, Int.reduceAdd, Int.reduceSub, Int.reduceMul, Int.reduceNeg, Int.reduceToNat, Int.cast_ofNat_Int, Int.natCast_zero, Int.natCast_one, Int.toNat_natCast, Nat.reduceBEq, nzs]
  refine CallK.pure ⟨rfl, rfl⟩ rfl hI ?_
  simp only [shs, zts, sos, sls, zss, eqs, sx, sb1, sb2, sb3, sb4, sb5, sb6, sb7, ↓reduceIte, Nat.reduceAdd, Nat.reduceMul, Nat.reduceDiv, Nat.reduceEqDiff, Nat.reduceLT, Nat.reduceLeDiff, reduceCtorEq, Int.reduceEq, Int.reduceNe, Int.reduceLT, Int.reduceLE, Int.reduceAdd, Int.reduceSub, Int.reduceMul, Int.reduceNeg, Int.reduceToNat, Int.cast_ofNat_Int, Int.natCast_zero, Int.natCast_one, Int.toNat_natCast, Nat.reduceBEq, nzs]
/-! ### Alive -/
def tabA (xs : List (List Value)) (k n : Nat) : List (List SV) := vv xs ++ [.own k] :: vv (rep n)
theorem tabA_get (xs : List (List Value)) (k n : Nat) : (tabA xs k n).getD xs.length [] = [.own k] := by
  unfold tabA
  rw [List.getD_eq_getElem?_getD, List.getElem?_append_right (by simp [vv])]
  simp [vv]
theorem tabA_at (xs : List (List Value)) (k n : Nat) : (tabA xs k n)[xs.length]? = some [.own k] := by
  unfold tabA
  rw [List.getElem?_append_right (by simp [vv])]
  simp [vv]
theorem tabA_len (xs : List (List Value)) (k n : Nat) : (tabA xs k n).length = xs.length + 1 + n := by
  unfold tabA rep vv
  simp only [List.length_append, List.length_map, List.length_replicate, List.length_cons]
  omega
theorem tabA_set (xs : List (List Value)) (k j n : Nat) : (tabA xs k n).set xs.length [.own j] = tabA xs j n := by
  unfold tabA
  rw [List.set_append_right _ _ (by simp [vv])]
  simp [vv]
theorem tabA_nil (xs : List (List Value)) (k n : Nat) : (vv (xs ++ rep (n + 1))).set xs.length [.own k] = tabA xs k n := by
  unfold tabA rep vv
  rw [List.map_append, List.set_append_right _ _ (by simp), List.replicate_succ]
  simp
theorem tabA_hole (xs : List (List Value)) (n : Nat) : (vv (xs ++ rep (n + 1)))[xs.length]? = some [.v (.slice none 0 0)] := by
  unfold rep vv
  rw [List.map_append, List.getElem?_append_right (by simp), List.replicate_succ]
  simp
theorem tabA_pub (xs : List (List Value)) (k n : Nat) (v : Value) : pubss k v (tabA xs k n) = vv ((xs ++ [[v]]) ++ rep n) := by
  unfold tabA
  rw [pubss_app, pubss_vv]
  have : pubss k v ([SV.own k] :: vv (rep n)) = vv ([v] :: rep n) := by
    rw [show ([SV.own k] :: vv (rep n)) = [[SV.own k]] ++ vv (rep n) from rfl, pubss_app, pubss_vv]
    simp [pubss, SV.pubs, SV.pub, vv]
  rw [this]
  unfold vv
  rw [List.append_assoc, List.map_append]
  rfl
theorem tabA_nk (d : Nat) (xs : List (List Value)) (k n : Nat) (h : (k / 8 == d) = false) : noKeyss d (tabA xs k n) = true := by
  unfold tabA
  have h2 := noKeyss_vvapp d [] (rep n)
  rw [List.append_nil] at h2
  rw [noKeyss_vvapp, noKeyss, h2]
  simp only [SV.noKeys, SV.noKey, h, Bool.not_false, Bool.and_self, noKeyss]
theorem alive (y z : Value) (ps : List (Value × List Rc)) (b : List Bg.It) (M : Mem) (hy : RowM M y 1 (ps.map encV)) (hM : SegM M ps) (hz : RowM M z 4 (b.map Bg.encT)) (h16 : ps.length ≤ 16) (hg : ∀ p ∈ ps, p.2.length ≤ 25) :
    Meets Proofs.Try.prog 8 [.v y, .v z] M (fun r _ M' => ∃ v es, r = .v v ∧ RowM M' v 1 es ∧ ∃ os : List (Value × List Rc), es = os.map encV ∧ SegM M' os ∧ os.map (·.2) = aliveL b (ps.map (·.2))) := by
  refine Meets.pub (T := fun s => s) Ctx.id (fun es M M' hle ⟨os, h1, h2, h3⟩ => ⟨os, h1, h2.le hle, h3⟩) ?_
  refine Meets.of_body [0,1,4,5,6,7,8,9,10,11,13,17,18,19,20,24,25,26,27,44,45,46,47,72] Proofs.Try.func8 rfl (by kernel_rfl) rfl fun w => ?_
  simp only [Proofs.Try.f8, shs, zts, sos, sls, zss, eqs, sx, sb1, sb2, sb3, sb4, sb5, sb6, sb7, ↓reduceIte, Nat.reduceAdd, Nat.reduceMul, Nat.reduceDiv, Nat.reduceEqDiff, Nat.reduceLT, Nat.reduceLeDiff, reduceCtorEq, Int.reduceEq, Int.reduceNe, Int.reduceLT, Int.reduceLE, Int.reduceAdd, Int.reduceSub, Int.reduceMul, Int.reduceNeg, Int.reduceToNat, Int.cast_ofNat_Int, Int.natCast_zero, Int.natCast_one, Int.toNat_natCast, Nat.reduceBEq, nzs, hy.len, hy.sl, List.length_map, Int.toNat_natCast]
  refine ⟨⟨by omega, by omega, by omega⟩, ?_⟩
  refine LoopK.go (X := Nat × Nat × List (Value × List Rc) × Mem) (fun x => ([(0, true, .v y), (1, true, .v z), (5, true, .own 128), (17, true, .v y), (18, true, .v (.int .i64 ps.length)), (19, true, .v (.int .i64 x.2.1))], [(128, .row 1 (x.2.2.1.map encV ++ rep x.1))], x.2.2.2))
    (fun x => (x.1 + x.2.1 = ps.length ∧ M.le x.2.2.2) ∧ (SegM x.2.2.2 x.2.2.1 ∧ x.2.2.1.map (·.2) = (aliveL b (ps.map (·.2))).take x.2.1)) (fun x => x.1) (ps.length, 0, [], M)
    ⟨⟨rfl, Mem.le.refl M⟩, fun p hp => by simp at hp, rfl⟩ (Ent.of ?_) ?_
  · simp only [sx, sb1, sb2, sb3, sb4, sb5, sb6, sb7, ↓reduceIte, Nat.reduceAdd, Nat.reduceMul, Nat.reduceDiv, Nat.reduceEqDiff, Nat.reduceLT, Nat.reduceLeDiff, reduceCtorEq, Int.reduceEq, Int.reduceNe, Int.reduceLT, Int.reduceLE, Int.reduceAdd, Int.reduceSub, Int.reduceMul, Int.reduceNeg, Int.reduceToNat, Int.cast_ofNat_Int, Int.natCast_zero, Int.natCast_one, Int.toNat_natCast, Nat.reduceBEq, List.map_nil, List.nil_append, rep]
  rintro ⟨f, i, os, M1⟩ ⟨⟨h1, h2⟩, h3, h4⟩
  simp only at h1 h2 h3 h4
  by_cases hil : i < ps.length
  rotate_left
  · have c1 : ((i : Int) < (ps.length : Int)) = False := eq_false (by omega)
    have hf0 : f = 0 := by omega
    subst hf0
    rw [List.take_of_length_le (by rw [aliveL_len, List.length_map]; omega)] at h4
    simp only [shs, zts, sos, sls, zss, eqs, sx, sb1, sb2, sb3, sb4, sb5, sb6, sb7, ↓reduceIte, Nat.reduceAdd, Nat.reduceMul, Nat.reduceDiv, Nat.reduceEqDiff, Nat.reduceLT, Nat.reduceLeDiff, reduceCtorEq, Int.reduceEq, Int.reduceNe, Int.reduceLT, Int.reduceLE, Int.reduceAdd, Int.reduceSub, Int.reduceMul, Int.reduceNeg, Int.reduceToNat, Int.cast_ofNat_Int, Int.natCast_zero, Int.natCast_one, Int.toNat_natCast, Nat.reduceBEq, nzs, c1]
    exact ⟨_, _, rfl, rfl, os, by simp [rep], h3, h4⟩
  have c1 : ((i : Int) < (ps.length : Int)) = True := eq_true (by omega)
  obtain ⟨f, rfl⟩ : ∃ n, f = n + 1 := ⟨f - 1, by omega⟩
  have hol : os.length = i := by
    have := congrArg List.length h4
    rw [List.length_map, List.length_take, aliveL_len, List.length_map] at this
    omega
  obtain ⟨p, hx, hd⟩ := l_drop_at (l := ps) (i := i) hil
  have hal := aliveL_at b (l := ps.map (·.2)) (i := i) (s := p.2) (by rw [List.getElem?_map, hx]; rfl)
  obtain ⟨v, s⟩ := p
  have hv := hM _ (List.mem_of_getElem? hx)
  have hsl := hg _ (List.mem_of_getElem? hx)
  simp only at hv hsl hal
  have hv1 := hv.le h2
  have hy1 := hy.le h2
  have hz1 := hz.le h2
  have g := hy1.el1 hx rfl
  have ix := hy1.ix (i := (i : Int)) (by omega) (by rw [List.length_map]; omega)
  have hxl : (os.map encV).length = i := by rw [List.length_map]; exact hol
  generalize hT : ((ps.map (·.2)).drop (i + 1)).flatten = T at hal
  generalize hX : os.map encV = xs at hxl
  simp only [shs, zts, sos, sls, zss, eqs, sx, sb1, sb2, sb3, sb4, sb5, sb6, sb7, ↓reduceIte, Nat.reduceAdd, Nat.reduceMul, Nat.reduceDiv, Nat.reduceEqDiff, Nat.reduceLT, Nat.reduceLeDiff, reduceCtorEq, Int.reduceEq, Int.reduceNe, Int.reduceLT, Int.reduceLE, Int.reduceAdd, Int.reduceSub, Int.reduceMul, Int.reduceNeg, Int.reduceToNat, Int.cast_ofNat_Int, Int.natCast_zero, Int.natCast_one, Int.toNat_natCast, Nat.reduceBEq, nzs, c1, g.1, g.2, ix, ix.2, hv1.one, hv1.len, hv1.sl, List.length_map]
  refine LoopK.heap (HEnt.rowTab (k := 128) rfl) ?_
  simp only [hset, sx, sb1, sb2, sb3, sb4, sb5, sb6, sb7, ↓reduceIte, Nat.reduceAdd, Nat.reduceMul, Nat.reduceDiv, Nat.reduceEqDiff, Nat.reduceLT, Nat.reduceLeDiff, reduceCtorEq, Int.reduceEq, Int.reduceNe, Int.reduceLT, Int.reduceLE, Int.reduceAdd, Int.reduceSub, Int.reduceMul, Int.reduceNeg, Int.reduceToNat, Int.cast_ofNat_Int, Int.natCast_zero, Int.natCast_one, Int.toNat_natCast, Nat.reduceBEq]
  refine LoopK.nilTab 128 i 21 1 4 rfl (by rw [← hxl]; exact tabA_hole xs f) rfl (by simp only [shs, zts, sos, sls, zss, eqs, sx, sb1, sb2, sb3, sb4, sb5, sb6, sb7, ↓reduceIte, Nat.reduceAdd, Nat.reduceMul, Nat.reduceDiv, Nat.reduceEqDiff, Nat.reduceLT, Nat.reduceLeDiff, reduceCtorEq, Int.reduceEq, Int.reduceNe, Int.reduceLT, Int.reduceLE, Int.reduceAdd, Int.reduceSub, Int.reduceMul, Int.reduceNeg, Int.reduceToNat, Int.cast_ofNat_Int, Int.natCast_zero, Int.natCast_one, Int.toNat_natCast, Nat.reduceBEq, nzs, st1]) rfl ?_
  rw [← hxl, tabA_nil, hxl]
  simp only [hset, sx, sb1, sb2, sb3, sb4, sb5, sb6, sb7, ↓reduceIte, Nat.reduceAdd, Nat.reduceMul, Nat.reduceDiv, Nat.reduceEqDiff, Nat.reduceLT, Nat.reduceLeDiff, reduceCtorEq, Int.reduceEq, Int.reduceNe, Int.reduceLT, Int.reduceLE, Int.reduceAdd, Int.reduceSub, Int.reduceMul, Int.reduceNeg, Int.reduceToNat, Int.cast_ofNat_Int, Int.natCast_zero, Int.natCast_one, Int.toNat_natCast, Nat.reduceBEq]
  refine LoopK.goS (X := Nat × Nat × List Rc) (fun x => ([(0, true, .v y), (1, true, .v z), (5, true, .own 128), (6, true, .v (.int .i64 i)), (7, true, .v v), (17, true, .v y), (18, true, .v (.int .i64 ps.length)), (19, true, .v (.int .i64 i)), (24, true, .v v), (25, true, .v (.int .i64 s.length)), (26, true, .v (.int .i64 x.2.1))], [(168, .row 4 (x.2.2.map encR)), (128, .tab 1 (tabA xs 168 f))], M1))
    (fun x => (x.1 + x.2.1 = s.length ∧ x.2.2.length ≤ x.2.1) ∧ x.2.2 ++ pickR (s.drop x.2.1) (liveR b (s.drop x.2.1) T) = pickR s (liveR b s T)) (fun x => x.1) (s.length, 0, []) ⟨⟨rfl, Nat.le_refl _⟩, by simp⟩ (Ent.of ?_) ?_
  · simp only [sx, sb1, sb2, sb3, sb4, sb5, sb6, sb7, ↓reduceIte, Nat.reduceAdd, Nat.reduceMul, Nat.reduceDiv, Nat.reduceEqDiff, Nat.reduceLT, Nat.reduceLeDiff, reduceCtorEq, Int.reduceEq, Int.reduceNe, Int.reduceLT, Int.reduceLE, Int.reduceAdd, Int.reduceSub, Int.reduceMul, Int.reduceNeg, Int.reduceToNat, Int.cast_ofNat_Int, Int.natCast_zero, Int.natCast_one, Int.toNat_natCast, Nat.reduceBEq, List.map_nil, Int.natCast_zero]
  rintro ⟨f2, k, out⟩ ⟨⟨m1, m2⟩, m3⟩
  simp only at m1 m2 m3
  by_cases hkl : k < s.length
  rotate_left
  · have c2 : ((k : Int) < (s.length : Int)) = False := eq_false (by omega)
    rw [List.drop_eq_nil_of_le (by omega)] at m3
    simp only [pickR, liveR, List.append_nil] at m3
    subst m3
    refine CodeK.pub (k := 168) rfl fun v5 M5 hM5 hv5 => CodeK.ofW (live := [0,1,4,5,6,7,8,9,10,11,13,17,18,19,20,24,25,26,27,44,45,46,47,72]) ?_
    simp only [sp1, sp2, sp3, tabA_pub, shs, zts, sos, sls, zss, eqs, sx, sb1, sb2, sb3, sb4, sb5, sb6, sb7, ↓reduceIte, Nat.reduceAdd, Nat.reduceMul, Nat.reduceDiv, Nat.reduceEqDiff, Nat.reduceLT, Nat.reduceLeDiff, reduceCtorEq, Int.reduceEq, Int.reduceNe, Int.reduceLT, Int.reduceLE, Int.reduceAdd, Int.reduceSub, Int.reduceMul, Int.reduceNeg, Int.reduceToNat, Int.cast_ofNat_Int, Int.natCast_zero, Int.natCast_one, Int.toNat_natCast, Nat.reduceBEq, nzs, c2, inK, lo, hi]
    refine ⟨⟨by omega, by omega⟩, (f, i + 1, os ++ [(v5, pickR s (liveR b s T))], M5), ⟨⟨⟨by simp only; omega, h2.trans hM5⟩, fun p hp => ?_, ?_⟩, by simp only; omega⟩, Ent.heap (HEnt.tabRow (k := 128) rfl) (Ent.of ?_)⟩
    · rcases List.mem_append.1 hp with hp | hp
      · exact (h3 p hp).le hM5
      · simp only [List.mem_singleton] at hp
        subst hp
        exact hv5
    · simp only
      rw [List.take_add_one, hal, List.map_append, h4]
      rfl
    · simp only [sx, sb1, sb2, sb3, sb4, sb5, sb6, sb7, ↓reduceIte, Nat.reduceAdd, Nat.reduceMul, Nat.reduceDiv, Nat.reduceEqDiff, Nat.reduceLT, Nat.reduceLeDiff, reduceCtorEq, Int.reduceEq, Int.reduceNe, Int.reduceLT, Int.reduceLE, Int.reduceAdd, Int.reduceSub, Int.reduceMul, Int.reduceNeg, Int.reduceToNat, Int.cast_ofNat_Int, Int.natCast_zero, Int.natCast_one, Int.toNat_natCast, Nat.reduceBEq, hset, List.map_append, hX, encV, List.map_cons, List.map_nil, Int.natCast_add]
  have c2 : ((k : Int) < (s.length : Int)) = True := eq_true (by omega)
  refine CodeK.ofW (live := [0,1,4,5,6,7,8,9,10,11,13,17,18,19,20,24,25,26,27,44,45,46,47,72]) ?_
  obtain ⟨r, hr, hdr⟩ := l_drop_at (l := s) (i := k) hkl
  obtain ⟨⟨⟨g0, o0⟩, g1, o1⟩, ⟨⟨g2, o2⟩, g3, o3⟩, ixr⟩ := rec_at hv1 hr
  have hF := Bg.item z b r.1 M1 hz1
  simp only [Bg.idV] at hF
  simp only [shs, zts, sos, sls, zss, eqs, sx, sb1, sb2, sb3, sb4, sb5, sb6, sb7, ↓reduceIte, Nat.reduceAdd, Nat.reduceMul, Nat.reduceDiv, Nat.reduceEqDiff, Nat.reduceLT, Nat.reduceLeDiff, reduceCtorEq, Int.reduceEq, Int.reduceNe, Int.reduceLT, Int.reduceLE, Int.reduceAdd, Int.reduceSub, Int.reduceMul, Int.reduceNeg, Int.reduceToNat, Int.cast_ofNat_Int, Int.natCast_zero, Int.natCast_one, Int.toNat_natCast, Nat.reduceBEq, nzs, c2, g0, g1, g2, g3, o0, o1, o2, o3, ixr, ixr.2, one_int, one_bool, one_string, tabA_nk 9 xs 168 f rfl]
  refine CallK.pure ⟨rfl, rfl⟩ rfl hF ?_
  have hvc := hv1.1.2.2.1
  rw [hv1.len, List.length_map] at hvc
  have hyc := hy1.1.2.2.1
  rw [hy1.len, List.length_map] at hyc
  have s1 := hv1.sub (lo := k + 1) (hi := s.length) (by omega) (by rw [List.length_map]; omega)
  have s2 := hy1.sub (lo := i + 1) (hi := ps.length) (by omega) (by rw [List.length_map]; omega)
  rw [← List.map_drop, ← List.map_take, List.take_of_length_le (by rw [List.length_drop]; omega)] at s1 s2
  have hC := contains (subV v 4 (k + 1) s.length) (s.drop (k + 1)) r M1 s1
  simp only [recV] at hC
  have ek : ((k : Int) + 1).toNat = k + 1 := by omega
  have ei : ((i : Int) + 1).toNat = i + 1 := by omega
  simp only [shs, zts, sos, sls, zss, eqs, sx, sb1, sb2, sb3, sb4, sb5, sb6, sb7, ↓reduceIte, Nat.reduceAdd, Nat.reduceMul, Nat.reduceDiv, Nat.reduceEqDiff, Nat.reduceLT, Nat.reduceLeDiff, reduceCtorEq, Int.reduceEq, Int.reduceNe, Int.reduceLT, Int.reduceLE, Int.reduceAdd, Int.reduceSub, Int.reduceMul, Int.reduceNeg, Int.reduceToNat, Int.cast_ofNat_Int, Int.natCast_zero, Int.natCast_one, Int.toNat_natCast, Nat.reduceBEq, nzs]
  refine DrawK.held [72] (tk [0, 1, 4, 2, 3] (.one 5 (tk [6] .done))) (by kernel_rfl) (by kernel_rfl) fun xs5 => ?_
  simp only [shs, zts, sos, sls, zss, eqs, sx, sb1, sb2, sb3, sb4, sb5, sb6, sb7, ↓reduceIte, Nat.reduceAdd, Nat.reduceMul, Nat.reduceDiv, Nat.reduceEqDiff, Nat.reduceLT, Nat.reduceLeDiff, reduceCtorEq, Int.reduceEq, Int.reduceNe, Int.reduceLT, Int.reduceLE, Int.reduceAdd, Int.reduceSub, Int.reduceMul, Int.reduceNeg, Int.reduceToNat, Int.cast_ofNat_Int, Int.natCast_zero, Int.natCast_one, Int.toNat_natCast, Nat.reduceBEq, nzs, se1, se2, tks, st1, hv1.len, hv1.sl, hy1.len, hy1.sl, List.length_map, inK, lo, hi, ek, ei, s2.len, s2.sl]
  refine ⟨⟨by omega, by omega⟩, ⟨⟨by omega, by omega⟩, by omega⟩, CallK.pure ⟨rfl, rfl⟩ rfl hC ?_⟩
  simp only [shs, zts, sos, sls, zss, eqs, sx, sb1, sb2, sb3, sb4, sb5, sb6, sb7, ↓reduceIte, Nat.reduceAdd, Nat.reduceMul, Nat.reduceDiv, Nat.reduceEqDiff, Nat.reduceLT, Nat.reduceLeDiff, reduceCtorEq, Int.reduceEq, Int.reduceNe, Int.reduceLT, Int.reduceLE, Int.reduceAdd, Int.reduceSub, Int.reduceMul, Int.reduceNeg, Int.reduceToNat, Int.cast_ofNat_Int, Int.natCast_zero, Int.natCast_one, Int.toNat_natCast, Nat.reduceBEq, nzs, se1, se2, tks, st1, hv1.len, hv1.sl, hy1.len, hy1.sl, List.length_map, inK, lo, hi, ek, ei, s2.len, s2.sl]
  refine ⟨⟨by omega, by omega⟩, ⟨⟨by omega, by omega⟩, by omega⟩, ?_⟩
  refine LoopK.go (X := Nat × Nat × Bool) (fun x => ([(0, true, .v y), (1, true, .v z), (5, true, .own 128), (6, true, .v (.int .i64 i)), (7, true, .v v), (8, true, .v (.int .i64 k)), (9, true, .ptr 72 0 0 0), (10, true, .v (.int .i64 (fidx (Bg.isId r.1) b 0))), (11, true, .v (.bool x.2.2)), (17, true, .v y), (18, true, .v (.int .i64 ps.length)), (19, true, .v (.int .i64 i)), (24, true, .v v), (25, true, .v (.int .i64 s.length)), (26, true, .v (.int .i64 k)), (44, true, .v (subV y 1 (i + 1) ps.length)), (45, true, .v (.int .i64 (ps.drop (i + 1)).length)), (46, true, .v (.int .i64 x.2.1))], [(72, .box [.v (.bool r.1.1), .v (.int .i64 r.1.2.1), .v (.int .i64 r.1.2.2), .v (.string ⟨r.2.toArray⟩)] none), (168, .row 4 (out.map encR)), (128, .tab 1 (tabA xs 168 f))], M1))
    (fun x => x.1 + x.2.1 = (ps.drop (i + 1)).length ∧ x.2.2 = decide (r ∈ s.drop (k + 1) ++ (((ps.drop (i + 1)).take x.2.1).map (·.2)).flatten)) (fun x => x.1) ((ps.drop (i + 1)).length, 0, decide (r ∈ s.drop (k + 1))) ⟨rfl, by simp⟩ (Ent.heap (HEnt.untie (k := 72) rfl) (Ent.of ?_)) ?_
  · simp only [sx, sb1, sb2, sb3, sb4, sb5, sb6, sb7, ↓reduceIte, Nat.reduceAdd, Nat.reduceMul, Nat.reduceDiv, Nat.reduceEqDiff, Nat.reduceLT, Nat.reduceLeDiff, reduceCtorEq, Int.reduceEq, Int.reduceNe, Int.reduceLT, Int.reduceLE, Int.reduceAdd, Int.reduceSub, Int.reduceMul, Int.reduceNeg, Int.reduceToNat, Int.cast_ofNat_Int, Int.natCast_zero, Int.natCast_one, Int.toNat_natCast, Nat.reduceBEq, hset, Int.natCast_zero]
  rintro ⟨f3, j, lt⟩ ⟨p1, p2⟩
  have hdl : (ps.drop (i + 1)).length ≤ 16 := by rw [List.length_drop]; omega
  simp only at p1 p2
  by_cases hjl : j < (ps.drop (i + 1)).length
  · have c3 : ((j : Int) < ((ps.drop (i + 1)).length : Int)) = True := eq_true (by omega)
    obtain ⟨q, hq, _⟩ := l_drop_at (l := ps.drop (i + 1)) (i := j) hjl
    have hqv := (hM q (List.mem_of_mem_drop (List.mem_of_getElem? hq))).le h2
    have gq := s2.el1 hq rfl
    have iq := s2.ix (i := (j : Int)) (by omega) (by rw [List.length_map]; omega)
    have hC2 := contains q.1 q.2 r M1 hqv
    simp only [recV] at hC2
    have hnext : ∀ lt', lt' = (lt || decide (r ∈ q.2)) → lt' = decide (r ∈ s.drop (k + 1) ++ (((ps.drop (i + 1)).take (j + 1)).map (·.2)).flatten) := fun lt' h => by
      rw [h, p2, List.take_add_one, hq]
      simp [or_assoc, Bool.or_assoc]
    cases lt with
    | true =>
      simp only [shs, zts, sos, sls, zss, eqs, sx, sb1, sb2, sb3, sb4, sb5, sb6, sb7, ↓reduceIte, Nat.reduceAdd, Nat.reduceMul, Nat.reduceDiv, Nat.reduceEqDiff, Nat.reduceLT, Nat.reduceLeDiff, reduceCtorEq, Int.reduceEq, Int.reduceNe, Int.reduceLT, Int.reduceLE, Int.reduceAdd, Int.reduceSub, Int.reduceMul, Int.reduceNeg, Int.reduceToNat, Int.cast_ofNat_Int, Int.natCast_zero, Int.natCast_one, Int.toNat_natCast, Nat.reduceBEq, nzs, c3, gq.1, gq.2, iq, iq.2, hqv.one, inK, lo, hi]
      refine ⟨⟨by omega, by omega⟩, (f3 - 1, j + 1, true), ⟨⟨by simp only; omega, hnext _ rfl⟩, by simp only; omega⟩, Ent.of ?_⟩
      simp only [sx, sb1, sb2, sb3, sb4, sb5, sb6, sb7, ↓reduceIte, Nat.reduceAdd, Nat.reduceMul, Nat.reduceDiv, Nat.reduceEqDiff, Nat.reduceLT, Nat.reduceLeDiff, reduceCtorEq, Int.reduceEq, Int.reduceNe, Int.reduceLT, Int.reduceLE, Int.reduceAdd, Int.reduceSub, Int.reduceMul, Int.reduceNeg, Int.reduceToNat, Int.cast_ofNat_Int, Int.natCast_zero, Int.natCast_one, Int.toNat_natCast, Nat.reduceBEq, Int.natCast_add]
    | false =>
      simp only [shs, zts, sos, sls, zss, eqs, sx, sb1, sb2, sb3, sb4, sb5, sb6, sb7, ↓reduceIte, Nat.reduceAdd, Nat.reduceMul, Nat.reduceDiv, Nat.reduceEqDiff, Nat.reduceLT, Nat.reduceLeDiff, reduceCtorEq, Int.reduceEq, Int.reduceNe, Int.reduceLT, Int.reduceLE, Int.reduceAdd, Int.reduceSub, Int.reduceMul, Int.reduceNeg, Int.reduceToNat, Int.cast_ofNat_Int, Int.natCast_zero, Int.natCast_one, Int.toNat_natCast, Nat.reduceBEq, nzs, c3, gq.1, gq.2, iq, iq.2, hqv.one, inK, lo, hi]
      refine CallK.pure ⟨rfl, rfl⟩ rfl hC2 ?_
      simp only [shs, zts, sos, sls, zss, eqs, sx, sb1, sb2, sb3, sb4, sb5, sb6, sb7, ↓reduceIte, Nat.reduceAdd, Nat.reduceMul, Nat.reduceDiv, Nat.reduceEqDiff, Nat.reduceLT, Nat.reduceLeDiff, reduceCtorEq, Int.reduceEq, Int.reduceNe, Int.reduceLT, Int.reduceLE, Int.reduceAdd, Int.reduceSub, Int.reduceMul, Int.reduceNeg, Int.reduceToNat, Int.cast_ofNat_Int, Int.natCast_zero, Int.natCast_one, Int.toNat_natCast, Nat.reduceBEq, nzs, inK, lo, hi]
      refine ⟨⟨by omega, by omega⟩, (f3 - 1, j + 1, decide (r ∈ q.2)), ⟨⟨by simp only; omega, hnext _ (by simp)⟩, by simp only; omega⟩, Ent.of ?_⟩
      simp only [sx, sb1, sb2, sb3, sb4, sb5, sb6, sb7, ↓reduceIte, Nat.reduceAdd, Nat.reduceMul, Nat.reduceDiv, Nat.reduceEqDiff, Nat.reduceLT, Nat.reduceLeDiff, reduceCtorEq, Int.reduceEq, Int.reduceNe, Int.reduceLT, Int.reduceLE, Int.reduceAdd, Int.reduceSub, Int.reduceMul, Int.reduceNeg, Int.reduceToNat, Int.cast_ofNat_Int, Int.natCast_zero, Int.natCast_one, Int.toNat_natCast, Nat.reduceBEq, Int.natCast_add]
  have c3 : ((j : Int) < ((ps.drop (i + 1)).length : Int)) = False := eq_false (by omega)
  rw [List.take_of_length_le (by omega), List.map_drop, hT] at p2
  have hpick : pickR (s.drop k) (liveR b (s.drop k) T) = if (eligB b r && !lt) = true then r :: pickR (s.drop (k + 1)) (liveR b (s.drop (k + 1)) T) else pickR (s.drop (k + 1)) (liveR b (s.drop (k + 1)) T) := by
    rw [hdr, liveR, ← p2]
    cases (eligB b r && !lt) <;> simp [pickR]
  rw [hpick] at m3
  simp only [shs, zts, sos, sls, zss, eqs, sx, sb1, sb2, sb3, sb4, sb5, sb6, sb7, ↓reduceIte, Nat.reduceAdd, Nat.reduceMul, Nat.reduceDiv, Nat.reduceEqDiff, Nat.reduceLT, Nat.reduceLeDiff, reduceCtorEq, Int.reduceEq, Int.reduceNe, Int.reduceLT, Int.reduceLE, Int.reduceAdd, Int.reduceSub, Int.reduceMul, Int.reduceNeg, Int.reduceToNat, Int.cast_ofNat_Int, Int.natCast_zero, Int.natCast_one, Int.toNat_natCast, Nat.reduceBEq, nzs, c3]
  rcases elig_test b r with ⟨e1, e2⟩ | ⟨j2, x2, e1, e2, e3⟩
  · have c4 := eq_false (Int.not_le.2 e1)
    rw [if_neg (by rw [e2]; simp)] at m3
    refine DrawK.quiet rfl (by kernel_rfl) ?_
    simp only [shs, zts, sos, sls, zss, eqs, sx, sb1, sb2, sb3, sb4, sb5, sb6, sb7, ↓reduceIte, Nat.reduceAdd, Nat.reduceMul, Nat.reduceDiv, Nat.reduceEqDiff, Nat.reduceLT, Nat.reduceLeDiff, reduceCtorEq, Int.reduceEq, Int.reduceNe, Int.reduceLT, Int.reduceLE, Int.reduceAdd, Int.reduceSub, Int.reduceMul, Int.reduceNeg, Int.reduceToNat, Int.cast_ofNat_Int, Int.natCast_zero, Int.natCast_one, Int.toNat_natCast, Nat.reduceBEq, nzs, c4, inK, lo, hi]
    refine ⟨⟨by omega, by omega⟩, (f2 - 1, k + 1, out), ⟨⟨⟨by simp only; omega, by simp only; omega⟩, m3⟩, by simp only; omega⟩, Ent.of ?_⟩
    simp only [sx, sb1, sb2, sb3, sb4, sb5, sb6, sb7, ↓reduceIte, Nat.reduceAdd, Nat.reduceMul, Nat.reduceDiv, Nat.reduceEqDiff, Nat.reduceLT, Nat.reduceLeDiff, reduceCtorEq, Int.reduceEq, Int.reduceNe, Int.reduceLT, Int.reduceLE, Int.reduceAdd, Int.reduceSub, Int.reduceMul, Int.reduceNeg, Int.reduceToNat, Int.cast_ofNat_Int, Int.natCast_zero, Int.natCast_one, Int.toNat_natCast, Nat.reduceBEq, Int.natCast_add]
  have c4 : (0 ≤ (j2 : Int)) = True := eq_true (by omega)
  obtain ⟨⟨b0, b1⟩, ⟨b2, b3⟩, ib⟩ := Bg.it_at hz1 e2
  rw [e1]
  refine DrawK.quiet rfl (by kernel_rfl) ?_
  by_cases hxr : x2.2.2.1 = r.2
  rotate_left
  · have c5 := decide_eq_false hxr
    rw [if_neg (by rw [e3, c5]; simp)] at m3
    simp only [shs, zts, sos, sls, zss, eqs, sx, sb1, sb2, sb3, sb4, sb5, sb6, sb7, ↓reduceIte, Nat.reduceAdd, Nat.reduceMul, Nat.reduceDiv, Nat.reduceEqDiff, Nat.reduceLT, Nat.reduceLeDiff, reduceCtorEq, Int.reduceEq, Int.reduceNe, Int.reduceLT, Int.reduceLE, Int.reduceAdd, Int.reduceSub, Int.reduceMul, Int.reduceNeg, Int.reduceToNat, Int.cast_ofNat_Int, Int.natCast_zero, Int.natCast_one, Int.toNat_natCast, Nat.reduceBEq, nzs, c4, c5, ib, ib.2, b0.1, b0.2, b1.1, b1.2, b2.1, b2.2, b3.1, b3.2, inK, lo, hi]
    refine ⟨⟨by omega, by omega⟩, (f2 - 1, k + 1, out), ⟨⟨⟨by simp only; omega, by simp only; omega⟩, m3⟩, by simp only; omega⟩, Ent.of ?_⟩
    simp only [sx, sb1, sb2, sb3, sb4, sb5, sb6, sb7, ↓reduceIte, Nat.reduceAdd, Nat.reduceMul, Nat.reduceDiv, Nat.reduceEqDiff, Nat.reduceLT, Nat.reduceLeDiff, reduceCtorEq, Int.reduceEq, Int.reduceNe, Int.reduceLT, Int.reduceLE, Int.reduceAdd, Int.reduceSub, Int.reduceMul, Int.reduceNeg, Int.reduceToNat, Int.cast_ofNat_Int, Int.natCast_zero, Int.natCast_one, Int.toNat_natCast, Nat.reduceBEq, Int.natCast_add]
  have c5 := decide_eq_true hxr
  rw [e3, c5, Bool.true_and] at m3
  cases lt with
  | true =>
    rw [if_neg (by decide)] at m3
    simp only [shs, zts, sos, sls, zss, eqs, sx, sb1, sb2, sb3, sb4, sb5, sb6, sb7, ↓reduceIte, Nat.reduceAdd, Nat.reduceMul, Nat.reduceDiv, Nat.reduceEqDiff, Nat.reduceLT, Nat.reduceLeDiff, reduceCtorEq, Int.reduceEq, Int.reduceNe, Int.reduceLT, Int.reduceLE, Int.reduceAdd, Int.reduceSub, Int.reduceMul, Int.reduceNeg, Int.reduceToNat, Int.cast_ofNat_Int, Int.natCast_zero, Int.natCast_one, Int.toNat_natCast, Nat.reduceBEq, nzs, c4, c5, ib, ib.2, b0.1, b0.2, b1.1, b1.2, b2.1, b2.2, b3.1, b3.2, inK, lo, hi]
    refine ⟨⟨by omega, by omega⟩, (f2 - 1, k + 1, out), ⟨⟨⟨by simp only; omega, by simp only; omega⟩, m3⟩, by simp only; omega⟩, Ent.of ?_⟩
    simp only [sx, sb1, sb2, sb3, sb4, sb5, sb6, sb7, ↓reduceIte, Nat.reduceAdd, Nat.reduceMul, Nat.reduceDiv, Nat.reduceEqDiff, Nat.reduceLT, Nat.reduceLeDiff, reduceCtorEq, Int.reduceEq, Int.reduceNe, Int.reduceLT, Int.reduceLE, Int.reduceAdd, Int.reduceSub, Int.reduceMul, Int.reduceNeg, Int.reduceToNat, Int.cast_ofNat_Int, Int.natCast_zero, Int.natCast_one, Int.toNat_natCast, Nat.reduceBEq, Int.natCast_add]
  | false =>
  rw [if_pos (by rfl)] at m3
  simp only [shs, zts, sos, sls, zss, eqs, sx, sb1, sb2, sb3, sb4, sb5, sb6, sb7, ↓reduceIte, Nat.reduceAdd, Nat.reduceMul, Nat.reduceDiv, Nat.reduceEqDiff, Nat.reduceLT, Nat.reduceLeDiff, reduceCtorEq, Int.reduceEq, Int.reduceNe, Int.reduceLT, Int.reduceLE, Int.reduceAdd, Int.reduceSub, Int.reduceMul, Int.reduceNeg, Int.reduceToNat, Int.cast_ofNat_Int, Int.natCast_zero, Int.natCast_one, Int.toNat_natCast, Nat.reduceBEq, nzs, c4, c5, ib, ib.2, b0.1, b0.2, b1.1, b1.2, b2.1, b2.2, b3.1, b3.2, inK, lo, hi]
  refine DrawK.held [72] (tk [0, 1, 2, 3, 6] (.two 4 (.two 5 (.one 7 (.one 8 (.one 9 (.one 10 .done)))) 7 (.one 5 (.one 8 (.one 9 (.one 10 .done))))) 7 (.one 4 (.one 5 (.one 8 (.one 9 (.one 10 .done))))))) (by kernel_rfl) (by kernel_rfl) fun xs6 => ?_
  have hget := tabA_get xs 168 f
  rw [hxl] at hget
  have htl := tabA_len xs 168 f
  have hset2 := tabA_set xs 168 648 f
  have hat := tabA_at xs 648 f
  have hset3 := tabA_set xs 648 168 f
  rw [hxl] at htl hset2 hat hset3
  simp only [shs, zts, sos, sls, zss, eqs, sx, sb1, sb2, sb3, sb4, sb5, sb6, sb7, ↓reduceIte, Nat.reduceAdd, Nat.reduceMul, Nat.reduceDiv, Nat.reduceEqDiff, Nat.reduceLT, Nat.reduceLeDiff, reduceCtorEq, Int.reduceEq, Int.reduceNe, Int.reduceLT, Int.reduceLE, Int.reduceAdd, Int.reduceSub, Int.reduceMul, Int.reduceNeg, Int.reduceToNat, Int.cast_ofNat_Int, Int.natCast_zero, Int.natCast_one, Int.toNat_natCast, Nat.reduceBEq, nzs, se1, se2, tks, st1, hget, htl, List.length_map, getSV, List.getD_cons_zero, inK, lo, hi, tabA_nk 80 xs 168 f rfl, tabA_nk 81 xs 168 f rfl]
  and_intros
  all_goals first
    | omega
    | (refine OpK.stTab rfl rfl (of_eq_true so33) rfl rfl rfl rfl (by rw [sh33]; rfl) (by rw [htl]; omega) (by decide) ?_
       simp only [shs, zts, sos, sls, zss, eqs, sx, sb1, sb2, sb3, sb4, sb5, sb6, sb7, ↓reduceIte, Nat.reduceAdd, Nat.reduceMul, Nat.reduceDiv, Nat.reduceEqDiff, Nat.reduceLT, Nat.reduceLeDiff, reduceCtorEq, Int.reduceEq, Int.reduceNe, Int.reduceLT, Int.reduceLE, Int.reduceAdd, Int.reduceSub, Int.reduceMul, Int.reduceNeg, Int.reduceToNat, Int.cast_ofNat_Int, Int.natCast_zero, Int.natCast_one, Int.toNat_natCast, Nat.reduceBEq, nzs, se1, se2, tks, st1, hget, hset2, inK, lo, hi]
       refine ⟨⟨by omega, by omega⟩, (f2 - 1, k + 1, out ++ [r]), ⟨⟨⟨by simp only; omega, by simp only [List.length_append, List.length_singleton]; omega⟩, by simp only [List.append_assoc, List.cons_append, List.nil_append]; exact m3⟩, by simp only; omega⟩, ?_⟩
       refine Ent.rekeyT 128 i 648 21 4 1 _ rfl rfl hat rfl (by simp only [shs, zts, sos, sls, zss, eqs, sx, sb1, sb2, sb3, sb4, sb5, sb6, sb7, ↓reduceIte, Nat.reduceAdd, Nat.reduceMul, Nat.reduceDiv, Nat.reduceEqDiff, Nat.reduceLT, Nat.reduceLeDiff, reduceCtorEq, Int.reduceEq, Int.reduceNe, Int.reduceLT, Int.reduceLE, Int.reduceAdd, Int.reduceSub, Int.reduceMul, Int.reduceNeg, Int.reduceToNat, Int.cast_ofNat_Int, Int.natCast_zero, Int.natCast_one, Int.toNat_natCast, Nat.reduceBEq, nzs, st1, tabA_nk 21 xs 648 f rfl]) ?_
       rw [hset3]
       refine Ent.of ?_
       simp only [sx, sb1, sb2, sb3, sb4, sb5, sb6, sb7, ↓reduceIte, Nat.reduceAdd, Nat.reduceMul, Nat.reduceDiv, Nat.reduceEqDiff, Nat.reduceLT, Nat.reduceLeDiff, reduceCtorEq, Int.reduceEq, Int.reduceNe, Int.reduceLT, Int.reduceLE, Int.reduceAdd, Int.reduceSub, Int.reduceMul, Int.reduceNeg, Int.reduceToNat, Int.cast_ofNat_Int, Int.natCast_zero, Int.natCast_one, Int.toNat_natCast, Nat.reduceBEq, hset, List.map_append, List.map_cons, List.map_nil, encR, Int.natCast_add])
end Go.X.Sg

