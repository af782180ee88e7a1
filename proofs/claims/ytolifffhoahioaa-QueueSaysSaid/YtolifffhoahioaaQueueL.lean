/- The law QueueSays: what it computes is true. Conditions: none. -/
import Derived.Test.YtolifffhoahioaaQueue
set_option linter.unusedSimpArgs false
set_option linter.unusedVariables false
set_option maxHeartbeats 4000000
set_option maxRecDepth 20000
namespace Go.X.Qu
open Go Go.X Go.RowKit Go.X.Sl

theorem ck_nodup : ∀ {l seen : List (Int × Int)}, ck l seen = 0 → (∀ x ∈ l, ∀ u ∈ seen, u.1 ≠ x.1) ∧ ∀ (i j : Nat) (x y : Int × Int), l[i]? = some x → l[j]? = some y → x.1 = y.1 → i = j
  | [], _, _ => ⟨fun x hx => by (cases hx), fun i j x y h => by simp at h⟩
  | a :: l, seen, h => by
    simp only [ck] at h
    split at h
    · cases h
    · split at h
      · cases h
      · rename_i h1 h2
        obtain ⟨g1, g2⟩ := ck_nodup h
        have h3 : ∀ u ∈ seen, u.1 ≠ a.1 := fun u hu e => h2 (List.any_eq_true.2 ⟨u, hu, decide_eq_true e⟩)
        refine ⟨fun x hx u hu => ?_, fun i j x y hi hj e => ?_⟩
        · rcases List.mem_cons.1 hx with rfl | hx
          · exact h3 u hu
          · exact g1 x hx u (List.mem_append_left _ hu)
        · cases i with
          | zero =>
            cases j with
            | zero => rfl
            | succ j =>
              simp only [List.getElem?_cons_zero, Option.some.injEq] at hi
              subst hi
              exact absurd e (g1 y (List.mem_of_getElem? (by simpa using hj)) a (by simp))
          | succ i =>
            cases j with
            | zero =>
              simp only [List.getElem?_cons_zero, Option.some.injEq] at hj
              subst hj
              exact absurd e.symm (g1 x (List.mem_of_getElem? (by simpa using hi)) a (by simp))
            | succ j =>
              have := g2 i j x y (by simpa using hi) (by simpa using hj) e
              omega
/-- the last place of a tag, of the first i, or -1 -/
def la (l : List (Int × Int)) (tag : Int) : Nat → Int
  | 0 => -1
  | i + 1 => match l[i]? with
    | some x => if x.1 = tag then (i : Int) else la l tag i
    | none => la l tag i
theorem la_eq {l : List (Int × Int)} (tag : Int) (h : ∀ (i j : Nat) (x y : Int × Int), l[i]? = some x → l[j]? = some y → x.1 = y.1 → i = j) : la l tag l.length = fidx (fun u : Int × Int => decide (u.1 = tag)) l 0 := by
  rcases fidx_spec (fun u : Int × Int => decide (u.1 = tag)) l 0 with ⟨hf, h2⟩ | ⟨j, x, hf, hx, hp, _⟩
  · rw [hf]
    have : ∀ i, la l tag i = -1 := fun i => by
      induction i with
      | zero => rfl
      | succ i ih =>
        unfold la
        split
        · rename_i x hx
          rw [if_neg (of_decide_eq_false (h2 x (List.mem_of_getElem? hx)))]
          exact ih
        · exact ih
    exact this _
  · rw [hf]
    have hp' := of_decide_eq_true hp
    have : ∀ i, la l tag i = if j < i then (j : Int) else -1 := fun i => by
      induction i with
      | zero => rfl
      | succ i ih =>
        unfold la
        split
        · rename_i y hy
          by_cases ht : y.1 = tag
          · rw [if_pos ht]
            have := h i j y x hy hx (by rw [ht, hp'])
            subst this
            rw [if_pos (by omega)]
          · rw [if_neg ht, ih]
            have : i ≠ j := fun e => by subst e; rw [hx] at hy; cases hy; exact ht hp'
            by_cases hji : j < i
            · rw [if_pos hji, if_pos (by omega)]
            · rw [if_neg hji, if_neg (by omega)]
        · rename_i hn
          have hl : j < l.length := (List.getElem?_eq_some_iff.1 hx).1
          have := List.getElem?_eq_none_iff.1 hn
          rw [ih, if_pos (by omega), if_pos (by omega)]
    rw [this, if_pos (List.getElem?_eq_some_iff.1 hx).1]
    simp
theorem elP_le {M M' : Mem} (h : M.le M') {a : Addr} {j : Nat} (ho : okP M a j) : elP M' a j = elP M a j ∧ okP M' a j := by
  unfold okP at *
  cases hc : cellM M (a.add j) with
  | none => rw [hc] at ho; cases ho
  | some v =>
    have := cellM_le h hc
    unfold elP
    rw [hc, this]
    exact ⟨rfl, rfl⟩
theorem says (y : Value) (l : List (Int × Int)) (t : Int × Int) (tag : Int) (M : Mem) (hy : RowM M y 2 (l.map encQ)) :
    Meets Proofs.Try.prog 3 [.v y, svQ t, .v (.int .i64 tag)] M fun r _ _ => r = .v (.bool true) := by
  refine Meets.of_body [0,1,2,4,6,7,8,9,10,11,12,13,14,15,16,17,18,47,49,78,79,80,81,87,96,106,107,116,117,128,129,146,157,168,186] Proofs.Try.func3 rfl (by kernel_rfl) rfl fun w => ?_
  have hyl := hy.len_le
  rw [List.length_map] at hyl
  simp only [Proofs.Try.f3, svQ, shs, zts, sos, sls, zss, eqs, sx, sb1, sb2, sb3, sb4, sb5, sb6, ↓reduceIte, Nat.reduceAdd, Nat.reduceMul, Nat.reduceDiv, Nat.reduceEqDiff, Nat.reduceLT, Nat.reduceLeDiff, reduceCtorEq, Int.reduceEq, Int.reduceNe, Int.reduceLT, Int.reduceLE, Int.reduceAdd, Int.reduceSub, Int.reduceMul, Int.reduceNeg, Int.reduceToNat, Int.cast_ofNat_Int, Int.natCast_zero, Int.natCast_one, Int.toNat_natCast, Nat.reduceBEq, nzs]
  refine CallK.row (Ctx.fst _) rfl rfl (add y l t M hy) fun va M1 h1 hva => ?_
  simp only [shs, zts, sos, sls, zss, eqs, sx, sb1, sb2, sb3, sb4, sb5, sb6, ↓reduceIte, Nat.reduceAdd, Nat.reduceMul, Nat.reduceDiv, Nat.reduceEqDiff, Nat.reduceLT, Nat.reduceLeDiff, reduceCtorEq, Int.reduceEq, Int.reduceNe, Int.reduceLT, Int.reduceLE, Int.reduceAdd, Int.reduceSub, Int.reduceMul, Int.reduceNeg, Int.reduceToNat, Int.cast_ofNat_Int, Int.natCast_zero, Int.natCast_one, Int.toNat_natCast, Nat.reduceBEq, nzs]
  refine CallK.row (Ctx.fst _) rfl rfl (mayAll y l M1 (hy.le h1)) fun vm M2 h2 hvm => ?_
  simp only [shs, zts, sos, sls, zss, eqs, sx, sb1, sb2, sb3, sb4, sb5, sb6, ↓reduceIte, Nat.reduceAdd, Nat.reduceMul, Nat.reduceDiv, Nat.reduceEqDiff, Nat.reduceLT, Nat.reduceLeDiff, reduceCtorEq, Int.reduceEq, Int.reduceNe, Int.reduceLT, Int.reduceLE, Int.reduceAdd, Int.reduceSub, Int.reduceMul, Int.reduceNeg, Int.reduceToNat, Int.cast_ofNat_Int, Int.natCast_zero, Int.natCast_one, Int.toNat_natCast, Nat.reduceBEq, nzs]
  refine CallK.row (Ctx.fst _) rfl rfl (done y l tag M2 ((hy.le h1).le h2)) fun vb M3 h3 hvb => ?_
  have hy3 := ((hy.le h1).le h2).le h3
  have hva3 := (hva.le h2).le h3
  have hvm3 := hvm.le h3
  simp only [shs, zts, sos, sls, zss, eqs, sx, sb1, sb2, sb3, sb4, sb5, sb6, ↓reduceIte, Nat.reduceAdd, Nat.reduceMul, Nat.reduceDiv, Nat.reduceEqDiff, Nat.reduceLT, Nat.reduceLeDiff, reduceCtorEq, Int.reduceEq, Int.reduceNe, Int.reduceLT, Int.reduceLE, Int.reduceAdd, Int.reduceSub, Int.reduceMul, Int.reduceNeg, Int.reduceToNat, Int.cast_ofNat_Int, Int.natCast_zero, Int.natCast_one, Int.toNat_natCast, Nat.reduceBEq, nzs]
  refine CallK.pure ⟨rfl, rfl⟩ rfl (tasks y l M3 hy3) ?_
  simp only [shs, zts, sos, sls, zss, eqs, sx, sb1, sb2, sb3, sb4, sb5, sb6, ↓reduceIte, Nat.reduceAdd, Nat.reduceMul, Nat.reduceDiv, Nat.reduceEqDiff, Nat.reduceLT, Nat.reduceLeDiff, reduceCtorEq, Int.reduceEq, Int.reduceNe, Int.reduceLT, Int.reduceLE, Int.reduceAdd, Int.reduceSub, Int.reduceMul, Int.reduceNeg, Int.reduceToNat, Int.cast_ofNat_Int, Int.natCast_zero, Int.natCast_one, Int.toNat_natCast, Nat.reduceBEq, nzs]
  refine CallK.pure ⟨rfl, rfl⟩ rfl (check y l M3 hy3) ?_
  simp only [shs, zts, sos, sls, zss, eqs, sx, sb1, sb2, sb3, sb4, sb5, sb6, ↓reduceIte, Nat.reduceAdd, Nat.reduceMul, Nat.reduceDiv, Nat.reduceEqDiff, Nat.reduceLT, Nat.reduceLeDiff, reduceCtorEq, Int.reduceEq, Int.reduceNe, Int.reduceLT, Int.reduceLE, Int.reduceAdd, Int.reduceSub, Int.reduceMul, Int.reduceNeg, Int.reduceToNat, Int.cast_ofNat_Int, Int.natCast_zero, Int.natCast_one, Int.toNat_natCast, Nat.reduceBEq, nzs]
  refine CallK.pub (k := 352) rfl fun v4 M4 h4 hv4 => ?_
  simp only [shs, zts, sos, sls, zss, eqs, sx, sb1, sb2, sb3, sb4, sb5, sb6, ↓reduceIte, Nat.reduceAdd, Nat.reduceMul, Nat.reduceDiv, Nat.reduceEqDiff, Nat.reduceLT, Nat.reduceLeDiff, reduceCtorEq, Int.reduceEq, Int.reduceNe, Int.reduceLT, Int.reduceLE, Int.reduceAdd, Int.reduceSub, Int.reduceMul, Int.reduceNeg, Int.reduceToNat, Int.cast_ofNat_Int, Int.natCast_zero, Int.natCast_one, Int.toNat_natCast, Nat.reduceBEq, sp1, sp2, sp3, nzs]
  refine CallK.pure ⟨rfl, rfl⟩ rfl (check v4 [(-1, 0)] M4 hv4) ?_
  have e1 : tasksE [(-1, 0)] = 1 := by decide
  have hy4 := hy3.le h4
  have hva4 := hva3.le h4
  have hvm4 := hvm3.le h4
  have hvb4 := hvb.le h4
  by_cases he : tasksE l = 0
  rotate_left
  · have c1 : (tasksE l = 0) = False := eq_false he
    have f1 : addE l t = tasksE l := by rw [addE, if_pos he]
    have f2 : addL l t = [] := by rw [addL, if_pos (by rw [f1]; exact he)]
    have f3 : doneE l tag = tasksE l := by rw [doneE, if_pos he]
    have f4 : doneL l tag = [] := by rw [doneL, if_pos (by rw [f3]; exact he)]
    rw [f2] at hva4
    rw [f4] at hvb4
    rw [if_neg he] at hvm4
    simp only [shs, zts, sos, sls, zss, eqs, sx, sb1, sb2, sb3, sb4, sb5, sb6, ↓reduceIte, Nat.reduceAdd, Nat.reduceMul, Nat.reduceDiv, Nat.reduceEqDiff, Nat.reduceLT, Nat.reduceLeDiff, reduceCtorEq, Int.reduceEq, Int.reduceNe, Int.reduceLT, Int.reduceLE, Int.reduceAdd, Int.reduceSub, Int.reduceMul, Int.reduceNeg, Int.reduceToNat, Int.cast_ofNat_Int, Int.natCast_zero, Int.natCast_one, Int.toNat_natCast, Nat.reduceBEq, nzs, e1, c1, f1, f3, hva4.len, hva4.sl, hvm4.len, hvm4.sl, hvb4.len, hvb4.sl, List.map_nil, List.length_nil]
  obtain ⟨h20, hok⟩ := tasksE_ok he
  have hk := fun x hx => oneB_kind (hok x hx)
  simp only [shs, zts, sos, sls, zss, eqs, sx, sb1, sb2, sb3, sb4, sb5, sb6, ↓reduceIte, Nat.reduceAdd, Nat.reduceMul, Nat.reduceDiv, Nat.reduceEqDiff, Nat.reduceLT, Nat.reduceLeDiff, reduceCtorEq, Int.reduceEq, Int.reduceNe, Int.reduceLT, Int.reduceLE, Int.reduceAdd, Int.reduceSub, Int.reduceMul, Int.reduceNeg, Int.reduceToNat, Int.cast_ofNat_Int, Int.natCast_zero, Int.natCast_one, Int.toNat_natCast, Nat.reduceBEq, nzs, he, e1, hy4.len, hy4.sl, List.length_map]
  refine LoopK.nilRow 14 92 1 rfl rfl rfl ?_
  have hck : ck l [] = 0 := by unfold tasksE at he; rw [if_neg (by omega)] at he; exact he
  refine LoopK.go (X := Nat × Nat) (fun x => ([(0, true, .v y), (2, true, .v (.int .i64 tag)), (4, true, .ptr 32 0 0 0), (7, true, .v va), (8, true, .v (.int .i64 (addE l t))), (9, true, .v vm), (10, true, .v (.int .i64 0)), (11, true, .v vb), (12, true, .v (.int .i64 (doneE l tag))),
      (14, true, .own 736), (15, true, .v (.int .i64 (la l tag x.2))), (78, true, .v y), (79, true, .v (.int .i64 l.length)), (80, true, .v (.int .i64 x.2))], [(32, .box [.v (.int .i64 t.1), .v (.int .i64 t.2)] none), (736, .row 1 ((tg l x.2).map encI))], M4))
    (fun x => (x.1 + x.2 = l.length)) (fun x => x.1) (l.length, 0) rfl (Ent.of ?_) ?_
  · simp only [sx, sb1, sb2, sb3, sb4, sb5, sb6, ↓reduceIte, Nat.reduceAdd, Nat.reduceMul, Nat.reduceDiv, Nat.reduceEqDiff, Nat.reduceLT, Nat.reduceLeDiff, reduceCtorEq, Int.reduceEq, Int.reduceNe, Int.reduceLT, Int.reduceLE, Int.reduceAdd, Int.reduceSub, Int.reduceMul, Int.reduceNeg, Int.reduceToNat, Int.cast_ofNat_Int, Int.natCast_zero, Int.natCast_one, Int.toNat_natCast, Nat.reduceBEq, tg, la, List.map_nil]
  rintro ⟨f, i⟩ h1
  simp only at h1
  by_cases hil : i < l.length
  · have d1 : ((i : Int) < (l.length : Int)) = True := eq_true (by omega)
    obtain ⟨⟨a, b⟩, hx, hd⟩ := l_drop_at (l := l) (i := i) hil
    have g0 := hy4.cell (i := i) (e := [.int .i64 a, .int .i64 b]) (by rw [List.getElem?_map, hx]; rfl) (off := 0) (by omega)
    have g1 := hy4.cell (i := i) (e := [.int .i64 a, .int .i64 b]) (by rw [List.getElem?_map, hx]; rfl) (off := 1) (by omega)
    have i0 := hy4.ix (i := (i : Int)) (by omega) (by rw [List.length_map]; omega)
    simp only [List.getD_cons_zero, List.getD_cons_succ] at g0 g1
    have htl := tg_len l i
    simp only [shs, zts, sos, sls, zss, eqs, sx, sb1, sb2, sb3, sb4, sb5, sb6, ↓reduceIte, Nat.reduceAdd, Nat.reduceMul, Nat.reduceDiv, Nat.reduceEqDiff, Nat.reduceLT, Nat.reduceLeDiff, reduceCtorEq, Int.reduceEq, Int.reduceNe, Int.reduceLT, Int.reduceLE, Int.reduceAdd, Int.reduceSub, Int.reduceMul, Int.reduceNeg, Int.reduceToNat, Int.cast_ofNat_Int, Int.natCast_zero, Int.natCast_one, Int.toNat_natCast, Nat.reduceBEq, nzs, d1, hy4.len, hy4.sl, List.length_map, i0, i0.2, g0.1, g0.2.1, g1.1, g1.2.1]
    refine CallK.pure ⟨rfl, rfl⟩ rfl (free y l i a b M4 hy4 hx hk) ?_
    by_cases ht : a = tag
    · have d2 : (a = tag) = True := eq_true ht
      cases hf : freeB l i b with
      | true =>
        simp only [shs, zts, sos, sls, zss, eqs, sx, sb1, sb2, sb3, sb4, sb5, sb6, ↓reduceIte, Nat.reduceAdd, Nat.reduceMul, Nat.reduceDiv, Nat.reduceEqDiff, Nat.reduceLT, Nat.reduceLeDiff, reduceCtorEq, Int.reduceEq, Int.reduceNe, Int.reduceLT, Int.reduceLE, Int.reduceAdd, Int.reduceSub, Int.reduceMul, Int.reduceNeg, Int.reduceToNat, Int.cast_ofNat_Int, Int.natCast_zero, Int.natCast_one, Int.toNat_natCast, Nat.reduceBEq, nzs, d2, inK, lo, hi, List.length_map]
        refine ⟨⟨by omega, by omega⟩, by omega, (f - 1, i + 1), ⟨by simp only; omega, by simp only; omega⟩, Ent.of ?_⟩
        simp only [sx, sb1, sb2, sb3, sb4, sb5, sb6, ↓reduceIte, Nat.reduceAdd, Nat.reduceMul, Nat.reduceDiv, Nat.reduceEqDiff, Nat.reduceLT, Nat.reduceLeDiff, reduceCtorEq, Int.reduceEq, Int.reduceNe, Int.reduceLT, Int.reduceLE, Int.reduceAdd, Int.reduceSub, Int.reduceMul, Int.reduceNeg, Int.reduceToNat, Int.cast_ofNat_Int, Int.natCast_zero, Int.natCast_one, Int.toNat_natCast, Nat.reduceBEq, Int.natCast_add, tg, la, hx, hf, ht, List.map_append, List.map_cons, List.map_nil, encI]
      | false =>
        simp only [shs, zts, sos, sls, zss, eqs, sx, sb1, sb2, sb3, sb4, sb5, sb6, ↓reduceIte, Nat.reduceAdd, Nat.reduceMul, Nat.reduceDiv, Nat.reduceEqDiff, Nat.reduceLT, Nat.reduceLeDiff, reduceCtorEq, Int.reduceEq, Int.reduceNe, Int.reduceLT, Int.reduceLE, Int.reduceAdd, Int.reduceSub, Int.reduceMul, Int.reduceNeg, Int.reduceToNat, Int.cast_ofNat_Int, Int.natCast_zero, Int.natCast_one, Int.toNat_natCast, Nat.reduceBEq, nzs, d2, inK, lo, hi, List.length_map]
        refine ⟨by omega, (f - 1, i + 1), ⟨by simp only; omega, by simp only; omega⟩, Ent.of ?_⟩
        simp only [sx, sb1, sb2, sb3, sb4, sb5, sb6, ↓reduceIte, Nat.reduceAdd, Nat.reduceMul, Nat.reduceDiv, Nat.reduceEqDiff, Nat.reduceLT, Nat.reduceLeDiff, reduceCtorEq, Int.reduceEq, Int.reduceNe, Int.reduceLT, Int.reduceLE, Int.reduceAdd, Int.reduceSub, Int.reduceMul, Int.reduceNeg, Int.reduceToNat, Int.cast_ofNat_Int, Int.natCast_zero, Int.natCast_one, Int.toNat_natCast, Nat.reduceBEq, Int.natCast_add, tg, la, hx, hf, ht]
    · have d2 : (a = tag) = False := eq_false ht
      cases hf : freeB l i b with
      | true =>
        simp only [shs, zts, sos, sls, zss, eqs, sx, sb1, sb2, sb3, sb4, sb5, sb6, ↓reduceIte, Nat.reduceAdd, Nat.reduceMul, Nat.reduceDiv, Nat.reduceEqDiff, Nat.reduceLT, Nat.reduceLeDiff, reduceCtorEq, Int.reduceEq, Int.reduceNe, Int.reduceLT, Int.reduceLE, Int.reduceAdd, Int.reduceSub, Int.reduceMul, Int.reduceNeg, Int.reduceToNat, Int.cast_ofNat_Int, Int.natCast_zero, Int.natCast_one, Int.toNat_natCast, Nat.reduceBEq, nzs, d2, inK, lo, hi, List.length_map]
        refine ⟨⟨by omega, by omega⟩, by omega, (f - 1, i + 1), ⟨by simp only; omega, by simp only; omega⟩, Ent.of ?_⟩
        simp only [sx, sb1, sb2, sb3, sb4, sb5, sb6, ↓reduceIte, Nat.reduceAdd, Nat.reduceMul, Nat.reduceDiv, Nat.reduceEqDiff, Nat.reduceLT, Nat.reduceLeDiff, reduceCtorEq, Int.reduceEq, Int.reduceNe, Int.reduceLT, Int.reduceLE, Int.reduceAdd, Int.reduceSub, Int.reduceMul, Int.reduceNeg, Int.reduceToNat, Int.cast_ofNat_Int, Int.natCast_zero, Int.natCast_one, Int.toNat_natCast, Nat.reduceBEq, Int.natCast_add, tg, la, hx, hf, ht, if_false, List.map_append, List.map_cons, List.map_nil, encI]
      | false =>
        simp only [shs, zts, sos, sls, zss, eqs, sx, sb1, sb2, sb3, sb4, sb5, sb6, ↓reduceIte, Nat.reduceAdd, Nat.reduceMul, Nat.reduceDiv, Nat.reduceEqDiff, Nat.reduceLT, Nat.reduceLeDiff, reduceCtorEq, Int.reduceEq, Int.reduceNe, Int.reduceLT, Int.reduceLE, Int.reduceAdd, Int.reduceSub, Int.reduceMul, Int.reduceNeg, Int.reduceToNat, Int.cast_ofNat_Int, Int.natCast_zero, Int.natCast_one, Int.toNat_natCast, Nat.reduceBEq, nzs, d2, inK, lo, hi, List.length_map]
        refine ⟨by omega, (f - 1, i + 1), ⟨by simp only; omega, by simp only; omega⟩, Ent.of ?_⟩
        simp only [sx, sb1, sb2, sb3, sb4, sb5, sb6, ↓reduceIte, Nat.reduceAdd, Nat.reduceMul, Nat.reduceDiv, Nat.reduceEqDiff, Nat.reduceLT, Nat.reduceLeDiff, reduceCtorEq, Int.reduceEq, Int.reduceNe, Int.reduceLT, Int.reduceLE, Int.reduceAdd, Int.reduceSub, Int.reduceMul, Int.reduceNeg, Int.reduceToNat, Int.cast_ofNat_Int, Int.natCast_zero, Int.natCast_one, Int.toNat_natCast, Nat.reduceBEq, Int.natCast_add, tg, la, hx, hf, ht, if_false]
  have d1 : ((i : Int) < (l.length : Int)) = False := eq_false (by omega)
  have e0 : i = l.length := by omega
  subst e0
  rw [if_pos he] at hvm4
  rw [la_eq tag (ck_nodup hck).2]
  simp only [shs, zts, sos, sls, zss, eqs, sx, sb1, sb2, sb3, sb4, sb5, sb6, ↓reduceIte, Nat.reduceAdd, Nat.reduceMul, Nat.reduceDiv, Nat.reduceEqDiff, Nat.reduceLT, Nat.reduceLeDiff, reduceCtorEq, Int.reduceEq, Int.reduceNe, Int.reduceLT, Int.reduceLE, Int.reduceAdd, Int.reduceSub, Int.reduceMul, Int.reduceNeg, Int.reduceToNat, Int.cast_ofNat_Int, Int.natCast_zero, Int.natCast_one, Int.toNat_natCast, Nat.reduceBEq, nzs, d1]
  refine CallK.pub (k := 736) rfl fun v5 M5 h5 hv5 => ?_
  have hy5 := hy4.le h5
  have hva5 := hva4.le h5
  have hvb5 := hvb4.le h5
  simp only [shs, zts, sos, sls, zss, eqs, sx, sb1, sb2, sb3, sb4, sb5, sb6, ↓reduceIte, Nat.reduceAdd, Nat.reduceMul, Nat.reduceDiv, Nat.reduceEqDiff, Nat.reduceLT, Nat.reduceLeDiff, reduceCtorEq, Int.reduceEq, Int.reduceNe, Int.reduceLT, Int.reduceLE, Int.reduceAdd, Int.reduceSub, Int.reduceMul, Int.reduceNeg, Int.reduceToNat, Int.cast_ofNat_Int, Int.natCast_zero, Int.natCast_one, Int.toNat_natCast, Nat.reduceBEq, sp1, sp2, sp3, nzs]
  refine CallK.pure ⟨rfl, rfl⟩ rfl (eqI vm v5 (tg l l.length) (tg l l.length) M5 (hvm4.le h5) hv5) ?_
  have hE : doneE l tag = match l[(fidx (fun u : Int × Int => decide (u.1 = tag)) l 0).toNat]? with
    | some x => if fidx (fun u : Int × Int => decide (u.1 = tag)) l 0 < 0 then 4 else if freeB l (fidx (fun u : Int × Int => decide (u.1 = tag)) l 0).toNat x.2 = false then 9 else 0
    | none => 4 := by rw [doneE, if_neg (by simp [he])]; rfl
  have hL : doneL l tag = if doneE l tag ≠ 0 then [] else l.take (fidx (fun u : Int × Int => decide (u.1 = tag)) l 0).toNat ++ l.drop ((fidx (fun u : Int × Int => decide (u.1 = tag)) l 0).toNat + 1) := rfl
  have htt : decide (tg l l.length = tg l l.length) = true := decide_eq_true rfl
  rcases fidx_spec (fun u : Int × Int => decide (u.1 = tag)) l 0 with ⟨hf, _⟩ | ⟨j, ⟨a, k⟩, hf, hx, _, _⟩
  · rw [hf] at hE hL ⊢
    have g1 : doneE l tag = 4 := by rw [hE]; split <;> rfl
    rw [hL, g1, if_pos (by decide)] at hvb5
    simp only [shs, zts, sos, sls, zss, eqs, sx, sb1, sb2, sb3, sb4, sb5, sb6, ↓reduceIte, Nat.reduceAdd, Nat.reduceMul, Nat.reduceDiv, Nat.reduceEqDiff, Nat.reduceLT, Nat.reduceLeDiff, reduceCtorEq, Int.reduceEq, Int.reduceNe, Int.reduceLT, Int.reduceLE, Int.reduceAdd, Int.reduceSub, Int.reduceMul, Int.reduceNeg, Int.reduceToNat, Int.cast_ofNat_Int, Int.natCast_zero, Int.natCast_one, Int.toNat_natCast, Nat.reduceBEq, nzs, g1, htt, hvb5.len, hvb5.sl, List.map_nil, List.length_nil]
    -- what Add says
    refine CallK.pure ⟨rfl, rfl⟩ rfl (task t M5) ?_
    cases ho : oneB t with
    | false =>
      have f1 : addE l t = 1 := by rw [addE, if_neg (by simp [he]), if_pos ho]
      have f2 : addL l t = [] := by rw [addL, if_pos (by rw [f1]; decide)]
      rw [f2] at hva5
      simp only [shs, zts, sos, sls, zss, eqs, sx, sb1, sb2, sb3, sb4, sb5, sb6, ↓reduceIte, Nat.reduceAdd, Nat.reduceMul, Nat.reduceDiv, Nat.reduceEqDiff, Nat.reduceLT, Nat.reduceLeDiff, reduceCtorEq, Int.reduceEq, Int.reduceNe, Int.reduceLT, Int.reduceLE, Int.reduceAdd, Int.reduceSub, Int.reduceMul, Int.reduceNeg, Int.reduceToNat, Int.cast_ofNat_Int, Int.natCast_zero, Int.natCast_one, Int.toNat_natCast, Nat.reduceBEq, nzs, f1, hva5.len, hva5.sl, List.map_nil, List.length_nil]
    | true =>
    simp only [shs, zts, sos, sls, zss, eqs, sx, sb1, sb2, sb3, sb4, sb5, sb6, ↓reduceIte, Nat.reduceAdd, Nat.reduceMul, Nat.reduceDiv, Nat.reduceEqDiff, Nat.reduceLT, Nat.reduceLeDiff, reduceCtorEq, Int.reduceEq, Int.reduceNe, Int.reduceLT, Int.reduceLE, Int.reduceAdd, Int.reduceSub, Int.reduceMul, Int.reduceNeg, Int.reduceToNat, Int.cast_ofNat_Int, Int.natCast_zero, Int.natCast_one, Int.toNat_natCast, Nat.reduceBEq, nzs]
    refine stepK.mkFn rfl rfl ?_
    simp only [shs, zts, sos, sls, zss, eqs, sx, sb1, sb2, sb3, sb4, sb5, sb6, ↓reduceIte, Nat.reduceAdd, Nat.reduceMul, Nat.reduceDiv, Nat.reduceEqDiff, Nat.reduceLT, Nat.reduceLeDiff, reduceCtorEq, Int.reduceEq, Int.reduceNe, Int.reduceLT, Int.reduceLE, Int.reduceAdd, Int.reduceSub, Int.reduceMul, Int.reduceNeg, Int.reduceToNat, Int.cast_ofNat_Int, Int.natCast_zero, Int.natCast_one, Int.toNat_natCast, Nat.reduceBEq, nzs]
    refine CallK.pubB (k := 32) rfl rfl fun bb N2 hN2 hb => ?_
    have hyn := hy5.le hN2
    have hvn := hva5.le hN2
    have b0 := hb.at (j := 0) rfl
    have b1 := hb.at (j := 1) rfl
    have b1' := hb.at' (j := 1) rfl
    simp only [SV.val] at b0 b1 b1'
    simp only [shA1, shA2, shs, zts, sos, sls, zss, eqs, sx, sb1, sb2, sb3, sb4, sb5, sb6, ↓reduceIte, Nat.reduceAdd, Nat.reduceMul, Nat.reduceDiv, Nat.reduceEqDiff, Nat.reduceLT, Nat.reduceLeDiff, reduceCtorEq, Int.reduceEq, Int.reduceNe, Int.reduceLT, Int.reduceLE, Int.reduceAdd, Int.reduceSub, Int.reduceMul, Int.reduceNeg, Int.reduceToNat, Int.cast_ofNat_Int, Int.natCast_zero, Int.natCast_one, Int.toNat_natCast, Nat.reduceBEq]
    refine CallK.pure ⟨rfl, rfl⟩ rfl (ctsQ (α := Int × Int) (fun x => .int .i64 x.1) (fun x => .int .i64 x.2) (fun u => decide (u.1 = t.1)) _ _ rfl y l N2 hyn (fun x _ => lawC bb t x N2 hb)) ?_
    cases ha : l.any fun u => decide (u.1 = t.1) with
    | true =>
      have f1 : addE l t = 5 := by rw [addE, if_neg (by simp [he]), if_neg (by simp [ho]), if_pos ha]
      have f2 : addL l t = [] := by rw [addL, if_pos (by rw [f1]; decide)]
      rw [f2] at hvn
      simp only [shs, zts, sos, sls, zss, eqs, sx, sb1, sb2, sb3, sb4, sb5, sb6, ↓reduceIte, Nat.reduceAdd, Nat.reduceMul, Nat.reduceDiv, Nat.reduceEqDiff, Nat.reduceLT, Nat.reduceLeDiff, reduceCtorEq, Int.reduceEq, Int.reduceNe, Int.reduceLT, Int.reduceLE, Int.reduceAdd, Int.reduceSub, Int.reduceMul, Int.reduceNeg, Int.reduceToNat, Int.cast_ofNat_Int, Int.natCast_zero, Int.natCast_one, Int.toNat_natCast, Nat.reduceBEq, nzs, f1, hvn.len, hvn.sl, List.map_nil, List.length_nil]
    | false =>
    by_cases h20' : l.length = 20
    · have f1 : addE l t = 8 := by rw [addE, if_neg (by simp [he]), if_neg (by simp [ho]), if_neg (by simp only [ha]; decide), if_pos h20']
      have f2 : addL l t = [] := by rw [addL, if_pos (by rw [f1]; decide)]
      rw [f2] at hvn
      have c2 : (20 ≤ (l.length : Int)) = True := eq_true (by omega)
      simp only [shs, zts, sos, sls, zss, eqs, sx, sb1, sb2, sb3, sb4, sb5, sb6, ↓reduceIte, Nat.reduceAdd, Nat.reduceMul, Nat.reduceDiv, Nat.reduceEqDiff, Nat.reduceLT, Nat.reduceLeDiff, reduceCtorEq, Int.reduceEq, Int.reduceNe, Int.reduceLT, Int.reduceLE, Int.reduceAdd, Int.reduceSub, Int.reduceMul, Int.reduceNeg, Int.reduceToNat, Int.cast_ofNat_Int, Int.natCast_zero, Int.natCast_one, Int.toNat_natCast, Nat.reduceBEq, nzs, f1, c2, hyn.len, hyn.sl, hvn.len, hvn.sl, List.length_map, List.map_nil, List.length_nil]
    have c2 : (20 ≤ (l.length : Int)) = False := eq_false (by omega)
    have f1 : addE l t = 0 := by rw [addE, if_neg (by simp [he]), if_neg (by simp [ho]), if_neg (by simp only [ha]; decide), if_neg h20']
    have f2 : addL l t = if t.2 = 2 then t :: l else l ++ [t] := by rw [addL, if_neg (by rw [f1]; decide)]
    rw [f2] at hvn
    simp only [shs, zts, sos, sls, zss, eqs, sx, sb1, sb2, sb3, sb4, sb5, sb6, ↓reduceIte, Nat.reduceAdd, Nat.reduceMul, Nat.reduceDiv, Nat.reduceEqDiff, Nat.reduceLT, Nat.reduceLeDiff, reduceCtorEq, Int.reduceEq, Int.reduceNe, Int.reduceLT, Int.reduceLE, Int.reduceAdd, Int.reduceSub, Int.reduceMul, Int.reduceNeg, Int.reduceToNat, Int.cast_ofNat_Int, Int.natCast_zero, Int.natCast_one, Int.toNat_natCast, Nat.reduceBEq, nzs, f1, c2, hyn.len, hyn.sl, List.length_map, b0.1, b0.2, b1.1, b1.2, b1'.1, b1'.2]
    refine OpK.pub (k := 1448) rfl fun v6 N3 hN3 hv6 => OpK.step ?_
    simp only [shs, zts, sos, sls, zss, eqs, sx, sb1, sb2, sb3, sb4, sb5, sb6, ↓reduceIte, Nat.reduceAdd, Nat.reduceMul, Nat.reduceDiv, Nat.reduceEqDiff, Nat.reduceLT, Nat.reduceLeDiff, reduceCtorEq, Int.reduceEq, Int.reduceNe, Int.reduceLT, Int.reduceLE, Int.reduceAdd, Int.reduceSub, Int.reduceMul, Int.reduceNeg, Int.reduceToNat, Int.cast_ofNat_Int, Int.natCast_zero, Int.natCast_one, Int.toNat_natCast, Nat.reduceBEq, sp1, sp2, sp3, nzs]
    refine ⟨⟨hyn.one, hv6.one⟩, CallK.pub (k := 1456) rfl fun v7 N4 hN4 hv7 => ?_⟩
    simp only [shs, zts, sos, sls, zss, eqs, sx, sb1, sb2, sb3, sb4, sb5, sb6, ↓reduceIte, Nat.reduceAdd, Nat.reduceMul, Nat.reduceDiv, Nat.reduceEqDiff, Nat.reduceLT, Nat.reduceLeDiff, reduceCtorEq, Int.reduceEq, Int.reduceNe, Int.reduceLT, Int.reduceLE, Int.reduceAdd, Int.reduceSub, Int.reduceMul, Int.reduceNeg, Int.reduceToNat, Int.cast_ofNat_Int, Int.natCast_zero, Int.natCast_one, Int.toNat_natCast, Nat.reduceBEq, sp1, sp2, sp3, nzs]
    refine CallK.own Ctx.id rfl rfl (concatT encQ v7 [(y, l), (v6, [t])] N4 hv7 (fun r hr => ?_) (by simp; omega)) rfl fun N5 hN5 => ?_
    · simp only [List.mem_cons, List.not_mem_nil, or_false] at hr
      rcases hr with rfl | rfl
      · exact (hyn.le hN3).le hN4
      · exact hv6.le hN4
    have q0 := elP_le (((hN3.trans hN4).trans hN5)) b0.2
    have q1 := elP_le (((hN3.trans hN4).trans hN5)) b1.2
    have q1' := elP_le (((hN3.trans hN4).trans hN5)) b1'.2
    rw [b0.1] at q0
    rw [b1.1] at q1
    rw [b1'.1] at q1'
    have hyn5 := ((hyn.le hN3).le hN4).le hN5
    have hvn5 := ((hvn.le hN3).le hN4).le hN5
    by_cases hk2 : t.2 = 2
    · have c3 : (t.2 = 2) = True := eq_true hk2
      rw [if_pos hk2] at hvn5
      simp only [shs, zts, sos, sls, zss, eqs, sx, sb1, sb2, sb3, sb4, sb5, sb6, ↓reduceIte, Nat.reduceAdd, Nat.reduceMul, Nat.reduceDiv, Nat.reduceEqDiff, Nat.reduceLT, Nat.reduceLeDiff, reduceCtorEq, Int.reduceEq, Int.reduceNe, Int.reduceLT, Int.reduceLE, Int.reduceAdd, Int.reduceSub, Int.reduceMul, Int.reduceNeg, Int.reduceToNat, Int.cast_ofNat_Int, Int.natCast_zero, Int.natCast_one, Int.toNat_natCast, Nat.reduceBEq, nzs, c3, q0.1, q0.2, q1.1, q1.2, q1'.1, q1'.2]
      refine OpK.pub (k := 1504) rfl fun v8 N6 hN6 hv8 => OpK.step ?_
      simp only [shs, zts, sos, sls, zss, eqs, sx, sb1, sb2, sb3, sb4, sb5, sb6, ↓reduceIte, Nat.reduceAdd, Nat.reduceMul, Nat.reduceDiv, Nat.reduceEqDiff, Nat.reduceLT, Nat.reduceLeDiff, reduceCtorEq, Int.reduceEq, Int.reduceNe, Int.reduceLT, Int.reduceLE, Int.reduceAdd, Int.reduceSub, Int.reduceMul, Int.reduceNeg, Int.reduceToNat, Int.cast_ofNat_Int, Int.natCast_zero, Int.natCast_one, Int.toNat_natCast, Nat.reduceBEq, sp1, sp2, sp3, nzs]
      refine ⟨⟨hv8.one, hyn.one⟩, CallK.pub (k := 1520) rfl fun v9 N7 hN7 hv9 => ?_⟩
      simp only [shs, zts, sos, sls, zss, eqs, sx, sb1, sb2, sb3, sb4, sb5, sb6, ↓reduceIte, Nat.reduceAdd, Nat.reduceMul, Nat.reduceDiv, Nat.reduceEqDiff, Nat.reduceLT, Nat.reduceLeDiff, reduceCtorEq, Int.reduceEq, Int.reduceNe, Int.reduceLT, Int.reduceLE, Int.reduceAdd, Int.reduceSub, Int.reduceMul, Int.reduceNeg, Int.reduceToNat, Int.cast_ofNat_Int, Int.natCast_zero, Int.natCast_one, Int.toNat_natCast, Nat.reduceBEq, sp1, sp2, sp3, nzs]
      refine CallK.own Ctx.id rfl rfl (concatT encQ v9 [(v8, [t]), (y, l)] N7 hv9 (fun r hr => ?_) (by simp; omega)) rfl fun N8 hN8 => ?_
      · simp only [List.mem_cons, List.not_mem_nil, or_false] at hr
        rcases hr with rfl | rfl
        · exact hv8.le hN7
        · exact (hyn5.le hN6).le hN7
      simp only [shs, zts, sos, sls, zss, eqs, sx, sb1, sb2, sb3, sb4, sb5, sb6, ↓reduceIte, Nat.reduceAdd, Nat.reduceMul, Nat.reduceDiv, Nat.reduceEqDiff, Nat.reduceLT, Nat.reduceLeDiff, reduceCtorEq, Int.reduceEq, Int.reduceNe, Int.reduceLT, Int.reduceLE, Int.reduceAdd, Int.reduceSub, Int.reduceMul, Int.reduceNeg, Int.reduceToNat, Int.cast_ofNat_Int, Int.natCast_zero, Int.natCast_one, Int.toNat_natCast, Nat.reduceBEq, nzs]
      refine CallK.pub (k := 1528) rfl fun v10 N9 hN9 hv10 => ?_
      simp only [shs, zts, sos, sls, zss, eqs, sx, sb1, sb2, sb3, sb4, sb5, sb6, ↓reduceIte, Nat.reduceAdd, Nat.reduceMul, Nat.reduceDiv, Nat.reduceEqDiff, Nat.reduceLT, Nat.reduceLeDiff, reduceCtorEq, Int.reduceEq, Int.reduceNe, Int.reduceLT, Int.reduceLE, Int.reduceAdd, Int.reduceSub, Int.reduceMul, Int.reduceNeg, Int.reduceToNat, Int.cast_ofNat_Int, Int.natCast_zero, Int.natCast_one, Int.toNat_natCast, Nat.reduceBEq, sp1, sp2, sp3, nzs]
      refine CallK.pure ⟨rfl, rfl⟩ rfl (eqQ va v10 (t :: l) (t :: l) N9 ((((hvn5.le hN6).le hN7).le hN8).le hN9) (by simpa using hv10)) ?_
      simp only [shs, zts, sos, sls, zss, eqs, sx, sb1, sb2, sb3, sb4, sb5, sb6, ↓reduceIte, Nat.reduceAdd, Nat.reduceMul, Nat.reduceDiv, Nat.reduceEqDiff, Nat.reduceLT, Nat.reduceLeDiff, reduceCtorEq, Int.reduceEq, Int.reduceNe, Int.reduceLT, Int.reduceLE, Int.reduceAdd, Int.reduceSub, Int.reduceMul, Int.reduceNeg, Int.reduceToNat, Int.cast_ofNat_Int, Int.natCast_zero, Int.natCast_one, Int.toNat_natCast, Nat.reduceBEq, nzs, decide_true]
    · have c3 : (t.2 = 2) = False := eq_false hk2
      rw [if_neg hk2] at hvn5
      simp only [shs, zts, sos, sls, zss, eqs, sx, sb1, sb2, sb3, sb4, sb5, sb6, ↓reduceIte, Nat.reduceAdd, Nat.reduceMul, Nat.reduceDiv, Nat.reduceEqDiff, Nat.reduceLT, Nat.reduceLeDiff, reduceCtorEq, Int.reduceEq, Int.reduceNe, Int.reduceLT, Int.reduceLE, Int.reduceAdd, Int.reduceSub, Int.reduceMul, Int.reduceNeg, Int.reduceToNat, Int.cast_ofNat_Int, Int.natCast_zero, Int.natCast_one, Int.toNat_natCast, Nat.reduceBEq, nzs, c3, q0.1, q0.2, q1.1, q1.2, q1'.1, q1'.2]
      refine CallK.pub (k := 1464) rfl fun v10 N9 hN9 hv10 => ?_
      simp only [shs, zts, sos, sls, zss, eqs, sx, sb1, sb2, sb3, sb4, sb5, sb6, ↓reduceIte, Nat.reduceAdd, Nat.reduceMul, Nat.reduceDiv, Nat.reduceEqDiff, Nat.reduceLT, Nat.reduceLeDiff, reduceCtorEq, Int.reduceEq, Int.reduceNe, Int.reduceLT, Int.reduceLE, Int.reduceAdd, Int.reduceSub, Int.reduceMul, Int.reduceNeg, Int.reduceToNat, Int.cast_ofNat_Int, Int.natCast_zero, Int.natCast_one, Int.toNat_natCast, Nat.reduceBEq, sp1, sp2, sp3, nzs]
      refine CallK.pure ⟨rfl, rfl⟩ rfl (eqQ va v10 (l ++ [t]) (l ++ [t]) N9 (hvn5.le hN9) (by simpa using hv10)) ?_
      simp only [shs, zts, sos, sls, zss, eqs, sx, sb1, sb2, sb3, sb4, sb5, sb6, ↓reduceIte, Nat.reduceAdd, Nat.reduceMul, Nat.reduceDiv, Nat.reduceEqDiff, Nat.reduceLT, Nat.reduceLeDiff, reduceCtorEq, Int.reduceEq, Int.reduceNe, Int.reduceLT, Int.reduceLE, Int.reduceAdd, Int.reduceSub, Int.reduceMul, Int.reduceNeg, Int.reduceToNat, Int.cast_ofNat_Int, Int.natCast_zero, Int.natCast_one, Int.toNat_natCast, Nat.reduceBEq, nzs, decide_true]
  rw [Nat.zero_add] at hf
  rw [hf] at hE hL ⊢
  have hjl : j < l.length := (List.getElem?_eq_some_iff.1 hx).1
  have c0 : ((j : Int) < 0) = False := eq_false (by omega)
  simp only [Int.toNat_natCast, hx, c0, if_false] at hE hL
  simp only [shs, zts, sos, sls, zss, eqs, sx, sb1, sb2, sb3, sb4, sb5, sb6, ↓reduceIte, Nat.reduceAdd, Nat.reduceMul, Nat.reduceDiv, Nat.reduceEqDiff, Nat.reduceLT, Nat.reduceLeDiff, reduceCtorEq, Int.reduceEq, Int.reduceNe, Int.reduceLT, Int.reduceLE, Int.reduceAdd, Int.reduceSub, Int.reduceMul, Int.reduceNeg, Int.reduceToNat, Int.cast_ofNat_Int, Int.natCast_zero, Int.natCast_one, Int.toNat_natCast, Nat.reduceBEq, nzs, htt, c0]
  refine CallK.pure ⟨rfl, rfl⟩ rfl (free y l j a k M5 hy5 hx hk) ?_
  cases hfr : freeB l j k with
  | false =>
    simp only [hfr, Int.toNat_natCast, if_true] at hE
    rw [hL, hE, if_pos (by decide)] at hvb5
    simp only [shs, zts, sos, sls, zss, eqs, sx, sb1, sb2, sb3, sb4, sb5, sb6, ↓reduceIte, Nat.reduceAdd, Nat.reduceMul, Nat.reduceDiv, Nat.reduceEqDiff, Nat.reduceLT, Nat.reduceLeDiff, reduceCtorEq, Int.reduceEq, Int.reduceNe, Int.reduceLT, Int.reduceLE, Int.reduceAdd, Int.reduceSub, Int.reduceMul, Int.reduceNeg, Int.reduceToNat, Int.cast_ofNat_Int, Int.natCast_zero, Int.natCast_one, Int.toNat_natCast, Nat.reduceBEq, nzs, hE, hvb5.len, hvb5.sl, List.map_nil, List.length_nil]
    -- what Add says
    refine CallK.pure ⟨rfl, rfl⟩ rfl (task t M5) ?_
    cases ho : oneB t with
    | false =>
      have f1 : addE l t = 1 := by rw [addE, if_neg (by simp [he]), if_pos ho]
      have f2 : addL l t = [] := by rw [addL, if_pos (by rw [f1]; decide)]
      rw [f2] at hva5
      simp only [shs, zts, sos, sls, zss, eqs, sx, sb1, sb2, sb3, sb4, sb5, sb6, ↓reduceIte, Nat.reduceAdd, Nat.reduceMul, Nat.reduceDiv, Nat.reduceEqDiff, Nat.reduceLT, Nat.reduceLeDiff, reduceCtorEq, Int.reduceEq, Int.reduceNe, Int.reduceLT, Int.reduceLE, Int.reduceAdd, Int.reduceSub, Int.reduceMul, Int.reduceNeg, Int.reduceToNat, Int.cast_ofNat_Int, Int.natCast_zero, Int.natCast_one, Int.toNat_natCast, Nat.reduceBEq, nzs, f1, hva5.len, hva5.sl, List.map_nil, List.length_nil]
    | true =>
    simp only [shs, zts, sos, sls, zss, eqs, sx, sb1, sb2, sb3, sb4, sb5, sb6, ↓reduceIte, Nat.reduceAdd, Nat.reduceMul, Nat.reduceDiv, Nat.reduceEqDiff, Nat.reduceLT, Nat.reduceLeDiff, reduceCtorEq, Int.reduceEq, Int.reduceNe, Int.reduceLT, Int.reduceLE, Int.reduceAdd, Int.reduceSub, Int.reduceMul, Int.reduceNeg, Int.reduceToNat, Int.cast_ofNat_Int, Int.natCast_zero, Int.natCast_one, Int.toNat_natCast, Nat.reduceBEq, nzs]
    refine stepK.mkFn rfl rfl ?_
    simp only [shs, zts, sos, sls, zss, eqs, sx, sb1, sb2, sb3, sb4, sb5, sb6, ↓reduceIte, Nat.reduceAdd, Nat.reduceMul, Nat.reduceDiv, Nat.reduceEqDiff, Nat.reduceLT, Nat.reduceLeDiff, reduceCtorEq, Int.reduceEq, Int.reduceNe, Int.reduceLT, Int.reduceLE, Int.reduceAdd, Int.reduceSub, Int.reduceMul, Int.reduceNeg, Int.reduceToNat, Int.cast_ofNat_Int, Int.natCast_zero, Int.natCast_one, Int.toNat_natCast, Nat.reduceBEq, nzs]
    refine CallK.pubB (k := 32) rfl rfl fun bb N2 hN2 hb => ?_
    have hyn := hy5.le hN2
    have hvn := hva5.le hN2
    have b0 := hb.at (j := 0) rfl
    have b1 := hb.at (j := 1) rfl
    have b1' := hb.at' (j := 1) rfl
    simp only [SV.val] at b0 b1 b1'
    simp only [shA1, shA2, shs, zts, sos, sls, zss, eqs, sx, sb1, sb2, sb3, sb4, sb5, sb6, ↓reduceIte, Nat.reduceAdd, Nat.reduceMul, Nat.reduceDiv, Nat.reduceEqDiff, Nat.reduceLT, Nat.reduceLeDiff, reduceCtorEq, Int.reduceEq, Int.reduceNe, Int.reduceLT, Int.reduceLE, Int.reduceAdd, Int.reduceSub, Int.reduceMul, Int.reduceNeg, Int.reduceToNat, Int.cast_ofNat_Int, Int.natCast_zero, Int.natCast_one, Int.toNat_natCast, Nat.reduceBEq]
    refine CallK.pure ⟨rfl, rfl⟩ rfl (ctsQ (α := Int × Int) (fun x => .int .i64 x.1) (fun x => .int .i64 x.2) (fun u => decide (u.1 = t.1)) _ _ rfl y l N2 hyn (fun x _ => lawC bb t x N2 hb)) ?_
    cases ha : l.any fun u => decide (u.1 = t.1) with
    | true =>
      have f1 : addE l t = 5 := by rw [addE, if_neg (by simp [he]), if_neg (by simp [ho]), if_pos ha]
      have f2 : addL l t = [] := by rw [addL, if_pos (by rw [f1]; decide)]
      rw [f2] at hvn
      simp only [shs, zts, sos, sls, zss, eqs, sx, sb1, sb2, sb3, sb4, sb5, sb6, ↓reduceIte, Nat.reduceAdd, Nat.reduceMul, Nat.reduceDiv, Nat.reduceEqDiff, Nat.reduceLT, Nat.reduceLeDiff, reduceCtorEq, Int.reduceEq, Int.reduceNe, Int.reduceLT, Int.reduceLE, Int.reduceAdd, Int.reduceSub, Int.reduceMul, Int.reduceNeg, Int.reduceToNat, Int.cast_ofNat_Int, Int.natCast_zero, Int.natCast_one, Int.toNat_natCast, Nat.reduceBEq, nzs, f1, hvn.len, hvn.sl, List.map_nil, List.length_nil]
    | false =>
    by_cases h20' : l.length = 20
    · have f1 : addE l t = 8 := by rw [addE, if_neg (by simp [he]), if_neg (by simp [ho]), if_neg (by simp only [ha]; decide), if_pos h20']
      have f2 : addL l t = [] := by rw [addL, if_pos (by rw [f1]; decide)]
      rw [f2] at hvn
      have c2 : (20 ≤ (l.length : Int)) = True := eq_true (by omega)
      simp only [shs, zts, sos, sls, zss, eqs, sx, sb1, sb2, sb3, sb4, sb5, sb6, ↓reduceIte, Nat.reduceAdd, Nat.reduceMul, Nat.reduceDiv, Nat.reduceEqDiff, Nat.reduceLT, Nat.reduceLeDiff, reduceCtorEq, Int.reduceEq, Int.reduceNe, Int.reduceLT, Int.reduceLE, Int.reduceAdd, Int.reduceSub, Int.reduceMul, Int.reduceNeg, Int.reduceToNat, Int.cast_ofNat_Int, Int.natCast_zero, Int.natCast_one, Int.toNat_natCast, Nat.reduceBEq, nzs, f1, c2, hyn.len, hyn.sl, hvn.len, hvn.sl, List.length_map, List.map_nil, List.length_nil]
    have c2 : (20 ≤ (l.length : Int)) = False := eq_false (by omega)
    have f1 : addE l t = 0 := by rw [addE, if_neg (by simp [he]), if_neg (by simp [ho]), if_neg (by simp only [ha]; decide), if_neg h20']
    have f2 : addL l t = if t.2 = 2 then t :: l else l ++ [t] := by rw [addL, if_neg (by rw [f1]; decide)]
    rw [f2] at hvn
    simp only [shs, zts, sos, sls, zss, eqs, sx, sb1, sb2, sb3, sb4, sb5, sb6, ↓reduceIte, Nat.reduceAdd, Nat.reduceMul, Nat.reduceDiv, Nat.reduceEqDiff, Nat.reduceLT, Nat.reduceLeDiff, reduceCtorEq, Int.reduceEq, Int.reduceNe, Int.reduceLT, Int.reduceLE, Int.reduceAdd, Int.reduceSub, Int.reduceMul, Int.reduceNeg, Int.reduceToNat, Int.cast_ofNat_Int, Int.natCast_zero, Int.natCast_one, Int.toNat_natCast, Nat.reduceBEq, nzs, f1, c2, hyn.len, hyn.sl, List.length_map, b0.1, b0.2, b1.1, b1.2, b1'.1, b1'.2]
    refine OpK.pub (k := 1448) rfl fun v6 N3 hN3 hv6 => OpK.step ?_
    simp only [shs, zts, sos, sls, zss, eqs, sx, sb1, sb2, sb3, sb4, sb5, sb6, ↓reduceIte, Nat.reduceAdd, Nat.reduceMul, Nat.reduceDiv, Nat.reduceEqDiff, Nat.reduceLT, Nat.reduceLeDiff, reduceCtorEq, Int.reduceEq, Int.reduceNe, Int.reduceLT, Int.reduceLE, Int.reduceAdd, Int.reduceSub, Int.reduceMul, Int.reduceNeg, Int.reduceToNat, Int.cast_ofNat_Int, Int.natCast_zero, Int.natCast_one, Int.toNat_natCast, Nat.reduceBEq, sp1, sp2, sp3, nzs]
    refine ⟨⟨hyn.one, hv6.one⟩, CallK.pub (k := 1456) rfl fun v7 N4 hN4 hv7 => ?_⟩
    simp only [shs, zts, sos, sls, zss, eqs, sx, sb1, sb2, sb3, sb4, sb5, sb6, ↓reduceIte, Nat.reduceAdd, Nat.reduceMul, Nat.reduceDiv, Nat.reduceEqDiff, Nat.reduceLT, Nat.reduceLeDiff, reduceCtorEq, Int.reduceEq, Int.reduceNe, Int.reduceLT, Int.reduceLE, Int.reduceAdd, Int.reduceSub, Int.reduceMul, Int.reduceNeg, Int.reduceToNat, Int.cast_ofNat_Int, Int.natCast_zero, Int.natCast_one, Int.toNat_natCast, Nat.reduceBEq, sp1, sp2, sp3, nzs]
    refine CallK.own Ctx.id rfl rfl (concatT encQ v7 [(y, l), (v6, [t])] N4 hv7 (fun r hr => ?_) (by simp; omega)) rfl fun N5 hN5 => ?_
    · simp only [List.mem_cons, List.not_mem_nil, or_false] at hr
      rcases hr with rfl | rfl
      · exact (hyn.le hN3).le hN4
      · exact hv6.le hN4
    have q0 := elP_le (((hN3.trans hN4).trans hN5)) b0.2
    have q1 := elP_le (((hN3.trans hN4).trans hN5)) b1.2
    have q1' := elP_le (((hN3.trans hN4).trans hN5)) b1'.2
    rw [b0.1] at q0
    rw [b1.1] at q1
    rw [b1'.1] at q1'
    have hyn5 := ((hyn.le hN3).le hN4).le hN5
    have hvn5 := ((hvn.le hN3).le hN4).le hN5
    by_cases hk2 : t.2 = 2
    · have c3 : (t.2 = 2) = True := eq_true hk2
      rw [if_pos hk2] at hvn5
      simp only [shs, zts, sos, sls, zss, eqs, sx, sb1, sb2, sb3, sb4, sb5, sb6, ↓reduceIte, Nat.reduceAdd, Nat.reduceMul, Nat.reduceDiv, Nat.reduceEqDiff, Nat.reduceLT, Nat.reduceLeDiff, reduceCtorEq, Int.reduceEq, Int.reduceNe, Int.reduceLT, Int.reduceLE, Int.reduceAdd, Int.reduceSub, Int.reduceMul, Int.reduceNeg, Int.reduceToNat, Int.cast_ofNat_Int, Int.natCast_zero, Int.natCast_one, Int.toNat_natCast, Nat.reduceBEq, nzs, c3, q0.1, q0.2, q1.1, q1.2, q1'.1, q1'.2]
      refine OpK.pub (k := 1504) rfl fun v8 N6 hN6 hv8 => OpK.step ?_
      simp only [shs, zts, sos, sls, zss, eqs, sx, sb1, sb2, sb3, sb4, sb5, sb6, ↓reduceIte, Nat.reduceAdd, Nat.reduceMul, Nat.reduceDiv, Nat.reduceEqDiff, Nat.reduceLT, Nat.reduceLeDiff, reduceCtorEq, Int.reduceEq, Int.reduceNe, Int.reduceLT, Int.reduceLE, Int.reduceAdd, Int.reduceSub, Int.reduceMul, Int.reduceNeg, Int.reduceToNat, Int.cast_ofNat_Int, Int.natCast_zero, Int.natCast_one, Int.toNat_natCast, Nat.reduceBEq, sp1, sp2, sp3, nzs]
      refine ⟨⟨hv8.one, hyn.one⟩, CallK.pub (k := 1520) rfl fun v9 N7 hN7 hv9 => ?_⟩
      simp only [shs, zts, sos, sls, zss, eqs, sx, sb1, sb2, sb3, sb4, sb5, sb6, ↓reduceIte, Nat.reduceAdd, Nat.reduceMul, Nat.reduceDiv, Nat.reduceEqDiff, Nat.reduceLT, Nat.reduceLeDiff, reduceCtorEq, Int.reduceEq, Int.reduceNe, Int.reduceLT, Int.reduceLE, Int.reduceAdd, Int.reduceSub, Int.reduceMul, Int.reduceNeg, Int.reduceToNat, Int.cast_ofNat_Int, Int.natCast_zero, Int.natCast_one, Int.toNat_natCast, Nat.reduceBEq, sp1, sp2, sp3, nzs]
      refine CallK.own Ctx.id rfl rfl (concatT encQ v9 [(v8, [t]), (y, l)] N7 hv9 (fun r hr => ?_) (by simp; omega)) rfl fun N8 hN8 => ?_
      · simp only [List.mem_cons, List.not_mem_nil, or_false] at hr
        rcases hr with rfl | rfl
        · exact hv8.le hN7
        · exact (hyn5.le hN6).le hN7
      simp only [shs, zts, sos, sls, zss, eqs, sx, sb1, sb2, sb3, sb4, sb5, sb6, ↓reduceIte, Nat.reduceAdd, Nat.reduceMul, Nat.reduceDiv, Nat.reduceEqDiff, Nat.reduceLT, Nat.reduceLeDiff, reduceCtorEq, Int.reduceEq, Int.reduceNe, Int.reduceLT, Int.reduceLE, Int.reduceAdd, Int.reduceSub, Int.reduceMul, Int.reduceNeg, Int.reduceToNat, Int.cast_ofNat_Int, Int.natCast_zero, Int.natCast_one, Int.toNat_natCast, Nat.reduceBEq, nzs]
      refine CallK.pub (k := 1528) rfl fun v10 N9 hN9 hv10 => ?_
      simp only [shs, zts, sos, sls, zss, eqs, sx, sb1, sb2, sb3, sb4, sb5, sb6, ↓reduceIte, Nat.reduceAdd, Nat.reduceMul, Nat.reduceDiv, Nat.reduceEqDiff, Nat.reduceLT, Nat.reduceLeDiff, reduceCtorEq, Int.reduceEq, Int.reduceNe, Int.reduceLT, Int.reduceLE, Int.reduceAdd, Int.reduceSub, Int.reduceMul, Int.reduceNeg, Int.reduceToNat, Int.cast_ofNat_Int, Int.natCast_zero, Int.natCast_one, Int.toNat_natCast, Nat.reduceBEq, sp1, sp2, sp3, nzs]
      refine CallK.pure ⟨rfl, rfl⟩ rfl (eqQ va v10 (t :: l) (t :: l) N9 ((((hvn5.le hN6).le hN7).le hN8).le hN9) (by simpa using hv10)) ?_
      simp only [shs, zts, sos, sls, zss, eqs, sx, sb1, sb2, sb3, sb4, sb5, sb6, ↓reduceIte, Nat.reduceAdd, Nat.reduceMul, Nat.reduceDiv, Nat.reduceEqDiff, Nat.reduceLT, Nat.reduceLeDiff, reduceCtorEq, Int.reduceEq, Int.reduceNe, Int.reduceLT, Int.reduceLE, Int.reduceAdd, Int.reduceSub, Int.reduceMul, Int.reduceNeg, Int.reduceToNat, Int.cast_ofNat_Int, Int.natCast_zero, Int.natCast_one, Int.toNat_natCast, Nat.reduceBEq, nzs, decide_true]
    · have c3 : (t.2 = 2) = False := eq_false hk2
      rw [if_neg hk2] at hvn5
      simp only [shs, zts, sos, sls, zss, eqs, sx, sb1, sb2, sb3, sb4, sb5, sb6, ↓reduceIte, Nat.reduceAdd, Nat.reduceMul, Nat.reduceDiv, Nat.reduceEqDiff, Nat.reduceLT, Nat.reduceLeDiff, reduceCtorEq, Int.reduceEq, Int.reduceNe, Int.reduceLT, Int.reduceLE, Int.reduceAdd, Int.reduceSub, Int.reduceMul, Int.reduceNeg, Int.reduceToNat, Int.cast_ofNat_Int, Int.natCast_zero, Int.natCast_one, Int.toNat_natCast, Nat.reduceBEq, nzs, c3, q0.1, q0.2, q1.1, q1.2, q1'.1, q1'.2]
      refine CallK.pub (k := 1464) rfl fun v10 N9 hN9 hv10 => ?_
      simp only [shs, zts, sos, sls, zss, eqs, sx, sb1, sb2, sb3, sb4, sb5, sb6, ↓reduceIte, Nat.reduceAdd, Nat.reduceMul, Nat.reduceDiv, Nat.reduceEqDiff, Nat.reduceLT, Nat.reduceLeDiff, reduceCtorEq, Int.reduceEq, Int.reduceNe, Int.reduceLT, Int.reduceLE, Int.reduceAdd, Int.reduceSub, Int.reduceMul, Int.reduceNeg, Int.reduceToNat, Int.cast_ofNat_Int, Int.natCast_zero, Int.natCast_one, Int.toNat_natCast, Nat.reduceBEq, sp1, sp2, sp3, nzs]
      refine CallK.pure ⟨rfl, rfl⟩ rfl (eqQ va v10 (l ++ [t]) (l ++ [t]) N9 (hvn5.le hN9) (by simpa using hv10)) ?_
      simp only [shs, zts, sos, sls, zss, eqs, sx, sb1, sb2, sb3, sb4, sb5, sb6, ↓reduceIte, Nat.reduceAdd, Nat.reduceMul, Nat.reduceDiv, Nat.reduceEqDiff, Nat.reduceLT, Nat.reduceLeDiff, reduceCtorEq, Int.reduceEq, Int.reduceNe, Int.reduceLT, Int.reduceLE, Int.reduceAdd, Int.reduceSub, Int.reduceMul, Int.reduceNeg, Int.reduceToNat, Int.cast_ofNat_Int, Int.natCast_zero, Int.natCast_one, Int.toNat_natCast, Nat.reduceBEq, nzs, decide_true]
  | true =>
    simp only [hfr, Int.toNat_natCast, Bool.true_eq_false, if_false] at hE
    rw [hL, hE, if_neg (by decide)] at hvb5
    simp only [shs, zts, sos, sls, zss, eqs, sx, sb1, sb2, sb3, sb4, sb5, sb6, ↓reduceIte, Nat.reduceAdd, Nat.reduceMul, Nat.reduceDiv, Nat.reduceEqDiff, Nat.reduceLT, Nat.reduceLeDiff, reduceCtorEq, Int.reduceEq, Int.reduceNe, Int.reduceLT, Int.reduceLE, Int.reduceAdd, Int.reduceSub, Int.reduceMul, Int.reduceNeg, Int.reduceToNat, Int.cast_ofNat_Int, Int.natCast_zero, Int.natCast_one, Int.toNat_natCast, Nat.reduceBEq, nzs, hE]
    refine DrawK.plan (tk [0, 1, 2, 3, 4, 5, 6, 7, 8, 9, 10] (ones' [11, 12, 13] (tk [14, 15] (ones' [16] .done)))) (by kernel_rfl) (by kernel_rfl) ?_
    have hcap := hy5.1.2.2.1
    rw [hy5.len, List.length_map] at hcap
    have s1 := hy5.sub (lo := 0) (hi := j) (by omega) (by rw [List.length_map]; omega)
    have s2 := hy5.sub (lo := j + 1) (hi := l.length) (by omega) (by rw [List.length_map]; omega)
    rw [List.drop_zero, Nat.sub_zero, ← List.map_take] at s1
    rw [← List.map_drop, ← List.map_take, List.take_of_length_le (by rw [List.length_drop]; omega)] at s2
    simp only [shs, zts, sos, sls, zss, eqs, sx, sb1, sb2, sb3, sb4, sb5, sb6, ↓reduceIte, Nat.reduceAdd, Nat.reduceMul, Nat.reduceDiv, Nat.reduceEqDiff, Nat.reduceLT, Nat.reduceLeDiff, reduceCtorEq, Int.reduceEq, Int.reduceNe, Int.reduceLT, Int.reduceLE, Int.reduceAdd, Int.reduceSub, Int.reduceMul, Int.reduceNeg, Int.reduceToNat, Int.cast_ofNat_Int, Int.natCast_zero, Int.natCast_one, Int.toNat_natCast, Nat.reduceBEq, nzs, se1, se2, tks, hy5.len, hy5.sl, List.length_map, inK, lo, hi]
    have ej : ((j : Int) + 1).toNat = j + 1 := by omega
    rw [ej]
    refine ⟨⟨by omega, by omega⟩, by omega, ⟨⟨by omega, by omega⟩, by omega⟩, ⟨s1.one, s2.one⟩, CallK.pub (k := 1128) rfl fun v6 M6 h6 hv6 => ?_⟩
    simp only [shs, zts, sos, sls, zss, eqs, sx, sb1, sb2, sb3, sb4, sb5, sb6, ↓reduceIte, Nat.reduceAdd, Nat.reduceMul, Nat.reduceDiv, Nat.reduceEqDiff, Nat.reduceLT, Nat.reduceLeDiff, reduceCtorEq, Int.reduceEq, Int.reduceNe, Int.reduceLT, Int.reduceLE, Int.reduceAdd, Int.reduceSub, Int.reduceMul, Int.reduceNeg, Int.reduceToNat, Int.cast_ofNat_Int, Int.natCast_zero, Int.natCast_one, Int.toNat_natCast, Nat.reduceBEq, sp1, sp2, sp3, nzs]
    refine CallK.own Ctx.id rfl rfl (concatT encQ v6 [(subV y 2 0 j, l.take j), (subV y 2 (j + 1) l.length, l.drop (j + 1))] M6 hv6 (fun r hr => ?_) (by simp; omega)) rfl fun M7 h7 => ?_
    · simp only [List.mem_cons, List.not_mem_nil, or_false] at hr
      rcases hr with rfl | rfl
      · exact s1.le h6
      · exact s2.le h6
    have h57 : M5.le M7 := h6.trans h7
    simp only [shs, zts, sos, sls, zss, eqs, sx, sb1, sb2, sb3, sb4, sb5, sb6, ↓reduceIte, Nat.reduceAdd, Nat.reduceMul, Nat.reduceDiv, Nat.reduceEqDiff, Nat.reduceLT, Nat.reduceLeDiff, reduceCtorEq, Int.reduceEq, Int.reduceNe, Int.reduceLT, Int.reduceLE, Int.reduceAdd, Int.reduceSub, Int.reduceMul, Int.reduceNeg, Int.reduceToNat, Int.cast_ofNat_Int, Int.natCast_zero, Int.natCast_one, Int.toNat_natCast, Nat.reduceBEq, nzs, se1, se2, tks, h57]
    refine CallK.pub (k := 1136) rfl fun v8 M9 h8 hv8 => ?_
    have h59 : M5.le M9 := h57.trans h8
    simp only [shs, zts, sos, sls, zss, eqs, sx, sb1, sb2, sb3, sb4, sb5, sb6, ↓reduceIte, Nat.reduceAdd, Nat.reduceMul, Nat.reduceDiv, Nat.reduceEqDiff, Nat.reduceLT, Nat.reduceLeDiff, reduceCtorEq, Int.reduceEq, Int.reduceNe, Int.reduceLT, Int.reduceLE, Int.reduceAdd, Int.reduceSub, Int.reduceMul, Int.reduceNeg, Int.reduceToNat, Int.cast_ofNat_Int, Int.natCast_zero, Int.natCast_one, Int.toNat_natCast, Nat.reduceBEq, sp1, sp2, sp3, nzs]
    refine CallK.pure ⟨rfl, rfl⟩ rfl (eqQ vb v8 (l.take j ++ l.drop (j + 1)) (l.take j ++ l.drop (j + 1)) M9 (hvb5.le h59) (by simpa using hv8)) ?_
    have hy9 := hy5.le h59
    have hva9 := hva5.le h59
    simp only [shs, zts, sos, sls, zss, eqs, sx, sb1, sb2, sb3, sb4, sb5, sb6, ↓reduceIte, Nat.reduceAdd, Nat.reduceMul, Nat.reduceDiv, Nat.reduceEqDiff, Nat.reduceLT, Nat.reduceLeDiff, reduceCtorEq, Int.reduceEq, Int.reduceNe, Int.reduceLT, Int.reduceLE, Int.reduceAdd, Int.reduceSub, Int.reduceMul, Int.reduceNeg, Int.reduceToNat, Int.cast_ofNat_Int, Int.natCast_zero, Int.natCast_one, Int.toNat_natCast, Nat.reduceBEq, nzs, se1, se2, tks, h59, decide_true]
    -- what Add says
    refine CallK.pure ⟨rfl, rfl⟩ rfl (task t M9) ?_
    cases ho : oneB t with
    | false =>
      have f1 : addE l t = 1 := by rw [addE, if_neg (by simp [he]), if_pos ho]
      have f2 : addL l t = [] := by rw [addL, if_pos (by rw [f1]; decide)]
      rw [f2] at hva9
      simp only [shs, zts, sos, sls, zss, eqs, sx, sb1, sb2, sb3, sb4, sb5, sb6, ↓reduceIte, Nat.reduceAdd, Nat.reduceMul, Nat.reduceDiv, Nat.reduceEqDiff, Nat.reduceLT, Nat.reduceLeDiff, reduceCtorEq, Int.reduceEq, Int.reduceNe, Int.reduceLT, Int.reduceLE, Int.reduceAdd, Int.reduceSub, Int.reduceMul, Int.reduceNeg, Int.reduceToNat, Int.cast_ofNat_Int, Int.natCast_zero, Int.natCast_one, Int.toNat_natCast, Nat.reduceBEq, nzs, f1, hva9.len, hva9.sl, List.map_nil, List.length_nil]
    | true =>
    simp only [shs, zts, sos, sls, zss, eqs, sx, sb1, sb2, sb3, sb4, sb5, sb6, ↓reduceIte, Nat.reduceAdd, Nat.reduceMul, Nat.reduceDiv, Nat.reduceEqDiff, Nat.reduceLT, Nat.reduceLeDiff, reduceCtorEq, Int.reduceEq, Int.reduceNe, Int.reduceLT, Int.reduceLE, Int.reduceAdd, Int.reduceSub, Int.reduceMul, Int.reduceNeg, Int.reduceToNat, Int.cast_ofNat_Int, Int.natCast_zero, Int.natCast_one, Int.toNat_natCast, Nat.reduceBEq, nzs]
    refine stepK.mkFn rfl rfl ?_
    simp only [shs, zts, sos, sls, zss, eqs, sx, sb1, sb2, sb3, sb4, sb5, sb6, ↓reduceIte, Nat.reduceAdd, Nat.reduceMul, Nat.reduceDiv, Nat.reduceEqDiff, Nat.reduceLT, Nat.reduceLeDiff, reduceCtorEq, Int.reduceEq, Int.reduceNe, Int.reduceLT, Int.reduceLE, Int.reduceAdd, Int.reduceSub, Int.reduceMul, Int.reduceNeg, Int.reduceToNat, Int.cast_ofNat_Int, Int.natCast_zero, Int.natCast_one, Int.toNat_natCast, Nat.reduceBEq, nzs]
    refine CallK.pubB (k := 32) rfl rfl fun bb N2 hN2 hb => ?_
    have hyn := hy9.le hN2
    have hvn := hva9.le hN2
    have b0 := hb.at (j := 0) rfl
    have b1 := hb.at (j := 1) rfl
    have b1' := hb.at' (j := 1) rfl
    simp only [SV.val] at b0 b1 b1'
    simp only [shA1, shA2, shs, zts, sos, sls, zss, eqs, sx, sb1, sb2, sb3, sb4, sb5, sb6, ↓reduceIte, Nat.reduceAdd, Nat.reduceMul, Nat.reduceDiv, Nat.reduceEqDiff, Nat.reduceLT, Nat.reduceLeDiff, reduceCtorEq, Int.reduceEq, Int.reduceNe, Int.reduceLT, Int.reduceLE, Int.reduceAdd, Int.reduceSub, Int.reduceMul, Int.reduceNeg, Int.reduceToNat, Int.cast_ofNat_Int, Int.natCast_zero, Int.natCast_one, Int.toNat_natCast, Nat.reduceBEq]
    refine CallK.pure ⟨rfl, rfl⟩ rfl (ctsQ (α := Int × Int) (fun x => .int .i64 x.1) (fun x => .int .i64 x.2) (fun u => decide (u.1 = t.1)) _ _ rfl y l N2 hyn (fun x _ => lawC bb t x N2 hb)) ?_
    cases ha : l.any fun u => decide (u.1 = t.1) with
    | true =>
      have f1 : addE l t = 5 := by rw [addE, if_neg (by simp [he]), if_neg (by simp [ho]), if_pos ha]
      have f2 : addL l t = [] := by rw [addL, if_pos (by rw [f1]; decide)]
      rw [f2] at hvn
      simp only [shs, zts, sos, sls, zss, eqs, sx, sb1, sb2, sb3, sb4, sb5, sb6, ↓reduceIte, Nat.reduceAdd, Nat.reduceMul, Nat.reduceDiv, Nat.reduceEqDiff, Nat.reduceLT, Nat.reduceLeDiff, reduceCtorEq, Int.reduceEq, Int.reduceNe, Int.reduceLT, Int.reduceLE, Int.reduceAdd, Int.reduceSub, Int.reduceMul, Int.reduceNeg, Int.reduceToNat, Int.cast_ofNat_Int, Int.natCast_zero, Int.natCast_one, Int.toNat_natCast, Nat.reduceBEq, nzs, f1, hvn.len, hvn.sl, List.map_nil, List.length_nil]
    | false =>
    by_cases h20' : l.length = 20
    · have f1 : addE l t = 8 := by rw [addE, if_neg (by simp [he]), if_neg (by simp [ho]), if_neg (by simp only [ha]; decide), if_pos h20']
      have f2 : addL l t = [] := by rw [addL, if_pos (by rw [f1]; decide)]
      rw [f2] at hvn
      have c2 : (20 ≤ (l.length : Int)) = True := eq_true (by omega)
      simp only [shs, zts, sos, sls, zss, eqs, sx, sb1, sb2, sb3, sb4, sb5, sb6, ↓reduceIte, Nat.reduceAdd, Nat.reduceMul, Nat.reduceDiv, Nat.reduceEqDiff, Nat.reduceLT, Nat.reduceLeDiff, reduceCtorEq, Int.reduceEq, Int.reduceNe, Int.reduceLT, Int.reduceLE, Int.reduceAdd, Int.reduceSub, Int.reduceMul, Int.reduceNeg, Int.reduceToNat, Int.cast_ofNat_Int, Int.natCast_zero, Int.natCast_one, Int.toNat_natCast, Nat.reduceBEq, nzs, f1, c2, hyn.len, hyn.sl, hvn.len, hvn.sl, List.length_map, List.map_nil, List.length_nil]
    have c2 : (20 ≤ (l.length : Int)) = False := eq_false (by omega)
    have f1 : addE l t = 0 := by rw [addE, if_neg (by simp [he]), if_neg (by simp [ho]), if_neg (by simp only [ha]; decide), if_neg h20']
    have f2 : addL l t = if t.2 = 2 then t :: l else l ++ [t] := by rw [addL, if_neg (by rw [f1]; decide)]
    rw [f2] at hvn
    simp only [shs, zts, sos, sls, zss, eqs, sx, sb1, sb2, sb3, sb4, sb5, sb6, ↓reduceIte, Nat.reduceAdd, Nat.reduceMul, Nat.reduceDiv, Nat.reduceEqDiff, Nat.reduceLT, Nat.reduceLeDiff, reduceCtorEq, Int.reduceEq, Int.reduceNe, Int.reduceLT, Int.reduceLE, Int.reduceAdd, Int.reduceSub, Int.reduceMul, Int.reduceNeg, Int.reduceToNat, Int.cast_ofNat_Int, Int.natCast_zero, Int.natCast_one, Int.toNat_natCast, Nat.reduceBEq, nzs, f1, c2, hyn.len, hyn.sl, List.length_map, b0.1, b0.2, b1.1, b1.2, b1'.1, b1'.2]
    refine OpK.pub (k := 1448) rfl fun v6 N3 hN3 hv6 => OpK.step ?_
    simp only [shs, zts, sos, sls, zss, eqs, sx, sb1, sb2, sb3, sb4, sb5, sb6, ↓reduceIte, Nat.reduceAdd, Nat.reduceMul, Nat.reduceDiv, Nat.reduceEqDiff, Nat.reduceLT, Nat.reduceLeDiff, reduceCtorEq, Int.reduceEq, Int.reduceNe, Int.reduceLT, Int.reduceLE, Int.reduceAdd, Int.reduceSub, Int.reduceMul, Int.reduceNeg, Int.reduceToNat, Int.cast_ofNat_Int, Int.natCast_zero, Int.natCast_one, Int.toNat_natCast, Nat.reduceBEq, sp1, sp2, sp3, nzs]
    refine ⟨⟨hyn.one, hv6.one⟩, CallK.pub (k := 1456) rfl fun v7 N4 hN4 hv7 => ?_⟩
    simp only [shs, zts, sos, sls, zss, eqs, sx, sb1, sb2, sb3, sb4, sb5, sb6, ↓reduceIte, Nat.reduceAdd, Nat.reduceMul, Nat.reduceDiv, Nat.reduceEqDiff, Nat.reduceLT, Nat.reduceLeDiff, reduceCtorEq, Int.reduceEq, Int.reduceNe, Int.reduceLT, Int.reduceLE, Int.reduceAdd, Int.reduceSub, Int.reduceMul, Int.reduceNeg, Int.reduceToNat, Int.cast_ofNat_Int, Int.natCast_zero, Int.natCast_one, Int.toNat_natCast, Nat.reduceBEq, sp1, sp2, sp3, nzs]
    refine CallK.own Ctx.id rfl rfl (concatT encQ v7 [(y, l), (v6, [t])] N4 hv7 (fun r hr => ?_) (by simp; omega)) rfl fun N5 hN5 => ?_
    · simp only [List.mem_cons, List.not_mem_nil, or_false] at hr
      rcases hr with rfl | rfl
      · exact (hyn.le hN3).le hN4
      · exact hv6.le hN4
    have q0 := elP_le (((hN3.trans hN4).trans hN5)) b0.2
    have q1 := elP_le (((hN3.trans hN4).trans hN5)) b1.2
    have q1' := elP_le (((hN3.trans hN4).trans hN5)) b1'.2
    rw [b0.1] at q0
    rw [b1.1] at q1
    rw [b1'.1] at q1'
    have hyn5 := ((hyn.le hN3).le hN4).le hN5
    have hvn5 := ((hvn.le hN3).le hN4).le hN5
    by_cases hk2 : t.2 = 2
    · have c3 : (t.2 = 2) = True := eq_true hk2
      rw [if_pos hk2] at hvn5
      simp only [shs, zts, sos, sls, zss, eqs, sx, sb1, sb2, sb3, sb4, sb5, sb6, ↓reduceIte, Nat.reduceAdd, Nat.reduceMul, Nat.reduceDiv, Nat.reduceEqDiff, Nat.reduceLT, Nat.reduceLeDiff, reduceCtorEq, Int.reduceEq, Int.reduceNe, Int.reduceLT, Int.reduceLE, Int.reduceAdd, Int.reduceSub, Int.reduceMul, Int.reduceNeg, Int.reduceToNat, Int.cast_ofNat_Int, Int.natCast_zero, Int.natCast_one, Int.toNat_natCast, Nat.reduceBEq, nzs, c3, q0.1, q0.2, q1.1, q1.2, q1'.1, q1'.2]
      refine OpK.pub (k := 1504) rfl fun v8 N6 hN6 hv8 => OpK.step ?_
      simp only [shs, zts, sos, sls, zss, eqs, sx, sb1, sb2, sb3, sb4, sb5, sb6, ↓reduceIte, Nat.reduceAdd, Nat.reduceMul, Nat.reduceDiv, Nat.reduceEqDiff, Nat.reduceLT, Nat.reduceLeDiff, reduceCtorEq, Int.reduceEq, Int.reduceNe, Int.reduceLT, Int.reduceLE, Int.reduceAdd, Int.reduceSub, Int.reduceMul, Int.reduceNeg, Int.reduceToNat, Int.cast_ofNat_Int, Int.natCast_zero, Int.natCast_one, Int.toNat_natCast, Nat.reduceBEq, sp1, sp2, sp3, nzs]
      refine ⟨⟨hv8.one, hyn.one⟩, CallK.pub (k := 1520) rfl fun v9 N7 hN7 hv9 => ?_⟩
      simp only [shs, zts, sos, sls, zss, eqs, sx, sb1, sb2, sb3, sb4, sb5, sb6, ↓reduceIte, Nat.reduceAdd, Nat.reduceMul, Nat.reduceDiv, Nat.reduceEqDiff, Nat.reduceLT, Nat.reduceLeDiff, reduceCtorEq, Int.reduceEq, Int.reduceNe, Int.reduceLT, Int.reduceLE, Int.reduceAdd, Int.reduceSub, Int.reduceMul, Int.reduceNeg, Int.reduceToNat, Int.cast_ofNat_Int, Int.natCast_zero, Int.natCast_one, Int.toNat_natCast, Nat.reduceBEq, sp1, sp2, sp3, nzs]
      refine CallK.own Ctx.id rfl rfl (concatT encQ v9 [(v8, [t]), (y, l)] N7 hv9 (fun r hr => ?_) (by simp; omega)) rfl fun N8 hN8 => ?_
      · simp only [List.mem_cons, List.not_mem_nil, or_false] at hr
        rcases hr with rfl | rfl
        · exact hv8.le hN7
        · exact (hyn5.le hN6).le hN7
      simp only [shs, zts, sos, sls, zss, eqs, sx, sb1, sb2, sb3, sb4, sb5, sb6, ↓reduceIte, Nat.reduceAdd, Nat.reduceMul, Nat.reduceDiv, Nat.reduceEqDiff, Nat.reduceLT, Nat.reduceLeDiff, reduceCtorEq, Int.reduceEq, Int.reduceNe, Int.reduceLT, Int.reduceLE, Int.reduceAdd, Int.reduceSub, Int.reduceMul, Int.reduceNeg, Int.reduceToNat, Int.cast_ofNat_Int, Int.natCast_zero, Int.natCast_one, Int.toNat_natCast, Nat.reduceBEq, nzs]
      refine CallK.pub (k := 1528) rfl fun v10 N9 hN9 hv10 => ?_
      simp only [shs, zts, sos, sls, zss, eqs, sx, sb1, sb2, sb3, sb4, sb5, sb6, ↓reduceIte, Nat.reduceAdd, Nat.reduceMul, Nat.reduceDiv, Nat.reduceEqDiff, Nat.reduceLT, Nat.reduceLeDiff, reduceCtorEq, Int.reduceEq, Int.reduceNe, Int.reduceLT, Int.reduceLE, Int.reduceAdd, Int.reduceSub, Int.reduceMul, Int.reduceNeg, Int.reduceToNat, Int.cast_ofNat_Int, Int.natCast_zero, Int.natCast_one, Int.toNat_natCast, Nat.reduceBEq, sp1, sp2, sp3, nzs]
      refine CallK.pure ⟨rfl, rfl⟩ rfl (eqQ va v10 (t :: l) (t :: l) N9 ((((hvn5.le hN6).le hN7).le hN8).le hN9) (by simpa using hv10)) ?_
      simp only [shs, zts, sos, sls, zss, eqs, sx, sb1, sb2, sb3, sb4, sb5, sb6, ↓reduceIte, Nat.reduceAdd, Nat.reduceMul, Nat.reduceDiv, Nat.reduceEqDiff, Nat.reduceLT, Nat.reduceLeDiff, reduceCtorEq, Int.reduceEq, Int.reduceNe, Int.reduceLT, Int.reduceLE, Int.reduceAdd, Int.reduceSub, Int.reduceMul, Int.reduceNeg, Int.reduceToNat, Int.cast_ofNat_Int, Int.natCast_zero, Int.natCast_one, Int.toNat_natCast, Nat.reduceBEq, nzs, decide_true]
    · have c3 : (t.2 = 2) = False := eq_false hk2
      rw [if_neg hk2] at hvn5
      simp only [shs, zts, sos, sls, zss, eqs, sx, sb1, sb2, sb3, sb4, sb5, sb6, ↓reduceIte, Nat.reduceAdd, Nat.reduceMul, Nat.reduceDiv, Nat.reduceEqDiff, Nat.reduceLT, Nat.reduceLeDiff, reduceCtorEq, Int.reduceEq, Int.reduceNe, Int.reduceLT, Int.reduceLE, Int.reduceAdd, Int.reduceSub, Int.reduceMul, Int.reduceNeg, Int.reduceToNat, Int.cast_ofNat_Int, Int.natCast_zero, Int.natCast_one, Int.toNat_natCast, Nat.reduceBEq, nzs, c3, q0.1, q0.2, q1.1, q1.2, q1'.1, q1'.2]
      refine CallK.pub (k := 1464) rfl fun v10 N9 hN9 hv10 => ?_
      simp only [shs, zts, sos, sls, zss, eqs, sx, sb1, sb2, sb3, sb4, sb5, sb6, ↓reduceIte, Nat.reduceAdd, Nat.reduceMul, Nat.reduceDiv, Nat.reduceEqDiff, Nat.reduceLT, Nat.reduceLeDiff, reduceCtorEq, Int.reduceEq, Int.reduceNe, Int.reduceLT, Int.reduceLE, Int.reduceAdd, Int.reduceSub, Int.reduceMul, Int.reduceNeg, Int.reduceToNat, Int.cast_ofNat_Int, Int.natCast_zero, Int.natCast_one, Int.toNat_natCast, Nat.reduceBEq, sp1, sp2, sp3, nzs]
      refine CallK.pure ⟨rfl, rfl⟩ rfl (eqQ va v10 (l ++ [t]) (l ++ [t]) N9 (hvn5.le hN9) (by simpa using hv10)) ?_
      simp only [shs, zts, sos, sls, zss, eqs, sx, sb1, sb2, sb3, sb4, sb5, sb6, ↓reduceIte, Nat.reduceAdd, Nat.reduceMul, Nat.reduceDiv, Nat.reduceEqDiff, Nat.reduceLT, Nat.reduceLeDiff, reduceCtorEq, Int.reduceEq, Int.reduceNe, Int.reduceLT, Int.reduceLE, Int.reduceAdd, Int.reduceSub, Int.reduceMul, Int.reduceNeg, Int.reduceToNat, Int.cast_ofNat_Int, Int.natCast_zero, Int.natCast_one, Int.toNat_natCast, Nat.reduceBEq, nzs, decide_true]
theorem law (a0 : Value × List (Int × Int)) (a1 : Int × Int) (tag : Int) (M : Mem) (h0 : RowM M a0.1 2 (a0.2.map fun a => [Value.int .i64 a.1] ++ [Value.int .i64 a.2]) ∧ ∀ x ∈ a0.2, inK .i64 x.1 ∧ inK .i64 x.2) (h1 : inK .i64 a1.1 ∧ inK .i64 a1.2) (h2 : inK .i64 tag) :
    Meets Proofs.Try.prog 3 [.v a0.1, .agg [.v (.int .i64 a1.1), .v (.int .i64 a1.2)], .v (.int .i64 tag)] M fun r _ _ => r = .v (.bool true) := says a0.1 a0.2 a1 tag M h0.1
end Go.X.Qu
