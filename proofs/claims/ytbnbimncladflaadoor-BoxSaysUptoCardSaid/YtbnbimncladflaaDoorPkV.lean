/- Bits as tokens: what woolref.Tokens returns. Conditions: none. -/
import Derived.Test.YtbnbimncladflaaDoorPkU
import Derived.Test.YtbnbimncladflaaDoorLzR
set_option linter.unusedSimpArgs false
set_option linter.unusedVariables false
set_option maxHeartbeats 4000000
set_option maxRecDepth 20000
namespace Go.X.Pb
open Go Go.X Go.RowKit Go.X.Pl Go.X.St Go.X.Pol Go.X.Gm Go.X.Pk Go.X.Lz

theorem rtokens (s : List UInt8) (M : Mem) (hs : s.length ≤ 8388608) :
    Meets Proofs.Tryd.prog 14 [.v (.string ⟨s.toArray⟩)] M (OwnR (tokT (toks s).2) 3 ((toks s).1.map Lz.encT)) := by
  refine Meets.nilOr (Ctx.fst _) ?_
  refine Meets.of_body [0,2,3,4,5,6,7,8,9,10,12,14,17,19,22,31,43,59,62,63,64,65,88] Proofs.Tryd.func14 rfl (by kernel_rfl) rfl fun w => ?_
  generalize hc : toks s = c at *
  unfold toks at hc
  simp only [Proofs.Tryd.f14, shs, zts, sos, sls, zss, eqs, sx, sb1, sb2, sb3, sb4, sb5, sb6, sb7, ↓reduceIte, Nat.reduceAdd, Nat.reduceMul, Nat.reduceDiv, Nat.reduceEqDiff, Nat.reduceLT, Nat.reduceLeDiff, reduceCtorEq, Int.reduceEq, Int.reduceNe, Int.reduceLT, Int.reduceLE, Int.reduceAdd, Int.reduceSub, Int.reduceMul, Int.reduceNeg, Int.reduceToNat, Int.cast_ofNat_Int, Int.natCast_zero, Int.natCast_one, Int.toNat_natCast, Nat.reduceBEq, nzs]
  refine CallK.pure ⟨rfl, rfl⟩ rfl (rbitsW s M (by omega)) ?_
  by_cases hA : (s.all fun b => b == 48 || b == 49) = false
  · rw [if_pos hA] at hc
    subst hc
    simp only [shs, zts, sos, sls, zss, eqs, sx, sb1, sb2, sb3, sb4, sb5, sb6, sb7, ↓reduceIte, Nat.reduceAdd, Nat.reduceMul, Nat.reduceDiv, Nat.reduceEqDiff, Nat.reduceLT, Nat.reduceLeDiff, reduceCtorEq, Int.reduceEq, Int.reduceNe, Int.reduceLT, Int.reduceLE, Int.reduceAdd, Int.reduceSub, Int.reduceMul, Int.reduceNeg, Int.reduceToNat, Int.cast_ofNat_Int, Int.natCast_zero, Int.natCast_one, Int.toNat_natCast, Nat.reduceBEq, nzs, hA]
    exact .inl rfl
  rw [if_neg hA] at hc
  have hA' : (s.all fun b => b == 48 || b == 49) = true := by cases h : (s.all fun b => b == 48 || b == 49) <;> simp_all
  simp only [shs, zts, sos, sls, zss, eqs, sx, sb1, sb2, sb3, sb4, sb5, sb6, sb7, ↓reduceIte, Nat.reduceAdd, Nat.reduceMul, Nat.reduceDiv, Nat.reduceEqDiff, Nat.reduceLT, Nat.reduceLeDiff, reduceCtorEq, Int.reduceEq, Int.reduceNe, Int.reduceLT, Int.reduceLE, Int.reduceAdd, Int.reduceSub, Int.reduceMul, Int.reduceNeg, Int.reduceToNat, Int.cast_ofNat_Int, Int.natCast_zero, Int.natCast_one, Int.toNat_natCast, Nat.reduceBEq, nzs, hA']
  refine LoopK.nilRow 4 50 3 rfl rfl rfl ?_
  refine LoopK.go (X := Nat × List Tk × List UInt8 × Mem) (fun y => ([(0, true, .v (.string ⟨y.2.2.1.toArray⟩)), (2, true, .v (.slice none 0 0)), (3, true, .v (.int .i64 0)), (4, true, .own 400)], [(400, .row 3 (y.2.1.map Lz.encT))], y.2.2.2))
    (fun y => (y.2.2.1.length ≤ y.1 ∧ (∀ b ∈ y.2.2.1, b = 48 ∨ b = 49)) ∧ y.2.1.length + y.2.2.1.length ≤ 8388608 ∧ run y.1 y.2.1 y.2.2.1 = run s.length [] s) (fun y => y.1) (s.length, [], s, M) ⟨⟨Nat.le_refl _, all_of hA' fun _ h => h⟩, by simpa using hs, rfl⟩ (Ent.of ?_) ?_
  · simp only [sx, sb1, sb2, sb3, sb4, sb5, sb6, sb7, ↓reduceIte, Nat.reduceAdd, Nat.reduceMul, Nat.reduceDiv, Nat.reduceEqDiff, Nat.reduceLT, Nat.reduceLeDiff, reduceCtorEq, Int.reduceEq, Int.reduceNe, Int.reduceLT, Int.reduceLE, Int.reduceAdd, Int.reduceSub, Int.reduceMul, Int.reduceNeg, Int.reduceToNat, Int.cast_ofNat_Int, Int.natCast_zero, Int.natCast_one, Int.toNat_natCast, Nat.reduceBEq, List.map_nil]
  rintro ⟨f, o, u, M1⟩ ⟨⟨n1, n2⟩, n3, n4⟩
  simp only at n1 n2 n3 n4
  by_cases hu : u = []
  · subst hu
    have hrun : run s.length [] s = (o, 0) := by
      rw [← n4]
      cases f <;> simp [run]
    rw [hrun] at hc
    simp only [ne_eq, not_true, if_false] at hc
    simp only [shs, zts, sos, sls, zss, eqs, sx, sb1, sb2, sb3, sb4, sb5, sb6, sb7, ↓reduceIte, Nat.reduceAdd, Nat.reduceMul, Nat.reduceDiv, Nat.reduceEqDiff, Nat.reduceLT, Nat.reduceLeDiff, reduceCtorEq, Int.reduceEq, Int.reduceNe, Int.reduceLT, Int.reduceLE, Int.reduceAdd, Int.reduceSub, Int.reduceMul, Int.reduceNeg, Int.reduceToNat, Int.cast_ofNat_Int, Int.natCast_zero, Int.natCast_one, Int.toNat_natCast, Nat.reduceBEq, nzs]
    refine CallK.lend (k := 400) rfl rfl rfl (fun _ => rfl) (fun v M' _ hv => rexpand v o M' hv) ?_
    by_cases he : (exp o []).2 = 0
    · rw [if_neg (fun e => e he)] at hc
      subst hc
      simp only [shs, zts, sos, sls, zss, eqs, sx, sb1, sb2, sb3, sb4, sb5, sb6, sb7, ↓reduceIte, Nat.reduceAdd, Nat.reduceMul, Nat.reduceDiv, Nat.reduceEqDiff, Nat.reduceLT, Nat.reduceLeDiff, reduceCtorEq, Int.reduceEq, Int.reduceNe, Int.reduceLT, Int.reduceLE, Int.reduceAdd, Int.reduceSub, Int.reduceMul, Int.reduceNeg, Int.reduceToNat, Int.cast_ofNat_Int, Int.natCast_zero, Int.natCast_one, Int.toNat_natCast, Nat.reduceBEq, nzs, he]
      exact .inr ⟨400, rfl, rfl⟩
    · rw [if_pos he] at hc
      subst hc
      have c0 := eq_false he
      simp only [shs, zts, sos, sls, zss, eqs, sx, sb1, sb2, sb3, sb4, sb5, sb6, sb7, ↓reduceIte, Nat.reduceAdd, Nat.reduceMul, Nat.reduceDiv, Nat.reduceEqDiff, Nat.reduceLT, Nat.reduceLeDiff, reduceCtorEq, Int.reduceEq, Int.reduceNe, Int.reduceLT, Int.reduceLE, Int.reduceAdd, Int.reduceSub, Int.reduceMul, Int.reduceNeg, Int.reduceToNat, Int.cast_ofNat_Int, Int.natCast_zero, Int.natCast_one, Int.toNat_natCast, Nat.reduceBEq, nzs, c0]
      exact .inl rfl
  obtain ⟨f', rfl⟩ : ∃ f', f = f' + 1 := ⟨f - 1, by have := List.length_pos_iff.2 hu; omega⟩
  rw [run, if_neg hu] at n4
  obtain ⟨x, t, rfl⟩ := List.exists_cons_of_ne_nil hu
  have d1 := eq_false hu
  have e0 : strIx (x :: t) 0 = ((x.toNat : Nat) : Int) := rfl
  have hdt : (x :: t).drop 1 = t := rfl
  have ht : t.length + 1 ≤ 8388608 := by rw [List.length_cons] at n3; omega
  have et : List.take (t.length + 1 - 1) t = t := List.take_of_length_le (by omega)
  generalize htk : tkOf (x :: t) = T at *
  unfold tkOf at htk
  rw [List.length_cons] at n3 n1
  by_cases hx : x = 48
  · rw [if_pos (show (x :: t)[0]? = some 48 by simp [hx])] at htk
    have cx : (x = 49) = False := eq_false (by rw [hx]; decide)
    by_cases h9 : (x :: t).length < 9
    · rw [if_pos h9] at htk
      subst htk
      rw [if_pos (by decide)] at n4
      rw [← n4] at hc
      simp only [ne_eq] at hc
      rw [if_pos (by decide)] at hc
      subst hc
      rw [List.length_cons] at h9
      have c9 : (((t.length + 1 : Nat) : Int) < 9) = True := eq_true (by omega)
      simp only [shs, zts, sos, sls, zss, eqs, sx, sb1, sb2, sb3, sb4, sb5, sb6, sb7, ↓reduceIte, Nat.reduceAdd, Nat.reduceMul, Nat.reduceDiv, Nat.reduceEqDiff, Nat.reduceLT, Nat.reduceLeDiff, reduceCtorEq, Int.reduceEq, Int.reduceNe, Int.reduceLT, Int.reduceLE, Int.reduceAdd, Int.reduceSub, Int.reduceMul, Int.reduceNeg, Int.reduceToNat, Int.cast_ofNat_Int, Int.natCast_zero, Int.natCast_one, Int.toNat_natCast, Nat.reduceBEq, nzs, d1, e0, Gm.eq49, List.length_cons, cx, c9]
      exact ⟨by omega, .inl rfl⟩
    · rw [if_neg h9] at htk
      rw [List.length_cons] at h9
      have c9 : (((t.length + 1 : Nat) : Int) < 9) = False := eq_false (by omega)
      rw [hdt] at htk
      subst htk
      rw [if_neg (fun h => h rfl)] at n4
      simp only [Int.reduceToNat, List.drop_succ_cons] at n4
      simp only [shs, zts, sos, sls, zss, eqs, sx, sb1, sb2, sb3, sb4, sb5, sb6, sb7, ↓reduceIte, Nat.reduceAdd, Nat.reduceMul, Nat.reduceDiv, Nat.reduceEqDiff, Nat.reduceLT, Nat.reduceLeDiff, reduceCtorEq, Int.reduceEq, Int.reduceNe, Int.reduceLT, Int.reduceLE, Int.reduceAdd, Int.reduceSub, Int.reduceMul, Int.reduceNeg, Int.reduceToNat, Int.cast_ofNat_Int, Int.natCast_zero, Int.natCast_one, Int.toNat_natCast, Nat.reduceBEq, nzs, d1, e0, Gm.eq49, List.length_cons, cx, c9, Nat.reduceSub, List.drop_succ_cons, List.drop_zero]
      have hall : ∀ z ∈ t.take 8, z = 48 ∨ z = 49 := fun z hz => n2 z (List.mem_cons_of_mem _ (List.mem_of_mem_take hz))
      have htl : (t.take 8).length = 8 := by rw [List.length_take, Nat.min_eq_left (by omega)]
      generalize hq : t.take 8 = q at *
      refine ⟨by omega, by omega, OpK.strBytes (e := 5) rfl rfl rfl (by kernel_rfl) (by kernel_rfl) (by kernel_rfl) rfl (by simp only [ByteArray.size, List.size_toArray]; omega) fun v M2 hM2 hv => ?_⟩
      replace hv : RowM M2 v 1 (q.map encB) := hv
      simp only [shs, zts, sos, sls, zss, eqs, sx, sb1, sb2, sb3, sb4, sb5, sb6, sb7, ↓reduceIte, Nat.reduceAdd, Nat.reduceMul, Nat.reduceDiv, Nat.reduceEqDiff, Nat.reduceLT, Nat.reduceLeDiff, reduceCtorEq, Int.reduceEq, Int.reduceNe, Int.reduceLT, Int.reduceLE, Int.reduceAdd, Int.reduceSub, Int.reduceMul, Int.reduceNeg, Int.reduceToNat, Int.cast_ofNat_Int, Int.natCast_zero, Int.natCast_one, Int.toNat_natCast, Nat.reduceBEq, nzs, hv.len, hv.sl, List.length_map]
      refine LoopK.go (X := Nat × Nat × Nat) (fun z => ([(0, true, .v (.string ⟨(x :: t).toArray⟩)), (2, true, .v (.slice none 0 0)), (3, true, .v (.int .i64 0)), (4, true, .own 400), (10, true, .v (.int .i64 (z.2.2 : Int))), (62, true, .v v), (63, true, .v (.int .i64 (8 : Nat))), (64, true, .v (.int .i64 (z.2.1 : Int)))], [(400, .row 3 (o.map Lz.encT))], M2))
        (fun z => (z.1 + z.2.1 = 8 ∧ z.2.2 < 2 ^ z.2.1) ∧ val (q.drop z.2.1) z.2.2 = val q 0) (fun z => z.1) (8, 0, 0) ⟨⟨rfl, Nat.one_pos⟩, rfl⟩ (Ent.of ?_) ?_
      · simp only [sx, sb1, sb2, sb3, sb4, sb5, sb6, sb7, ↓reduceIte, Nat.reduceAdd, Nat.reduceMul, Nat.reduceDiv, Nat.reduceEqDiff, Nat.reduceLT, Nat.reduceLeDiff, reduceCtorEq, Int.reduceEq, Int.reduceNe, Int.reduceLT, Int.reduceLE, Int.reduceAdd, Int.reduceSub, Int.reduceMul, Int.reduceNeg, Int.reduceToNat, Int.cast_ofNat_Int, Int.natCast_zero, Int.natCast_one, Int.toNat_natCast, Nat.reduceBEq, Int.natCast_zero, htl]
      rintro ⟨f, i, n⟩ ⟨⟨m1, m2⟩, m3⟩
      simp only at m1 m2 m3
      by_cases hil : i < 8
      · have e1 : ((i : Int) < 8) = True := eq_true (by omega)
        obtain ⟨b, hb1, hd⟩ := l_drop_at (l := q) (i := i) (by omega)
        have hb2 := hall b (List.mem_of_getElem? hb1)
        have g := hv.el1 hb1 (c := .int .u8 (b.toNat : Int)) rfl
        have i0 := hv.ix (i := (i : Int)) (by omega) (by rw [List.length_map]; omega)
        have hp : 2 ^ i ≤ 2 ^ 30 := Nat.pow_le_pow_right (by decide) (by omega)
        have hps : 2 ^ (i + 1) = 2 * 2 ^ i := by rw [Nat.pow_succ]; omega
        have h48 := d48 hb2
        rw [hd] at m3
        simp only [val, List.foldl_cons] at m3
        simp only [shs, zts, sos, sls, zss, eqs, sx, sb1, sb2, sb3, sb4, sb5, sb6, sb7, ↓reduceIte, Nat.reduceAdd, Nat.reduceMul, Nat.reduceDiv, Nat.reduceEqDiff, Nat.reduceLT, Nat.reduceLeDiff, reduceCtorEq, Int.reduceEq, Int.reduceNe, Int.reduceLT, Int.reduceLE, Int.reduceAdd, Int.reduceSub, Int.reduceMul, Int.reduceNeg, Int.reduceToNat, Int.cast_ofNat_Int, Int.natCast_zero, Int.natCast_one, Int.toNat_natCast, Nat.reduceBEq, nzs, e1, i0, i0.2, g.1, g.2, and1 hb2, inK, lo, hi, iw (show b.toNat - 48 < 9223372036854775808 by omega)]
        have hb2' : b.toNat < 256 := UInt8.toNat_lt b
        refine ⟨by omega, by omega, by omega, by omega, (f - 1, i + 1, 2 * n + (b.toNat - 48)), ⟨⟨⟨by simp only; omega, by simp only; omega⟩, m3⟩, by simp only; omega⟩, Ent.of ?_⟩
        simp only [sx, sb1, sb2, sb3, sb4, sb5, sb6, sb7, ↓reduceIte, Nat.reduceAdd, Nat.reduceMul, Nat.reduceDiv, Nat.reduceEqDiff, Nat.reduceLT, Nat.reduceLeDiff, reduceCtorEq, Int.reduceEq, Int.reduceNe, Int.reduceLT, Int.reduceLE, Int.reduceAdd, Int.reduceSub, Int.reduceMul, Int.reduceNeg, Int.reduceToNat, Int.cast_ofNat_Int, Int.natCast_zero, Int.natCast_one, Int.toNat_natCast, Nat.reduceBEq, Int.natCast_add, Int.natCast_mul]
      · have e1 : ((i : Int) < 8) = False := eq_false (by omega)
        rw [List.drop_eq_nil_of_le (by omega)] at m3
        simp only [val, List.foldl_nil] at m3
        rw [← show n = val q 0 from m3] at n4
        have et2 : List.take (t.length + 1 - 9) (t.drop 8) = t.drop 8 := List.take_of_length_le (by rw [List.length_drop]; omega)
        simp only [shs, zts, sos, sls, zss, eqs, sx, sb1, sb2, sb3, sb4, sb5, sb6, sb7, ↓reduceIte, Nat.reduceAdd, Nat.reduceMul, Nat.reduceDiv, Nat.reduceEqDiff, Nat.reduceLT, Nat.reduceLeDiff, reduceCtorEq, Int.reduceEq, Int.reduceNe, Int.reduceLT, Int.reduceLE, Int.reduceAdd, Int.reduceSub, Int.reduceMul, Int.reduceNeg, Int.reduceToNat, Int.cast_ofNat_Int, Int.natCast_zero, Int.natCast_one, Int.toNat_natCast, Nat.reduceBEq, nzs, e1, List.length_cons, et2, List.drop_succ_cons, List.length_map]
        refine ⟨by omega, by omega, (f', o ++ [((0, 0, (n : Int)) : Tk)], t.drop 8, M2), ⟨⟨⟨by simp only [List.length_drop]; omega, fun b hb => n2 b (List.mem_cons_of_mem _ (List.mem_of_mem_drop hb))⟩, by simp only [List.length_drop, List.length_append, List.length_singleton]; omega, n4⟩, by simp only; omega⟩, Ent.rekey 4 50 632 3 (o.map Lz.encT ++ [[Value.int IntKind.i64 0, Value.int IntKind.i64 0, Value.int IntKind.i64 (n : Int)]]) rfl rfl rfl rfl (Ent.of ?_)⟩
        simp only [sx, sb1, sb2, sb3, sb4, sb5, sb6, sb7, ↓reduceIte, Nat.reduceAdd, Nat.reduceMul, Nat.reduceDiv, Nat.reduceEqDiff, Nat.reduceLT, Nat.reduceLeDiff, reduceCtorEq, Int.reduceEq, Int.reduceNe, Int.reduceLT, Int.reduceLE, Int.reduceAdd, Int.reduceSub, Int.reduceMul, Int.reduceNeg, Int.reduceToNat, Int.cast_ofNat_Int, Int.natCast_zero, Int.natCast_one, Int.toNat_natCast, Nat.reduceBEq, hdel, hdelk, sigDrop, sigDropA, List.map_append, List.map_cons, List.map_nil, Lz.encT]
  · have hx9 : x = 49 := (n2 x (by simp)).resolve_left hx
    rw [if_neg (show ¬ (x :: t)[0]? = some 48 by simp [hx])] at htk
    have cx : (x = 49) = True := eq_true hx9
    rw [hdt] at htk
    simp only [shs, zts, sos, sls, zss, eqs, sx, sb1, sb2, sb3, sb4, sb5, sb6, sb7, ↓reduceIte, Nat.reduceAdd, Nat.reduceMul, Nat.reduceDiv, Nat.reduceEqDiff, Nat.reduceLT, Nat.reduceLeDiff, reduceCtorEq, Int.reduceEq, Int.reduceNe, Int.reduceLT, Int.reduceLE, Int.reduceAdd, Int.reduceSub, Int.reduceMul, Int.reduceNeg, Int.reduceToNat, Int.cast_ofNat_Int, Int.natCast_zero, Int.natCast_one, Int.toNat_natCast, Nat.reduceBEq, nzs, d1, e0, Gm.eq49, List.length_cons, et, cx]
    refine ⟨by omega, by omega, CallK.pure ⟨rfl, rfl⟩ rfl (rgamW t M1 (by omega)) ?_⟩
    by_cases he : (rdG t).2.2 = 0
    rotate_left
    · rw [if_pos he] at htk
      subst htk
      rw [if_pos he] at n4
      rw [← n4] at hc
      simp only [ne_eq, he, not_false_eq_true, if_true] at hc
      subst hc
      have c0 := eq_false he
      simp only [shs, zts, sos, sls, zss, eqs, sx, sb1, sb2, sb3, sb4, sb5, sb6, sb7, ↓reduceIte, Nat.reduceAdd, Nat.reduceMul, Nat.reduceDiv, Nat.reduceEqDiff, Nat.reduceLT, Nat.reduceLeDiff, reduceCtorEq, Int.reduceEq, Int.reduceNe, Int.reduceLT, Int.reduceLE, Int.reduceAdd, Int.reduceSub, Int.reduceMul, Int.reduceNeg, Int.reduceToNat, Int.cast_ofNat_Int, Int.natCast_zero, Int.natCast_one, Int.toNat_natCast, Nat.reduceBEq, nzs, tup3, c0]
      exact .inl rfl
    rw [if_neg (fun e => e he)] at htk
    obtain ⟨hA1, ⟨hz1, hz2⟩, k, hk, hk1, hk2⟩ := rdG_ok he
    rw [hk] at htk ⊢
    simp only at htk
    generalize zn t = z at *
    have e2 : (1 + ((2 * z + 1 : Nat) : Int)).toNat = 2 * z + 1 + 1 := by omega
    have hdt2 : (x :: t).drop (2 * z + 1 + 1) = t.drop (2 * z + 1) := rfl
    rw [e2, hdt2] at htk
    have ez : 1 + ((2 * z + 1 : Nat) : Int) = ((2 * z + 1 + 1 : Nat) : Int) := by omega
    have et2 : List.take (t.length + 1 - (2 * z + 1 + 1)) (List.drop (2 * z + 1) t) = t.drop (2 * z + 1) := List.take_of_length_le (by rw [List.length_drop]; omega)
    have hl2 : (t.drop (2 * z + 1)).length ≤ t.length := by rw [List.length_drop]; omega
    simp only [shs, zts, sos, sls, zss, eqs, sx, sb1, sb2, sb3, sb4, sb5, sb6, sb7, ↓reduceIte, Nat.reduceAdd, Nat.reduceMul, Nat.reduceDiv, Nat.reduceEqDiff, Nat.reduceLT, Nat.reduceLeDiff, reduceCtorEq, Int.reduceEq, Int.reduceNe, Int.reduceLT, Int.reduceLE, Int.reduceAdd, Int.reduceSub, Int.reduceMul, Int.reduceNeg, Int.reduceToNat, Int.cast_ofNat_Int, Int.natCast_zero, Int.natCast_one, Int.toNat_natCast, Nat.reduceBEq, nzs, tup3, ez, et2, inK, lo, hi, List.length_cons]
    refine ⟨by omega, by omega, CallK.pure ⟨rfl, rfl⟩ rfl (rgamW (t.drop (2 * z + 1)) M1 (by omega)) ?_⟩
    have hdl : (t.drop (2 * z + 1)).length = t.length - (2 * z + 1) := List.length_drop
    have hmu : ∀ b ∈ t.drop (2 * z + 1), b = 48 ∨ b = 49 := fun b hb => n2 b (List.mem_cons_of_mem _ (List.mem_of_mem_drop hb))
    generalize hue : t.drop (2 * z + 1) = u at *
    by_cases hf : (rdG u).2.2 = 0
    rotate_left
    · rw [if_pos hf] at htk
      subst htk
      rw [if_pos hf] at n4
      rw [← n4] at hc
      simp only [ne_eq, hf, not_false_eq_true, if_true] at hc
      subst hc
      have c0 := eq_false hf
      simp only [shs, zts, sos, sls, zss, eqs, sx, sb1, sb2, sb3, sb4, sb5, sb6, sb7, ↓reduceIte, Nat.reduceAdd, Nat.reduceMul, Nat.reduceDiv, Nat.reduceEqDiff, Nat.reduceLT, Nat.reduceLeDiff, reduceCtorEq, Int.reduceEq, Int.reduceNe, Int.reduceLT, Int.reduceLE, Int.reduceAdd, Int.reduceSub, Int.reduceMul, Int.reduceNeg, Int.reduceToNat, Int.cast_ofNat_Int, Int.natCast_zero, Int.natCast_one, Int.toNat_natCast, Nat.reduceBEq, nzs, tup3, c0]
      exact .inl rfl
    rw [if_neg (fun e => e hf)] at htk
    obtain ⟨hB1, ⟨hy1, hy2⟩, j, hj, hj1, hj2⟩ := rdG_ok hf
    rw [hj] at htk ⊢
    simp only at htk
    generalize zn u = y at *
    subst htk
    rw [if_neg (fun h => h rfl)] at n4
    have e3 : (1 + ((2 * z + 1 : Nat) : Int) + ((2 * y + 1 : Nat) : Int)).toNat = 2 * z + 1 + (2 * y + 1) + 1 := by omega
    have e4 : ((2 * z + 1 + 1 : Nat) : Int) + ((2 * y + 1 : Nat) : Int) = ((2 * z + 1 + (2 * y + 1) + 1 : Nat) : Int) := by omega
    simp only [e3, List.drop_succ_cons] at n4
    have et3 : List.take (t.length + 1 - (2 * z + 1 + (2 * y + 1) + 1)) (t.drop (2 * z + 1 + (2 * y + 1))) = t.drop (2 * z + 1 + (2 * y + 1)) := List.take_of_length_le (by rw [List.length_drop]; omega)
    simp only [shs, zts, sos, sls, zss, eqs, sx, sb1, sb2, sb3, sb4, sb5, sb6, sb7, ↓reduceIte, Nat.reduceAdd, Nat.reduceMul, Nat.reduceDiv, Nat.reduceEqDiff, Nat.reduceLT, Nat.reduceLeDiff, reduceCtorEq, Int.reduceEq, Int.reduceNe, Int.reduceLT, Int.reduceLE, Int.reduceAdd, Int.reduceSub, Int.reduceMul, Int.reduceNeg, Int.reduceToNat, Int.cast_ofNat_Int, Int.natCast_zero, Int.natCast_one, Int.toNat_natCast, Nat.reduceBEq, nzs, tup3, ez, e4, et3, inK, lo, hi, List.length_cons, List.length_map, List.drop_succ_cons]
    refine ⟨by omega, by omega, by omega, by omega, (f', o ++ [(((k : Int), (j : Int), 0) : Tk)], t.drop (2 * z + 1 + (2 * y + 1)), M1), ⟨⟨⟨by simp only [List.length_drop]; omega, fun b hb => n2 b (List.mem_cons_of_mem _ (List.mem_of_mem_drop hb))⟩, by simp only [List.length_drop, List.length_append, List.length_singleton]; omega, n4⟩, by simp only; omega⟩, Ent.of ?_⟩
    simp only [sx, sb1, sb2, sb3, sb4, sb5, sb6, sb7, ↓reduceIte, Nat.reduceAdd, Nat.reduceMul, Nat.reduceDiv, Nat.reduceEqDiff, Nat.reduceLT, Nat.reduceLeDiff, reduceCtorEq, Int.reduceEq, Int.reduceNe, Int.reduceLT, Int.reduceLE, Int.reduceAdd, Int.reduceSub, Int.reduceMul, Int.reduceNeg, Int.reduceToNat, Int.cast_ofNat_Int, Int.natCast_zero, Int.natCast_one, Int.toNat_natCast, Nat.reduceBEq, List.map_append, List.map_cons, List.map_nil, Lz.encT]
end Go.X.Pb
