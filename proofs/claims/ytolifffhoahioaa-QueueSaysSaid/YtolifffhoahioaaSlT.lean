/- slices.Grow, Concat, Delete at tasks. Conditions: none. -/
import Derived.Test.YtolifffhoahioaaFwO
set_option linter.unusedSimpArgs false
set_option linter.unusedVariables false
set_option maxHeartbeats 4000000
set_option maxRecDepth 20000
namespace Go.X.Sl
open Go Go.X Go.RowKit

theorem growT (n : Nat) (M : Mem) (hn : n ≤ 1000000) : Meets Proofs.Try.prog 49 [.v (.slice none 0 0), .v (.int .i64 n)] M (OwnR (fun s => s) 2 []) := by
  refine Meets.ofH rfl (MeetsH.closeR Ctx.id (fun e he => by cases he) ?_)
  refine MeetsH.of_body [0,1,4,6,16] Proofs.Try.func49 rfl (by kernel_rfl) fun w M0 => ?_
  have c0 : ((n : Int) < 0) = False := eq_false (by omega)
  simp only [Proofs.Try.f49, shs, zts, sos, sls, zss, eqs, sx, sb1, sb2, sb3, sb4, sb5, sb6, ↓reduceIte, Nat.reduceAdd, Nat.reduceMul, Nat.reduceDiv, Nat.reduceEqDiff, Nat.reduceLT, Nat.reduceLeDiff, reduceCtorEq, Int.reduceEq, Int.reduceNe, Int.reduceLT, Int.reduceLE, Int.reduceAdd, Int.reduceSub, Int.reduceMul, Int.reduceNeg, Int.reduceToNat, Int.cast_ofNat_Int, Int.natCast_zero, Int.natCast_one, Int.toNat_natCast, Nat.reduceBEq, c0]
  refine ⟨rfl, OpK.cap (e := 24) rfl rfl rfl (by kernel_rfl) rfl rfl ?_⟩
  by_cases h0 : n = 0
  · subst h0
    simp only [shs, zts, sos, sls, zss, eqs, sx, sb1, sb2, sb3, sb4, sb5, sb6, ↓reduceIte, Nat.reduceAdd, Nat.reduceMul, Nat.reduceDiv, Nat.reduceEqDiff, Nat.reduceLT, Nat.reduceLeDiff, reduceCtorEq, Int.reduceEq, Int.reduceNe, Int.reduceLT, Int.reduceLE, Int.reduceAdd, Int.reduceSub, Int.reduceMul, Int.reduceNeg, Int.reduceToNat, Int.cast_ofNat_Int, Int.natCast_zero, Int.natCast_one, Int.toNat_natCast, Nat.reduceBEq, capV, lenV, inK, lo, hi, Int.sub_zero]
    exact .inr trivial
  · have c1 : (0 < (n : Int)) = True := eq_true (by omega)
    simp only [shs, zts, sos, sls, zss, eqs, sx, sb1, sb2, sb3, sb4, sb5, sb6, ↓reduceIte, Nat.reduceAdd, Nat.reduceMul, Nat.reduceDiv, Nat.reduceEqDiff, Nat.reduceLT, Nat.reduceLeDiff, reduceCtorEq, Int.reduceEq, Int.reduceNe, Int.reduceLT, Int.reduceLE, Int.reduceAdd, Int.reduceSub, Int.reduceMul, Int.reduceNeg, Int.reduceToNat, Int.cast_ofNat_Int, Int.natCast_zero, Int.natCast_one, Int.toNat_natCast, Nat.reduceBEq, capV, lenV, c1, inK, lo, hi, Int.sub_zero]
    refine ⟨by omega, ⟨rfl, OpK.cap (e := 24) rfl rfl rfl (by kernel_rfl) rfl rfl ?_⟩⟩
    simp only [shs, zts, sos, sls, zss, eqs, sx, sb1, sb2, sb3, sb4, sb5, sb6, ↓reduceIte, Nat.reduceAdd, Nat.reduceMul, Nat.reduceDiv, Nat.reduceEqDiff, Nat.reduceLT, Nat.reduceLeDiff, reduceCtorEq, Int.reduceEq, Int.reduceNe, Int.reduceLT, Int.reduceLE, Int.reduceAdd, Int.reduceSub, Int.reduceMul, Int.reduceNeg, Int.reduceToNat, Int.cast_ofNat_Int, Int.natCast_zero, Int.natCast_one, Int.toNat_natCast, Nat.reduceBEq, capV, lenV, c1, inK, lo, hi, Int.sub_zero]
    refine OpK.appMake (base := none) (n := 0) (m := n) (c := 0) (olds := []) rfl rfl rfl sl22 (kn := .i64) (by kernel_rfl) rfl rfl (.inl ⟨rfl, rfl, rfl⟩) (by omega) (by decide) rfl (by omega) (by omega) rfl fun b cap sp h1 h2 h3 => ?_
    simp only [shs, zts, sos, sls, zss, eqs, sx, sb1, sb2, sb3, sb4, sb5, sb6, ↓reduceIte, Nat.reduceAdd, Nat.reduceMul, Nat.reduceDiv, Nat.reduceEqDiff, Nat.reduceLT, Nat.reduceLeDiff, reduceCtorEq, Int.reduceEq, Int.reduceNe, Int.reduceLT, Int.reduceLE, Int.reduceAdd, Int.reduceSub, Int.reduceMul, Int.reduceNeg, Int.reduceToNat, Int.cast_ofNat_Int, Int.natCast_zero, Int.natCast_one, Int.toNat_natCast, Nat.reduceBEq, capV, lenV, c1, inK, lo, hi, Int.sub_zero]
    rw [subV_open]
    refine ⟨by omega, .inl ⟨b, 176, cap, _, by simp, by simp only [List.flatten_nil, List.nil_append]; rfl, by simp, h2, by simp [h3]; omega⟩⟩

theorem concatT {α : Type} (enc : α → List Value) (tv : Value) (rs : List (Value × List α)) (M : Mem) (ht : RowM M tv 1 (rs.map fun r => [r.1])) (hr : ∀ r ∈ rs, RowM M r.1 2 (r.2.map enc)) (hb : (rs.flatMap (·.2)).length ≤ 1000000) :
    Meets Proofs.Try.prog 15 [.v tv] M (OwnR (fun s => s) 2 ((rs.flatMap (·.2)).map enc)) := by
  refine Meets.of_body [0,2,3,5,6,8,9,10,11,12,20,25,26,27,28] Proofs.Try.func15 rfl (by kernel_rfl) rfl fun w => ?_
  have hle := ht.len_le
  rw [List.length_map] at hle
  have hsp : ∀ i, ((rs.take i).flatMap (·.2)).length + ((rs.drop i).flatMap (·.2)).length = (rs.flatMap (·.2)).length := fun i => by
    rw [← List.length_append, ← List.flatMap_append, List.take_append_drop]
  simp only [Proofs.Try.f15, shs, zts, sos, sls, zss, eqs, sx, sb1, sb2, sb3, sb4, sb5, sb6, ↓reduceIte, Nat.reduceAdd, Nat.reduceMul, Nat.reduceDiv, Nat.reduceEqDiff, Nat.reduceLT, Nat.reduceLeDiff, reduceCtorEq, Int.reduceEq, Int.reduceNe, Int.reduceLT, Int.reduceLE, Int.reduceAdd, Int.reduceSub, Int.reduceMul, Int.reduceNeg, Int.reduceToNat, Int.cast_ofNat_Int, Int.natCast_zero, Int.natCast_one, Int.toNat_natCast, Nat.reduceBEq, ht.len, ht.sl, List.length_map]
  refine LoopK.go (X := Nat × Nat) (fun x => ([(0, true, .v tv), (3, true, .v (.int .i64 ((rs.take x.2).flatMap (·.2)).length)), (9, true, .v tv), (10, true, .v (.int .i64 rs.length)), (11, true, .v (.int .i64 x.2))], [], M))
    (fun x => x.1 + x.2 = rs.length) (fun x => x.1) (rs.length, 0) rfl (Ent.of ?_) ?_
  · simp only [sx, sb1, sb2, sb3, sb4, sb5, sb6, ↓reduceIte, Nat.reduceAdd, Nat.reduceMul, Nat.reduceDiv, Nat.reduceEqDiff, Nat.reduceLT, Nat.reduceLeDiff, reduceCtorEq, Int.reduceEq, Int.reduceNe, Int.reduceLT, Int.reduceLE, Int.reduceAdd, Int.reduceSub, Int.reduceMul, Int.reduceNeg, Int.reduceToNat, Int.cast_ofNat_Int, Int.natCast_zero, Int.natCast_one, Int.toNat_natCast, Nat.reduceBEq, List.take_zero, List.flatMap_nil, List.length_nil]
  rintro ⟨f, i⟩ h1
  simp only at h1
  by_cases hil : i < rs.length
  · have c1 : ((i : Int) < (rs.length : Int)) = True := eq_true (by omega)
    obtain ⟨⟨v, l⟩, hx, hd⟩ := l_drop_at (l := rs) (i := i) hil
    have g0 := ht.cell (i := i) (e := [v]) (by rw [List.getElem?_map, hx]; rfl) (off := 0) (by omega)
    have i0 := ht.ix (i := (i : Int)) (by omega) (by rw [List.length_map]; omega)
    have hv := hr _ (List.mem_of_getElem? hx)
    simp only [List.getD_cons_zero] at g0 hv
    have hs1 := hsp (i + 1)
    have e1 : (rs.take (i + 1)).flatMap (·.2) = (rs.take i).flatMap (·.2) ++ l := by rw [List.take_add_one, hx, List.flatMap_append]; simp
    rw [e1, List.length_append] at hs1
    have c2 : ((((rs.take i).flatMap (·.2)).length : Int) + (l.length : Int) < 0) = False := eq_false (by omega)
    simp only [shs, zts, sos, sls, zss, eqs, sx, sb1, sb2, sb3, sb4, sb5, sb6, ↓reduceIte, Nat.reduceAdd, Nat.reduceMul, Nat.reduceDiv, Nat.reduceEqDiff, Nat.reduceLT, Nat.reduceLeDiff, reduceCtorEq, Int.reduceEq, Int.reduceNe, Int.reduceLT, Int.reduceLE, Int.reduceAdd, Int.reduceSub, Int.reduceMul, Int.reduceNeg, Int.reduceToNat, Int.cast_ofNat_Int, Int.natCast_zero, Int.natCast_one, Int.toNat_natCast, Nat.reduceBEq, nzs, c1, c2, i0, i0.2, g0.1, g0.2.1, hv.len, hv.sl, List.length_map, inK, lo, hi]
    refine ⟨by omega, by omega, (f - 1, i + 1), ⟨by simp only; omega, by simp only; omega⟩, Ent.of ?_⟩
    simp only [sx, sb1, sb2, sb3, sb4, sb5, sb6, ↓reduceIte, Nat.reduceAdd, Nat.reduceMul, Nat.reduceDiv, Nat.reduceEqDiff, Nat.reduceLT, Nat.reduceLeDiff, reduceCtorEq, Int.reduceEq, Int.reduceNe, Int.reduceLT, Int.reduceLE, Int.reduceAdd, Int.reduceSub, Int.reduceMul, Int.reduceNeg, Int.reduceToNat, Int.cast_ofNat_Int, Int.natCast_zero, Int.natCast_one, Int.toNat_natCast, Nat.reduceBEq, e1, List.length_append, Int.natCast_add]
  have c1 : ((i : Int) < (rs.length : Int)) = False := eq_false (by omega)
  have e0 : rs.take i = rs := List.take_of_length_le (by omega)
  simp only [shs, zts, sos, sls, zss, eqs, sx, sb1, sb2, sb3, sb4, sb5, sb6, ↓reduceIte, Nat.reduceAdd, Nat.reduceMul, Nat.reduceDiv, Nat.reduceEqDiff, Nat.reduceLT, Nat.reduceLeDiff, reduceCtorEq, Int.reduceEq, Int.reduceNe, Int.reduceLT, Int.reduceLE, Int.reduceAdd, Int.reduceSub, Int.reduceMul, Int.reduceNeg, Int.reduceToNat, Int.cast_ofNat_Int, Int.natCast_zero, Int.natCast_one, Int.toNat_natCast, Nat.reduceBEq, nzs, c1, e0]
  refine CallK.own Ctx.id rfl rfl (growT _ M hb) rfl fun M2 hM2 => ?_
  have ht2 := ht.le hM2
  simp only [shs, zts, sos, sls, zss, eqs, sx, sb1, sb2, sb3, sb4, sb5, sb6, ↓reduceIte, Nat.reduceAdd, Nat.reduceMul, Nat.reduceDiv, Nat.reduceEqDiff, Nat.reduceLT, Nat.reduceLeDiff, reduceCtorEq, Int.reduceEq, Int.reduceNe, Int.reduceLT, Int.reduceLE, Int.reduceAdd, Int.reduceSub, Int.reduceMul, Int.reduceNeg, Int.reduceToNat, Int.cast_ofNat_Int, Int.natCast_zero, Int.natCast_one, Int.toNat_natCast, Nat.reduceBEq, nzs, ht.len, ht.sl, List.length_map]
  refine LoopK.go (X := Nat × Nat) (fun x => ([(6, true, .own 264), (25, true, .v tv), (26, true, .v (.int .i64 rs.length)), (27, true, .v (.int .i64 x.2))], [(264, .row 2 (((rs.take x.2).flatMap (·.2)).map enc))], M2))
    (fun x => x.1 + x.2 = rs.length) (fun x => x.1) (rs.length, 0) rfl (Ent.rekey 6 33 192 2 _ rfl rfl rfl rfl (Ent.of ?_)) ?_
  · simp only [sx, sb1, sb2, sb3, sb4, sb5, sb6, ↓reduceIte, Nat.reduceAdd, Nat.reduceMul, Nat.reduceDiv, Nat.reduceEqDiff, Nat.reduceLT, Nat.reduceLeDiff, reduceCtorEq, Int.reduceEq, Int.reduceNe, Int.reduceLT, Int.reduceLE, Int.reduceAdd, Int.reduceSub, Int.reduceMul, Int.reduceNeg, Int.reduceToNat, Int.cast_ofNat_Int, Int.natCast_zero, Int.natCast_one, Int.toNat_natCast, Nat.reduceBEq, List.take_zero, List.flatMap_nil, List.map_nil]
  rintro ⟨f, i⟩ h1
  simp only at h1
  by_cases hil : i < rs.length
  · have c1 : ((i : Int) < (rs.length : Int)) = True := eq_true (by omega)
    obtain ⟨⟨v, l⟩, hx, hd⟩ := l_drop_at (l := rs) (i := i) hil
    have g0 := ht2.cell (i := i) (e := [v]) (by rw [List.getElem?_map, hx]; rfl) (off := 0) (by omega)
    have i0 := ht2.ix (i := (i : Int)) (by omega) (by rw [List.length_map]; omega)
    have hv := (hr _ (List.mem_of_getElem? hx)).le hM2
    obtain ⟨r1, r2⟩ := hv.rows (by omega)
    simp only [List.getD_cons_zero] at g0 hv r1 r2
    have hs1 := hsp (i + 1)
    have e1 : (rs.take (i + 1)).flatMap (·.2) = (rs.take i).flatMap (·.2) ++ l := by rw [List.take_add_one, hx, List.flatMap_append]; simp
    rw [e1, List.length_append] at hs1
    simp only [shs, zts, sos, sls, zss, eqs, sx, sb1, sb2, sb3, sb4, sb5, sb6, ↓reduceIte, Nat.reduceAdd, Nat.reduceMul, Nat.reduceDiv, Nat.reduceEqDiff, Nat.reduceLT, Nat.reduceLeDiff, reduceCtorEq, Int.reduceEq, Int.reduceNe, Int.reduceLT, Int.reduceLE, Int.reduceAdd, Int.reduceSub, Int.reduceMul, Int.reduceNeg, Int.reduceToNat, Int.cast_ofNat_Int, Int.natCast_zero, Int.natCast_one, Int.toNat_natCast, Nat.reduceBEq, nzs, c1, i0, i0.2, g0.1, g0.2.1, hv.len, hv.sl, r1, List.length_map, inK, lo, hi]
    refine ⟨⟨⟨by omega, by omega⟩, r2⟩, by omega, (f - 1, i + 1), ⟨by simp only; omega, by simp only; omega⟩, Ent.of ?_⟩
    simp only [sx, sb1, sb2, sb3, sb4, sb5, sb6, ↓reduceIte, Nat.reduceAdd, Nat.reduceMul, Nat.reduceDiv, Nat.reduceEqDiff, Nat.reduceLT, Nat.reduceLeDiff, reduceCtorEq, Int.reduceEq, Int.reduceNe, Int.reduceLT, Int.reduceLE, Int.reduceAdd, Int.reduceSub, Int.reduceMul, Int.reduceNeg, Int.reduceToNat, Int.cast_ofNat_Int, Int.natCast_zero, Int.natCast_one, Int.toNat_natCast, Nat.reduceBEq, e1, List.map_append, Int.natCast_add]
  have c1 : ((i : Int) < (rs.length : Int)) = False := eq_false (by omega)
  have e0 : rs.take i = rs := List.take_of_length_le (by omega)
  simp only [shs, zts, sos, sls, zss, eqs, sx, sb1, sb2, sb3, sb4, sb5, sb6, ↓reduceIte, Nat.reduceAdd, Nat.reduceMul, Nat.reduceDiv, Nat.reduceEqDiff, Nat.reduceLT, Nat.reduceLeDiff, reduceCtorEq, Int.reduceEq, Int.reduceNe, Int.reduceLT, Int.reduceLE, Int.reduceAdd, Int.reduceSub, Int.reduceMul, Int.reduceNeg, Int.reduceToNat, Int.cast_ofNat_Int, Int.natCast_zero, Int.natCast_one, Int.toNat_natCast, Nat.reduceBEq, nzs, c1, e0]
  exact ⟨264, rfl, rfl⟩

theorem deleteT (es : List (List Value)) (i j : Nat) (M : Mem) (hij : i ≤ j) (hj : j ≤ es.length) (hb : es.length ≤ 1000000) :
    MeetsH Proofs.Try.prog 47 [.own 8000, .v (.int .i64 i), .v (.int .i64 j)] [(8000, .row 2 es)] M (OwnR (fun s => s) 2 (es.take i ++ es.drop j)) := by
  refine MeetsH.openRow (A := fun s => [s, .v (.int .i64 i), .v (.int .i64 j)]) 8000 (Ctxs.cons0 _ rfl) (fun he => ?_) (fun b cap sp h1 h2 h3 h4 => MeetsH.closeR Ctx.id (fun e he => ?_) ?_) ⟨_, Proofs.Try.func47, by kernel_rfl, by kernel_rfl⟩
  · subst he
    have e1 : i = 0 := by simp at hj; omega
    have e2 : j = 0 := by simpa using hj
    subst e1 e2
    refine MeetsH.closeR Ctx.id (fun e he => by cases he) ?_
    refine MeetsH.of_body [0,1,2,6,7,16] Proofs.Try.func47 rfl (by kernel_rfl) fun w M0 => ?_
    simp only [Proofs.Try.f47, shs, zts, sos, sls, zss, eqs, sx, sb1, sb2, sb3, sb4, sb5, sb6, ↓reduceIte, Nat.reduceAdd, Nat.reduceMul, Nat.reduceDiv, Nat.reduceEqDiff, Nat.reduceLT, Nat.reduceLeDiff, reduceCtorEq, Int.reduceEq, Int.reduceNe, Int.reduceLT, Int.reduceLE, Int.reduceAdd, Int.reduceSub, Int.reduceMul, Int.reduceNeg, Int.reduceToNat, Int.cast_ofNat_Int, Int.natCast_zero, Int.natCast_one, Int.toNat_natCast, Nat.reduceBEq, lenV, capV, isSl]
    exact .inr trivial
  · rcases List.mem_append.1 he with he | he
    · exact h4 e (List.mem_of_mem_take he)
    · exact h4 e (List.mem_of_mem_drop he)
  refine MeetsH.of_body [0,1,2,6,7,16] Proofs.Try.func47 rfl (by kernel_rfl) fun w M0 => ?_
  have hm : (cap : Int) ≤ 9223372036854775807 := by simp only [maxLen] at h2; omega
  by_cases h0 : i = j
  · subst h0
    have c1 : ((i : Int) = (i : Int)) = True := eq_true rfl
    simp only [Proofs.Try.f47, shs, zts, sos, sls, zss, eqs, sx, sb1, sb2, sb3, sb4, sb5, sb6, ↓reduceIte, Nat.reduceAdd, Nat.reduceMul, Nat.reduceDiv, Nat.reduceEqDiff, Nat.reduceLT, Nat.reduceLeDiff, reduceCtorEq, Int.reduceEq, Int.reduceNe, Int.reduceLT, Int.reduceLE, Int.reduceAdd, Int.reduceSub, Int.reduceMul, Int.reduceNeg, Int.reduceToNat, Int.cast_ofNat_Int, Int.natCast_zero, Int.natCast_one, Int.toNat_natCast, Nat.reduceBEq, lenV, capV, isSl, c1]
    exact ⟨⟨by omega, by omega, by omega⟩, .inl ⟨b, 8000, cap, sp, by simp, by rw [List.take_append_drop]; rfl, by simpa using h1, h2, by simpa using h3⟩⟩
  have c1 : ((i : Int) = (j : Int)) = False := eq_false (by omega)
  simp only [Proofs.Try.f47, shs, zts, sos, sls, zss, eqs, sx, sb1, sb2, sb3, sb4, sb5, sb6, ↓reduceIte, Nat.reduceAdd, Nat.reduceMul, Nat.reduceDiv, Nat.reduceEqDiff, Nat.reduceLT, Nat.reduceLeDiff, reduceCtorEq, Int.reduceEq, Int.reduceNe, Int.reduceLT, Int.reduceLE, Int.reduceAdd, Int.reduceSub, Int.reduceMul, Int.reduceNeg, Int.reduceToNat, Int.cast_ofNat_Int, Int.natCast_zero, Int.natCast_one, Int.toNat_natCast, Nat.reduceBEq, lenV, capV, isSl, c1]
  refine ⟨⟨by omega, by omega, by omega⟩, DrawK.tail 6 (by kernel_rfl) (by kernel_rfl) ?_⟩
  have hlen : ∀ e ∈ es, e.length = 2 := fun e he => (h4 e he).1
  have hfl := flatten_len hlen
  have hfd := flatten_len (fun e he => hlen e (List.mem_of_mem_drop (i := j) he))
  have hft := flatten_len (fun e he => hlen e (List.mem_of_mem_take (i := i) he))
  rw [List.length_drop] at hfd
  rw [List.length_take, Nat.min_eq_left (by omega)] at hft
  simp only [shs, zts, sos, sls, zss, eqs, sx, sb1, sb2, sb3, sb4, sb5, sb6, ↓reduceIte, Nat.reduceAdd, Nat.reduceMul, Nat.reduceDiv, Nat.reduceEqDiff, Nat.reduceLT, Nat.reduceLeDiff, reduceCtorEq, Int.reduceEq, Int.reduceNe, Int.reduceLT, Int.reduceLE, Int.reduceAdd, Int.reduceSub, Int.reduceMul, Int.reduceNeg, Int.reduceToNat, Int.cast_ofNat_Int, Int.natCast_zero, Int.natCast_one, Int.toNat_natCast, Nat.reduceBEq, lenV, capV, isSl, nzs, subV_open0, subV_open b es.length cap 2 j]
  refine ⟨by omega, ⟨by omega, by omega⟩, OpK.appIn (e2 := 24) (k := 8000) (cs := es.flatten ++ sp) (m := es.length - j) (news := (es.drop j).flatten) rfl rfl rfl sl22 (by kernel_rfl) rfl rfl rfl hfd (Reads.sub (k := 8000) (cs := es.flatten ++ sp) rfl fun q u hq => ?_) (fun u hu => ?_) (by omega) ?_ ?_⟩
  · by_cases hc : cap = j
    · rw [List.drop_of_length_le (by omega)] at hq
      simp at hq
    · rw [if_neg hc]
      exact get_of_drop (flat_drop hlen j).symm hq
  · obtain ⟨e, he, hu⟩ := List.mem_flatten.1 hu
    exact (h4 e (List.mem_of_mem_drop he)).2 u hu
  · rw [hfd, List.length_append, hfl]
    omega
  have hp : putV (es.flatten ++ sp) (0 + i * 2) (es.drop j).flatten = (es.take i ++ es.drop j).flatten ++ (es.flatten ++ sp).drop (i * 2 + (es.drop j).flatten.length) := by
    unfold putV
    rw [Nat.zero_add, List.take_append_of_le_length (by omega), flat_take hlen, List.flatten_append]
  have hl2 : (es.take i ++ es.drop j).length = i + (es.length - j) := by rw [List.length_append, List.length_take, List.length_drop, Nat.min_eq_left (by omega)]
  have hf2 : (es.take i ++ es.drop j).flatten.length = (i + (es.length - j)) * 2 := by rw [List.flatten_append, List.length_append, hft, hfd]; omega
  rw [hp]
  generalize hsp : (es.flatten ++ sp).drop (i * 2 + (es.drop j).flatten.length) = sp1
  have hsl : sp1.length = (cap - (i + (es.length - j))) * 2 := by rw [← hsp, List.length_drop, List.length_append, hfl, hfd]; omega
  generalize hes' : es.take i ++ es.drop j = es' at *
  simp only [shs, zts, sos, sls, zss, eqs, sx, sb1, sb2, sb3, sb4, sb5, sb6, ↓reduceIte, Nat.reduceAdd, Nat.reduceMul, Nat.reduceDiv, Nat.reduceEqDiff, Nat.reduceLT, Nat.reduceLeDiff, reduceCtorEq, Int.reduceEq, Int.reduceNe, Int.reduceLT, Int.reduceLE, Int.reduceAdd, Int.reduceSub, Int.reduceMul, Int.reduceNeg, Int.reduceToNat, Int.cast_ofNat_Int, Int.natCast_zero, Int.natCast_one, Int.toNat_natCast, Nat.reduceBEq, lenV, capV, isSl, nzs, subV_open]
  refine ⟨⟨by omega, by omega⟩, ⟨rfl, OpK.clearIn (k := 8000) rfl rfl sl22 rfl rfl rfl rfl ?_ ?_⟩⟩
  · rw [List.length_append, hf2]
    split <;> omega
  have hp2 : ∃ sp2 : List Value, sp2.length = sp1.length ∧ putV (es'.flatten ++ sp1) (if cap = i + (es.length - j) then 0 else (i + (es.length - j)) * 2) (List.replicate (es.length - (i + (es.length - j))) [Value.int IntKind.i64 0, Value.int IntKind.i64 0]).flatten = es'.flatten ++ sp2 := by
    by_cases hc : cap = i + (es.length - j)
    · have : es.length - (i + (es.length - j)) = 0 := by omega
      exact ⟨sp1, rfl, by rw [this, List.replicate_zero, List.flatten_nil, putV_nil]⟩
    · rw [if_neg hc, ← hf2, putV_keep]
      refine ⟨_, ?_, rfl⟩
      rw [List.length_append, List.length_drop, hsl]
      simp
      omega
  obtain ⟨sp2, hs2, hp2⟩ := hp2
  rw [hp2]
  simp only [shs, zts, sos, sls, zss, eqs, sx, sb1, sb2, sb3, sb4, sb5, sb6, ↓reduceIte, Nat.reduceAdd, Nat.reduceMul, Nat.reduceDiv, Nat.reduceEqDiff, Nat.reduceLT, Nat.reduceLeDiff, reduceCtorEq, Int.reduceEq, Int.reduceNe, Int.reduceLT, Int.reduceLE, Int.reduceAdd, Int.reduceSub, Int.reduceMul, Int.reduceNeg, Int.reduceToNat, Int.cast_ofNat_Int, Int.natCast_zero, Int.natCast_one, Int.toNat_natCast, Nat.reduceBEq, lenV, capV, isSl, nzs]
  exact .inl ⟨b, 8000, cap, sp2, by rw [hl2], rfl, by omega, h2, by rw [hs2, hsl, hl2]⟩

end Go.X.Sl
