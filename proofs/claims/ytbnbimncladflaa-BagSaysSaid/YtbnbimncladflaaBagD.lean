/- Bags: what bag.Drop and woolref.Less return. Conditions: none. -/
import Derived.Test.YtbnbimncladflaaBagP
set_option linter.unusedSimpArgs false
set_option linter.unusedVariables false
set_option maxHeartbeats 4000000
set_option maxRecDepth 20000
namespace Go.X.Bp
open Go Go.X Go.RowKit Go.X.Bg Go.X.Sb

def idIx (l : List It) (id : Id3) : Int := fidx (isId id) l 0
/-- one that is used once less -/
def lessL (l : List It) (i : Nat) : List It := if (atI l i).2.2.2 - 1 = 0 then l.take i ++ l.drop (i + 1) else setR l i ((atI l i).2.2.2 - 1)
def lessG (l : List It) (id : Id3) : List It × Int := if idIx l id < 0 then ([], 4) else (lessL l (idIx l id).toNat, 0)
def dropS (l : List It) (id : Id3) : List It × Int := if bagE l ≠ 0 then ([], bagE l) else lessG l id
theorem take_set_drop {α : Type} {l : List α} {i : Nat} (a : α) (h : i < l.length) : (l.set i a).take i ++ (l.set i a).drop (i + 1) = l.take i ++ l.drop (i + 1) := by
  rw [List.take_set_of_le (Nat.le_refl _), List.drop_set_of_lt (by omega)]
theorem drop (y : Value) (l : List It) (id : Id3) (M : Mem) (hy : RowM M y 4 (l.map Bg.encT)) :
    Meets Proofs.Try.prog 26 [.v y, idS id] M (OwnR (fun s => .tup [s, .v (.int .i64 (dropS l id).2)]) 4 ((dropS l id).1.map Bg.encT)) := by
  refine Meets.nilOr (Ctx.fst _) ?_
  refine Meets.of_body [0,1,3,4,5,6,7,8,12,18,34] Proofs.Try.func26 rfl (by kernel_rfl) rfl fun w => ?_
  generalize hc : dropS l id = c
  unfold dropS at hc
  have hC := check y l M hy
  have hF := Bg.find y l id M hy
  simp only [idV] at hF
  simp only [Proofs.Try.f26, idS, shs, zts, sos, sls, zss, eqs, sx, sb1, sb2, sb3, sb4, sb5, sb6, sb7, ↓reduceIte, Nat.reduceAdd, Nat.reduceMul, Nat.reduceDiv, Nat.reduceEqDiff, Nat.reduceLT, Nat.reduceLeDiff, reduceCtorEq, Int.reduceEq, Int.reduceNe, Int.reduceLT, Int.reduceLE, Int.reduceAdd, Int.reduceSub, Int.reduceMul, Int.reduceNeg, Int.reduceToNat, Int.cast_ofNat_Int, Int.natCast_zero, Int.natCast_one, Int.toNat_natCast, Nat.reduceBEq, nzs]
  refine CallK.pure ⟨rfl, rfl⟩ rfl hC ?_
  by_cases h1 : bagE l = 0
  rotate_left
  · have c1 := eq_false h1
    rw [if_pos h1] at hc
    subst hc
    simp only [shs, zts, sos, sls, zss, eqs, sx, sb1, sb2, sb3, sb4, sb5, sb6, sb7, ↓reduceIte, Nat.reduceAdd, Nat.reduceMul, Nat.reduceDiv, Nat.reduceEqDiff, Nat.reduceLT, Nat.reduceLeDiff, reduceCtorEq, Int.reduceEq, Int.reduceNe, Int.reduceLT, Int.reduceLE, Int.reduceAdd, Int.reduceSub, Int.reduceMul, Int.reduceNeg, Int.reduceToNat, Int.cast_ofNat_Int, Int.natCast_zero, Int.natCast_one, Int.toNat_natCast, Nat.reduceBEq, nzs, c1]
  rw [if_neg (fun h => h h1)] at hc
  unfold lessG at hc
  have hl64 := bag_len h1
  simp only [shs, zts, sos, sls, zss, eqs, sx, sb1, sb2, sb3, sb4, sb5, sb6, sb7, ↓reduceIte, Nat.reduceAdd, Nat.reduceMul, Nat.reduceDiv, Nat.reduceEqDiff, Nat.reduceLT, Nat.reduceLeDiff, reduceCtorEq, Int.reduceEq, Int.reduceNe, Int.reduceLT, Int.reduceLE, Int.reduceAdd, Int.reduceSub, Int.reduceMul, Int.reduceNeg, Int.reduceToNat, Int.cast_ofNat_Int, Int.natCast_zero, Int.natCast_one, Int.toNat_natCast, Nat.reduceBEq, nzs, h1]
  refine CallK.pure ⟨rfl, rfl⟩ rfl hF ?_
  rw [show fidx (isId id) l 0 = idIx l id from rfl]
  rcases fidx_sp (isId id) l 0 with ⟨k1, _⟩ | ⟨j, x, k1, k2, k3, _⟩
  · replace k1 : idIx l id = -1 := k1
    rw [k1, if_pos (by decide)] at hc
    subst hc
    rw [k1]
    simp only [shs, zts, sos, sls, zss, eqs, sx, sb1, sb2, sb3, sb4, sb5, sb6, sb7, ↓reduceIte, Nat.reduceAdd, Nat.reduceMul, Nat.reduceDiv, Nat.reduceEqDiff, Nat.reduceLT, Nat.reduceLeDiff, reduceCtorEq, Int.reduceEq, Int.reduceNe, Int.reduceLT, Int.reduceLE, Int.reduceAdd, Int.reduceSub, Int.reduceMul, Int.reduceNeg, Int.reduceToNat, Int.cast_ofNat_Int, Int.natCast_zero, Int.natCast_one, Int.toNat_natCast, Nat.reduceBEq, nzs]
  rw [Nat.zero_add] at k1
  replace k1 : idIx l id = (j : Int) := k1
  have hjl := (List.getElem?_eq_some_iff.1 k2).1
  rw [k1, if_neg (by omega), Int.toNat_natCast] at hc
  unfold lessL at hc
  rw [atI_at k2] at hc
  rw [k1]
  have c3 : ((j : Int) < 0) = False := eq_false (by omega)
  have hg := getD_it k2
  have hset := setR_map k2 (x.2.2.2 - 1)
  have hg2 := getD_it (setR_at k2 (x.2.2.2 - 1))
  have hln := setR_len l j (x.2.2.2 - 1)
  have hrf := (oneE_ok (bag_ok h1 x (List.mem_of_getElem? k2))).2.2
  simp only [shs, zts, sos, sls, zss, eqs, sx, sb1, sb2, sb3, sb4, sb5, sb6, sb7, ↓reduceIte, Nat.reduceAdd, Nat.reduceMul, Nat.reduceDiv, Nat.reduceEqDiff, Nat.reduceLT, Nat.reduceLeDiff, reduceCtorEq, Int.reduceEq, Int.reduceNe, Int.reduceLT, Int.reduceLE, Int.reduceAdd, Int.reduceSub, Int.reduceMul, Int.reduceNeg, Int.reduceToNat, Int.cast_ofNat_Int, Int.natCast_zero, Int.natCast_one, Int.toNat_natCast, Nat.reduceBEq, nzs, c3]
  refine CallK.own Ctx.id rfl rfl (cloneB y l M hy (by omega)) rfl fun M1 hM1 => ?_
  by_cases h3 : x.2.2.2 - 1 = 0
  · have c4 := eq_true h3
    rw [if_pos h3] at hc
    subst hc
    simp only [shs, zts, sos, sls, zss, eqs, sx, sb1, sb2, sb3, sb4, sb5, sb6, sb7, ↓reduceIte, Nat.reduceAdd, Nat.reduceMul, Nat.reduceDiv, Nat.reduceEqDiff, Nat.reduceLT, Nat.reduceLeDiff, reduceCtorEq, Int.reduceEq, Int.reduceNe, Int.reduceLT, Int.reduceLE, Int.reduceAdd, Int.reduceSub, Int.reduceMul, Int.reduceNeg, Int.reduceToNat, Int.cast_ofNat_Int, Int.natCast_zero, Int.natCast_one, Int.toNat_natCast, Nat.reduceBEq, nzs, c4, hg, hg2, hln, hset, List.getD_cons_zero, List.getD_cons_succ, List.length_map, inK, lo, hi]
    refine ⟨⟨by omega, by omega⟩, hjl, ⟨by omega, by omega⟩, ⟨by omega, by omega⟩, hjl, ⟨by omega, by omega⟩, hjl, ⟨by omega, by omega⟩, ?_⟩
    refine CallK.lendR (A := fun s => [s, .v (.int .i64 j), .v (.int .i64 (j + 1 : Nat))]) 160 (Ctxs.cons0 _ rfl) Ctx.id rfl rfl rfl (fun M6 h6 => deleteB ((setR l j (x.2.2.2 - 1)).map Bg.encT) j (j + 1) M6 (by omega) (by rw [List.length_map, hln]; omega) (by rw [List.length_map, hln]; omega)) rfl ?_
    simp only [shs, zts, sos, sls, zss, eqs, sx, sb1, sb2, sb3, sb4, sb5, sb6, sb7, ↓reduceIte, Nat.reduceAdd, Nat.reduceMul, Nat.reduceDiv, Nat.reduceEqDiff, Nat.reduceLT, Nat.reduceLeDiff, reduceCtorEq, Int.reduceEq, Int.reduceNe, Int.reduceLT, Int.reduceLE, Int.reduceAdd, Int.reduceSub, Int.reduceMul, Int.reduceNeg, Int.reduceToNat, Int.cast_ofNat_Int, Int.natCast_zero, Int.natCast_one, Int.toNat_natCast, Nat.reduceBEq, nzs]
    refine .inr ⟨312, rfl, ?_⟩
    have e := take_set_drop (x.1, x.2.1, x.2.2.1, x.2.2.2 - 1) hjl
    have e2 : setR l j (x.2.2.2 - 1) = l.set j (x.1, x.2.1, x.2.2.1, x.2.2.2 - 1) := by unfold setR; rw [atI_at k2]
    rw [← e, ← e2, List.map_append, List.map_take, List.map_drop]
    rfl
  · have c4 := eq_false h3
    rw [if_neg h3] at hc
    subst hc
    simp only [shs, zts, sos, sls, zss, eqs, sx, sb1, sb2, sb3, sb4, sb5, sb6, sb7, ↓reduceIte, Nat.reduceAdd, Nat.reduceMul, Nat.reduceDiv, Nat.reduceEqDiff, Nat.reduceLT, Nat.reduceLeDiff, reduceCtorEq, Int.reduceEq, Int.reduceNe, Int.reduceLT, Int.reduceLE, Int.reduceAdd, Int.reduceSub, Int.reduceMul, Int.reduceNeg, Int.reduceToNat, Int.cast_ofNat_Int, Int.natCast_zero, Int.natCast_one, Int.toNat_natCast, Nat.reduceBEq, nzs, c4, hg, hg2, hln, hset, List.getD_cons_zero, List.getD_cons_succ, List.length_map, inK, lo, hi]
    exact ⟨⟨by omega, by omega⟩, hjl, ⟨by omega, by omega⟩, ⟨by omega, by omega⟩, hjl, ⟨by omega, by omega⟩, hjl, .inr ⟨160, rfl, rfl⟩⟩
theorem filter_less {l : List It} (h : ∀ x ∈ l, 1 ≤ x.2.2.2) {j : Nat} {x : It} (hx : l[j]? = some x) :
    ((setR l j (x.2.2.2 - 1)).filter fun x => !decide (x.2.2.2 = 0)) = lessL l j := by
  have hjl := (List.getElem?_eq_some_iff.1 hx).1
  have hall : ∀ m : List It, (∀ x ∈ m, 1 ≤ x.2.2.2) → (m.filter fun x => !decide (x.2.2.2 = 0)) = m := fun m hm => List.filter_eq_self.2 fun x hx => by
    have := hm x hx
    rw [decide_eq_false (by omega)]; rfl
  unfold lessL setR
  rw [atI_at hx]
  rw [List.set_eq_take_append_cons_drop, if_pos hjl, List.filter_append, List.filter_cons, hall _ (fun y hy => h y (List.mem_of_mem_take hy)), hall _ (fun y hy => h y (List.mem_of_mem_drop hy))]
  by_cases h3 : x.2.2.2 - 1 = 0
  · rw [if_pos h3, if_neg (by rw [decide_eq_true h3]; decide)]
  · rw [if_neg h3, if_pos (by rw [decide_eq_false h3]; rfl)]
theorem lessC (x : It) (M : Mem) : Meets Proofs.Try.prog 73 [itV x] M fun r _ _ => r = .v (.bool (decide (x.2.2.2 = 0))) := by
  refine Meets.of_body [0,1,2] Proofs.Try.func73 rfl (by kernel_rfl) rfl fun w => ?_
  simp only [Proofs.Try.f73, itV, shs, zts, sos, sls, zss, eqs, sx, sb1, sb2, sb3, sb4, sb5, sb6, sb7, ↓reduceIte, Nat.reduceAdd, Nat.reduceMul, Nat.reduceDiv, Nat.reduceEqDiff, Nat.reduceLT, Nat.reduceLeDiff, reduceCtorEq, Int.reduceEq, Int.reduceNe, Int.reduceLT, Int.reduceLE, Int.reduceAdd, Int.reduceSub, Int.reduceMul, Int.reduceNeg, Int.reduceToNat, Int.cast_ofNat_Int, Int.natCast_zero, Int.natCast_one, Int.toNat_natCast, Nat.reduceBEq, nzs]
theorem rless (y : Value) (l : List It) (id : Id3) (M : Mem) (hy : RowM M y 4 (l.map Bg.encT)) (h1 : bagE l = 0) :
    Meets Proofs.Try.prog 31 [.v y, idS id] M (OwnR (fun s => .tup [s, .v (.int .i64 (lessG l id).2)]) 4 ((lessG l id).1.map Bg.encT)) := by
  refine Meets.nilOr (Ctx.fst _) ?_
  refine Meets.of_body [0,1,3,4,5,6,7,12] Proofs.Try.func31 rfl (by kernel_rfl) rfl fun w => ?_
  generalize hc : lessG l id = c
  unfold lessG at hc
  have hF := Bg.item y l id M hy
  simp only [idV] at hF
  have hl64 := bag_len h1
  simp only [Proofs.Try.f31, idS, shs, zts, sos, sls, zss, eqs, sx, sb1, sb2, sb3, sb4, sb5, sb6, sb7, ↓reduceIte, Nat.reduceAdd, Nat.reduceMul, Nat.reduceDiv, Nat.reduceEqDiff, Nat.reduceLT, Nat.reduceLeDiff, reduceCtorEq, Int.reduceEq, Int.reduceNe, Int.reduceLT, Int.reduceLE, Int.reduceAdd, Int.reduceSub, Int.reduceMul, Int.reduceNeg, Int.reduceToNat, Int.cast_ofNat_Int, Int.natCast_zero, Int.natCast_one, Int.toNat_natCast, Nat.reduceBEq, nzs]
  refine CallK.pure ⟨rfl, rfl⟩ rfl hF ?_
  rw [show fidx (isId id) l 0 = idIx l id from rfl]
  rcases fidx_sp (isId id) l 0 with ⟨k1, _⟩ | ⟨j, x, k1, k2, k3, _⟩
  · replace k1 : idIx l id = -1 := k1
    rw [k1, if_pos (by decide)] at hc
    subst hc
    rw [k1]
    simp only [shs, zts, sos, sls, zss, eqs, sx, sb1, sb2, sb3, sb4, sb5, sb6, sb7, ↓reduceIte, Nat.reduceAdd, Nat.reduceMul, Nat.reduceDiv, Nat.reduceEqDiff, Nat.reduceLT, Nat.reduceLeDiff, reduceCtorEq, Int.reduceEq, Int.reduceNe, Int.reduceLT, Int.reduceLE, Int.reduceAdd, Int.reduceSub, Int.reduceMul, Int.reduceNeg, Int.reduceToNat, Int.cast_ofNat_Int, Int.natCast_zero, Int.natCast_one, Int.toNat_natCast, Nat.reduceBEq, nzs]
  rw [Nat.zero_add] at k1
  replace k1 : idIx l id = (j : Int) := k1
  have hjl := (List.getElem?_eq_some_iff.1 k2).1
  rw [k1, if_neg (by omega), Int.toNat_natCast] at hc
  rw [k1]
  subst hc
  have c3 : ((j : Int) < 0) = False := eq_false (by omega)
  have hg := getD_it k2
  have hset := setR_map k2 (x.2.2.2 - 1)
  have hg2 := getD_it (setR_at k2 (x.2.2.2 - 1))
  have hln := setR_len l j (x.2.2.2 - 1)
  have hrf := (oneE_ok (bag_ok h1 x (List.mem_of_getElem? k2))).2.2
  have hfl := filter_less (fun z hz => (oneE_ok (bag_ok h1 z hz)).2.2.1) k2
  simp only [shs, zts, sos, sls, zss, eqs, sx, sb1, sb2, sb3, sb4, sb5, sb6, sb7, ↓reduceIte, Nat.reduceAdd, Nat.reduceMul, Nat.reduceDiv, Nat.reduceEqDiff, Nat.reduceLT, Nat.reduceLeDiff, reduceCtorEq, Int.reduceEq, Int.reduceNe, Int.reduceLT, Int.reduceLE, Int.reduceAdd, Int.reduceSub, Int.reduceMul, Int.reduceNeg, Int.reduceToNat, Int.cast_ofNat_Int, Int.natCast_zero, Int.natCast_one, Int.toNat_natCast, Nat.reduceBEq, nzs, c3]
  refine CallK.own Ctx.id rfl rfl (cloneB y l M hy (by omega)) rfl fun M1 hM1 => ?_
  simp only [shs, zts, sos, sls, zss, eqs, sx, sb1, sb2, sb3, sb4, sb5, sb6, sb7, ↓reduceIte, Nat.reduceAdd, Nat.reduceMul, Nat.reduceDiv, Nat.reduceEqDiff, Nat.reduceLT, Nat.reduceLeDiff, reduceCtorEq, Int.reduceEq, Int.reduceNe, Int.reduceLT, Int.reduceLE, Int.reduceAdd, Int.reduceSub, Int.reduceMul, Int.reduceNeg, Int.reduceToNat, Int.cast_ofNat_Int, Int.natCast_zero, Int.natCast_one, Int.toNat_natCast, Nat.reduceBEq, nzs, hg, hset, List.getD_cons_zero, List.getD_cons_succ, List.length_map, inK, lo, hi]
  refine ⟨⟨by omega, by omega⟩, hjl, ⟨by omega, by omega⟩, ⟨by omega, by omega⟩, hjl, ?_⟩
  refine CallK.lendR (A := fun s => [s, .fn 73 []]) 112 (Ctxs.cons0 _ rfl) Ctx.id rfl rfl rfl (fun M6 h6 => delfB (α := It) (fun x => .int .i64 x.1) (fun x => .int .i64 x.2.1) (fun x => .string ⟨x.2.2.1.toArray⟩) (fun x => .int .i64 x.2.2.2) (fun x => decide (x.2.2.2 = 0)) _ (setR l j (x.2.2.2 - 1)) M6 (by rw [hln]; omega) (fun _ _ => ⟨rfl, rfl, rfl, rfl⟩) (fun M7 _ z _ => lessC z M7)) rfl ?_
  rw [hfl]
  simp only [shs, zts, sos, sls, zss, eqs, sx, sb1, sb2, sb3, sb4, sb5, sb6, sb7, ↓reduceIte, Nat.reduceAdd, Nat.reduceMul, Nat.reduceDiv, Nat.reduceEqDiff, Nat.reduceLT, Nat.reduceLeDiff, reduceCtorEq, Int.reduceEq, Int.reduceNe, Int.reduceLT, Int.reduceLE, Int.reduceAdd, Int.reduceSub, Int.reduceMul, Int.reduceNeg, Int.reduceToNat, Int.cast_ofNat_Int, Int.natCast_zero, Int.natCast_one, Int.toNat_natCast, Nat.reduceBEq, nzs]
  refine .inr ⟨192, rfl, ?_⟩
  rfl
end Go.X.Bp
