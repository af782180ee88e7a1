/- Segments: what seg.Check, woolref.Segs and the sizes are. Conditions: none. -/
import Derived.Test.YtoohifeidifocaaFwG
import Derived.Test.YtoohifeidifocaaMg4
set_option linter.unusedSimpArgs false
set_option linter.unusedVariables false
set_option maxHeartbeats 4000000
set_option maxRecDepth 20000
namespace Go.X.Sg
open Go Go.X

abbrev Rc := (Bool × Int × Int) × List UInt8
def encR (r : Rc) : List Value := [.bool r.1.1, .int .i64 r.1.2.1, .int .i64 r.1.2.2, .string ⟨r.2.toArray⟩]
def recV (r : Rc) : SV := .agg [.v (.bool r.1.1), .v (.int .i64 r.1.2.1), .v (.int .i64 r.1.2.2), .v (.string ⟨r.2.toArray⟩)]
def encV (p : Value × List Rc) : List Value := [p.1]
def SegM (M : Mem) (ps : List (Value × List Rc)) : Prop := ∀ p ∈ ps, RowM M p.1 4 (p.2.map encR)
theorem SegM.le {M M' : Mem} {ps : List (Value × List Rc)} (h : SegM M ps) (hle : M.le M') : SegM M' ps := fun p hp => (h p hp).le hle
def okS (l : List Rc) : Prop := l.length ≤ 140737488351232 ∧ ∀ r ∈ l, r.2.length ≤ 140737488351232
def sizeR (r : Rc) : Nat := 8 + r.2.length
def fullR (l : List Rc) : Nat := (l.map sizeR).sum
theorem fullR_cons (r : Rc) (l : List Rc) : fullR (r :: l) = sizeR r + fullR l := rfl
theorem fullR_app (l l' : List Rc) : fullR (l ++ l') = fullR l + fullR l' := by unfold fullR; rw [List.map_append, List.sum_append]
theorem i64I {x : Int} (h : -9223372036854775808 ≤ x ∧ x ≤ 9223372036854775807) : inK .i64 x := h
/-- the four cells of a record that lies in a known row -/
theorem rec_at {M : Mem} {v : Value} {l : List Rc} {i : Nat} {r : Rc} (h : RowM M v 4 (l.map encR)) (hx : l[i]? = some r) :
    ((elE M v 4 i 0 = .bool r.1.1 ∧ okE M v 4 i 0) ∧ (elE M v 4 i 1 = .int .i64 r.1.2.1 ∧ okE M v 4 i 1)) ∧ ((elE M v 4 i 2 = .int .i64 r.1.2.2 ∧ okE M v 4 i 2) ∧ (elE M v 4 i 3 = .string ⟨r.2.toArray⟩ ∧ okE M v 4 i 3)) ∧ ixOk v (i : Int) := by
  have he : (l.map encR)[i]? = some (encR r) := by rw [List.getElem?_map, hx]; rfl
  have g0 := h.cell he (off := 0) (by omega)
  have g1 := h.cell he (off := 1) (by omega)
  have g2 := h.cell he (off := 2) (by omega)
  have g3 := h.cell he (off := 3) (by omega)
  have hil := (List.getElem?_eq_some_iff.1 hx).1
  exact ⟨⟨⟨g0.1, g0.2.1⟩, g1.1, g1.2.1⟩, ⟨⟨g2.1, g2.2.1⟩, g3.1, g3.2.1⟩, h.ix (by omega) (by rw [List.length_map]; omega)⟩

theorem size (r : Rc) (M : Mem) (h : r.2.length ≤ 140737488351232) : Meets Proofs.Try.prog 33 [recV r] M fun r' _ _ => r' = .v (.int .i64 (sizeR r : Int)) := by
  refine Meets.of_body [0,1,2] Proofs.Try.func33 rfl (by kernel_rfl) rfl fun w => ?_
  have i1 : inK .i64 (8 + (r.2.length : Int)) := i64I (by omega)
  simp only [Proofs.Try.f33, recV, shs, zts, sos, sls, zss, eqs, sx, sb1, sb2, sb3, sb4, sb5, sb6, sb7, ↓reduceIte, Nat.reduceAdd, Nat.reduceMul, Nat.reduceDiv, Nat.reduceEqDiff, Nat.reduceLT, Nat.reduceLeDiff, reduceCtorEq, Int.reduceEq, Int.reduceNe, Int.reduceLT, Int.reduceLE, Int.reduceAdd, Int.reduceSub, Int.reduceMul, Int.reduceNeg, Int.reduceToNat, Int.cast_ofNat_Int, Int.natCast_zero, Int.natCast_one, Int.toNat_natCast, Nat.reduceBEq, nzs, i1, sizeR]
  rw [Int.natCast_add]
  rfl
theorem full_le : ∀ {l : List Rc}, (∀ r ∈ l, r.2.length ≤ 64) → fullR l ≤ 72 * l.length
  | [], _ => Nat.le_refl _
  | r :: l, h => by
    have h1 := full_le (l := l) (fun x hx => h x (List.mem_cons_of_mem _ hx))
    have h2 := h r List.mem_cons_self
    rw [fullR_cons, List.length_cons, sizeR]
    omega
theorem full (y : Value) (l : List Rc) (M : Mem) (hy : RowM M y 4 (l.map encR)) (hl : l.length ≤ 140737488351232) (h64 : ∀ r ∈ l, r.2.length ≤ 64) :
    Meets Proofs.Try.prog 35 [.v y] M fun r' _ _ => r' = .v (.int .i64 (fullR l : Int)) := by
  refine Meets.of_body [0,2,3,5,6,7,8,9] Proofs.Try.func35 rfl (by kernel_rfl) rfl fun w => ?_
  generalize hc : fullR l = c
  simp only [Proofs.Try.f35, shs, zts, sos, sls, zss, eqs, sx, sb1, sb2, sb3, sb4, sb5, sb6, sb7, ↓reduceIte, Nat.reduceAdd, Nat.reduceMul, Nat.reduceDiv, Nat.reduceEqDiff, Nat.reduceLT, Nat.reduceLeDiff, reduceCtorEq, Int.reduceEq, Int.reduceNe, Int.reduceLT, Int.reduceLE, Int.reduceAdd, Int.reduceSub, Int.reduceMul, Int.reduceNeg, Int.reduceToNat, Int.cast_ofNat_Int, Int.natCast_zero, Int.natCast_one, Int.toNat_natCast, Nat.reduceBEq, nzs, hy.len, hy.sl, List.length_map]
  refine LoopK.go (X := Nat × Nat × Nat) (fun x => ([(3, true, .v (.int .i64 (x.2.2 : Int))), (6, true, .v y), (7, true, .v (.int .i64 l.length)), (8, true, .v (.int .i64 x.2.1))], [], M))
    (fun x => (x.1 + x.2.1 = l.length ∧ x.2.2 ≤ 72 * x.2.1) ∧ x.2.2 + fullR (l.drop x.2.1) = c) (fun x => x.1) (l.length, 0, 0) ⟨⟨rfl, Nat.le_refl _⟩, by simpa using hc⟩ (Ent.of ?_) ?_
  · simp only [sx, sb1, sb2, sb3, sb4, sb5, sb6, sb7, ↓reduceIte, Nat.reduceAdd, Nat.reduceMul, Nat.reduceDiv, Nat.reduceEqDiff, Nat.reduceLT, Nat.reduceLeDiff, reduceCtorEq, Int.reduceEq, Int.reduceNe, Int.reduceLT, Int.reduceLE, Int.reduceAdd, Int.reduceSub, Int.reduceMul, Int.reduceNeg, Int.reduceToNat, Int.cast_ofNat_Int, Int.natCast_zero, Int.natCast_one, Int.toNat_natCast, Nat.reduceBEq]
  rintro ⟨f, i, n⟩ ⟨⟨h1, h3⟩, h2⟩
  simp only at h1 h2 h3
  by_cases hil : i < l.length
  · have c1 : ((i : Int) < (l.length : Int)) = True := eq_true (by omega)
    obtain ⟨r, hx, hd⟩ := l_drop_at (l := l) (i := i) hil
    obtain ⟨⟨⟨g0, o0⟩, g1, o1⟩, ⟨⟨g2, o2⟩, g3, o3⟩, ix⟩ := rec_at hy hx
    have hr := h64 r (List.mem_of_getElem? hx)
    rw [hd, fullR_cons] at h2
    simp only [shs, zts, sos, sls, zss, eqs, sx, sb1, sb2, sb3, sb4, sb5, sb6, sb7, ↓reduceIte, Nat.reduceAdd, Nat.reduceMul, Nat.reduceDiv, Nat.reduceEqDiff, Nat.reduceLT, Nat.reduceLeDiff, reduceCtorEq, Int.reduceEq, Int.reduceNe, Int.reduceLT, Int.reduceLE, Int.reduceAdd, Int.reduceSub, Int.reduceMul, Int.reduceNeg, Int.reduceToNat, Int.cast_ofNat_Int, Int.natCast_zero, Int.natCast_one, Int.toNat_natCast, Nat.reduceBEq, nzs, c1, g0, g1, g2, g3, o0, o1, o2, o3, ix, ix.2, one_int, one_bool, one_string]
    refine CallK.pure ⟨rfl, rfl⟩ rfl (size r M (by omega)) ?_
    have hs : sizeR r ≤ 72 := by unfold sizeR; omega
    have i1 : inK .i64 ((n : Int) + (sizeR r : Int)) := i64I (by omega)
    have i2 : inK .i64 ((i : Int) + 1) := i64I (by omega)
    simp only [shs, zts, sos, sls, zss, eqs, sx, sb1, sb2, sb3, sb4, sb5, sb6, sb7, ↓reduceIte, Nat.reduceAdd, Nat.reduceMul, Nat.reduceDiv, Nat.reduceEqDiff, Nat.reduceLT, Nat.reduceLeDiff, reduceCtorEq, Int.reduceEq, Int.reduceNe, Int.reduceLT, Int.reduceLE, Int.reduceAdd, Int.reduceSub, Int.reduceMul, Int.reduceNeg, Int.reduceToNat, Int.cast_ofNat_Int, Int.natCast_zero, Int.natCast_one, Int.toNat_natCast, Nat.reduceBEq, nzs, i1, i2]
    refine ⟨(f - 1, i + 1, n + sizeR r), ⟨⟨⟨by simp only; omega, by simp only; omega⟩, by simp only; omega⟩, by simp only; omega⟩, Ent.of ?_⟩
    simp only [sx, sb1, sb2, sb3, sb4, sb5, sb6, sb7, ↓reduceIte, Nat.reduceAdd, Nat.reduceMul, Nat.reduceDiv, Nat.reduceEqDiff, Nat.reduceLT, Nat.reduceLeDiff, reduceCtorEq, Int.reduceEq, Int.reduceNe, Int.reduceLT, Int.reduceLE, Int.reduceAdd, Int.reduceSub, Int.reduceMul, Int.reduceNeg, Int.reduceToNat, Int.cast_ofNat_Int, Int.natCast_zero, Int.natCast_one, Int.toNat_natCast, Nat.reduceBEq, Int.natCast_add]
  · have c1 : ((i : Int) < (l.length : Int)) = False := eq_false (by omega)
    have hd : l.drop i = [] := List.drop_eq_nil_of_le (by omega)
    rw [hd] at h2
    have : n = c := by simpa [fullR] using h2
    subst this
    simp only [shs, zts, sos, sls, zss, eqs, sx, sb1, sb2, sb3, sb4, sb5, sb6, sb7, ↓reduceIte, Nat.reduceAdd, Nat.reduceMul, Nat.reduceDiv, Nat.reduceEqDiff, Nat.reduceLT, Nat.reduceLeDiff, reduceCtorEq, Int.reduceEq, Int.reduceNe, Int.reduceLT, Int.reduceLE, Int.reduceAdd, Int.reduceSub, Int.reduceMul, Int.reduceNeg, Int.reduceToNat, Int.cast_ofNat_Int, Int.natCast_zero, Int.natCast_one, Int.toNat_natCast, Nat.reduceBEq, c1]
theorem takes_sum : ∀ (l : List Rc), fullR l = 8 * l.length + (l.map (·.2.length)).sum
  | [] => rfl
  | r :: l => by
    rw [fullR_cons, takes_sum l, sizeR, List.map_cons, List.sum_cons, List.length_cons]
    omega
theorem takes (y : Value) (l : List Rc) (M : Mem) (hy : RowM M y 4 (l.map encR)) (hl : l.length ≤ 140737488351232) (h64 : ∀ r ∈ l, r.2.length ≤ 64) :
    Meets Proofs.Try.prog 9 [.v y] M fun r' _ _ => r' = .v (.int .i64 (fullR l : Int)) := by
  refine Meets.of_body [0,2,3,5,9,10,11,12] Proofs.Try.func9 rfl (by kernel_rfl) rfl fun w => ?_
  generalize hc : fullR l = c
  rw [takes_sum] at hc
  have i0 : inK .i64 (8 * (l.length : Int)) := i64I (by omega)
  simp only [Proofs.Try.f9, shs, zts, sos, sls, zss, eqs, sx, sb1, sb2, sb3, sb4, sb5, sb6, sb7, ↓reduceIte, Nat.reduceAdd, Nat.reduceMul, Nat.reduceDiv, Nat.reduceEqDiff, Nat.reduceLT, Nat.reduceLeDiff, reduceCtorEq, Int.reduceEq, Int.reduceNe, Int.reduceLT, Int.reduceLE, Int.reduceAdd, Int.reduceSub, Int.reduceMul, Int.reduceNeg, Int.reduceToNat, Int.cast_ofNat_Int, Int.natCast_zero, Int.natCast_one, Int.toNat_natCast, Nat.reduceBEq, nzs, hy.len, hy.sl, List.length_map, i0]
  refine LoopK.go (X := Nat × Nat × Nat) (fun x => ([(3, true, .v (.int .i64 (x.2.2 : Int))), (9, true, .v y), (10, true, .v (.int .i64 l.length)), (11, true, .v (.int .i64 x.2.1))], [], M))
    (fun x => (x.1 + x.2.1 = l.length ∧ x.2.2 ≤ 8 * l.length + 64 * x.2.1) ∧ x.2.2 + ((l.drop x.2.1).map (·.2.length)).sum = c) (fun x => x.1) (l.length, 0, 8 * l.length) ⟨⟨rfl, by simp⟩, by simpa using hc⟩ (Ent.of ?_) ?_
  · simp only [sx, sb1, sb2, sb3, sb4, sb5, sb6, sb7, ↓reduceIte, Nat.reduceAdd, Nat.reduceMul, Nat.reduceDiv, Nat.reduceEqDiff, Nat.reduceLT, Nat.reduceLeDiff, reduceCtorEq, Int.reduceEq, Int.reduceNe, Int.reduceLT, Int.reduceLE, Int.reduceAdd, Int.reduceSub, Int.reduceMul, Int.reduceNeg, Int.reduceToNat, Int.cast_ofNat_Int, Int.natCast_zero, Int.natCast_one, Int.toNat_natCast, Nat.reduceBEq, Int.natCast_mul]
  rintro ⟨f, i, n⟩ ⟨⟨h1, h3⟩, h2⟩
  simp only at h1 h2 h3
  by_cases hil : i < l.length
  · have c1 : ((i : Int) < (l.length : Int)) = True := eq_true (by omega)
    obtain ⟨r, hx, hd⟩ := l_drop_at (l := l) (i := i) hil
    obtain ⟨⟨⟨g0, o0⟩, g1, o1⟩, ⟨⟨g2, o2⟩, g3, o3⟩, ix⟩ := rec_at hy hx
    have hr := h64 r (List.mem_of_getElem? hx)
    rw [hd, List.map_cons, List.sum_cons] at h2
    have i1 : inK .i64 ((n : Int) + (r.2.length : Int)) := i64I (by omega)
    have i2 : inK .i64 ((i : Int) + 1) := i64I (by omega)
    simp only [shs, zts, sos, sls, zss, eqs, sx, sb1, sb2, sb3, sb4, sb5, sb6, sb7, ↓reduceIte, Nat.reduceAdd, Nat.reduceMul, Nat.reduceDiv, Nat.reduceEqDiff, Nat.reduceLT, Nat.reduceLeDiff, reduceCtorEq, Int.reduceEq, Int.reduceNe, Int.reduceLT, Int.reduceLE, Int.reduceAdd, Int.reduceSub, Int.reduceMul, Int.reduceNeg, Int.reduceToNat, Int.cast_ofNat_Int, Int.natCast_zero, Int.natCast_one, Int.toNat_natCast, Nat.reduceBEq, nzs, c1, g0, g1, g2, g3, o0, o1, o2, o3, ix, ix.2, one_int, one_bool, one_string, i1, i2]
    refine ⟨(f - 1, i + 1, n + r.2.length), ⟨⟨⟨by simp only; omega, by simp only; omega⟩, by simp only; omega⟩, by simp only; omega⟩, Ent.of ?_⟩
    simp only [sx, sb1, sb2, sb3, sb4, sb5, sb6, sb7, ↓reduceIte, Nat.reduceAdd, Nat.reduceMul, Nat.reduceDiv, Nat.reduceEqDiff, Nat.reduceLT, Nat.reduceLeDiff, reduceCtorEq, Int.reduceEq, Int.reduceNe, Int.reduceLT, Int.reduceLE, Int.reduceAdd, Int.reduceSub, Int.reduceMul, Int.reduceNeg, Int.reduceToNat, Int.cast_ofNat_Int, Int.natCast_zero, Int.natCast_one, Int.toNat_natCast, Nat.reduceBEq, Int.natCast_add]
  · have c1 : ((i : Int) < (l.length : Int)) = False := eq_false (by omega)
    have hd : l.drop i = [] := List.drop_eq_nil_of_le (by omega)
    rw [hd] at h2
    have : n = c := by simpa using h2
    subst this
    simp only [shs, zts, sos, sls, zss, eqs, sx, sb1, sb2, sb3, sb4, sb5, sb6, sb7, ↓reduceIte, Nat.reduceAdd, Nat.reduceMul, Nat.reduceDiv, Nat.reduceEqDiff, Nat.reduceLT, Nat.reduceLeDiff, reduceCtorEq, Int.reduceEq, Int.reduceNe, Int.reduceLT, Int.reduceLE, Int.reduceAdd, Int.reduceSub, Int.reduceMul, Int.reduceNeg, Int.reduceToNat, Int.cast_ofNat_Int, Int.natCast_zero, Int.natCast_one, Int.toNat_natCast, Nat.reduceBEq, c1]

/-! ### Check -/
def recE : List Rc → Int
  | [] => 0
  | r :: l => if r.1.1 = false then 3 else if 64 < r.2.length then 2 else recE l
def goE : List (List Rc) → Int
  | [] => 0
  | s :: r => if s.length = 0 then 3 else if recE s ≠ 0 then recE s else if 200 < fullR s then 2 else goE r
def segE (l : List (List Rc)) : Int := if 16 < l.length then 2 else goE l
theorem recE_le : ∀ {l : List Rc}, recE l = 0 → ∀ r ∈ l, r.1.1 = true ∧ r.2.length ≤ 64
  | [], _, _, hr => by simp at hr
  | r :: l, h, x, hx => by
    simp only [recE] at h
    split at h
    · cases h
    · split at h
      · cases h
      · rename_i h1 h2
        rcases List.mem_cons.1 hx with rfl | hx
        · exact ⟨by simpa using h1, by omega⟩
        · exact recE_le h x hx

theorem check (y : Value) (ps : List (Value × List Rc)) (M : Mem) (hy : RowM M y 1 (ps.map encV)) (hM : SegM M ps) (hk : ∀ p ∈ ps, okS p.2) :
    Meets Proofs.Try.prog 31 [.v y] M fun r' _ _ => r' = .v (.int .i64 (segE (ps.map (·.2)))) := by
  refine Meets.of_body [0,2,4,6,9,10,11,12,13,18,19,20,21,22,28,32,36] Proofs.Try.func31 rfl (by kernel_rfl) rfl fun w => ?_
  generalize hc : segE (ps.map (·.2)) = c
  have hyl := hy.len_le
  rw [List.length_map] at hyl
  unfold segE at hc
  rw [List.length_map] at hc
  by_cases h16 : 16 < ps.length
  · rw [if_pos h16] at hc
    subst hc
    have d1 : (16 < (ps.length : Int)) = True := eq_true (by omega)
    simp only [Proofs.Try.f31, shs, zts, sos, sls, zss, eqs, sx, sb1, sb2, sb3, sb4, sb5, sb6, sb7, ↓reduceIte, Nat.reduceAdd, Nat.reduceMul, Nat.reduceDiv, Nat.reduceEqDiff, Nat.reduceLT, Nat.reduceLeDiff, reduceCtorEq, Int.reduceEq, Int.reduceNe, Int.reduceLT, Int.reduceLE, Int.reduceAdd, Int.reduceSub, Int.reduceMul, Int.reduceNeg, Int.reduceToNat, Int.cast_ofNat_Int, Int.natCast_zero, Int.natCast_one, Int.toNat_natCast, Nat.reduceBEq, nzs, hy.len, hy.sl, List.length_map, d1]
  rw [if_neg h16] at hc
  have d1 : (16 < (ps.length : Int)) = False := eq_false (by omega)
  simp only [Proofs.Try.f31, shs, zts, sos, sls, zss, eqs, sx, sb1, sb2, sb3, sb4, sb5, sb6, sb7, ↓reduceIte, Nat.reduceAdd, Nat.reduceMul, Nat.reduceDiv, Nat.reduceEqDiff, Nat.reduceLT, Nat.reduceLeDiff, reduceCtorEq, Int.reduceEq, Int.reduceNe, Int.reduceLT, Int.reduceLE, Int.reduceAdd, Int.reduceSub, Int.reduceMul, Int.reduceNeg, Int.reduceToNat, Int.cast_ofNat_Int, Int.natCast_zero, Int.natCast_one, Int.toNat_natCast, Nat.reduceBEq, nzs, hy.len, hy.sl, List.length_map, d1]
  refine LoopK.go (X := Nat × Nat) (fun x => ([(10, true, .v y), (11, true, .v (.int .i64 ps.length)), (12, true, .v (.int .i64 x.2))], [], M))
    (fun x => x.1 + x.2 = ps.length ∧ goE ((ps.drop x.2).map (·.2)) = c) (fun x => x.1) (ps.length, 0) ⟨rfl, hc⟩ (Ent.of ?_) ?_
  · simp only [sx, sb1, sb2, sb3, sb4, sb5, sb6, sb7, ↓reduceIte, Nat.reduceAdd, Nat.reduceMul, Nat.reduceDiv, Nat.reduceEqDiff, Nat.reduceLT, Nat.reduceLeDiff, reduceCtorEq, Int.reduceEq, Int.reduceNe, Int.reduceLT, Int.reduceLE, Int.reduceAdd, Int.reduceSub, Int.reduceMul, Int.reduceNeg, Int.reduceToNat, Int.cast_ofNat_Int, Int.natCast_zero, Int.natCast_one, Int.toNat_natCast, Nat.reduceBEq]
  rintro ⟨f, i⟩ ⟨h1, h2⟩
  simp only at h1 h2
  by_cases hil : i < ps.length
  · have c1 : ((i : Int) < (ps.length : Int)) = True := eq_true (by omega)
    obtain ⟨p, hx, hd⟩ := l_drop_at (l := ps) (i := i) hil
    obtain ⟨v, s⟩ := p
    have hv : RowM M v 4 (s.map encR) := hM _ (List.mem_of_getElem? hx)
    have ho : okS s := hk _ (List.mem_of_getElem? hx)
    have g := hy.el1 hx rfl
    have ix := hy.ix (i := (i : Int)) (by omega) (by rw [List.length_map]; omega)
    rw [hd, List.map_cons] at h2
    simp only [goE] at h2
    by_cases hs0 : s.length = 0
    · rw [if_pos hs0] at h2
      subst h2
      have d2 : ((s.length : Int) = 0) = True := eq_true (by omega)
      simp only [shs, zts, sos, sls, zss, eqs, sx, sb1, sb2, sb3, sb4, sb5, sb6, sb7, ↓reduceIte, Nat.reduceAdd, Nat.reduceMul, Nat.reduceDiv, Nat.reduceEqDiff, Nat.reduceLT, Nat.reduceLeDiff, reduceCtorEq, Int.reduceEq, Int.reduceNe, Int.reduceLT, Int.reduceLE, Int.reduceAdd, Int.reduceSub, Int.reduceMul, Int.reduceNeg, Int.reduceToNat, Int.cast_ofNat_Int, Int.natCast_zero, Int.natCast_one, Int.toNat_natCast, Nat.reduceBEq, nzs, c1, g.1, g.2, ix, ix.2, hv.one, hv.len, hv.sl, List.length_map, d2]
    rw [if_neg hs0] at h2
    have d2 : ((s.length : Int) = 0) = False := eq_false (by omega)
    simp only [shs, zts, sos, sls, zss, eqs, sx, sb1, sb2, sb3, sb4, sb5, sb6, sb7, ↓reduceIte, Nat.reduceAdd, Nat.reduceMul, Nat.reduceDiv, Nat.reduceEqDiff, Nat.reduceLT, Nat.reduceLeDiff, reduceCtorEq, Int.reduceEq, Int.reduceNe, Int.reduceLT, Int.reduceLE, Int.reduceAdd, Int.reduceSub, Int.reduceMul, Int.reduceNeg, Int.reduceToNat, Int.cast_ofNat_Int, Int.natCast_zero, Int.natCast_one, Int.toNat_natCast, Nat.reduceBEq, nzs, c1, g.1, g.2, ix, ix.2, hv.one, hv.len, hv.sl, List.length_map, d2]
    generalize hre : recE s = e at h2
    refine LoopK.go (X := Nat × Nat) (fun x => ([(4, true, .v v), (10, true, .v y), (11, true, .v (.int .i64 ps.length)), (12, true, .v (.int .i64 i)), (19, true, .v v), (20, true, .v (.int .i64 s.length)), (21, true, .v (.int .i64 x.2))], [], M))
      (fun x => x.1 + x.2 = s.length ∧ recE (s.drop x.2) = e) (fun x => x.1) (s.length, 0) ⟨rfl, hre⟩ (Ent.of ?_) ?_
    · simp only [sx, sb1, sb2, sb3, sb4, sb5, sb6, sb7, ↓reduceIte, Nat.reduceAdd, Nat.reduceMul, Nat.reduceDiv, Nat.reduceEqDiff, Nat.reduceLT, Nat.reduceLeDiff, reduceCtorEq, Int.reduceEq, Int.reduceNe, Int.reduceLT, Int.reduceLE, Int.reduceAdd, Int.reduceSub, Int.reduceMul, Int.reduceNeg, Int.reduceToNat, Int.cast_ofNat_Int, Int.natCast_zero, Int.natCast_one, Int.toNat_natCast, Nat.reduceBEq]
    rintro ⟨f', j⟩ ⟨h3, h4⟩
    simp only at h3 h4
    by_cases hjl : j < s.length
    · have c2 : ((j : Int) < (s.length : Int)) = True := eq_true (by omega)
      obtain ⟨r, hx', hd'⟩ := l_drop_at (l := s) (i := j) hjl
      obtain ⟨⟨⟨g0, o0⟩, g1, o1⟩, ⟨⟨g2, o2⟩, g3, o3⟩, ix'⟩ := rec_at hv hx'
      have hr := ho.2 r (List.mem_of_getElem? hx')
      have hsl := ho.1
      have i2 : inK .i64 ((j : Int) + 1) := i64I (by omega)
      rw [hd'] at h4
      simp only [recE] at h4
      cases hb : r.1.1 with
      | false =>
        rw [hb] at g0
        rw [if_pos hb] at h4
        subst h4
        rw [if_pos (by decide)] at h2
        subst h2
        simp only [shs, zts, sos, sls, zss, eqs, sx, sb1, sb2, sb3, sb4, sb5, sb6, sb7, ↓reduceIte, Nat.reduceAdd, Nat.reduceMul, Nat.reduceDiv, Nat.reduceEqDiff, Nat.reduceLT, Nat.reduceLeDiff, reduceCtorEq, Int.reduceEq, Int.reduceNe, Int.reduceLT, Int.reduceLE, Int.reduceAdd, Int.reduceSub, Int.reduceMul, Int.reduceNeg, Int.reduceToNat, Int.cast_ofNat_Int, Int.natCast_zero, Int.natCast_one, Int.toNat_natCast, Nat.reduceBEq, nzs, c2, g0, g1, g2, g3, o0, o1, o2, o3, ix', ix'.2, one_int, one_bool, one_string]
      | true =>
        rw [hb] at g0
        rw [if_neg (by simp [hb])] at h4
        by_cases hbig : 64 < r.2.length
        · have d3 : (64 < (r.2.length : Int)) = True := eq_true (by omega)
          rw [if_pos hbig] at h4
          subst h4
          rw [if_pos (by decide)] at h2
          subst h2
          simp only [shs, zts, sos, sls, zss, eqs, sx, sb1, sb2, sb3, sb4, sb5, sb6, sb7, ↓reduceIte, Nat.reduceAdd, Nat.reduceMul, Nat.reduceDiv, Nat.reduceEqDiff, Nat.reduceLT, Nat.reduceLeDiff, reduceCtorEq, Int.reduceEq, Int.reduceNe, Int.reduceLT, Int.reduceLE, Int.reduceAdd, Int.reduceSub, Int.reduceMul, Int.reduceNeg, Int.reduceToNat, Int.cast_ofNat_Int, Int.natCast_zero, Int.natCast_one, Int.toNat_natCast, Nat.reduceBEq, nzs, c2, g0, g1, g2, g3, o0, o1, o2, o3, ix', ix'.2, one_int, one_bool, one_string, d3]
        · have d3 : (64 < (r.2.length : Int)) = False := eq_false (by omega)
          rw [if_neg hbig] at h4
          simp only [shs, zts, sos, sls, zss, eqs, sx, sb1, sb2, sb3, sb4, sb5, sb6, sb7, ↓reduceIte, Nat.reduceAdd, Nat.reduceMul, Nat.reduceDiv, Nat.reduceEqDiff, Nat.reduceLT, Nat.reduceLeDiff, reduceCtorEq, Int.reduceEq, Int.reduceNe, Int.reduceLT, Int.reduceLE, Int.reduceAdd, Int.reduceSub, Int.reduceMul, Int.reduceNeg, Int.reduceToNat, Int.cast_ofNat_Int, Int.natCast_zero, Int.natCast_one, Int.toNat_natCast, Nat.reduceBEq, nzs, c2, g0, g1, g2, g3, o0, o1, o2, o3, ix', ix'.2, one_int, one_bool, one_string, d3, i2]
          refine ⟨(f' - 1, j + 1), ⟨⟨by simp only; omega, h4⟩, by simp only; omega⟩, Ent.of ?_⟩
          simp only [sx, sb1, sb2, sb3, sb4, sb5, sb6, sb7, ↓reduceIte, Nat.reduceAdd, Nat.reduceMul, Nat.reduceDiv, Nat.reduceEqDiff, Nat.reduceLT, Nat.reduceLeDiff, reduceCtorEq, Int.reduceEq, Int.reduceNe, Int.reduceLT, Int.reduceLE, Int.reduceAdd, Int.reduceSub, Int.reduceMul, Int.reduceNeg, Int.reduceToNat, Int.cast_ofNat_Int, Int.natCast_zero, Int.natCast_one, Int.toNat_natCast, Nat.reduceBEq, Int.natCast_add]
    · have c2 : ((j : Int) < (s.length : Int)) = False := eq_false (by omega)
      have hd' : s.drop j = [] := List.drop_eq_nil_of_le (by omega)
      rw [hd'] at h4
      simp only [recE] at h4
      subst h4
      rw [if_neg (by decide)] at h2
      have h64 := recE_le hre
      have hle := full_le (l := s) (fun r hr => (h64 r hr).2)
      have hsl := ho.1
      simp only [shs, zts, sos, sls, zss, eqs, sx, sb1, sb2, sb3, sb4, sb5, sb6, sb7, ↓reduceIte, Nat.reduceAdd, Nat.reduceMul, Nat.reduceDiv, Nat.reduceEqDiff, Nat.reduceLT, Nat.reduceLeDiff, reduceCtorEq, Int.reduceEq, Int.reduceNe, Int.reduceLT, Int.reduceLE, Int.reduceAdd, Int.reduceSub, Int.reduceMul, Int.reduceNeg, Int.reduceToNat, Int.cast_ofNat_Int, Int.natCast_zero, Int.natCast_one, Int.toNat_natCast, Nat.reduceBEq, nzs, c2]
      refine CallK.pure ⟨rfl, rfl⟩ rfl (full v s M hv hsl (fun r hr => (h64 r hr).2)) ?_
      by_cases h200 : 200 < fullR s
      · have d3 : (200 < (fullR s : Int)) = True := eq_true (by omega)
        rw [if_pos h200] at h2
        subst h2
        simp only [shs, zts, sos, sls, zss, eqs, sx, sb1, sb2, sb3, sb4, sb5, sb6, sb7, ↓reduceIte, Nat.reduceAdd, Nat.reduceMul, Nat.reduceDiv, Nat.reduceEqDiff, Nat.reduceLT, Nat.reduceLeDiff, reduceCtorEq, Int.reduceEq, Int.reduceNe, Int.reduceLT, Int.reduceLE, Int.reduceAdd, Int.reduceSub, Int.reduceMul, Int.reduceNeg, Int.reduceToNat, Int.cast_ofNat_Int, Int.natCast_zero, Int.natCast_one, Int.toNat_natCast, Nat.reduceBEq, nzs, d3]
      · have d3 : (200 < (fullR s : Int)) = False := eq_false (by omega)
        rw [if_neg h200] at h2
        have i2 : inK .i64 ((i : Int) + 1) := i64I (by omega)
        simp only [shs, zts, sos, sls, zss, eqs, sx, sb1, sb2, sb3, sb4, sb5, sb6, sb7, ↓reduceIte, Nat.reduceAdd, Nat.reduceMul, Nat.reduceDiv, Nat.reduceEqDiff, Nat.reduceLT, Nat.reduceLeDiff, reduceCtorEq, Int.reduceEq, Int.reduceNe, Int.reduceLT, Int.reduceLE, Int.reduceAdd, Int.reduceSub, Int.reduceMul, Int.reduceNeg, Int.reduceToNat, Int.cast_ofNat_Int, Int.natCast_zero, Int.natCast_one, Int.toNat_natCast, Nat.reduceBEq, nzs, d3, i2]
        refine ⟨(f - 1, i + 1), ⟨⟨by simp only; omega, h2⟩, by simp only; omega⟩, Ent.of ?_⟩
        simp only [sx, sb1, sb2, sb3, sb4, sb5, sb6, sb7, ↓reduceIte, Nat.reduceAdd, Nat.reduceMul, Nat.reduceDiv, Nat.reduceEqDiff, Nat.reduceLT, Nat.reduceLeDiff, reduceCtorEq, Int.reduceEq, Int.reduceNe, Int.reduceLT, Int.reduceLE, Int.reduceAdd, Int.reduceSub, Int.reduceMul, Int.reduceNeg, Int.reduceToNat, Int.cast_ofNat_Int, Int.natCast_zero, Int.natCast_one, Int.toNat_natCast, Nat.reduceBEq, Int.natCast_add]
  · have c1 : ((i : Int) < (ps.length : Int)) = False := eq_false (by omega)
    have hd : ps.drop i = [] := List.drop_eq_nil_of_le (by omega)
    rw [hd] at h2
    simp only [List.map_nil, goE] at h2
    subst h2
    simp only [shs, zts, sos, sls, zss, eqs, sx, sb1, sb2, sb3, sb4, sb5, sb6, sb7, ↓reduceIte, Nat.reduceAdd, Nat.reduceMul, Nat.reduceDiv, Nat.reduceEqDiff, Nat.reduceLT, Nat.reduceLeDiff, reduceCtorEq, Int.reduceEq, Int.reduceNe, Int.reduceLT, Int.reduceLE, Int.reduceAdd, Int.reduceSub, Int.reduceMul, Int.reduceNeg, Int.reduceToNat, Int.cast_ofNat_Int, Int.natCast_zero, Int.natCast_one, Int.toNat_natCast, Nat.reduceBEq, c1]
theorem segs (y : Value) (ps : List (Value × List Rc)) (M : Mem) (hy : RowM M y 1 (ps.map encV)) (hM : SegM M ps) (hk : ∀ p ∈ ps, okS p.2) :
    Meets Proofs.Try.prog 6 [.v y] M fun r' _ _ => r' = .v (.int .i64 (segE (ps.map (·.2)))) := by
  refine Meets.of_body [0,2,4,6,9,10,11,12,13,18,19,20,21,22,28,32,36] Proofs.Try.func6 rfl (by kernel_rfl) rfl fun w => ?_
  generalize hc : segE (ps.map (·.2)) = c
  have hyl := hy.len_le
  rw [List.length_map] at hyl
  unfold segE at hc
  rw [List.length_map] at hc
  by_cases h16 : 16 < ps.length
  · rw [if_pos h16] at hc
    subst hc
    have d1 : (16 < (ps.length : Int)) = True := eq_true (by omega)
    simp only [Proofs.Try.f6, shs, zts, sos, sls, zss, eqs, sx, sb1, sb2, sb3, sb4, sb5, sb6, sb7, ↓reduceIte, Nat.reduceAdd, Nat.reduceMul, Nat.reduceDiv, Nat.reduceEqDiff, Nat.reduceLT, Nat.reduceLeDiff, reduceCtorEq, Int.reduceEq, Int.reduceNe, Int.reduceLT, Int.reduceLE, Int.reduceAdd, Int.reduceSub, Int.reduceMul, Int.reduceNeg, Int.reduceToNat, Int.cast_ofNat_Int, Int.natCast_zero, Int.natCast_one, Int.toNat_natCast, Nat.reduceBEq, nzs, hy.len, hy.sl, List.length_map, d1]
  rw [if_neg h16] at hc
  have d1 : (16 < (ps.length : Int)) = False := eq_false (by omega)
  simp only [Proofs.Try.f6, shs, zts, sos, sls, zss, eqs, sx, sb1, sb2, sb3, sb4, sb5, sb6, sb7, ↓reduceIte, Nat.reduceAdd, Nat.reduceMul, Nat.reduceDiv, Nat.reduceEqDiff, Nat.reduceLT, Nat.reduceLeDiff, reduceCtorEq, Int.reduceEq, Int.reduceNe, Int.reduceLT, Int.reduceLE, Int.reduceAdd, Int.reduceSub, Int.reduceMul, Int.reduceNeg, Int.reduceToNat, Int.cast_ofNat_Int, Int.natCast_zero, Int.natCast_one, Int.toNat_natCast, Nat.reduceBEq, nzs, hy.len, hy.sl, List.length_map, d1]
  refine LoopK.go (X := Nat × Nat) (fun x => ([(10, true, .v y), (11, true, .v (.int .i64 ps.length)), (12, true, .v (.int .i64 x.2))], [], M))
    (fun x => x.1 + x.2 = ps.length ∧ goE ((ps.drop x.2).map (·.2)) = c) (fun x => x.1) (ps.length, 0) ⟨rfl, hc⟩ (Ent.of ?_) ?_
  · simp only [sx, sb1, sb2, sb3, sb4, sb5, sb6, sb7, ↓reduceIte, Nat.reduceAdd, Nat.reduceMul, Nat.reduceDiv, Nat.reduceEqDiff, Nat.reduceLT, Nat.reduceLeDiff, reduceCtorEq, Int.reduceEq, Int.reduceNe, Int.reduceLT, Int.reduceLE, Int.reduceAdd, Int.reduceSub, Int.reduceMul, Int.reduceNeg, Int.reduceToNat, Int.cast_ofNat_Int, Int.natCast_zero, Int.natCast_one, Int.toNat_natCast, Nat.reduceBEq]
  rintro ⟨f, i⟩ ⟨h1, h2⟩
  simp only at h1 h2
  by_cases hil : i < ps.length
  · have c1 : ((i : Int) < (ps.length : Int)) = True := eq_true (by omega)
    obtain ⟨p, hx, hd⟩ := l_drop_at (l := ps) (i := i) hil
    obtain ⟨v, s⟩ := p
    have hv : RowM M v 4 (s.map encR) := hM _ (List.mem_of_getElem? hx)
    have ho : okS s := hk _ (List.mem_of_getElem? hx)
    have g := hy.el1 hx rfl
    have ix := hy.ix (i := (i : Int)) (by omega) (by rw [List.length_map]; omega)
    rw [hd, List.map_cons] at h2
    simp only [goE] at h2
    by_cases hs0 : s.length = 0
    · rw [if_pos hs0] at h2
      subst h2
      have d2 : ((s.length : Int) = 0) = True := eq_true (by omega)
      simp only [shs, zts, sos, sls, zss, eqs, sx, sb1, sb2, sb3, sb4, sb5, sb6, sb7, ↓reduceIte, Nat.reduceAdd, Nat.reduceMul, Nat.reduceDiv, Nat.reduceEqDiff, Nat.reduceLT, Nat.reduceLeDiff, reduceCtorEq, Int.reduceEq, Int.reduceNe, Int.reduceLT, Int.reduceLE, Int.reduceAdd, Int.reduceSub, Int.reduceMul, Int.reduceNeg, Int.reduceToNat, Int.cast_ofNat_Int, Int.natCast_zero, Int.natCast_one, Int.toNat_natCast, Nat.reduceBEq, nzs, c1, g.1, g.2, ix, ix.2, hv.one, hv.len, hv.sl, List.length_map, d2]
    rw [if_neg hs0] at h2
    have d2 : ((s.length : Int) = 0) = False := eq_false (by omega)
    simp only [shs, zts, sos, sls, zss, eqs, sx, sb1, sb2, sb3, sb4, sb5, sb6, sb7, ↓reduceIte, Nat.reduceAdd, Nat.reduceMul, Nat.reduceDiv, Nat.reduceEqDiff, Nat.reduceLT, Nat.reduceLeDiff, reduceCtorEq, Int.reduceEq, Int.reduceNe, Int.reduceLT, Int.reduceLE, Int.reduceAdd, Int.reduceSub, Int.reduceMul, Int.reduceNeg, Int.reduceToNat, Int.cast_ofNat_Int, Int.natCast_zero, Int.natCast_one, Int.toNat_natCast, Nat.reduceBEq, nzs, c1, g.1, g.2, ix, ix.2, hv.one, hv.len, hv.sl, List.length_map, d2]
    generalize hre : recE s = e at h2
    refine LoopK.go (X := Nat × Nat) (fun x => ([(4, true, .v v), (10, true, .v y), (11, true, .v (.int .i64 ps.length)), (12, true, .v (.int .i64 i)), (19, true, .v v), (20, true, .v (.int .i64 s.length)), (21, true, .v (.int .i64 x.2))], [], M))
      (fun x => x.1 + x.2 = s.length ∧ recE (s.drop x.2) = e) (fun x => x.1) (s.length, 0) ⟨rfl, hre⟩ (Ent.of ?_) ?_
    · simp only [sx, sb1, sb2, sb3, sb4, sb5, sb6, sb7, ↓reduceIte, Nat.reduceAdd, Nat.reduceMul, Nat.reduceDiv, Nat.reduceEqDiff, Nat.reduceLT, Nat.reduceLeDiff, reduceCtorEq, Int.reduceEq, Int.reduceNe, Int.reduceLT, Int.reduceLE, Int.reduceAdd, Int.reduceSub, Int.reduceMul, Int.reduceNeg, Int.reduceToNat, Int.cast_ofNat_Int, Int.natCast_zero, Int.natCast_one, Int.toNat_natCast, Nat.reduceBEq]
    rintro ⟨f', j⟩ ⟨h3, h4⟩
    simp only at h3 h4
    by_cases hjl : j < s.length
    · have c2 : ((j : Int) < (s.length : Int)) = True := eq_true (by omega)
      obtain ⟨r, hx', hd'⟩ := l_drop_at (l := s) (i := j) hjl
      obtain ⟨⟨⟨g0, o0⟩, g1, o1⟩, ⟨⟨g2, o2⟩, g3, o3⟩, ix'⟩ := rec_at hv hx'
      have hr := ho.2 r (List.mem_of_getElem? hx')
      have hsl := ho.1
      have i2 : inK .i64 ((j : Int) + 1) := i64I (by omega)
      rw [hd'] at h4
      simp only [recE] at h4
      cases hb : r.1.1 with
      | false =>
        rw [hb] at g0
        rw [if_pos hb] at h4
        subst h4
        rw [if_pos (by decide)] at h2
        subst h2
        simp only [shs, zts, sos, sls, zss, eqs, sx, sb1, sb2, sb3, sb4, sb5, sb6, sb7, ↓reduceIte, Nat.reduceAdd, Nat.reduceMul, Nat.reduceDiv, Nat.reduceEqDiff, Nat.reduceLT, Nat.reduceLeDiff, reduceCtorEq, Int.reduceEq, Int.reduceNe, Int.reduceLT, Int.reduceLE, Int.reduceAdd, Int.reduceSub, Int.reduceMul, Int.reduceNeg, Int.reduceToNat, Int.cast_ofNat_Int, Int.natCast_zero, Int.natCast_one, Int.toNat_natCast, Nat.reduceBEq, nzs, c2, g0, g1, g2, g3, o0, o1, o2, o3, ix', ix'.2, one_int, one_bool, one_string]
      | true =>
        rw [hb] at g0
        rw [if_neg (by simp [hb])] at h4
        by_cases hbig : 64 < r.2.length
        · have d3 : (64 < (r.2.length : Int)) = True := eq_true (by omega)
          rw [if_pos hbig] at h4
          subst h4
          rw [if_pos (by decide)] at h2
          subst h2
          simp only [shs, zts, sos, sls, zss, eqs, sx, sb1, sb2, sb3, sb4, sb5, sb6, sb7, ↓reduceIte, Nat.reduceAdd, Nat.reduceMul, Nat.reduceDiv, Nat.reduceEqDiff, Nat.reduceLT, Nat.reduceLeDiff, reduceCtorEq, Int.reduceEq, Int.reduceNe, Int.reduceLT, Int.reduceLE, Int.reduceAdd, Int.reduceSub, Int.reduceMul, Int.reduceNeg, Int.reduceToNat, Int.cast_ofNat_Int, Int.natCast_zero, Int.natCast_one, Int.toNat_natCast, Nat.reduceBEq, nzs, c2, g0, g1, g2, g3, o0, o1, o2, o3, ix', ix'.2, one_int, one_bool, one_string, d3]
        · have d3 : (64 < (r.2.length : Int)) = False := eq_false (by omega)
          rw [if_neg hbig] at h4
          simp only [shs, zts, sos, sls, zss, eqs, sx, sb1, sb2, sb3, sb4, sb5, sb6, sb7, ↓reduceIte, Nat.reduceAdd, Nat.reduceMul, Nat.reduceDiv, Nat.reduceEqDiff, Nat.reduceLT, Nat.reduceLeDiff, reduceCtorEq, Int.reduceEq, Int.reduceNe, Int.reduceLT, Int.reduceLE, Int.reduceAdd, Int.reduceSub, Int.reduceMul, Int.reduceNeg, Int.reduceToNat, Int.cast_ofNat_Int, Int.natCast_zero, Int.natCast_one, Int.toNat_natCast, Nat.reduceBEq, nzs, c2, g0, g1, g2, g3, o0, o1, o2, o3, ix', ix'.2, one_int, one_bool, one_string, d3, i2]
          refine ⟨(f' - 1, j + 1), ⟨⟨by simp only; omega, h4⟩, by simp only; omega⟩, Ent.of ?_⟩
          simp only [sx, sb1, sb2, sb3, sb4, sb5, sb6, sb7, ↓reduceIte, Nat.reduceAdd, Nat.reduceMul, Nat.reduceDiv, Nat.reduceEqDiff, Nat.reduceLT, Nat.reduceLeDiff, reduceCtorEq, Int.reduceEq, Int.reduceNe, Int.reduceLT, Int.reduceLE, Int.reduceAdd, Int.reduceSub, Int.reduceMul, Int.reduceNeg, Int.reduceToNat, Int.cast_ofNat_Int, Int.natCast_zero, Int.natCast_one, Int.toNat_natCast, Nat.reduceBEq, Int.natCast_add]
    · have c2 : ((j : Int) < (s.length : Int)) = False := eq_false (by omega)
      have hd' : s.drop j = [] := List.drop_eq_nil_of_le (by omega)
      rw [hd'] at h4
      simp only [recE] at h4
      subst h4
      rw [if_neg (by decide)] at h2
      have h64 := recE_le hre
      have hle := full_le (l := s) (fun r hr => (h64 r hr).2)
      have hsl := ho.1
      simp only [shs, zts, sos, sls, zss, eqs, sx, sb1, sb2, sb3, sb4, sb5, sb6, sb7, ↓reduceIte, Nat.reduceAdd, Nat.reduceMul, Nat.reduceDiv, Nat.reduceEqDiff, Nat.reduceLT, Nat.reduceLeDiff, reduceCtorEq, Int.reduceEq, Int.reduceNe, Int.reduceLT, Int.reduceLE, Int.reduceAdd, Int.reduceSub, Int.reduceMul, Int.reduceNeg, Int.reduceToNat, Int.cast_ofNat_Int, Int.natCast_zero, Int.natCast_one, Int.toNat_natCast, Nat.reduceBEq, nzs, c2]
      refine CallK.pure ⟨rfl, rfl⟩ rfl (takes v s M hv hsl (fun r hr => (h64 r hr).2)) ?_
      by_cases h200 : 200 < fullR s
      · have d3 : (200 < (fullR s : Int)) = True := eq_true (by omega)
        rw [if_pos h200] at h2
        subst h2
        simp only [shs, zts, sos, sls, zss, eqs, sx, sb1, sb2, sb3, sb4, sb5, sb6, sb7, ↓reduceIte, Nat.reduceAdd, Nat.reduceMul, Nat.reduceDiv, Nat.reduceEqDiff, Nat.reduceLT, Nat.reduceLeDiff, reduceCtorEq, Int.reduceEq, Int.reduceNe, Int.reduceLT, Int.reduceLE, Int.reduceAdd, Int.reduceSub, Int.reduceMul, Int.reduceNeg, Int.reduceToNat, Int.cast_ofNat_Int, Int.natCast_zero, Int.natCast_one, Int.toNat_natCast, Nat.reduceBEq, nzs, d3]
      · have d3 : (200 < (fullR s : Int)) = False := eq_false (by omega)
        rw [if_neg h200] at h2
        have i2 : inK .i64 ((i : Int) + 1) := i64I (by omega)
        simp only [shs, zts, sos, sls, zss, eqs, sx, sb1, sb2, sb3, sb4, sb5, sb6, sb7, ↓reduceIte, Nat.reduceAdd, Nat.reduceMul, Nat.reduceDiv, Nat.reduceEqDiff, Nat.reduceLT, Nat.reduceLeDiff, reduceCtorEq, Int.reduceEq, Int.reduceNe, Int.reduceLT, Int.reduceLE, Int.reduceAdd, Int.reduceSub, Int.reduceMul, Int.reduceNeg, Int.reduceToNat, Int.cast_ofNat_Int, Int.natCast_zero, Int.natCast_one, Int.toNat_natCast, Nat.reduceBEq, nzs, d3, i2]
        refine ⟨(f - 1, i + 1), ⟨⟨by simp only; omega, h2⟩, by simp only; omega⟩, Ent.of ?_⟩
        simp only [sx, sb1, sb2, sb3, sb4, sb5, sb6, sb7, ↓reduceIte, Nat.reduceAdd, Nat.reduceMul, Nat.reduceDiv, Nat.reduceEqDiff, Nat.reduceLT, Nat.reduceLeDiff, reduceCtorEq, Int.reduceEq, Int.reduceNe, Int.reduceLT, Int.reduceLE, Int.reduceAdd, Int.reduceSub, Int.reduceMul, Int.reduceNeg, Int.reduceToNat, Int.cast_ofNat_Int, Int.natCast_zero, Int.natCast_one, Int.toNat_natCast, Nat.reduceBEq, Int.natCast_add]
  · have c1 : ((i : Int) < (ps.length : Int)) = False := eq_false (by omega)
    have hd : ps.drop i = [] := List.drop_eq_nil_of_le (by omega)
    rw [hd] at h2
    simp only [List.map_nil, goE] at h2
    subst h2
    simp only [shs, zts, sos, sls, zss, eqs, sx, sb1, sb2, sb3, sb4, sb5, sb6, sb7, ↓reduceIte, Nat.reduceAdd, Nat.reduceMul, Nat.reduceDiv, Nat.reduceEqDiff, Nat.reduceLT, Nat.reduceLeDiff, reduceCtorEq, Int.reduceEq, Int.reduceNe, Int.reduceLT, Int.reduceLE, Int.reduceAdd, Int.reduceSub, Int.reduceMul, Int.reduceNeg, Int.reduceToNat, Int.cast_ofNat_Int, Int.natCast_zero, Int.natCast_one, Int.toNat_natCast, Nat.reduceBEq, c1]
end Go.X.Sg

