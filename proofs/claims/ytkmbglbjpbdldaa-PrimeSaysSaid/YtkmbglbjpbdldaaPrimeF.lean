/- prime.Factors, woolref.Factors; woollaw.PrimeSays returns true. Conditions: none. -/
import Derived.Test.YtkmbglbjpbdldaaPrimeR
import Derived.Test.YtkmbglbjpbdldaaTreeS
set_option linter.unusedSimpArgs false
set_option linter.unusedVariables false
set_option maxHeartbeats 4000000
set_option maxRecDepth 20000
namespace Go.X.Rb
open Go Go.X Go.X.Pol Go.X.Pl Go.X.Rp Go.X.Pd Go.X.Md

theorem eqIn (x y : Value) (l m : List (Int)) (M : Mem) (hx : RowM M x 1 (l.map encI)) (hy : RowM M y 1 (m.map encI)) :
    Meets Proofs.Try.prog 21 [.v x, .v y] M fun r _ _ => r = .v (.bool (decide (l = m))) := by
  refine Meets.of_body [0,1,4,5,10,12,13,14,24] Proofs.Try.func21 rfl (by kernel_rfl) rfl fun w => ?_
  simp only [Proofs.Try.f21, shs, zts, sos, sls, zss, eqs, sx, sb1, sb2, sb3, sb4, sb5, ↓reduceIte, Nat.reduceAdd, Nat.reduceMul, Nat.reduceDiv, Nat.reduceEqDiff, Nat.reduceLT, Nat.reduceLeDiff, reduceCtorEq, Int.reduceEq, Int.reduceNe, Int.reduceLT, Int.reduceLE, Int.reduceAdd, Int.reduceSub, Int.reduceMul, Int.reduceNeg, Int.reduceToNat, Int.cast_ofNat_Int, Int.natCast_zero, Int.natCast_one, Int.toNat_natCast, Nat.reduceBEq, hx.len, hy.len, hx.sl, hy.sl, List.length_map]
  refine ⟨fun h => ?_, fun h => ?_⟩
  · rw [decide_eq_false (fun e => h (by rw [e]))]
  have hlen : l.length = m.length := by omega
  have hle := hx.len_le
  rw [List.length_map] at hle
  refine LoopK.go (X := Nat × Nat) (fun p => ([(0, true, .v x), (1, true, .v y), (4, true, .v (.bool false)), (12, true, .v (.int .i64 l.length)), (13, true, .v (.int .i64 p.2))], [], M))
    (fun p => p.1 + p.2 = l.length ∧ (l = m ↔ l.drop p.2 = m.drop p.2)) (fun p => p.1) (l.length, 0) ⟨rfl, Iff.rfl⟩ (Ent.of ?_) ?_
  · simp only [sx, sb1, sb2, sb3, sb4, sb5, ↓reduceIte, Nat.reduceAdd, Nat.reduceMul, Nat.reduceDiv, Nat.reduceEqDiff, Nat.reduceLT, Nat.reduceLeDiff, reduceCtorEq, Int.reduceEq, Int.reduceNe, Int.reduceLT, Int.reduceLE, Int.reduceAdd, Int.reduceSub, Int.reduceMul, Int.reduceNeg, Int.reduceToNat, Int.cast_ofNat_Int, Int.natCast_zero, Int.natCast_one, Int.toNat_natCast, Nat.reduceBEq]
  rintro ⟨f, i⟩ ⟨h1, h2⟩
  simp only at h1 h2
  simp only [shs, zts, sos, sls, zss, eqs, sx, sb1, sb2, sb3, sb4, sb5, ↓reduceIte, Nat.reduceAdd, Nat.reduceMul, Nat.reduceDiv, Nat.reduceEqDiff, Nat.reduceLT, Nat.reduceLeDiff, reduceCtorEq, Int.reduceEq, Int.reduceNe, Int.reduceLT, Int.reduceLE, Int.reduceAdd, Int.reduceSub, Int.reduceMul, Int.reduceNeg, Int.reduceToNat, Int.cast_ofNat_Int, Int.natCast_zero, Int.natCast_one, Int.toNat_natCast, Nat.reduceBEq]
  refine ⟨fun h3 => ?_, fun h3 => ?_⟩
  · obtain ⟨a0, hl, hd⟩ := l_drop_at (l := l) (i := i) (by omega)
    obtain ⟨b0, hm, hd2⟩ := l_drop_at (l := m) (i := i) (by omega)
    have g0 := hx.cell (i := i) (e := [.int .i64 a0]) (by rw [List.getElem?_map, hl]; rfl) (off := 0) (by omega)
    have k0 := hy.cell (i := i) (e := [.int .i64 b0]) (by rw [List.getElem?_map, hm]; rfl) (off := 0) (by omega)
    have i1 := hx.ix (i := (i : Int)) (by omega) (by rw [List.length_map]; omega)
    have i2 := hy.ix (i := (i : Int)) (by omega) (by rw [List.length_map]; omega)
    simp only [List.getD_cons_zero, List.getD_cons_succ] at g0 k0
    refine DrawK.quiet (by kernel_rfl) (by kernel_rfl) ?_
    simp only [shs, zts, sos, sls, zss, eqs, sx, sb1, sb2, sb3, sb4, sb5, ↓reduceIte, Nat.reduceAdd, Nat.reduceMul, Nat.reduceDiv, Nat.reduceEqDiff, Nat.reduceLT, Nat.reduceLeDiff, reduceCtorEq, Int.reduceEq, Int.reduceNe, Int.reduceLT, Int.reduceLE, Int.reduceAdd, Int.reduceSub, Int.reduceMul, Int.reduceNeg, Int.reduceToNat, Int.cast_ofNat_Int, Int.natCast_zero, Int.natCast_one, Int.toNat_natCast, Nat.reduceBEq, nzs, g0.1, g0.2.1, k0.1, k0.2.1, i1, i2, i1.2, i2.2, hx.len, hy.len, hx.sl, hy.sl, inK, lo, hi, List.toArray_eq_iff]
    refine ⟨fun hne => ?_, fun he => ⟨by omega, (f - 1, i + 1), ⟨⟨by simp only; omega, ?_⟩, by simp only; omega⟩, Ent.of ?_⟩⟩
    · rw [decide_eq_false (fun e => ?_)]
      have := h2.1 e
      rw [hd, hd2] at this
      have := (List.cons.inj this).1
      simp_all
    · have e12 : a0 = b0 := by omega
      simp only
      rw [h2, hd, hd2, e12]
      exact ⟨fun e => (List.cons.inj e).2, fun e => by rw [e]⟩
    · simp only [sx, sb1, sb2, sb3, sb4, sb5, ↓reduceIte, Nat.reduceAdd, Nat.reduceMul, Nat.reduceDiv, Nat.reduceEqDiff, Nat.reduceLT, Nat.reduceLeDiff, reduceCtorEq, Int.reduceEq, Int.reduceNe, Int.reduceLT, Int.reduceLE, Int.reduceAdd, Int.reduceSub, Int.reduceMul, Int.reduceNeg, Int.reduceToNat, Int.cast_ofNat_Int, Int.natCast_zero, Int.natCast_one, Int.toNat_natCast, Nat.reduceBEq, Int.natCast_add]
  · have : i = l.length := by omega
    rw [decide_eq_true (h2.2 (by rw [List.drop_eq_nil_of_le (by omega), List.drop_eq_nil_of_le (by omega)]))]

def encM (k : Nat) : List Value := [.int .i64 (k : Int)]
theorem encM_map (l : List Nat) : l.map encM = (l.map fun n : Nat => (n : Int)).map encI := by rw [List.map_map]; rfl
inductive FacP : Nat → List Nat → Prop
  | nil {m : Nat} (h : m ≤ 1) : FacP m []
  | cons {m v : Nat} {l : List Nat} (h : 2 ≤ m) (hv : LeastP m v) (hl : FacP (pdiv m v) l) : FacP m (v :: l)
theorem FacP.uniq {m : Nat} {l l' : List Nat} (h : FacP m l) (h' : FacP m l') : l = l' := by
  induction h generalizing l' with
  | nil h =>
    cases h' with
    | nil _ => rfl
    | cons h2 _ _ => omega
  | cons h hv hl ih =>
    cases h' with
    | nil _ => omega
    | cons h2 hv' hl' =>
      have e := hv.uniq hv'
      subst e
      rw [ih hl']
theorem div_of_dv {m v : Nat} (hm : 2 ≤ m) (hv : 2 ≤ v) (h : dv v m) : m = mulp (pdiv m v) v ∧ 1 ≤ pdiv m v ∧ sz (pdiv m v) < sz m ∧ pmod m v = 0 := by
  have hv0 : v ≠ 0 := by omega
  have h1 := (dv_pmod hv0).1 h
  have h2 := (divmod (a := m) hv0).1
  rw [h1, Nat.xor_zero] at h2
  have h3 : pdiv m v ≠ 0 := fun e => by rw [e, mulp_zero] at h2; omega
  have h4 := sz_mulp h3 hv0
  rw [← h2] at h4
  have := sz_two hv
  exact ⟨h2, by omega, by omega, h1⟩
theorem le_of_sz {x : Nat} (h : sz x ≤ 31) : x ≤ 2147483647 := by
  have := sz_le.1 h
  omega
theorem pdiv_self {m : Nat} (hm : 2 ≤ m) : pdiv m m = 1 := (divmod_uniq (q := 1) (r := 0) (by rw [mulp_one, Nat.xor_zero]) (by rw [sz_zero]; have := sz_two hm; omega)).1
theorem rfactors (m : Nat) (M : Mem) (hm : m ≤ 2147483647) (h0 : 1 ≤ m) :
    Meets Proofs.Try.prog 39 [.v (.int .i64 (m : Int))] M fun r H M' => ∃ l, FacP m l ∧ RowR (fun s => s) 1 (l.map encM) r H M' := by
  refine Meets.of_body [0,2,3,4,5,8] Proofs.Try.func39 rfl (by kernel_rfl) rfl fun w => ?_
  simp only [Proofs.Try.f39, shs, zts, sos, sls, zss, eqs, sx, sb1, sb2, sb3, sb4, sb5, ↓reduceIte, Nat.reduceAdd, Nat.reduceMul, Nat.reduceDiv, Nat.reduceEqDiff, Nat.reduceLT, Nat.reduceLeDiff, reduceCtorEq, Int.reduceEq, Int.reduceNe, Int.reduceLT, Int.reduceLE, Int.reduceAdd, Int.reduceSub, Int.reduceMul, Int.reduceNeg, Int.reduceToNat, Int.cast_ofNat_Int, Int.natCast_zero, Int.natCast_one, Int.toNat_natCast, Nat.reduceBEq]
  refine LoopK.nilRow 3 14 1 rfl rfl rfl ?_
  simp only [sx, sb1, sb2, sb3, sb4, sb5, ↓reduceIte, Nat.reduceAdd, Nat.reduceMul, Nat.reduceDiv, Nat.reduceEqDiff, Nat.reduceLT, Nat.reduceLeDiff, reduceCtorEq, Int.reduceEq, Int.reduceNe, Int.reduceLT, Int.reduceLE, Int.reduceAdd, Int.reduceSub, Int.reduceMul, Int.reduceNeg, Int.reduceToNat, Int.cast_ofNat_Int, Int.natCast_zero, Int.natCast_one, Int.toNat_natCast, Nat.reduceBEq]
  refine LoopK.go (X := Nat × List Nat × Mem) (fun x => ([(0, true, .v (.int .i64 (x.1 : Int))), (3, true, .own 112)], [(112, .row 1 (x.2.1.map encM))], x.2.2))
    (fun x => ((1 ≤ x.1 ∧ x.1 ≤ 2147483647) ∧ x.2.1.length + sz x.1 ≤ 32) ∧ ∀ l, FacP x.1 l → FacP m (x.2.1 ++ l)) (fun x => sz x.1) (m, [], M) ⟨⟨⟨h0, hm⟩, by have := sz31 hm; simp; omega⟩, fun l h => h⟩ (Ent.of ?_) ?_
  · simp only [sx, sb1, sb2, sb3, sb4, sb5, ↓reduceIte, Nat.reduceAdd, Nat.reduceMul, Nat.reduceDiv, Nat.reduceEqDiff, Nat.reduceLT, Nat.reduceLeDiff, reduceCtorEq, Int.reduceEq, Int.reduceNe, Int.reduceLT, Int.reduceLE, Int.reduceAdd, Int.reduceSub, Int.reduceMul, Int.reduceNeg, Int.reduceToNat, Int.cast_ofNat_Int, Int.natCast_zero, Int.natCast_one, Int.toNat_natCast, Nat.reduceBEq, List.map_nil]
  rintro ⟨x, out, M1⟩ ⟨⟨⟨h1, h2⟩, h3⟩, h4⟩
  simp only at h1 h2 h3 h4
  by_cases hx : 2 ≤ x
  · have c1 : (1 < (x : Int)) = True := eq_true (by omega)
    have hsx := sz_two hx
    have hs31 := sz31 h2
    simp only [shs, zts, sos, sls, zss, eqs, sx, sb1, sb2, sb3, sb4, sb5, ↓reduceIte, Nat.reduceAdd, Nat.reduceMul, Nat.reduceDiv, Nat.reduceEqDiff, Nat.reduceLT, Nat.reduceLeDiff, reduceCtorEq, Int.reduceEq, Int.reduceNe, Int.reduceLT, Int.reduceLE, Int.reduceAdd, Int.reduceSub, Int.reduceMul, Int.reduceNeg, Int.reduceToNat, Int.cast_ofNat_Int, Int.natCast_zero, Int.natCast_one, Int.toNat_natCast, Nat.reduceBEq, c1]
    refine CallK.res rfl rfl (least x M1 hx h2) (fun r M' ⟨v, h, _⟩ => by subst h; rfl) fun r M2 hM2 ⟨v, hr, hv⟩ => ?_
    subst hr
    obtain ⟨v2, hdv⟩ := hv.two hx
    obtain ⟨d1, d2, d3, d4⟩ := div_of_dv hx v2 hdv
    have hvx := dv_sz hdv (by omega)
    have hv31 := le_of_sz (x := v) (by omega)
    have hq31 := le_of_sz (x := pdiv x v) (by omega)
    simp only [shs, zts, sos, sls, zss, eqs, sx, sb1, sb2, sb3, sb4, sb5, ↓reduceIte, Nat.reduceAdd, Nat.reduceMul, Nat.reduceDiv, Nat.reduceEqDiff, Nat.reduceLT, Nat.reduceLeDiff, reduceCtorEq, Int.reduceEq, Int.reduceNe, Int.reduceLT, Int.reduceLE, Int.reduceAdd, Int.reduceSub, Int.reduceMul, Int.reduceNeg, Int.reduceToNat, Int.cast_ofNat_Int, Int.natCast_zero, Int.natCast_one, Int.toNat_natCast, Nat.reduceBEq, nzs, List.length_map]
    refine ⟨⟨by omega, by omega⟩, ?_⟩
    refine CallK.row Ctx.id rfl rfl (coef x M2 (by omega)) fun v1 M3 hM3 hv1 => ?_
    simp only [shs, zts, sos, sls, zss, eqs, sx, sb1, sb2, sb3, sb4, sb5, ↓reduceIte, Nat.reduceAdd, Nat.reduceMul, Nat.reduceDiv, Nat.reduceEqDiff, Nat.reduceLT, Nat.reduceLeDiff, reduceCtorEq, Int.reduceEq, Int.reduceNe, Int.reduceLT, Int.reduceLE, Int.reduceAdd, Int.reduceSub, Int.reduceMul, Int.reduceNeg, Int.reduceToNat, Int.cast_ofNat_Int, Int.natCast_zero, Int.natCast_one, Int.toNat_natCast, Nat.reduceBEq]
    refine CallK.row Ctx.id rfl rfl (coef v M3 (by omega)) fun v2' M4 hM4 hv2 => ?_
    simp only [shs, zts, sos, sls, zss, eqs, sx, sb1, sb2, sb3, sb4, sb5, ↓reduceIte, Nat.reduceAdd, Nat.reduceMul, Nat.reduceDiv, Nat.reduceEqDiff, Nat.reduceLT, Nat.reduceLeDiff, reduceCtorEq, Int.reduceEq, Int.reduceNe, Int.reduceLT, Int.reduceLE, Int.reduceAdd, Int.reduceSub, Int.reduceMul, Int.reduceNeg, Int.reduceToNat, Int.cast_ofNat_Int, Int.natCast_zero, Int.natCast_one, Int.toNat_natCast, Nat.reduceBEq]
    refine CallK.row2 rfl rfl (left v1 v2' (sz x) x v M4 (hv1.le hM4) hv2 (lt_two_sz x) (by omega) (by omega)) fun v3 v4 M5 hM5 hv3 hv4 => ?_
    simp only [shs, zts, sos, sls, zss, eqs, sx, sb1, sb2, sb3, sb4, sb5, ↓reduceIte, Nat.reduceAdd, Nat.reduceMul, Nat.reduceDiv, Nat.reduceEqDiff, Nat.reduceLT, Nat.reduceLeDiff, reduceCtorEq, Int.reduceEq, Int.reduceNe, Int.reduceLT, Int.reduceLE, Int.reduceAdd, Int.reduceSub, Int.reduceMul, Int.reduceNeg, Int.reduceToNat, Int.cast_ofNat_Int, Int.natCast_zero, Int.natCast_one, Int.toNat_natCast, Nat.reduceBEq]
    refine CallK.pure ⟨rfl, rfl⟩ rfl (num v3 _ (pdiv x v) M5 hv3 (by omega) (lt_two_sz _)) ?_
    simp only [shs, zts, sos, sls, zss, eqs, sx, sb1, sb2, sb3, sb4, sb5, ↓reduceIte, Nat.reduceAdd, Nat.reduceMul, Nat.reduceDiv, Nat.reduceEqDiff, Nat.reduceLT, Nat.reduceLeDiff, reduceCtorEq, Int.reduceEq, Int.reduceNe, Int.reduceLT, Int.reduceLE, Int.reduceAdd, Int.reduceSub, Int.reduceMul, Int.reduceNeg, Int.reduceToNat, Int.cast_ofNat_Int, Int.natCast_zero, Int.natCast_one, Int.toNat_natCast, Nat.reduceBEq]
    refine ⟨(pdiv x v, out ++ [v], M5), ⟨⟨⟨⟨d2, hq31⟩, by simp only [List.length_append, List.length_singleton]; omega⟩, fun l hl => ?_⟩, by simp only; omega⟩, Ent.of ?_⟩
    · simp only at hl ⊢
      rw [List.append_assoc]
      exact h4 _ (.cons hx hv hl)
    · simp only [sx, sb1, sb2, sb3, sb4, sb5, ↓reduceIte, Nat.reduceAdd, Nat.reduceMul, Nat.reduceDiv, Nat.reduceEqDiff, Nat.reduceLT, Nat.reduceLeDiff, reduceCtorEq, Int.reduceEq, Int.reduceNe, Int.reduceLT, Int.reduceLE, Int.reduceAdd, Int.reduceSub, Int.reduceMul, Int.reduceNeg, Int.reduceToNat, Int.cast_ofNat_Int, Int.natCast_zero, Int.natCast_one, Int.toNat_natCast, Nat.reduceBEq, List.map_append, encM]
  · have c1 : (1 < (x : Int)) = False := eq_false (by omega)
    have := h4 [] (.nil (by omega))
    rw [List.append_nil] at this
    simp only [shs, zts, sos, sls, zss, eqs, sx, sb1, sb2, sb3, sb4, sb5, ↓reduceIte, Nat.reduceAdd, Nat.reduceMul, Nat.reduceDiv, Nat.reduceEqDiff, Nat.reduceLT, Nat.reduceLeDiff, reduceCtorEq, Int.reduceEq, Int.reduceNe, Int.reduceLT, Int.reduceLE, Int.reduceAdd, Int.reduceSub, Int.reduceMul, Int.reduceNeg, Int.reduceToNat, Int.cast_ofNat_Int, Int.natCast_zero, Int.natCast_one, Int.toNat_natCast, Nat.reduceBEq, c1]
    exact ⟨out, this, .own 112, rfl, rfl⟩
theorem factors (m : Nat) (M : Mem) (hm : m ≤ 2147483647) (h0 : 1 ≤ m) :
    Meets Proofs.Try.prog 35 [.v (.int .i64 (m : Int))] M fun r H M' => ∃ l, FacP m l ∧ RowR (fun s => .tup [s, .v (.int .i64 0)]) 1 (l.map encM) r H M' := by
  refine Meets.of_body [0,2,3,4,5,6,7,9,11,12,17,20,22,36,49] Proofs.Try.func35 rfl (by kernel_rfl) rfl fun w => ?_
  have hc := check (m : Int) M
  rw [er_ok (by omega)] at hc
  have hm0 : ((m : Int) = 0) = False := eq_false (by omega)
  simp only [Proofs.Try.f35, shs, zts, sos, sls, zss, eqs, sx, sb1, sb2, sb3, sb4, sb5, ↓reduceIte, Nat.reduceAdd, Nat.reduceMul, Nat.reduceDiv, Nat.reduceEqDiff, Nat.reduceLT, Nat.reduceLeDiff, reduceCtorEq, Int.reduceEq, Int.reduceNe, Int.reduceLT, Int.reduceLE, Int.reduceAdd, Int.reduceSub, Int.reduceMul, Int.reduceNeg, Int.reduceToNat, Int.cast_ofNat_Int, Int.natCast_zero, Int.natCast_one, Int.toNat_natCast, Nat.reduceBEq]
  refine CallK.pure ⟨rfl, rfl⟩ rfl hc ?_
  simp only [shs, zts, sos, sls, zss, eqs, sx, sb1, sb2, sb3, sb4, sb5, ↓reduceIte, Nat.reduceAdd, Nat.reduceMul, Nat.reduceDiv, Nat.reduceEqDiff, Nat.reduceLT, Nat.reduceLeDiff, reduceCtorEq, Int.reduceEq, Int.reduceNe, Int.reduceLT, Int.reduceLE, Int.reduceAdd, Int.reduceSub, Int.reduceMul, Int.reduceNeg, Int.reduceToNat, Int.cast_ofNat_Int, Int.natCast_zero, Int.natCast_one, Int.toNat_natCast, Nat.reduceBEq, hm0]
  refine LoopK.nilRow 5 53 1 rfl rfl rfl ?_
  simp only [sx, sb1, sb2, sb3, sb4, sb5, ↓reduceIte, Nat.reduceAdd, Nat.reduceMul, Nat.reduceDiv, Nat.reduceEqDiff, Nat.reduceLT, Nat.reduceLeDiff, reduceCtorEq, Int.reduceEq, Int.reduceNe, Int.reduceLT, Int.reduceLE, Int.reduceAdd, Int.reduceSub, Int.reduceMul, Int.reduceNeg, Int.reduceToNat, Int.cast_ofNat_Int, Int.natCast_zero, Int.natCast_one, Int.toNat_natCast, Nat.reduceBEq]
  refine LoopK.go (X := Nat × Nat × List Nat) (fun x => ([(0, true, .v (.int .i64 (x.1 : Int))), (5, true, .own 424), (6, true, .v (.int .i64 (x.2.1 : Int)))], [(424, .row 1 (x.2.2.map encM))], M))
    (fun x => (((1 ≤ x.1 ∧ x.1 ≤ 2147483647) ∧ x.2.2.length + sz x.1 ≤ 32) ∧ (2 ≤ x.2.1 ∧ x.2.1 ≤ 65536)) ∧ (∀ g, 2 ≤ g → g < x.2.1 → ¬ dv g x.1) ∧ ∀ l, FacP x.1 l → FacP m (x.2.2 ++ l)) (fun x => sz x.1 * 70000 + (65536 - x.2.1)) (m, 2, [])
    ⟨⟨⟨⟨h0, hm⟩, by have := sz31 hm; simp; omega⟩, by simp⟩, fun g _ _ => by simp only at *; omega, fun l h => h⟩ (Ent.of ?_) ?_
  · simp only [sx, sb1, sb2, sb3, sb4, sb5, ↓reduceIte, Nat.reduceAdd, Nat.reduceMul, Nat.reduceDiv, Nat.reduceEqDiff, Nat.reduceLT, Nat.reduceLeDiff, reduceCtorEq, Int.reduceEq, Int.reduceNe, Int.reduceLT, Int.reduceLE, Int.reduceAdd, Int.reduceSub, Int.reduceMul, Int.reduceNeg, Int.reduceToNat, Int.cast_ofNat_Int, Int.natCast_zero, Int.natCast_one, Int.toNat_natCast, Nat.reduceBEq, List.map_nil]
  rintro ⟨x, f, out⟩ ⟨⟨⟨⟨h1, h2⟩, h3⟩, f1, f2⟩, h5, h4⟩
  simp only at h1 h2 h3 h4 f1 f2 h5
  by_cases hx : 2 ≤ x
  · have c1 : (1 < (x : Int)) = True := eq_true (by omega)
    have hsx := sz_two hx
    have hs31 := sz31 h2
    have hsf := sz_two f1
    have hsf2 : sz f ≤ 17 := sz_le.2 (by omega)
    simp only [shs, zts, sos, sls, zss, eqs, sx, sb1, sb2, sb3, sb4, sb5, ↓reduceIte, Nat.reduceAdd, Nat.reduceMul, Nat.reduceDiv, Nat.reduceEqDiff, Nat.reduceLT, Nat.reduceLeDiff, reduceCtorEq, Int.reduceEq, Int.reduceNe, Int.reduceLT, Int.reduceLE, Int.reduceAdd, Int.reduceSub, Int.reduceMul, Int.reduceNeg, Int.reduceToNat, Int.cast_ofNat_Int, Int.natCast_zero, Int.natCast_one, Int.toNat_natCast, Nat.reduceBEq, c1]
    refine CallK.pure ⟨rfl, rfl⟩ rfl (Deg f M (by omega)) ?_
    simp only [shs, zts, sos, sls, zss, eqs, sx, sb1, sb2, sb3, sb4, sb5, ↓reduceIte, Nat.reduceAdd, Nat.reduceMul, Nat.reduceDiv, Nat.reduceEqDiff, Nat.reduceLT, Nat.reduceLeDiff, reduceCtorEq, Int.reduceEq, Int.reduceNe, Int.reduceLT, Int.reduceLE, Int.reduceAdd, Int.reduceSub, Int.reduceMul, Int.reduceNeg, Int.reduceToNat, Int.cast_ofNat_Int, Int.natCast_zero, Int.natCast_one, Int.toNat_natCast, Nat.reduceBEq]
    refine CallK.pure ⟨rfl, rfl⟩ rfl (Deg x M h2) ?_
    have i1 : inK .i64 (2 * (((sz f : Nat) : Int) - 1)) := ⟨by simp only [lo]; omega, by simp only [hi]; omega⟩
    by_cases hb : 2 * (sz f - 1) > sz x - 1
    · have c2 : (((sz x : Nat) : Int) - 1 < 2 * (((sz f : Nat) : Int) - 1)) = True := eq_true (by omega)
      have hL : LeastP x x := .inl ⟨rfl, fun g g1 g2 => by
        rcases Nat.lt_or_ge g f with h | h
        · exact h5 g g1 h
        · have := sz_mono h
          omega⟩
      have hF := h4 [x] (.cons hx hL (by rw [pdiv_self hx]; exact .nil (by omega)))
      simp only [shs, zts, sos, sls, zss, eqs, sx, sb1, sb2, sb3, sb4, sb5, ↓reduceIte, Nat.reduceAdd, Nat.reduceMul, Nat.reduceDiv, Nat.reduceEqDiff, Nat.reduceLT, Nat.reduceLeDiff, reduceCtorEq, Int.reduceEq, Int.reduceNe, Int.reduceLT, Int.reduceLE, Int.reduceAdd, Int.reduceSub, Int.reduceMul, Int.reduceNeg, Int.reduceToNat, Int.cast_ofNat_Int, Int.natCast_zero, Int.natCast_one, Int.toNat_natCast, Nat.reduceBEq, nzs, i1, c2, List.length_map]
      refine ⟨⟨by omega, by omega⟩, out ++ [x], hF, .own 320, rfl, ?_⟩
      simp only [IsRow, sx, sb1, sb2, sb3, sb4, sb5, ↓reduceIte, Nat.reduceAdd, Nat.reduceMul, Nat.reduceDiv, Nat.reduceEqDiff, Nat.reduceLT, Nat.reduceLeDiff, reduceCtorEq, Int.reduceEq, Int.reduceNe, Int.reduceLT, Int.reduceLE, Int.reduceAdd, Int.reduceSub, Int.reduceMul, Int.reduceNeg, Int.reduceToNat, Int.cast_ofNat_Int, Int.natCast_zero, Int.natCast_one, Int.toNat_natCast, Nat.reduceBEq, List.map_append, encM]
    · have c2 : (((sz x : Nat) : Int) - 1 < 2 * (((sz f : Nat) : Int) - 1)) = False := eq_false (by omega)
      have hD := Div x f M h2 (by omega)
      rw [if_neg (by omega : ¬ f = 0)] at hD
      simp only [shs, zts, sos, sls, zss, eqs, sx, sb1, sb2, sb3, sb4, sb5, ↓reduceIte, Nat.reduceAdd, Nat.reduceMul, Nat.reduceDiv, Nat.reduceEqDiff, Nat.reduceLT, Nat.reduceLeDiff, reduceCtorEq, Int.reduceEq, Int.reduceNe, Int.reduceLT, Int.reduceLE, Int.reduceAdd, Int.reduceSub, Int.reduceMul, Int.reduceNeg, Int.reduceToNat, Int.cast_ofNat_Int, Int.natCast_zero, Int.natCast_one, Int.toNat_natCast, Nat.reduceBEq, nzs, i1, c2]
      refine CallK.pure ⟨rfl, rfl⟩ rfl hD ?_
      by_cases hd : pmod x f = 0
      · have c3 : (((pmod x f : Nat) : Int) = 0) = True := eq_true (by omega)
        have hdv := (dv_pmod (by omega : f ≠ 0)).2 hd
        have hL : LeastP x f := .inr ⟨f1, by omega, hdv, h5⟩
        obtain ⟨d1, d2, d3, d4⟩ := div_of_dv hx f1 hdv
        have hq31 := le_of_sz (x := pdiv x f) (by omega)
        simp only [shs, zts, sos, sls, zss, eqs, sx, sb1, sb2, sb3, sb4, sb5, ↓reduceIte, Nat.reduceAdd, Nat.reduceMul, Nat.reduceDiv, Nat.reduceEqDiff, Nat.reduceLT, Nat.reduceLeDiff, reduceCtorEq, Int.reduceEq, Int.reduceNe, Int.reduceLT, Int.reduceLE, Int.reduceAdd, Int.reduceSub, Int.reduceMul, Int.reduceNeg, Int.reduceToNat, Int.cast_ofNat_Int, Int.natCast_zero, Int.natCast_one, Int.toNat_natCast, Nat.reduceBEq, nzs, c3, List.length_map]
        refine ⟨⟨by omega, by omega⟩, (pdiv x f, f, out ++ [f]), ⟨⟨⟨⟨⟨d2, hq31⟩, by simp only [List.length_append, List.length_singleton]; omega⟩, f1, f2⟩, fun g g1 g2 hg => h5 g g1 g2 ?_, fun l hl => ?_⟩, by simp only; omega⟩, Ent.of ?_⟩
        · simp only at hg
          rw [d1]
          exact dv_mul' _ hg
        · simp only at hl ⊢
          rw [List.append_assoc]
          exact h4 _ (.cons hx hL hl)
        · simp only [sx, sb1, sb2, sb3, sb4, sb5, ↓reduceIte, Nat.reduceAdd, Nat.reduceMul, Nat.reduceDiv, Nat.reduceEqDiff, Nat.reduceLT, Nat.reduceLeDiff, reduceCtorEq, Int.reduceEq, Int.reduceNe, Int.reduceLT, Int.reduceLE, Int.reduceAdd, Int.reduceSub, Int.reduceMul, Int.reduceNeg, Int.reduceToNat, Int.cast_ofNat_Int, Int.natCast_zero, Int.natCast_one, Int.toNat_natCast, Nat.reduceBEq, List.map_append, encM]
      · have c3 : (((pmod x f : Nat) : Int) = 0) = False := eq_false (by omega)
        have hf16 : f < 65536 := sz_le.1 (show sz f ≤ 16 by omega)
        have i3 : inK .i64 ((f : Int) + 1) := ⟨by simp only [lo]; omega, by simp only [hi]; omega⟩
        simp only [shs, zts, sos, sls, zss, eqs, sx, sb1, sb2, sb3, sb4, sb5, ↓reduceIte, Nat.reduceAdd, Nat.reduceMul, Nat.reduceDiv, Nat.reduceEqDiff, Nat.reduceLT, Nat.reduceLeDiff, reduceCtorEq, Int.reduceEq, Int.reduceNe, Int.reduceLT, Int.reduceLE, Int.reduceAdd, Int.reduceSub, Int.reduceMul, Int.reduceNeg, Int.reduceToNat, Int.cast_ofNat_Int, Int.natCast_zero, Int.natCast_one, Int.toNat_natCast, Nat.reduceBEq, nzs, c3, i3]
        refine ⟨(x, f + 1, out), ⟨⟨⟨⟨⟨h1, h2⟩, h3⟩, by simp only; omega, by simp only; omega⟩, fun g g1 g2 => ?_, h4⟩, by simp only; omega⟩, Ent.of ?_⟩
        · simp only at g2
          rcases Nat.lt_or_ge g f with h | h
          · exact h5 g g1 h
          · have : g = f := by omega
            rw [this]
            exact fun h => hd ((dv_pmod (by omega)).1 h)
        · simp only [sx, sb1, sb2, sb3, sb4, sb5, ↓reduceIte, Nat.reduceAdd, Nat.reduceMul, Nat.reduceDiv, Nat.reduceEqDiff, Nat.reduceLT, Nat.reduceLeDiff, reduceCtorEq, Int.reduceEq, Int.reduceNe, Int.reduceLT, Int.reduceLE, Int.reduceAdd, Int.reduceSub, Int.reduceMul, Int.reduceNeg, Int.reduceToNat, Int.cast_ofNat_Int, Int.natCast_zero, Int.natCast_one, Int.toNat_natCast, Nat.reduceBEq, Int.natCast_add]
  · have c1 : (1 < (x : Int)) = False := eq_false (by omega)
    have := h4 [] (.nil (by omega))
    rw [List.append_nil] at this
    simp only [shs, zts, sos, sls, zss, eqs, sx, sb1, sb2, sb3, sb4, sb5, ↓reduceIte, Nat.reduceAdd, Nat.reduceMul, Nat.reduceDiv, Nat.reduceEqDiff, Nat.reduceLT, Nat.reduceLeDiff, reduceCtorEq, Int.reduceEq, Int.reduceNe, Int.reduceLT, Int.reduceLE, Int.reduceAdd, Int.reduceSub, Int.reduceMul, Int.reduceNeg, Int.reduceToNat, Int.cast_ofNat_Int, Int.natCast_zero, Int.natCast_one, Int.toNat_natCast, Nat.reduceBEq, c1]
    exact ⟨out, this, .own 424, rfl, rfl⟩
theorem factors_bad (m : Int) (M : Mem) (hm : m < 0 ∨ 2147483647 < m) :
    Meets Proofs.Try.prog 35 [.v (.int .i64 m)] M fun r _ _ => r = .tup [.v (.slice none 0 0), .v (.int .i64 1)] := by
  refine Meets.of_body [0,2,3,4,5,6,7,9,11,12,17,20,22,36,49] Proofs.Try.func35 rfl (by kernel_rfl) rfl fun w => ?_
  have hc := check m M
  rw [er_bad hm] at hc
  simp only [Proofs.Try.f35, shs, zts, sos, sls, zss, eqs, sx, sb1, sb2, sb3, sb4, sb5, ↓reduceIte, Nat.reduceAdd, Nat.reduceMul, Nat.reduceDiv, Nat.reduceEqDiff, Nat.reduceLT, Nat.reduceLeDiff, reduceCtorEq, Int.reduceEq, Int.reduceNe, Int.reduceLT, Int.reduceLE, Int.reduceAdd, Int.reduceSub, Int.reduceMul, Int.reduceNeg, Int.reduceToNat, Int.cast_ofNat_Int, Int.natCast_zero, Int.natCast_one, Int.toNat_natCast, Nat.reduceBEq]
  refine CallK.pure ⟨rfl, rfl⟩ rfl hc ?_
  simp only [shs, zts, sos, sls, zss, eqs, sx, sb1, sb2, sb3, sb4, sb5, ↓reduceIte, Nat.reduceAdd, Nat.reduceMul, Nat.reduceDiv, Nat.reduceEqDiff, Nat.reduceLT, Nat.reduceLeDiff, reduceCtorEq, Int.reduceEq, Int.reduceNe, Int.reduceLT, Int.reduceLE, Int.reduceAdd, Int.reduceSub, Int.reduceMul, Int.reduceNeg, Int.reduceToNat, Int.cast_ofNat_Int, Int.natCast_zero, Int.natCast_one, Int.toNat_natCast, Nat.reduceBEq]
theorem factors_zero (M : Mem) :
    Meets Proofs.Try.prog 35 [.v (.int .i64 0)] M fun r _ _ => r = .tup [.v (.slice none 0 0), .v (.int .i64 10)] := by
  refine Meets.of_body [0,2,3,4,5,6,7,9,11,12,17,20,22,36,49] Proofs.Try.func35 rfl (by kernel_rfl) rfl fun w => ?_
  have hc := check 0 M
  rw [er_ok (by omega)] at hc
  simp only [Proofs.Try.f35, shs, zts, sos, sls, zss, eqs, sx, sb1, sb2, sb3, sb4, sb5, ↓reduceIte, Nat.reduceAdd, Nat.reduceMul, Nat.reduceDiv, Nat.reduceEqDiff, Nat.reduceLT, Nat.reduceLeDiff, reduceCtorEq, Int.reduceEq, Int.reduceNe, Int.reduceLT, Int.reduceLE, Int.reduceAdd, Int.reduceSub, Int.reduceMul, Int.reduceNeg, Int.reduceToNat, Int.cast_ofNat_Int, Int.natCast_zero, Int.natCast_one, Int.toNat_natCast, Nat.reduceBEq]
  refine CallK.pure ⟨rfl, rfl⟩ rfl hc ?_
  simp only [shs, zts, sos, sls, zss, eqs, sx, sb1, sb2, sb3, sb4, sb5, ↓reduceIte, Nat.reduceAdd, Nat.reduceMul, Nat.reduceDiv, Nat.reduceEqDiff, Nat.reduceLT, Nat.reduceLeDiff, reduceCtorEq, Int.reduceEq, Int.reduceNe, Int.reduceLT, Int.reduceLE, Int.reduceAdd, Int.reduceSub, Int.reduceMul, Int.reduceNeg, Int.reduceToNat, Int.cast_ofNat_Int, Int.natCast_zero, Int.natCast_one, Int.toNat_natCast, Nat.reduceBEq]
theorem pubF {f : FuncId} {m : Nat} {args : List SV} {M : Mem} {T : SV → SV} (hT : Ctx T) (h : Meets Proofs.Try.prog f args M fun r H M' => ∃ l, FacP m l ∧ RowR T 1 (l.map encM) r H M') :
    Meets Proofs.Try.prog f args M fun r _ M' => ∃ v l, r = T (.v v) ∧ RowM M' v 1 (l.map encM) ∧ FacP m l := by
  refine (Meets.pub (sz := 1) (Φ := fun es _ => ∃ l, FacP m l ∧ es = l.map encM) hT (fun _ _ _ _ h => h) (h.mono fun s H M' _ ⟨l, hl, s', e, hR⟩ => ⟨s', _, e, hR, l, hl, rfl⟩)).mono fun s H M' _ ⟨v, es, e, hv, l, hl, e2⟩ => ⟨v, l, e, by rw [← e2]; exact hv, hl⟩
theorem primeSays (m : Int) (M : Mem) (_ : inK .i64 m) : Meets Proofs.Try.prog 6 [.v (.int .i64 m)] M fun r _ _ => r = .v (.bool true) := by
  refine Meets.of_body [0,2,3,4,5,6,7,8,9,10,30,64,68,75,81,83] Proofs.Try.func6 rfl (by kernel_rfl) rfl fun w => ?_
  simp only [Proofs.Try.f6, shs, zts, sos, sls, zss, eqs, sx, sb1, sb2, sb3, sb4, sb5, ↓reduceIte, Nat.reduceAdd, Nat.reduceMul, Nat.reduceDiv, Nat.reduceEqDiff, Nat.reduceLT, Nat.reduceLeDiff, reduceCtorEq, Int.reduceEq, Int.reduceNe, Int.reduceLT, Int.reduceLE, Int.reduceAdd, Int.reduceSub, Int.reduceMul, Int.reduceNeg, Int.reduceToNat, Int.cast_ofNat_Int, Int.natCast_zero, Int.natCast_one, Int.toNat_natCast, Nat.reduceBEq]
  by_cases hbad : m < 0 ∨ 2147483647 < m
  · have hpe : pe [m] = 1 := by simp only [pe]; rw [if_pos hbad]
    refine CallK.pure ⟨rfl, rfl⟩ rfl (Is_bad m M hbad) ?_
    simp only [shs, zts, sos, sls, zss, eqs, sx, sb1, sb2, sb3, sb4, sb5, ↓reduceIte, Nat.reduceAdd, Nat.reduceMul, Nat.reduceDiv, Nat.reduceEqDiff, Nat.reduceLT, Nat.reduceLeDiff, reduceCtorEq, Int.reduceEq, Int.reduceNe, Int.reduceLT, Int.reduceLE, Int.reduceAdd, Int.reduceSub, Int.reduceMul, Int.reduceNeg, Int.reduceToNat, Int.cast_ofNat_Int, Int.natCast_zero, Int.natCast_one, Int.toNat_natCast, Nat.reduceBEq]
    refine CallK.pure ⟨rfl, rfl⟩ rfl (Next_bad m M hbad) ?_
    simp only [shs, zts, sos, sls, zss, eqs, sx, sb1, sb2, sb3, sb4, sb5, ↓reduceIte, Nat.reduceAdd, Nat.reduceMul, Nat.reduceDiv, Nat.reduceEqDiff, Nat.reduceLT, Nat.reduceLeDiff, reduceCtorEq, Int.reduceEq, Int.reduceNe, Int.reduceLT, Int.reduceLE, Int.reduceAdd, Int.reduceSub, Int.reduceMul, Int.reduceNeg, Int.reduceToNat, Int.cast_ofNat_Int, Int.natCast_zero, Int.natCast_one, Int.toNat_natCast, Nat.reduceBEq]
    refine CallK.pure ⟨rfl, rfl⟩ rfl (factors_bad m M hbad) ?_
    simp only [shs, zts, sos, sls, zss, eqs, sx, sb1, sb2, sb3, sb4, sb5, ↓reduceIte, Nat.reduceAdd, Nat.reduceMul, Nat.reduceDiv, Nat.reduceEqDiff, Nat.reduceLT, Nat.reduceLeDiff, reduceCtorEq, Int.reduceEq, Int.reduceNe, Int.reduceLT, Int.reduceLE, Int.reduceAdd, Int.reduceSub, Int.reduceMul, Int.reduceNeg, Int.reduceToNat, Int.cast_ofNat_Int, Int.natCast_zero, Int.natCast_one, Int.toNat_natCast, Nat.reduceBEq]
    refine CallK.lend (k := 216) rfl rfl rfl (fun _ => rfl) (fun v2 M2 _ hv2 => poly v2 [m] M2 hv2) ?_
    simp only [hpe, shs, zts, sos, sls, zss, eqs, sx, sb1, sb2, sb3, sb4, sb5, ↓reduceIte, Nat.reduceAdd, Nat.reduceMul, Nat.reduceDiv, Nat.reduceEqDiff, Nat.reduceLT, Nat.reduceLeDiff, reduceCtorEq, Int.reduceEq, Int.reduceNe, Int.reduceLT, Int.reduceLE, Int.reduceAdd, Int.reduceSub, Int.reduceMul, Int.reduceNeg, Int.reduceToNat, Int.cast_ofNat_Int, Int.natCast_zero, Int.natCast_one, Int.toNat_natCast, Nat.reduceBEq, len_nil]
  · obtain ⟨m, rfl, hm⟩ := nat_of (a := m) (by omega)
    have hpe : pe [(m : Int)] = 0 := by simp only [pe]; rw [if_neg hbad]
    refine CallK.pure ⟨rfl, rfl⟩ rfl (Is m M hm) ?_
    simp only [shs, zts, sos, sls, zss, eqs, sx, sb1, sb2, sb3, sb4, sb5, ↓reduceIte, Nat.reduceAdd, Nat.reduceMul, Nat.reduceDiv, Nat.reduceEqDiff, Nat.reduceLT, Nat.reduceLeDiff, reduceCtorEq, Int.reduceEq, Int.reduceNe, Int.reduceLT, Int.reduceLE, Int.reduceAdd, Int.reduceSub, Int.reduceMul, Int.reduceNeg, Int.reduceToNat, Int.cast_ofNat_Int, Int.natCast_zero, Int.natCast_one, Int.toNat_natCast, Nat.reduceBEq]
    refine CallK.res rfl rfl (Next m M hm) (fun r M' ⟨v, h, _⟩ => by subst h; rfl) fun r M1 hM1 ⟨v, hr, hv⟩ => ?_
    subst hr
    by_cases h0 : m = 0
    · subst h0
      simp only [shs, zts, sos, sls, zss, eqs, sx, sb1, sb2, sb3, sb4, sb5, ↓reduceIte, Nat.reduceAdd, Nat.reduceMul, Nat.reduceDiv, Nat.reduceEqDiff, Nat.reduceLT, Nat.reduceLeDiff, reduceCtorEq, Int.reduceEq, Int.reduceNe, Int.reduceLT, Int.reduceLE, Int.reduceAdd, Int.reduceSub, Int.reduceMul, Int.reduceNeg, Int.reduceToNat, Int.cast_ofNat_Int, Int.natCast_zero, Int.natCast_one, Int.toNat_natCast, Nat.reduceBEq]
      refine CallK.pure ⟨rfl, rfl⟩ rfl (factors_zero M1) ?_
      simp only [shs, zts, sos, sls, zss, eqs, sx, sb1, sb2, sb3, sb4, sb5, ↓reduceIte, Nat.reduceAdd, Nat.reduceMul, Nat.reduceDiv, Nat.reduceEqDiff, Nat.reduceLT, Nat.reduceLeDiff, reduceCtorEq, Int.reduceEq, Int.reduceNe, Int.reduceLT, Int.reduceLE, Int.reduceAdd, Int.reduceSub, Int.reduceMul, Int.reduceNeg, Int.reduceToNat, Int.cast_ofNat_Int, Int.natCast_zero, Int.natCast_one, Int.toNat_natCast, Nat.reduceBEq]
      refine CallK.lend (k := 216) rfl rfl rfl (fun _ => rfl) (fun v2 M2 _ hv2 => poly v2 [0] M2 hv2) ?_
      have hpe : pe [0] = 0 := hpe
      simp only [hpe, shs, zts, sos, sls, zss, eqs, sx, sb1, sb2, sb3, sb4, sb5, ↓reduceIte, Nat.reduceAdd, Nat.reduceMul, Nat.reduceDiv, Nat.reduceEqDiff, Nat.reduceLT, Nat.reduceLeDiff, reduceCtorEq, Int.reduceEq, Int.reduceNe, Int.reduceLT, Int.reduceLE, Int.reduceAdd, Int.reduceSub, Int.reduceMul, Int.reduceNeg, Int.reduceToNat, Int.cast_ofNat_Int, Int.natCast_zero, Int.natCast_one, Int.toNat_natCast, Nat.reduceBEq]
      refine CallK.pure ⟨rfl, rfl⟩ rfl (rprime 0 M1 hm) ?_
      simp only [shs, zts, sos, sls, zss, eqs, sx, sb1, sb2, sb3, sb4, sb5, ↓reduceIte, Nat.reduceAdd, Nat.reduceMul, Nat.reduceDiv, Nat.reduceEqDiff, Nat.reduceLT, Nat.reduceLeDiff, reduceCtorEq, Int.reduceEq, Int.reduceNe, Int.reduceLT, Int.reduceLE, Int.reduceAdd, Int.reduceSub, Int.reduceMul, Int.reduceNeg, Int.reduceToNat, Int.cast_ofNat_Int, Int.natCast_zero, Int.natCast_one, Int.toNat_natCast, Nat.reduceBEq, beq_self_eq_true]
      refine CallK.res rfl rfl (rnext 0 M1 hm) (fun r M' ⟨v, h, _⟩ => by subst h; rfl) fun r M2 hM2 ⟨v', hr, hv'⟩ => ?_
      subst hr
      have := hv.uniq hv'
      subst this
      by_cases hv0 : v = 0
      · subst hv0
        have hE : nextE 0 = 4 := rfl
        simp only [shs, zts, sos, sls, zss, eqs, sx, sb1, sb2, sb3, sb4, sb5, ↓reduceIte, Nat.reduceAdd, Nat.reduceMul, Nat.reduceDiv, Nat.reduceEqDiff, Nat.reduceLT, Nat.reduceLeDiff, reduceCtorEq, Int.reduceEq, Int.reduceNe, Int.reduceLT, Int.reduceLE, Int.reduceAdd, Int.reduceSub, Int.reduceMul, Int.reduceNeg, Int.reduceToNat, Int.cast_ofNat_Int, Int.natCast_zero, Int.natCast_one, Int.toNat_natCast, Nat.reduceBEq, hE, len_nil]
      · have hE : nextE v = 0 := if_neg hv0
        have c4 : (0 < (v : Int)) = True := eq_true (by omega)
        simp only [shs, zts, sos, sls, zss, eqs, sx, sb1, sb2, sb3, sb4, sb5, ↓reduceIte, Nat.reduceAdd, Nat.reduceMul, Nat.reduceDiv, Nat.reduceEqDiff, Nat.reduceLT, Nat.reduceLeDiff, reduceCtorEq, Int.reduceEq, Int.reduceNe, Int.reduceLT, Int.reduceLE, Int.reduceAdd, Int.reduceSub, Int.reduceMul, Int.reduceNeg, Int.reduceToNat, Int.cast_ofNat_Int, Int.natCast_zero, Int.natCast_one, Int.toNat_natCast, Nat.reduceBEq, hE, c4, len_nil]
    · have c0 : ((m : Int) = 0) = False := eq_false (by omega)
      simp only [shs, zts, sos, sls, zss, eqs, sx, sb1, sb2, sb3, sb4, sb5, ↓reduceIte, Nat.reduceAdd, Nat.reduceMul, Nat.reduceDiv, Nat.reduceEqDiff, Nat.reduceLT, Nat.reduceLeDiff, reduceCtorEq, Int.reduceEq, Int.reduceNe, Int.reduceLT, Int.reduceLE, Int.reduceAdd, Int.reduceSub, Int.reduceMul, Int.reduceNeg, Int.reduceToNat, Int.cast_ofNat_Int, Int.natCast_zero, Int.natCast_one, Int.toNat_natCast, Nat.reduceBEq]
      refine CallK.res rfl rfl (pubF (Ctx.fst _) (factors m M1 hm (by omega))) (fun r M' ⟨v, l, h, _⟩ => by subst h; rfl) fun r M2 hM2 ⟨v1, l, hr, hv1, hl⟩ => ?_
      subst hr
      simp only [shs, zts, sos, sls, zss, eqs, sx, sb1, sb2, sb3, sb4, sb5, ↓reduceIte, Nat.reduceAdd, Nat.reduceMul, Nat.reduceDiv, Nat.reduceEqDiff, Nat.reduceLT, Nat.reduceLeDiff, reduceCtorEq, Int.reduceEq, Int.reduceNe, Int.reduceLT, Int.reduceLE, Int.reduceAdd, Int.reduceSub, Int.reduceMul, Int.reduceNeg, Int.reduceToNat, Int.cast_ofNat_Int, Int.natCast_zero, Int.natCast_one, Int.toNat_natCast, Nat.reduceBEq]
      refine CallK.lend (k := 216) rfl rfl rfl (fun _ => rfl) (fun v2 M2 _ hv2 => poly v2 [(m : Int)] M2 hv2) ?_
      simp only [hpe, shs, zts, sos, sls, zss, eqs, sx, sb1, sb2, sb3, sb4, sb5, ↓reduceIte, Nat.reduceAdd, Nat.reduceMul, Nat.reduceDiv, Nat.reduceEqDiff, Nat.reduceLT, Nat.reduceLeDiff, reduceCtorEq, Int.reduceEq, Int.reduceNe, Int.reduceLT, Int.reduceLE, Int.reduceAdd, Int.reduceSub, Int.reduceMul, Int.reduceNeg, Int.reduceToNat, Int.cast_ofNat_Int, Int.natCast_zero, Int.natCast_one, Int.toNat_natCast, Nat.reduceBEq]
      refine CallK.pure ⟨rfl, rfl⟩ rfl (rprime m M2 hm) ?_
      simp only [shs, zts, sos, sls, zss, eqs, sx, sb1, sb2, sb3, sb4, sb5, ↓reduceIte, Nat.reduceAdd, Nat.reduceMul, Nat.reduceDiv, Nat.reduceEqDiff, Nat.reduceLT, Nat.reduceLeDiff, reduceCtorEq, Int.reduceEq, Int.reduceNe, Int.reduceLT, Int.reduceLE, Int.reduceAdd, Int.reduceSub, Int.reduceMul, Int.reduceNeg, Int.reduceToNat, Int.cast_ofNat_Int, Int.natCast_zero, Int.natCast_one, Int.toNat_natCast, Nat.reduceBEq, beq_self_eq_true]
      refine CallK.res rfl rfl (rnext m M2 hm) (fun r M' ⟨v, h, _⟩ => by subst h; rfl) fun r M3 hM3 ⟨v', hr, hv'⟩ => ?_
      subst hr
      have := hv.uniq hv'
      subst this
      have fin : ∀ M4, M3.le M4 → ∀ v2 l2, RowM M4 v2 1 (l2.map encM) → FacP m l2 → Meets Proofs.Try.prog 21 [.v v1, .v v2] M4 fun r _ _ => r = .v (.bool true) := fun M4 hM4 v2 l2 hv2 hl2 => by
        have e := hl.uniq hl2
        subst e
        have h1 := (hv1.le hM3).le hM4
        rw [encM_map] at h1 hv2
        have := eqIn v1 v2 _ _ M4 h1 hv2
        rw [decide_eq_true rfl] at this
        exact this
      by_cases hv0 : v = 0
      · subst hv0
        have hE : nextE 0 = 4 := rfl
        simp only [shs, zts, sos, sls, zss, eqs, sx, sb1, sb2, sb3, sb4, sb5, ↓reduceIte, Nat.reduceAdd, Nat.reduceMul, Nat.reduceDiv, Nat.reduceEqDiff, Nat.reduceLT, Nat.reduceLeDiff, reduceCtorEq, Int.reduceEq, Int.reduceNe, Int.reduceLT, Int.reduceLE, Int.reduceAdd, Int.reduceSub, Int.reduceMul, Int.reduceNeg, Int.reduceToNat, Int.cast_ofNat_Int, Int.natCast_zero, Int.natCast_one, Int.toNat_natCast, Nat.reduceBEq, hE, c0]
        refine CallK.res rfl rfl (pubF Ctx.id (rfactors m M3 hm (by omega))) (fun r M' ⟨v, l, h, _⟩ => by subst h; rfl) fun r M4 hM4 ⟨v2, l2, hr, hv2, hl2⟩ => ?_
        subst hr
        simp only [shs, zts, sos, sls, zss, eqs, sx, sb1, sb2, sb3, sb4, sb5, ↓reduceIte, Nat.reduceAdd, Nat.reduceMul, Nat.reduceDiv, Nat.reduceEqDiff, Nat.reduceLT, Nat.reduceLeDiff, reduceCtorEq, Int.reduceEq, Int.reduceNe, Int.reduceLT, Int.reduceLE, Int.reduceAdd, Int.reduceSub, Int.reduceMul, Int.reduceNeg, Int.reduceToNat, Int.cast_ofNat_Int, Int.natCast_zero, Int.natCast_one, Int.toNat_natCast, Nat.reduceBEq]
        refine CallK.pure ⟨rfl, rfl⟩ rfl (fin M4 hM4 v2 l2 hv2 hl2) ?_
        simp only [shs, zts, sos, sls, zss, eqs, sx, sb1, sb2, sb3, sb4, sb5, ↓reduceIte, Nat.reduceAdd, Nat.reduceMul, Nat.reduceDiv, Nat.reduceEqDiff, Nat.reduceLT, Nat.reduceLeDiff, reduceCtorEq, Int.reduceEq, Int.reduceNe, Int.reduceLT, Int.reduceLE, Int.reduceAdd, Int.reduceSub, Int.reduceMul, Int.reduceNeg, Int.reduceToNat, Int.cast_ofNat_Int, Int.natCast_zero, Int.natCast_one, Int.toNat_natCast, Nat.reduceBEq]
      · have hE : nextE v = 0 := if_neg hv0
        have c4 : (0 < (v : Int)) = True := eq_true (by omega)
        simp only [shs, zts, sos, sls, zss, eqs, sx, sb1, sb2, sb3, sb4, sb5, ↓reduceIte, Nat.reduceAdd, Nat.reduceMul, Nat.reduceDiv, Nat.reduceEqDiff, Nat.reduceLT, Nat.reduceLeDiff, reduceCtorEq, Int.reduceEq, Int.reduceNe, Int.reduceLT, Int.reduceLE, Int.reduceAdd, Int.reduceSub, Int.reduceMul, Int.reduceNeg, Int.reduceToNat, Int.cast_ofNat_Int, Int.natCast_zero, Int.natCast_one, Int.toNat_natCast, Nat.reduceBEq, hE, c4, c0]
        refine CallK.res rfl rfl (pubF Ctx.id (rfactors m M3 hm (by omega))) (fun r M' ⟨v, l, h, _⟩ => by subst h; rfl) fun r M4 hM4 ⟨v2, l2, hr, hv2, hl2⟩ => ?_
        subst hr
        simp only [shs, zts, sos, sls, zss, eqs, sx, sb1, sb2, sb3, sb4, sb5, ↓reduceIte, Nat.reduceAdd, Nat.reduceMul, Nat.reduceDiv, Nat.reduceEqDiff, Nat.reduceLT, Nat.reduceLeDiff, reduceCtorEq, Int.reduceEq, Int.reduceNe, Int.reduceLT, Int.reduceLE, Int.reduceAdd, Int.reduceSub, Int.reduceMul, Int.reduceNeg, Int.reduceToNat, Int.cast_ofNat_Int, Int.natCast_zero, Int.natCast_one, Int.toNat_natCast, Nat.reduceBEq]
        refine CallK.pure ⟨rfl, rfl⟩ rfl (fin M4 hM4 v2 l2 hv2 hl2) ?_
        simp only [shs, zts, sos, sls, zss, eqs, sx, sb1, sb2, sb3, sb4, sb5, ↓reduceIte, Nat.reduceAdd, Nat.reduceMul, Nat.reduceDiv, Nat.reduceEqDiff, Nat.reduceLT, Nat.reduceLeDiff, reduceCtorEq, Int.reduceEq, Int.reduceNe, Int.reduceLT, Int.reduceLE, Int.reduceAdd, Int.reduceSub, Int.reduceMul, Int.reduceNeg, Int.reduceToNat, Int.cast_ofNat_Int, Int.natCast_zero, Int.natCast_one, Int.toNat_natCast, Nat.reduceBEq]
end Go.X.Rb
