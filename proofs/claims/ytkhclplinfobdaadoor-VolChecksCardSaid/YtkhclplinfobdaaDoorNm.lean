/- Names: what vol.Name and woolref.Name return. Conditions: none. -/
import Derived.Test.YtkhclplinfobdaaDoorFwT
import Derived.Test.YtkhclplinfobdaaDoorStr
set_option linter.unusedSimpArgs false
set_option linter.unusedVariables false
set_option maxHeartbeats 4000000
set_option maxRecDepth 20000
namespace Go.X.Nm
open Go Go.X Go.RowKit Go.X.Pl Go.X.St

def okC (b : UInt8) : Bool := decide (97 ≤ b.toNat ∧ b.toNat ≤ 122) || decide (48 ≤ b.toNat ∧ b.toNat ≤ 57)
def nmB (s : List UInt8) : Bool := decide (0 < s.length ∧ s.length ≤ 12) && s.all okC
theorem strIx_at {s : List UInt8} {i : Nat} {b : UInt8} (h : s[i]? = some b) : strIx s (i : Int) = ((b.toNat : Nat) : Int) := by
  unfold strIx
  rw [Int.toNat_natCast, List.getD_eq_getElem?_getD, h]
  rfl
theorem nameW (s : List UInt8) (M : Mem) :
    Meets Proofs.Tryd.prog 22 [.v (.string ⟨s.toArray⟩)] M fun r _ _ => r = .v (.bool (nmB s)) := by
  refine Meets.of_body [0,2,3,10,12,13,14,38] Proofs.Tryd.func22 rfl (by kernel_rfl) rfl fun w => ?_
  generalize hc : nmB s = c
  unfold nmB at hc
  by_cases h0 : s = []
  · subst h0
    rw [show c = false by rw [← hc]; rfl]
    simp only [Proofs.Tryd.f22, shs, zts, sos, sls, zss, eqs, sx, sb1, sb2, sb3, sb4, sb5, sb6, sb7, ↓reduceIte, Nat.reduceAdd, Nat.reduceMul, Nat.reduceDiv, Nat.reduceEqDiff, Nat.reduceLT, Nat.reduceLeDiff, reduceCtorEq, Int.reduceEq, Int.reduceNe, Int.reduceLT, Int.reduceLE, Int.reduceAdd, Int.reduceSub, Int.reduceMul, Int.reduceNeg, Int.reduceToNat, Int.cast_ofNat_Int, Int.natCast_zero, Int.natCast_one, Int.toNat_natCast, Nat.reduceBEq, nzs]
  have d0 := eq_false h0
  have hl := List.length_pos_iff.2 h0
  by_cases h1 : 12 < s.length
  · have d1 : ((12 : Int) < (s.length : Int)) = True := eq_true (by omega)
    rw [show c = false by rw [← hc, decide_eq_false (by omega)]; rfl]
    simp only [Proofs.Tryd.f22, shs, zts, sos, sls, zss, eqs, sx, sb1, sb2, sb3, sb4, sb5, sb6, sb7, ↓reduceIte, Nat.reduceAdd, Nat.reduceMul, Nat.reduceDiv, Nat.reduceEqDiff, Nat.reduceLT, Nat.reduceLeDiff, reduceCtorEq, Int.reduceEq, Int.reduceNe, Int.reduceLT, Int.reduceLE, Int.reduceAdd, Int.reduceSub, Int.reduceMul, Int.reduceNeg, Int.reduceToNat, Int.cast_ofNat_Int, Int.natCast_zero, Int.natCast_one, Int.toNat_natCast, Nat.reduceBEq, nzs, d0, d1]
  have d1 : ((12 : Int) < (s.length : Int)) = False := eq_false (by omega)
  rw [decide_eq_true (by omega), Bool.true_and] at hc
  simp only [Proofs.Tryd.f22, shs, zts, sos, sls, zss, eqs, sx, sb1, sb2, sb3, sb4, sb5, sb6, sb7, ↓reduceIte, Nat.reduceAdd, Nat.reduceMul, Nat.reduceDiv, Nat.reduceEqDiff, Nat.reduceLT, Nat.reduceLeDiff, reduceCtorEq, Int.reduceEq, Int.reduceNe, Int.reduceLT, Int.reduceLE, Int.reduceAdd, Int.reduceSub, Int.reduceMul, Int.reduceNeg, Int.reduceToNat, Int.cast_ofNat_Int, Int.natCast_zero, Int.natCast_one, Int.toNat_natCast, Nat.reduceBEq, nzs, d0, d1]
  refine LoopK.go (X := Nat × Nat) (fun x => ([(0, true, .v (.string ⟨s.toArray⟩)), (12, true, .v (.int .i64 s.length)), (13, true, .v (.int .i64 (x.2 : Int)))], [], M))
    (fun x => x.1 + x.2 = s.length ∧ (s.drop x.2).all okC = c) (fun x => x.1) (s.length, 0) ⟨rfl, hc⟩ (Ent.of ?_) ?_
  · simp only [sx, sb1, sb2, sb3, sb4, sb5, sb6, sb7, ↓reduceIte, Nat.reduceAdd, Nat.reduceMul, Nat.reduceDiv, Nat.reduceEqDiff, Nat.reduceLT, Nat.reduceLeDiff, reduceCtorEq, Int.reduceEq, Int.reduceNe, Int.reduceLT, Int.reduceLE, Int.reduceAdd, Int.reduceSub, Int.reduceMul, Int.reduceNeg, Int.reduceToNat, Int.cast_ofNat_Int, Int.natCast_zero, Int.natCast_one, Int.toNat_natCast, Nat.reduceBEq]
  rintro ⟨f, i⟩ ⟨g1, g3⟩
  simp only at g1 g3
  by_cases hil : i < s.length
  · have c1 : ((i : Int) < (s.length : Int)) = True := eq_true (by omega)
    obtain ⟨b, hb1, hd⟩ := l_drop_at (l := s) (i := i) hil
    have e1 := strIx_at hb1
    rw [hd, List.all_cons] at g3
    have hgo : okC b = true → (s.drop (i + 1)).all okC = c := fun h => by rw [h, Bool.true_and] at g3; exact g3
    have hno : okC b = false → c = false := fun h => by rw [h, Bool.false_and] at g3; exact g3.symm
    by_cases a1 : 97 ≤ b.toNat
    · have k1 : ((97 : Int) ≤ ((b.toNat : Nat) : Int)) = True := eq_true (by omega)
      by_cases a2 : b.toNat ≤ 122
      · have k2 : (((b.toNat : Nat) : Int) ≤ 122) = True := eq_true (by omega)
        have ho : okC b = true := by unfold okC; rw [decide_eq_true ⟨a1, a2⟩]; rfl
        simp only [shs, zts, sos, sls, zss, eqs, sx, sb1, sb2, sb3, sb4, sb5, sb6, sb7, ↓reduceIte, Nat.reduceAdd, Nat.reduceMul, Nat.reduceDiv, Nat.reduceEqDiff, Nat.reduceLT, Nat.reduceLeDiff, reduceCtorEq, Int.reduceEq, Int.reduceNe, Int.reduceLT, Int.reduceLE, Int.reduceAdd, Int.reduceSub, Int.reduceMul, Int.reduceNeg, Int.reduceToNat, Int.cast_ofNat_Int, Int.natCast_zero, Int.natCast_one, Int.toNat_natCast, Nat.reduceBEq, nzs, c1, e1, k1, k2, inK, lo, hi]
        refine ⟨by omega, by omega, by omega, (f - 1, i + 1), ⟨⟨by simp only; omega, hgo ho⟩, by simp only; omega⟩, Ent.of ?_⟩
        simp only [sx, sb1, sb2, sb3, sb4, sb5, sb6, sb7, ↓reduceIte, Nat.reduceAdd, Nat.reduceMul, Nat.reduceDiv, Nat.reduceEqDiff, Nat.reduceLT, Nat.reduceLeDiff, reduceCtorEq, Int.reduceEq, Int.reduceNe, Int.reduceLT, Int.reduceLE, Int.reduceAdd, Int.reduceSub, Int.reduceMul, Int.reduceNeg, Int.reduceToNat, Int.cast_ofNat_Int, Int.natCast_zero, Int.natCast_one, Int.toNat_natCast, Nat.reduceBEq, Int.natCast_add]
      · have k2 : (((b.toNat : Nat) : Int) ≤ 122) = False := eq_false (by omega)
        have k3 : ((48 : Int) ≤ ((b.toNat : Nat) : Int)) = True := eq_true (by omega)
        have k4 : (((b.toNat : Nat) : Int) ≤ 57) = False := eq_false (by omega)
        have ho : okC b = false := by unfold okC; rw [decide_eq_false (by omega), decide_eq_false (by omega)]; rfl
        simp only [shs, zts, sos, sls, zss, eqs, sx, sb1, sb2, sb3, sb4, sb5, sb6, sb7, ↓reduceIte, Nat.reduceAdd, Nat.reduceMul, Nat.reduceDiv, Nat.reduceEqDiff, Nat.reduceLT, Nat.reduceLeDiff, reduceCtorEq, Int.reduceEq, Int.reduceNe, Int.reduceLT, Int.reduceLE, Int.reduceAdd, Int.reduceSub, Int.reduceMul, Int.reduceNeg, Int.reduceToNat, Int.cast_ofNat_Int, Int.natCast_zero, Int.natCast_one, Int.toNat_natCast, Nat.reduceBEq, nzs, c1, e1, k1, k2, k3, k4, hno ho, inK, lo, hi]
        omega
    · have k1 : ((97 : Int) ≤ ((b.toNat : Nat) : Int)) = False := eq_false (by omega)
      by_cases a3 : 48 ≤ b.toNat
      · have k3 : ((48 : Int) ≤ ((b.toNat : Nat) : Int)) = True := eq_true (by omega)
        by_cases a4 : b.toNat ≤ 57
        · have k4 : (((b.toNat : Nat) : Int) ≤ 57) = True := eq_true (by omega)
          have ho : okC b = true := by unfold okC; rw [decide_eq_false (by omega), decide_eq_true ⟨a3, a4⟩]; rfl
          simp only [shs, zts, sos, sls, zss, eqs, sx, sb1, sb2, sb3, sb4, sb5, sb6, sb7, ↓reduceIte, Nat.reduceAdd, Nat.reduceMul, Nat.reduceDiv, Nat.reduceEqDiff, Nat.reduceLT, Nat.reduceLeDiff, reduceCtorEq, Int.reduceEq, Int.reduceNe, Int.reduceLT, Int.reduceLE, Int.reduceAdd, Int.reduceSub, Int.reduceMul, Int.reduceNeg, Int.reduceToNat, Int.cast_ofNat_Int, Int.natCast_zero, Int.natCast_one, Int.toNat_natCast, Nat.reduceBEq, nzs, c1, e1, k1, k3, k4, inK, lo, hi]
          refine ⟨by omega, by omega, by omega, by omega, (f - 1, i + 1), ⟨⟨by simp only; omega, hgo ho⟩, by simp only; omega⟩, Ent.of ?_⟩
          simp only [sx, sb1, sb2, sb3, sb4, sb5, sb6, sb7, ↓reduceIte, Nat.reduceAdd, Nat.reduceMul, Nat.reduceDiv, Nat.reduceEqDiff, Nat.reduceLT, Nat.reduceLeDiff, reduceCtorEq, Int.reduceEq, Int.reduceNe, Int.reduceLT, Int.reduceLE, Int.reduceAdd, Int.reduceSub, Int.reduceMul, Int.reduceNeg, Int.reduceToNat, Int.cast_ofNat_Int, Int.natCast_zero, Int.natCast_one, Int.toNat_natCast, Nat.reduceBEq, Int.natCast_add]
        · have k4 : (((b.toNat : Nat) : Int) ≤ 57) = False := eq_false (by omega)
          have ho : okC b = false := by unfold okC; rw [decide_eq_false (by omega), decide_eq_false (by omega)]; rfl
          simp only [shs, zts, sos, sls, zss, eqs, sx, sb1, sb2, sb3, sb4, sb5, sb6, sb7, ↓reduceIte, Nat.reduceAdd, Nat.reduceMul, Nat.reduceDiv, Nat.reduceEqDiff, Nat.reduceLT, Nat.reduceLeDiff, reduceCtorEq, Int.reduceEq, Int.reduceNe, Int.reduceLT, Int.reduceLE, Int.reduceAdd, Int.reduceSub, Int.reduceMul, Int.reduceNeg, Int.reduceToNat, Int.cast_ofNat_Int, Int.natCast_zero, Int.natCast_one, Int.toNat_natCast, Nat.reduceBEq, nzs, c1, e1, k1, k3, k4, hno ho, inK, lo, hi]
          omega
      · have k3 : ((48 : Int) ≤ ((b.toNat : Nat) : Int)) = False := eq_false (by omega)
        have ho : okC b = false := by unfold okC; rw [decide_eq_false (by omega), decide_eq_false (by omega)]; rfl
        simp only [shs, zts, sos, sls, zss, eqs, sx, sb1, sb2, sb3, sb4, sb5, sb6, sb7, ↓reduceIte, Nat.reduceAdd, Nat.reduceMul, Nat.reduceDiv, Nat.reduceEqDiff, Nat.reduceLT, Nat.reduceLeDiff, reduceCtorEq, Int.reduceEq, Int.reduceNe, Int.reduceLT, Int.reduceLE, Int.reduceAdd, Int.reduceSub, Int.reduceMul, Int.reduceNeg, Int.reduceToNat, Int.cast_ofNat_Int, Int.natCast_zero, Int.natCast_one, Int.toNat_natCast, Nat.reduceBEq, nzs, c1, e1, k1, k3, hno ho, inK, lo, hi]
        omega
  · have c1 : ((i : Int) < (s.length : Int)) = False := eq_false (by omega)
    rw [List.drop_eq_nil_of_le (by omega)] at g3
    rw [show c = true from g3.symm]
    simp only [shs, zts, sos, sls, zss, eqs, sx, sb1, sb2, sb3, sb4, sb5, sb6, sb7, ↓reduceIte, Nat.reduceAdd, Nat.reduceMul, Nat.reduceDiv, Nat.reduceEqDiff, Nat.reduceLT, Nat.reduceLeDiff, reduceCtorEq, Int.reduceEq, Int.reduceNe, Int.reduceLT, Int.reduceLE, Int.reduceAdd, Int.reduceSub, Int.reduceMul, Int.reduceNeg, Int.reduceToNat, Int.cast_ofNat_Int, Int.natCast_zero, Int.natCast_one, Int.toNat_natCast, Nat.reduceBEq, nzs, c1]
/-! the reference's -/
def cs36 : List UInt8 := [97, 98, 99, 100, 101, 102, 103, 104, 105, 106, 107, 108, 109, 110, 111, 112, 113, 114, 115, 116, 117, 118, 119, 120, 121, 122, 48, 49, 50, 51, 52, 53, 54, 55, 56, 57]
theorem cs_ok (b : UInt8) : cs36.contains b = okC b := by
  have h : ∀ n, n < 256 → cs36.contains (UInt8.ofNat n) = okC (UInt8.ofNat n) := by decide +kernel
  have := h b.toNat (UInt8.toNat_lt b)
  rwa [UInt8.ofNat_toNat] at this
theorem dw_nil (p : UInt8 → Bool) : ∀ l : List UInt8, l.dropWhile p = [] ↔ l.all p = true
  | [] => by simp
  | x :: l => by
    rw [List.dropWhile_cons, List.all_cons]
    cases hp : p x with
    | true => simpa using dw_nil p l
    | false => simp
theorem trim_nil (s : List UInt8) : decide (Lib.trimS s cs36 = []) = s.all okC := by
  unfold Lib.trimS Lib.trimRightS Lib.trimLeftS
  rw [show ((cs36 : List UInt8).contains ·) = okC from funext cs_ok]
  rw [← List.all_reverse (l := s)]
  have h1 := dw_nil okC s.reverse
  generalize s.reverse.all okC = c at *
  cases c with
  | true =>
    rw [h1.2 rfl]
    rfl
  | false =>
    refine decide_eq_false fun h => ?_
    rw [dw_nil, List.all_reverse] at h
    have h2 : s.reverse.dropWhile okC ≠ [] := fun e => by cases h1.1 e
    obtain ⟨x, t, hx⟩ := List.exists_cons_of_ne_nil h2
    have h3 : okC x = false := by
      have := List.head_dropWhile_not okC h2
      simpa [hx] using this
    rw [hx, List.all_cons, h3] at h
    cases h
theorem trim36 (s : List UInt8) (M : Mem) (hs : s.length ≤ 9223372036854775807) :
    Meets Proofs.Tryd.prog 60 [.v (.string ⟨s.toArray⟩), .v (.string ⟨#[97, 98, 99, 100, 101, 102, 103, 104, 105, 106, 107, 108, 109, 110, 111, 112, 113, 114, 115, 116, 117, 118, 119, 120, 121, 122, 48, 49, 50, 51, 52, 53, 54, 55, 56, 57]⟩)] M fun r _ _ => r = .v (.string ⟨(Lib.trimS s cs36).toArray⟩) := by
  refine Meets.ofCalls ⟨_, Proofs.Tryd.func60, by kernel_rfl, by kernel_rfl⟩ fun w => ?_
  exact Proofs.Any.strings_Trim_laid Proofs.Tryd.lays160 (by kernel_rfl) ⟨s.toArray⟩ ⟨#[97, 98, 99, 100, 101, 102, 103, 104, 105, 106, 107, 108, 109, 110, 111, 112, 113, 114, 115, 116, 117, 118, 119, 120, 121, 122, 48, 49, 50, 51, 52, 53, 54, 55, 56, 57]⟩ w (by simpa [ByteArray.size] using hs) (by decide) (Proofs.ascii_of_all (by decide))
theorem ok_cases {b : UInt8} (h : okC b = true) : (97 ≤ b.toNat ∧ b.toNat ≤ 122) ∨ (48 ≤ b.toNat ∧ b.toNat ≤ 57) := by
  unfold okC at h
  rw [Bool.or_eq_true, decide_eq_true_eq, decide_eq_true_eq] at h
  exact h
theorem name1 (b : UInt8) (M : Mem) (h : okC b = true) :
    Meets Proofs.Tryd.prog 62 [.v (.int .i32 (b.toNat : Int))] M fun r _ _ => r = .v (.bool false) := by
  refine Meets.of_body [0,2] Proofs.Tryd.func62 rfl (by kernel_rfl) rfl fun w => ?_
  have h' := ok_cases h
  have k0 : (((b.toNat : Nat) : Int) < 48) = False := eq_false (by omega)
  have k2 : ((122 : Int) < ((b.toNat : Nat) : Int)) = False := eq_false (by omega)
  by_cases a : 57 < b.toNat
  · have k1 : ((57 : Int) < ((b.toNat : Nat) : Int)) = True := eq_true (by omega)
    have k3 : (((b.toNat : Nat) : Int) < 97) = False := eq_false (by omega)
    simp only [Proofs.Tryd.f62, shs, zts, sos, sls, zss, eqs, sx, sb1, sb2, sb3, sb4, sb5, sb6, sb7, ↓reduceIte, Nat.reduceAdd, Nat.reduceMul, Nat.reduceDiv, Nat.reduceEqDiff, Nat.reduceLT, Nat.reduceLeDiff, reduceCtorEq, Int.reduceEq, Int.reduceNe, Int.reduceLT, Int.reduceLE, Int.reduceAdd, Int.reduceSub, Int.reduceMul, Int.reduceNeg, Int.reduceToNat, Int.cast_ofNat_Int, Int.natCast_zero, Int.natCast_one, Int.toNat_natCast, Nat.reduceBEq, nzs, k0, k1, k2, k3]
  · have k1 : ((57 : Int) < ((b.toNat : Nat) : Int)) = False := eq_false (by omega)
    simp only [Proofs.Tryd.f62, shs, zts, sos, sls, zss, eqs, sx, sb1, sb2, sb3, sb4, sb5, sb6, sb7, ↓reduceIte, Nat.reduceAdd, Nat.reduceMul, Nat.reduceDiv, Nat.reduceEqDiff, Nat.reduceLT, Nat.reduceLeDiff, reduceCtorEq, Int.reduceEq, Int.reduceNe, Int.reduceLT, Int.reduceLE, Int.reduceAdd, Int.reduceSub, Int.reduceMul, Int.reduceNeg, Int.reduceToNat, Int.cast_ofNat_Int, Int.natCast_zero, Int.natCast_one, Int.toNat_natCast, Nat.reduceBEq, nzs, k0, k1, k2]
theorem idxF (s : List UInt8) (M : Mem) (h : s.all okC = true) (hs : s.length ≤ 9223372036854775807) :
    Meets Proofs.Tryd.prog 111 [.v (.string ⟨s.toArray⟩), .fn 62 [], .v (.bool true)] M fun r _ _ => r = .v (.int .i64 (-1)) := by
  refine Meets.of_body [0,1,2,6,7,8,10,11,12,19] Proofs.Tryd.func111 rfl (by kernel_rfl) rfl fun w => ?_
  simp only [Proofs.Tryd.f111, shs, zts, sos, sls, zss, eqs, sx, sb1, sb2, sb3, sb4, sb5, sb6, sb7, ↓reduceIte, Nat.reduceAdd, Nat.reduceMul, Nat.reduceDiv, Nat.reduceEqDiff, Nat.reduceLT, Nat.reduceLeDiff, reduceCtorEq, Int.reduceEq, Int.reduceNe, Int.reduceLT, Int.reduceLE, Int.reduceAdd, Int.reduceSub, Int.reduceMul, Int.reduceNeg, Int.reduceToNat, Int.cast_ofNat_Int, Int.natCast_zero, Int.natCast_one, Int.toNat_natCast, Nat.reduceBEq, nzs, sT]
  refine OpK.rangeStr (s := ⟨s.toArray⟩) rfl rfl rfl (by kernel_rfl) rfl fun b hb h0 => ?_
  simp only [shs, zts, sos, sls, zss, eqs, sx, sb1, sb2, sb3, sb4, sb5, sb6, sb7, ↓reduceIte, Nat.reduceAdd, Nat.reduceMul, Nat.reduceDiv, Nat.reduceEqDiff, Nat.reduceLT, Nat.reduceLeDiff, reduceCtorEq, Int.reduceEq, Int.reduceNe, Int.reduceLT, Int.reduceLE, Int.reduceAdd, Int.reduceSub, Int.reduceMul, Int.reduceNeg, Int.reduceToNat, Int.cast_ofNat_Int, Int.natCast_zero, Int.natCast_one, Int.toNat_natCast, Nat.reduceBEq, nzs, sT]
  refine LoopK.go (X := Nat) (fun i => ([(1, true, .fn 62 []), (2, true, .v (.bool true)), (10, true, .v (ptrV b))], [], updM M b (.stringIter ⟨s.toArray⟩ i)))
    (fun i => i ≤ s.length) (fun i => s.length - i) 0 (Nat.zero_le _) (Ent.of ?_) ?_
  · simp only [sx, sb1, sb2, sb3, sb4, sb5, sb6, sb7, ↓reduceIte, Nat.reduceAdd, Nat.reduceMul, Nat.reduceDiv, Nat.reduceEqDiff, Nat.reduceLT, Nat.reduceLeDiff, reduceCtorEq, Int.reduceEq, Int.reduceNe, Int.reduceLT, Int.reduceLE, Int.reduceAdd, Int.reduceSub, Int.reduceMul, Int.reduceNeg, Int.reduceToNat, Int.cast_ofNat_Int, Int.natCast_zero, Int.natCast_one, Int.toNat_natCast, Nat.reduceBEq]
  rintro i hi
  simp only [shs, zts, sos, sls, zss, eqs, sx, sb1, sb2, sb3, sb4, sb5, sb6, sb7, ↓reduceIte, Nat.reduceAdd, Nat.reduceMul, Nat.reduceDiv, Nat.reduceEqDiff, Nat.reduceLT, Nat.reduceLeDiff, reduceCtorEq, Int.reduceEq, Int.reduceNe, Int.reduceLT, Int.reduceLE, Int.reduceAdd, Int.reduceSub, Int.reduceMul, Int.reduceNeg, Int.reduceToNat, Int.cast_ofNat_Int, Int.natCast_zero, Int.natCast_one, Int.toNat_natCast, Nat.reduceBEq, nzs, sT]
  by_cases hil : i < s.length
  · obtain ⟨c, hc, hd⟩ := l_drop_at (l := s) (i := i) hil
    have hok := List.all_eq_true.1 h c (List.mem_of_getElem? hc)
    have hok' := ok_cases hok
    refine OpK.nextAscii (b := b) (i := i) (s := s) rfl rfl rfl rfl (updM_at _ _ _) h0 hc (by omega) ?_
    simp only [shs, zts, sos, sls, zss, eqs, sx, sb1, sb2, sb3, sb4, sb5, sb6, sb7, ↓reduceIte, Nat.reduceAdd, Nat.reduceMul, Nat.reduceDiv, Nat.reduceEqDiff, Nat.reduceLT, Nat.reduceLeDiff, reduceCtorEq, Int.reduceEq, Int.reduceNe, Int.reduceLT, Int.reduceLE, Int.reduceAdd, Int.reduceSub, Int.reduceMul, Int.reduceNeg, Int.reduceToNat, Int.cast_ofNat_Int, Int.natCast_zero, Int.natCast_one, Int.toNat_natCast, Nat.reduceBEq, nzs, sT, updM_upd]
    refine CallK.pure ⟨rfl, rfl⟩ rfl (name1 c _ hok) ?_
    simp only [shs, zts, sos, sls, zss, eqs, sx, sb1, sb2, sb3, sb4, sb5, sb6, sb7, ↓reduceIte, Nat.reduceAdd, Nat.reduceMul, Nat.reduceDiv, Nat.reduceEqDiff, Nat.reduceLT, Nat.reduceLeDiff, reduceCtorEq, Int.reduceEq, Int.reduceNe, Int.reduceLT, Int.reduceLE, Int.reduceAdd, Int.reduceSub, Int.reduceMul, Int.reduceNeg, Int.reduceToNat, Int.cast_ofNat_Int, Int.natCast_zero, Int.natCast_one, Int.toNat_natCast, Nat.reduceBEq, nzs, sT]
    refine ⟨i + 1, ⟨by omega, by omega⟩, Ent.of ?_⟩
    simp only [sx, sb1, sb2, sb3, sb4, sb5, sb6, sb7, ↓reduceIte, Nat.reduceAdd, Nat.reduceMul, Nat.reduceDiv, Nat.reduceEqDiff, Nat.reduceLT, Nat.reduceLeDiff, reduceCtorEq, Int.reduceEq, Int.reduceNe, Int.reduceLT, Int.reduceLE, Int.reduceAdd, Int.reduceSub, Int.reduceMul, Int.reduceNeg, Int.reduceToNat, Int.cast_ofNat_Int, Int.natCast_zero, Int.natCast_one, Int.toNat_natCast, Nat.reduceBEq]
  · refine OpK.nextEnd (b := b) (i := i) (s := s) rfl rfl rfl rfl (updM_at _ _ _) (by omega) ?_
    simp only [shs, zts, sos, sls, zss, eqs, sx, sb1, sb2, sb3, sb4, sb5, sb6, sb7, ↓reduceIte, Nat.reduceAdd, Nat.reduceMul, Nat.reduceDiv, Nat.reduceEqDiff, Nat.reduceLT, Nat.reduceLeDiff, reduceCtorEq, Int.reduceEq, Int.reduceNe, Int.reduceLT, Int.reduceLE, Int.reduceAdd, Int.reduceSub, Int.reduceMul, Int.reduceNeg, Int.reduceToNat, Int.cast_ofNat_Int, Int.natCast_zero, Int.natCast_one, Int.toNat_natCast, Nat.reduceBEq, nzs, sT]
theorem contF (s : List UInt8) (M : Mem) (h : s.all okC = true) (hs : s.length ≤ 9223372036854775807) :
    Meets Proofs.Tryd.prog 61 [.v (.string ⟨s.toArray⟩), .fn 62 []] M fun r _ _ => r = .v (.bool false) := by
  refine Meets.of_body [0,1,4] Proofs.Tryd.func61 rfl (by kernel_rfl) rfl fun w => ?_
  simp only [Proofs.Tryd.f61, shs, zts, sos, sls, zss, eqs, sx, sb1, sb2, sb3, sb4, sb5, sb6, sb7, ↓reduceIte, Nat.reduceAdd, Nat.reduceMul, Nat.reduceDiv, Nat.reduceEqDiff, Nat.reduceLT, Nat.reduceLeDiff, reduceCtorEq, Int.reduceEq, Int.reduceNe, Int.reduceLT, Int.reduceLE, Int.reduceAdd, Int.reduceSub, Int.reduceMul, Int.reduceNeg, Int.reduceToNat, Int.cast_ofNat_Int, Int.natCast_zero, Int.natCast_one, Int.toNat_natCast, Nat.reduceBEq, nzs]
  refine CallK.pure (s := .v (.int .i64 (-1))) ⟨rfl, rfl⟩ rfl ?_ ?_
  · refine Meets.of_body [0,1,4] Proofs.Tryd.func90 rfl (by kernel_rfl) rfl fun w => ?_
    simp only [Proofs.Tryd.f90, shs, zts, sos, sls, zss, eqs, sx, sb1, sb2, sb3, sb4, sb5, sb6, sb7, ↓reduceIte, Nat.reduceAdd, Nat.reduceMul, Nat.reduceDiv, Nat.reduceEqDiff, Nat.reduceLT, Nat.reduceLeDiff, reduceCtorEq, Int.reduceEq, Int.reduceNe, Int.reduceLT, Int.reduceLE, Int.reduceAdd, Int.reduceSub, Int.reduceMul, Int.reduceNeg, Int.reduceToNat, Int.cast_ofNat_Int, Int.natCast_zero, Int.natCast_one, Int.toNat_natCast, Nat.reduceBEq, nzs]
    refine CallK.pure ⟨rfl, rfl⟩ rfl (idxF s M h hs) ?_
    simp only [shs, zts, sos, sls, zss, eqs, sx, sb1, sb2, sb3, sb4, sb5, sb6, sb7, ↓reduceIte, Nat.reduceAdd, Nat.reduceMul, Nat.reduceDiv, Nat.reduceEqDiff, Nat.reduceLT, Nat.reduceLeDiff, reduceCtorEq, Int.reduceEq, Int.reduceNe, Int.reduceLT, Int.reduceLE, Int.reduceAdd, Int.reduceSub, Int.reduceMul, Int.reduceNeg, Int.reduceToNat, Int.cast_ofNat_Int, Int.natCast_zero, Int.natCast_one, Int.toNat_natCast, Nat.reduceBEq, nzs]
  simp only [shs, zts, sos, sls, zss, eqs, sx, sb1, sb2, sb3, sb4, sb5, sb6, sb7, ↓reduceIte, Nat.reduceAdd, Nat.reduceMul, Nat.reduceDiv, Nat.reduceEqDiff, Nat.reduceLT, Nat.reduceLeDiff, reduceCtorEq, Int.reduceEq, Int.reduceNe, Int.reduceLT, Int.reduceLE, Int.reduceAdd, Int.reduceSub, Int.reduceMul, Int.reduceNeg, Int.reduceToNat, Int.cast_ofNat_Int, Int.natCast_zero, Int.natCast_one, Int.toNat_natCast, Nat.reduceBEq, nzs]
theorem rnameW (s : List UInt8) (M : Mem) :
    Meets Proofs.Tryd.prog 23 [.v (.string ⟨s.toArray⟩)] M fun r _ _ => r = .v (.bool (nmB s)) := by
  refine Meets.of_body [0,2] Proofs.Tryd.func23 rfl (by kernel_rfl) rfl fun w => ?_
  generalize hc : nmB s = c
  unfold nmB at hc
  by_cases h0 : 0 < s.length
  rotate_left
  · have d0 : ((0 : Int) < (s.length : Int)) = False := eq_false (by omega)
    rw [show c = false by rw [← hc, decide_eq_false (by omega)]; rfl]
    simp only [Proofs.Tryd.f23, shs, zts, sos, sls, zss, eqs, sx, sb1, sb2, sb3, sb4, sb5, sb6, sb7, ↓reduceIte, Nat.reduceAdd, Nat.reduceMul, Nat.reduceDiv, Nat.reduceEqDiff, Nat.reduceLT, Nat.reduceLeDiff, reduceCtorEq, Int.reduceEq, Int.reduceNe, Int.reduceLT, Int.reduceLE, Int.reduceAdd, Int.reduceSub, Int.reduceMul, Int.reduceNeg, Int.reduceToNat, Int.cast_ofNat_Int, Int.natCast_zero, Int.natCast_one, Int.toNat_natCast, Nat.reduceBEq, nzs, d0]
  have d0 : ((0 : Int) < (s.length : Int)) = True := eq_true (by omega)
  by_cases h1 : 12 < s.length
  · have d1 : ((s.length : Int) < 13) = False := eq_false (by omega)
    rw [show c = false by rw [← hc, decide_eq_false (by omega)]; rfl]
    simp only [Proofs.Tryd.f23, shs, zts, sos, sls, zss, eqs, sx, sb1, sb2, sb3, sb4, sb5, sb6, sb7, ↓reduceIte, Nat.reduceAdd, Nat.reduceMul, Nat.reduceDiv, Nat.reduceEqDiff, Nat.reduceLT, Nat.reduceLeDiff, reduceCtorEq, Int.reduceEq, Int.reduceNe, Int.reduceLT, Int.reduceLE, Int.reduceAdd, Int.reduceSub, Int.reduceMul, Int.reduceNeg, Int.reduceToNat, Int.cast_ofNat_Int, Int.natCast_zero, Int.natCast_one, Int.toNat_natCast, Nat.reduceBEq, nzs, d0, d1]
  have d1 : ((s.length : Int) < 13) = True := eq_true (by omega)
  rw [decide_eq_true (by omega), Bool.true_and] at hc
  simp only [Proofs.Tryd.f23, shs, zts, sos, sls, zss, eqs, sx, sb1, sb2, sb3, sb4, sb5, sb6, sb7, ↓reduceIte, Nat.reduceAdd, Nat.reduceMul, Nat.reduceDiv, Nat.reduceEqDiff, Nat.reduceLT, Nat.reduceLeDiff, reduceCtorEq, Int.reduceEq, Int.reduceNe, Int.reduceLT, Int.reduceLE, Int.reduceAdd, Int.reduceSub, Int.reduceMul, Int.reduceNeg, Int.reduceToNat, Int.cast_ofNat_Int, Int.natCast_zero, Int.natCast_one, Int.toNat_natCast, Nat.reduceBEq, nzs, d0, d1]
  refine CallK.pure ⟨rfl, rfl⟩ rfl (trim36 s M (by omega)) ?_
  have ht := trim_nil s
  rw [hc] at ht
  cases c with
  | false =>
    have d2 : (Lib.trimS s cs36 = []) = False := eq_false (of_decide_eq_false ht)
    simp only [shs, zts, sos, sls, zss, eqs, sx, sb1, sb2, sb3, sb4, sb5, sb6, sb7, ↓reduceIte, Nat.reduceAdd, Nat.reduceMul, Nat.reduceDiv, Nat.reduceEqDiff, Nat.reduceLT, Nat.reduceLeDiff, reduceCtorEq, Int.reduceEq, Int.reduceNe, Int.reduceLT, Int.reduceLE, Int.reduceAdd, Int.reduceSub, Int.reduceMul, Int.reduceNeg, Int.reduceToNat, Int.cast_ofNat_Int, Int.natCast_zero, Int.natCast_one, Int.toNat_natCast, Nat.reduceBEq, nzs, d2]
  | true =>
    have d2 : (Lib.trimS s cs36 = []) = True := eq_true (of_decide_eq_true ht)
    simp only [shs, zts, sos, sls, zss, eqs, sx, sb1, sb2, sb3, sb4, sb5, sb6, sb7, ↓reduceIte, Nat.reduceAdd, Nat.reduceMul, Nat.reduceDiv, Nat.reduceEqDiff, Nat.reduceLT, Nat.reduceLeDiff, reduceCtorEq, Int.reduceEq, Int.reduceNe, Int.reduceLT, Int.reduceLE, Int.reduceAdd, Int.reduceSub, Int.reduceMul, Int.reduceNeg, Int.reduceToNat, Int.cast_ofNat_Int, Int.natCast_zero, Int.natCast_one, Int.toNat_natCast, Nat.reduceBEq, nzs, d2]
    refine CallK.pure ⟨rfl, rfl⟩ rfl (contF s M hc (by omega)) ?_
    simp only [shs, zts, sos, sls, zss, eqs, sx, sb1, sb2, sb3, sb4, sb5, sb6, sb7, ↓reduceIte, Nat.reduceAdd, Nat.reduceMul, Nat.reduceDiv, Nat.reduceEqDiff, Nat.reduceLT, Nat.reduceLeDiff, reduceCtorEq, Int.reduceEq, Int.reduceNe, Int.reduceLT, Int.reduceLE, Int.reduceAdd, Int.reduceSub, Int.reduceMul, Int.reduceNeg, Int.reduceToNat, Int.cast_ofNat_Int, Int.natCast_zero, Int.natCast_one, Int.toNat_natCast, Nat.reduceBEq, nzs]
end Go.X.Nm
