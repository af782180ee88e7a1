/- tree.Verify and what woolref says of it. Conditions: none. -/
import Derived.Test.YtkhadbanpfngnaaPrint
set_option linter.unusedSimpArgs false
set_option linter.unusedVariables false
set_option maxHeartbeats 4000000
set_option maxRecDepth 20000
namespace Go.X.Tv
open Go Go.X Go.X.Pol Go.X.Pl Go.X.Rp Go.X.Pd Go.X.Md Go.X.Mv Go.X.Pt

def be4 (p : Nat) : List UInt8 := [UInt8.ofNat (p / 16777216), UInt8.ofNat (p / 65536), UInt8.ofNat (p / 256), UInt8.ofNat p]
theorem ofNat_mod (x : Nat) : UInt8.ofNat (x % 256) = UInt8.ofNat x := by
  apply UInt8.toNat_inj.1
  simp
theorem byteW (x : Nat) : UInt8.ofNat (IntKind.u8.wrap (x : Int)).toNat = UInt8.ofNat x := by
  have h : (IntKind.u8.wrap (x : Int)).toNat = x % 256 := by
    rw [IntKind.wrap_u8]
    omega
  rw [h, ofNat_mod]
def saidN (a b : Nat) : List UInt8 := 110 :: (be4 a ++ be4 b)

theorem be4_len (p : Nat) : (be4 p).length = 4 := rfl
theorem four (p : Nat) (M : Mem) (hp : p ≤ 2147483647) :
    Meets Proofs.Try.prog 120 [.v (.int .i64 (p : Int))] M fun r _ _ => r = .v (.string ⟨(be4 p).toArray⟩) := by
  refine Meets.of_body [0,2] Proofs.Try.func120 rfl (by kernel_rfl) rfl fun w => ?_
  simp only [Proofs.Try.f120, shs, zts, sos, sls, zss, eqs, sx, sb1, sb2, sb3, sb4, sb5, ↓reduceIte, Nat.reduceAdd, Nat.reduceMul, Nat.reduceDiv, Nat.reduceEqDiff, Nat.reduceLT, Nat.reduceLeDiff, reduceCtorEq, Int.reduceEq, Int.reduceNe, Int.reduceLT, Int.reduceLE, Int.reduceAdd, Int.reduceSub, Int.reduceMul, Int.reduceNeg, Int.reduceToNat, Int.cast_ofNat_Int, Int.natCast_zero, Int.natCast_one, Int.toNat_natCast, Nat.reduceBEq, dw, b64, byteOf, byteW]
  exact ⟨(fun h => by cases h), (fun h => by cases h), (fun h => by cases h), (fun h => by cases h), rfl⟩
theorem rfour (p : Nat) (M : Mem) (hp : p ≤ 2147483647) :
    Meets Proofs.Try.prog 83 [.v (.int .i64 (p : Int))] M fun r _ _ => r = .v (.string ⟨(be4 p).toArray⟩) := by
  refine Meets.of_body [0,2] Proofs.Try.func83 rfl (by kernel_rfl) rfl fun w => ?_
  have e1 : (p : Int).tdiv 16777216 = ((p / 16777216 : Nat) : Int) := (Int.ofNat_tdiv p 16777216).symm
  have e2 : (p : Int).tdiv 65536 = ((p / 65536 : Nat) : Int) := (Int.ofNat_tdiv p 65536).symm
  have e3 : (p : Int).tdiv 256 = ((p / 256 : Nat) : Int) := (Int.ofNat_tdiv p 256).symm
  have e4 : ∀ x : Nat, (x : Int).tmod 256 = ((x % 256 : Nat) : Int) := fun x => (Int.ofNat_tmod x 256).symm
  simp only [Proofs.Try.f83, shs, zts, sos, sls, zss, eqs, sx, sb1, sb2, sb3, sb4, sb5, ↓reduceIte, Nat.reduceAdd, Nat.reduceMul, Nat.reduceDiv, Nat.reduceEqDiff, Nat.reduceLT, Nat.reduceLeDiff, reduceCtorEq, Int.reduceEq, Int.reduceNe, Int.reduceLT, Int.reduceLE, Int.reduceAdd, Int.reduceSub, Int.reduceMul, Int.reduceNeg, Int.reduceToNat, Int.cast_ofNat_Int, Int.natCast_zero, Int.natCast_one, Int.toNat_natCast, Nat.reduceBEq, byteOf, e1, e2, e3, e4, byteW, ofNat_mod, inK, lo, hi]
  exact ⟨by omega, (fun h => by cases h), by omega, (fun h => by cases h), by omega, (fun h => by cases h), (fun h => by cases h), rfl⟩
theorem said (a b : Nat) (M : Mem) (ha : a ≤ 2147483647) (hb : b ≤ 2147483647) :
    Meets Proofs.Try.prog 81 [.v (.int .i64 (a : Int)), .v (.int .i64 (b : Int))] M fun r _ _ => r = .v (.string ⟨(saidN a b).toArray⟩) := by
  refine Meets.of_body [0,1,4] Proofs.Try.func81 rfl (by kernel_rfl) rfl fun w => ?_
  simp only [Proofs.Try.f81, shs, zts, sos, sls, zss, eqs, sx, sb1, sb2, sb3, sb4, sb5, ↓reduceIte, Nat.reduceAdd, Nat.reduceMul, Nat.reduceDiv, Nat.reduceEqDiff, Nat.reduceLT, Nat.reduceLeDiff, reduceCtorEq, Int.reduceEq, Int.reduceNe, Int.reduceLT, Int.reduceLE, Int.reduceAdd, Int.reduceSub, Int.reduceMul, Int.reduceNeg, Int.reduceToNat, Int.cast_ofNat_Int, Int.natCast_zero, Int.natCast_one, Int.toNat_natCast, Nat.reduceBEq]
  refine CallK.pure ⟨rfl, rfl⟩ rfl (four a M ha) ?_
  simp only [shs, zts, sos, sls, zss, eqs, sx, sb1, sb2, sb3, sb4, sb5, ↓reduceIte, Nat.reduceAdd, Nat.reduceMul, Nat.reduceDiv, Nat.reduceEqDiff, Nat.reduceLT, Nat.reduceLeDiff, reduceCtorEq, Int.reduceEq, Int.reduceNe, Int.reduceLT, Int.reduceLE, Int.reduceAdd, Int.reduceSub, Int.reduceMul, Int.reduceNeg, Int.reduceToNat, Int.cast_ofNat_Int, Int.natCast_zero, Int.natCast_one, Int.toNat_natCast, Nat.reduceBEq, be4_len]
  refine CallK.pure ⟨rfl, rfl⟩ rfl (four b M hb) ?_
  simp only [shs, zts, sos, sls, zss, eqs, sx, sb1, sb2, sb3, sb4, sb5, ↓reduceIte, Nat.reduceAdd, Nat.reduceMul, Nat.reduceDiv, Nat.reduceEqDiff, Nat.reduceLT, Nat.reduceLeDiff, reduceCtorEq, Int.reduceEq, Int.reduceNe, Int.reduceLT, Int.reduceLE, Int.reduceAdd, Int.reduceSub, Int.reduceMul, Int.reduceNeg, Int.reduceToNat, Int.cast_ofNat_Int, Int.natCast_zero, Int.natCast_one, Int.toNat_natCast, Nat.reduceBEq, be4_len, saidN]
theorem rsaid (a b : Nat) (M : Mem) (ha : a ≤ 2147483647) (hb : b ≤ 2147483647) :
    Meets Proofs.Try.prog 29 [.v (.int .i64 (a : Int)), .v (.int .i64 (b : Int))] M fun r _ _ => r = .v (.string ⟨(saidN a b).toArray⟩) := by
  refine Meets.of_body [0,1,4] Proofs.Try.func29 rfl (by kernel_rfl) rfl fun w => ?_
  simp only [Proofs.Try.f29, shs, zts, sos, sls, zss, eqs, sx, sb1, sb2, sb3, sb4, sb5, ↓reduceIte, Nat.reduceAdd, Nat.reduceMul, Nat.reduceDiv, Nat.reduceEqDiff, Nat.reduceLT, Nat.reduceLeDiff, reduceCtorEq, Int.reduceEq, Int.reduceNe, Int.reduceLT, Int.reduceLE, Int.reduceAdd, Int.reduceSub, Int.reduceMul, Int.reduceNeg, Int.reduceToNat, Int.cast_ofNat_Int, Int.natCast_zero, Int.natCast_one, Int.toNat_natCast, Nat.reduceBEq]
  refine CallK.pure ⟨rfl, rfl⟩ rfl (rfour a M ha) ?_
  simp only [shs, zts, sos, sls, zss, eqs, sx, sb1, sb2, sb3, sb4, sb5, ↓reduceIte, Nat.reduceAdd, Nat.reduceMul, Nat.reduceDiv, Nat.reduceEqDiff, Nat.reduceLT, Nat.reduceLeDiff, reduceCtorEq, Int.reduceEq, Int.reduceNe, Int.reduceLT, Int.reduceLE, Int.reduceAdd, Int.reduceSub, Int.reduceMul, Int.reduceNeg, Int.reduceToNat, Int.cast_ofNat_Int, Int.natCast_zero, Int.natCast_one, Int.toNat_natCast, Nat.reduceBEq, be4_len]
  refine CallK.pure ⟨rfl, rfl⟩ rfl (rfour b M hb) ?_
  simp only [shs, zts, sos, sls, zss, eqs, sx, sb1, sb2, sb3, sb4, sb5, ↓reduceIte, Nat.reduceAdd, Nat.reduceMul, Nat.reduceDiv, Nat.reduceEqDiff, Nat.reduceLT, Nat.reduceLeDiff, reduceCtorEq, Int.reduceEq, Int.reduceNe, Int.reduceLT, Int.reduceLE, Int.reduceAdd, Int.reduceSub, Int.reduceMul, Int.reduceNeg, Int.reduceToNat, Int.cast_ofNat_Int, Int.natCast_zero, Int.natCast_one, Int.toNat_natCast, Nat.reduceBEq, be4_len, saidN]

theorem prf_le (m : Nat) (h0 : m ≠ 0) (hm : m ≤ 2147483647) : ∀ (s : List UInt8) (p : Nat), p ≤ 1073741824 → prf m s p ≤ 1073741824
  | [], p, h => h
  | b :: s, p, h => by
    simp only [prf, List.foldl_cons]
    exact prf_le m h0 hm s _ (red_le h0 hm)
theorem saidN_len (a b : Nat) : (saidN a b).length = 9 := rfl

/-! ### verifying -/
def encSt (s : Bool × Int) : List Value := [.bool s.1, .int .i64 s.2]
def G : Nat := 1073741907
def stepP (b : Bool) (s : Int) (p : Nat) : Nat := if b then prf G (saidN s.toNat p) 1 else prf G (saidN p s.toNat) 1
def good (s : Int) : Prop := 0 ≤ s ∧ s ≤ 2147483647
instance (s : Int) : Decidable (good s) := inferInstanceAs (Decidable (_ ∧ _))
/-- the steps' sides, from below -/
def bu : Nat → Nat → Nat → List Bool
  | 0, _, _ => []
  | f + 1, n, i => if 1 < n then (if i ^^^ 1 < n then [decide (i ^^^ 1 < i)] else []) ++ bu f ((n + 1) / 2) (i / 2) else []
def rf (root : Int) : List Bool → List (Bool × Int) → Nat → Bool
  | [], [], p => decide ((p : Int) = root)
  | b :: sd, (c, s) :: l, p => if c = b ∧ good s then rf root sd l (stepP c s p) else false
  | [], _ :: _, _ => false
  | _ :: _, [], _ => false

theorem verify (root : Int) (n i : Nat) (t : List UInt8) (y : Value) (l : List (Bool × Int)) (M : Mem) (hn : 1 ≤ n) (hn2 : n ≤ 32) (hi' : i < n) (ht : t.length ≤ 64) (hy : RowM M y 2 (l.map encSt)) (hl : ∀ s ∈ l, inK .i64 s.2) :
    Meets Proofs.Try.prog 27 [.v (.int .i64 root), .v (.int .i64 (n : Int)), .v (.int .i64 (i : Int)), .v (.string ⟨t.toArray⟩), .v y] M fun r _ _ => r = .tup [.v (.bool (rf root (bu 32 n i) l (prf G (108 :: t) 1))), .v (.int .i64 0)] := by
  refine Meets.of_body [0,1,2,3,4,10,11,12,13,28,31,36,44,71,75] Proofs.Try.func27 rfl (by kernel_rfl) rfl fun w => ?_
  have d1 : ((n : Int) < 1) = False := eq_false (by omega)
  have d2 : (32 < (n : Int)) = False := eq_false (by omega)
  have d3 : ((i : Int) < 0) = False := eq_false (by omega)
  have d4 : ((n : Int) ≤ (i : Int)) = False := eq_false (by omega)
  have d5 : (64 < (t.length : Int)) = False := eq_false (by omega)
  simp only [Proofs.Try.f27, shs, zts, sos, sls, zss, eqs, sx, sb1, sb2, sb3, sb4, sb5, ↓reduceIte, Nat.reduceAdd, Nat.reduceMul, Nat.reduceDiv, Nat.reduceEqDiff, Nat.reduceLT, Nat.reduceLeDiff, reduceCtorEq, Int.reduceEq, Int.reduceNe, Int.reduceLT, Int.reduceLE, Int.reduceAdd, Int.reduceSub, Int.reduceMul, Int.reduceNeg, Int.reduceToNat, Int.cast_ofNat_Int, Int.natCast_zero, Int.natCast_one, Int.toNat_natCast, Nat.reduceBEq, d1, d2, d3, d4, d5]
  have hG : prf 1073741907 (108 :: t) 1 ≤ 1073741824 := prf_le 1073741907 (by omega) (by omega) (108 :: t) 1 (by omega)
  refine ⟨by omega, CallK.pure ⟨rfl, rfl⟩ rfl (plain 1073741907 (108 :: t) M (by omega) (by omega) (by simp only [maxLen, List.length_cons]; omega)) ?_⟩
  generalize hc : rf root (bu 32 n i) l (prf G (108 :: t) 1) = c
  simp only [shs, zts, sos, sls, zss, eqs, sx, sb1, sb2, sb3, sb4, sb5, ↓reduceIte, Nat.reduceAdd, Nat.reduceMul, Nat.reduceDiv, Nat.reduceEqDiff, Nat.reduceLT, Nat.reduceLeDiff, reduceCtorEq, Int.reduceEq, Int.reduceNe, Int.reduceLT, Int.reduceLE, Int.reduceAdd, Int.reduceSub, Int.reduceMul, Int.reduceNeg, Int.reduceToNat, Int.cast_ofNat_Int, Int.natCast_zero, Int.natCast_one, Int.toNat_natCast, Nat.reduceBEq]
  refine LoopK.go (X := Nat × Nat × Nat × Nat × Value × List (Bool × Int)) (fun x => ([(0, true, .v (.int .i64 root)), (1, true, .v (.int .i64 (x.2.1 : Int))), (2, true, .v (.int .i64 (x.2.2.1 : Int))), (4, true, .v x.2.2.2.2.1), (12, true, .v (.int .i64 (x.2.2.2.1 : Int)))], [], M))
    (fun x => (((((1 ≤ x.2.1 ∧ x.2.1 ≤ 32) ∧ x.2.1 ≤ x.1 + 1) ∧ x.2.2.1 < x.2.1) ∧ x.2.2.2.1 ≤ 1073741824) ∧ RowM M x.2.2.2.2.1 2 (x.2.2.2.2.2.map encSt)) ∧ rf root (bu x.1 x.2.1 x.2.2.1) x.2.2.2.2.2 x.2.2.2.1 = c) (fun x => x.1)
    (32, n, i, prf 1073741907 (108 :: t) 1, y, l) ⟨⟨⟨⟨⟨⟨hn, hn2⟩, by simp only; omega⟩, hi'⟩, hG⟩, hy⟩, hc⟩ (Ent.of ?_) ?_
  · simp only [sx, sb1, sb2, sb3, sb4, sb5, ↓reduceIte, Nat.reduceAdd, Nat.reduceMul, Nat.reduceDiv, Nat.reduceEqDiff, Nat.reduceLT, Nat.reduceLeDiff, reduceCtorEq, Int.reduceEq, Int.reduceNe, Int.reduceLT, Int.reduceLE, Int.reduceAdd, Int.reduceSub, Int.reduceMul, Int.reduceNeg, Int.reduceToNat, Int.cast_ofNat_Int, Int.natCast_zero, Int.natCast_one, Int.toNat_natCast, Nat.reduceBEq]
  rintro ⟨f, n, i, p, v, l⟩ ⟨⟨⟨⟨⟨⟨h1, h2⟩, h3⟩, h4⟩, h5⟩, h6⟩, h7⟩
  simp only at h1 h2 h3 h4 h5 h6 h7
  have hx1 : i ^^^ 1 < 32 := Nat.xor_lt_two_pow (n := 5) (by omega) (by omega)
  by_cases hn1 : 1 < n
  · have c1 : (1 < (n : Int)) = True := eq_true (by omega)
    obtain ⟨f, rfl⟩ : ∃ g, f = g + 1 := ⟨f - 1, by omega⟩
    simp only [bu, if_pos hn1] at h7
    by_cases hk : i ^^^ 1 < n
    · have c2 : (((i ^^^ 1 : Nat) : Int) < (n : Int)) = True := eq_true (by omega)
      rw [if_pos hk, List.singleton_append] at h7
      have e1 : ((i : Int).toNat ^^^ 1) = i ^^^ 1 := rfl
      cases l with
      | nil =>
        simp only [rf] at h7
        simp only [shs, zts, sos, sls, zss, eqs, sx, sb1, sb2, sb3, sb4, sb5, ↓reduceIte, Nat.reduceAdd, Nat.reduceMul, Nat.reduceDiv, Nat.reduceEqDiff, Nat.reduceLT, Nat.reduceLeDiff, reduceCtorEq, Int.reduceEq, Int.reduceNe, Int.reduceLT, Int.reduceLE, Int.reduceAdd, Int.reduceSub, Int.reduceMul, Int.reduceNeg, Int.reduceToNat, Int.cast_ofNat_Int, Int.natCast_zero, Int.natCast_one, Int.toNat_natCast, Nat.reduceBEq, inK, lo, hi, c1, c2, h6.len, h6.sl, List.length_map]
        subst h7
        exact ⟨by omega, rfl⟩
      | cons q r =>
        obtain ⟨b, s⟩ := q
        have g0 := h6.cell (i := 0) (e := [.bool b, .int .i64 s]) rfl (off := 0) (by omega)
        have g1 := h6.cell (i := 0) (e := [.bool b, .int .i64 s]) rfl (off := 1) (by omega)
        have i0 := h6.ix (i := 0) (by omega) (by simp)
        have hvl := h6.len_le
        rw [List.length_map] at hvl
        have hcap := h6.1.2.2.1
        rw [h6.len, List.length_map, List.length_cons] at hcap
        have e2 : (i : Int).tdiv 2 = ((i / 2 : Nat) : Int) := td2 i
        have e3 : ((n : Int) + 1).tdiv 2 = (((n + 1) / 2 : Nat) : Int) := td2 (n + 1)
        have h10 : ((1 : Nat) ≠ 0) = True := by simp
        have c3 : (((r.length + 1 : Nat) : Int) = 0) = False := eq_false (by omega)
        have hsub := h6.sub (lo := 1) (hi := r.length + 1) (by omega) (by simp)
        simp only [List.map_cons, List.drop_succ_cons, List.drop_zero, Nat.add_sub_cancel] at hsub
        rw [List.take_of_length_le (by simp)] at hsub
        simp only [rf] at h7
        simp only [List.getD_cons_zero, List.getD_cons_succ] at g0 g1
        by_cases hbd : b = decide (i ^^^ 1 < i) ∧ good s
        · rw [if_pos hbd] at h7
          obtain ⟨hb, hs⟩ := hbd
          unfold good at hs
          obtain ⟨s, rfl⟩ : ∃ k : Nat, s = k := ⟨s.toNat, by omega⟩
          have c4 : ((s : Int) < 0) = False := eq_false (by omega)
          have c5 : (2147483647 < (s : Int)) = False := eq_false (by omega)
          have hb' : decide (((i ^^^ 1 : Nat) : Int) < (i : Int)) = b := by rw [hb]; simp only [decide_eq_decide]; omega
          clear hb
          have hE := saidN_len
          cases b with
          | true =>
            simp only [stepP, if_true, Int.toNat_natCast] at h7
            simp only [shs, zts, sos, sls, zss, eqs, sx, sb1, sb2, sb3, sb4, sb5, ↓reduceIte, Nat.reduceAdd, Nat.reduceMul, Nat.reduceDiv, Nat.reduceEqDiff, Nat.reduceLT, Nat.reduceLeDiff, reduceCtorEq, Int.reduceEq, Int.reduceNe, Int.reduceLT, Int.reduceLE, Int.reduceAdd, Int.reduceSub, Int.reduceMul, Int.reduceNeg, Int.reduceToNat, Int.cast_ofNat_Int, Int.natCast_zero, Int.natCast_one, Int.toNat_natCast, Nat.reduceBEq, inK, lo, hi, c1, c2, c3, c4, c5, h6.len, h6.sl, List.length_map, g0.1, g1.1, hb', i0, g0.2.1, g1.2.1, i0.2, h10, beq_self_eq_true]
            have hq := prf_le G (by decide) (by decide) (saidN s p) 1 (by omega)
            refine ⟨by omega, CallK.pure ⟨rfl, rfl⟩ rfl (said s p M (by omega) (by omega)) ?_⟩
            simp only [shs, zts, sos, sls, zss, eqs, sx, sb1, sb2, sb3, sb4, sb5, ↓reduceIte, Nat.reduceAdd, Nat.reduceMul, Nat.reduceDiv, Nat.reduceEqDiff, Nat.reduceLT, Nat.reduceLeDiff, reduceCtorEq, Int.reduceEq, Int.reduceNe, Int.reduceLT, Int.reduceLE, Int.reduceAdd, Int.reduceSub, Int.reduceMul, Int.reduceNeg, Int.reduceToNat, Int.cast_ofNat_Int, Int.natCast_zero, Int.natCast_one, Int.toNat_natCast, Nat.reduceBEq]
            refine CallK.pure ⟨rfl, rfl⟩ rfl (plain 1073741907 (saidN s p) M (by omega) (by omega) (by simp only [maxLen, saidN_len]; omega)) ?_
            simp only [shs, zts, sos, sls, zss, eqs, sx, sb1, sb2, sb3, sb4, sb5, ↓reduceIte, Nat.reduceAdd, Nat.reduceMul, Nat.reduceDiv, Nat.reduceEqDiff, Nat.reduceLT, Nat.reduceLeDiff, reduceCtorEq, Int.reduceEq, Int.reduceNe, Int.reduceLT, Int.reduceLE, Int.reduceAdd, Int.reduceSub, Int.reduceMul, Int.reduceNeg, Int.reduceToNat, Int.cast_ofNat_Int, Int.natCast_zero, Int.natCast_one, Int.toNat_natCast, Nat.reduceBEq, inK, lo, hi, h6.len, h6.sl, List.length_map, List.length_cons, e2, e3]
            refine ⟨by omega, by omega, by omega, by omega, (f, (n + 1) / 2, i / 2, prf 1073741907 (saidN s p) 1, subV v 2 1 (r.length + 1), r), ⟨⟨⟨⟨⟨⟨⟨by simp only; omega, by simp only; omega⟩, by simp only; omega⟩, by simp only; omega⟩, hq⟩, hsub⟩, h7⟩, by simp only; omega⟩, Ent.of ?_⟩
            simp only [sx, sb1, sb2, sb3, sb4, sb5, ↓reduceIte, Nat.reduceAdd, Nat.reduceMul, Nat.reduceDiv, Nat.reduceEqDiff, Nat.reduceLT, Nat.reduceLeDiff, reduceCtorEq, Int.reduceEq, Int.reduceNe, Int.reduceLT, Int.reduceLE, Int.reduceAdd, Int.reduceSub, Int.reduceMul, Int.reduceNeg, Int.reduceToNat, Int.cast_ofNat_Int, Int.natCast_zero, Int.natCast_one, Int.toNat_natCast, Nat.reduceBEq]
          | false =>
            simp only [stepP, Bool.false_eq_true, if_false, Int.toNat_natCast] at h7
            simp only [shs, zts, sos, sls, zss, eqs, sx, sb1, sb2, sb3, sb4, sb5, ↓reduceIte, Nat.reduceAdd, Nat.reduceMul, Nat.reduceDiv, Nat.reduceEqDiff, Nat.reduceLT, Nat.reduceLeDiff, reduceCtorEq, Int.reduceEq, Int.reduceNe, Int.reduceLT, Int.reduceLE, Int.reduceAdd, Int.reduceSub, Int.reduceMul, Int.reduceNeg, Int.reduceToNat, Int.cast_ofNat_Int, Int.natCast_zero, Int.natCast_one, Int.toNat_natCast, Nat.reduceBEq, inK, lo, hi, c1, c2, c3, c4, c5, h6.len, h6.sl, List.length_map, g0.1, g1.1, hb', i0, g0.2.1, g1.2.1, i0.2, h10, beq_self_eq_true]
            have hq := prf_le G (by decide) (by decide) (saidN p s) 1 (by omega)
            refine ⟨by omega, CallK.pure ⟨rfl, rfl⟩ rfl (said p s M (by omega) (by omega)) ?_⟩
            simp only [shs, zts, sos, sls, zss, eqs, sx, sb1, sb2, sb3, sb4, sb5, ↓reduceIte, Nat.reduceAdd, Nat.reduceMul, Nat.reduceDiv, Nat.reduceEqDiff, Nat.reduceLT, Nat.reduceLeDiff, reduceCtorEq, Int.reduceEq, Int.reduceNe, Int.reduceLT, Int.reduceLE, Int.reduceAdd, Int.reduceSub, Int.reduceMul, Int.reduceNeg, Int.reduceToNat, Int.cast_ofNat_Int, Int.natCast_zero, Int.natCast_one, Int.toNat_natCast, Nat.reduceBEq]
            refine CallK.pure ⟨rfl, rfl⟩ rfl (plain 1073741907 (saidN p s) M (by omega) (by omega) (by simp only [maxLen, saidN_len]; omega)) ?_
            simp only [shs, zts, sos, sls, zss, eqs, sx, sb1, sb2, sb3, sb4, sb5, ↓reduceIte, Nat.reduceAdd, Nat.reduceMul, Nat.reduceDiv, Nat.reduceEqDiff, Nat.reduceLT, Nat.reduceLeDiff, reduceCtorEq, Int.reduceEq, Int.reduceNe, Int.reduceLT, Int.reduceLE, Int.reduceAdd, Int.reduceSub, Int.reduceMul, Int.reduceNeg, Int.reduceToNat, Int.cast_ofNat_Int, Int.natCast_zero, Int.natCast_one, Int.toNat_natCast, Nat.reduceBEq, inK, lo, hi, h6.len, h6.sl, List.length_map, List.length_cons, e2, e3]
            refine ⟨by omega, by omega, by omega, by omega, (f, (n + 1) / 2, i / 2, prf 1073741907 (saidN p s) 1, subV v 2 1 (r.length + 1), r), ⟨⟨⟨⟨⟨⟨⟨by simp only; omega, by simp only; omega⟩, by simp only; omega⟩, by simp only; omega⟩, hq⟩, hsub⟩, h7⟩, by simp only; omega⟩, Ent.of ?_⟩
            simp only [sx, sb1, sb2, sb3, sb4, sb5, ↓reduceIte, Nat.reduceAdd, Nat.reduceMul, Nat.reduceDiv, Nat.reduceEqDiff, Nat.reduceLT, Nat.reduceLeDiff, reduceCtorEq, Int.reduceEq, Int.reduceNe, Int.reduceLT, Int.reduceLE, Int.reduceAdd, Int.reduceSub, Int.reduceMul, Int.reduceNeg, Int.reduceToNat, Int.cast_ofNat_Int, Int.natCast_zero, Int.natCast_one, Int.toNat_natCast, Nat.reduceBEq]
        · rw [if_neg hbd] at h7
          subst h7
          simp only [shs, zts, sos, sls, zss, eqs, sx, sb1, sb2, sb3, sb4, sb5, ↓reduceIte, Nat.reduceAdd, Nat.reduceMul, Nat.reduceDiv, Nat.reduceEqDiff, Nat.reduceLT, Nat.reduceLeDiff, reduceCtorEq, Int.reduceEq, Int.reduceNe, Int.reduceLT, Int.reduceLE, Int.reduceAdd, Int.reduceSub, Int.reduceMul, Int.reduceNeg, Int.reduceToNat, Int.cast_ofNat_Int, Int.natCast_zero, Int.natCast_one, Int.toNat_natCast, Nat.reduceBEq, inK, lo, hi, c1, c2, c3, h6.len, h6.sl, List.length_map, g0.1, g1.1, i0, g0.2.1, g1.2.1, i0.2, h10]
          refine ⟨by omega, fun h => (hbd ⟨?_, h.1.2, h.2⟩).elim⟩
          have := eq_of_beq h.1.1
          rw [this]
          simp only [decide_eq_decide]
          omega
    · have c2 : (((i ^^^ 1 : Nat) : Int) < (n : Int)) = False := eq_false (by omega)
      rw [if_neg hk, List.nil_append] at h7
      have e2 : (i : Int).tdiv 2 = ((i / 2 : Nat) : Int) := td2 i
      have e3 : ((n : Int) + 1).tdiv 2 = (((n + 1) / 2 : Nat) : Int) := td2 (n + 1)
      simp only [shs, zts, sos, sls, zss, eqs, sx, sb1, sb2, sb3, sb4, sb5, ↓reduceIte, Nat.reduceAdd, Nat.reduceMul, Nat.reduceDiv, Nat.reduceEqDiff, Nat.reduceLT, Nat.reduceLeDiff, reduceCtorEq, Int.reduceEq, Int.reduceNe, Int.reduceLT, Int.reduceLE, Int.reduceAdd, Int.reduceSub, Int.reduceMul, Int.reduceNeg, Int.reduceToNat, Int.cast_ofNat_Int, Int.natCast_zero, Int.natCast_one, Int.toNat_natCast, Nat.reduceBEq, inK, lo, hi, c1, c2, e2, e3]
      refine ⟨by omega, by omega, by omega, by omega, (f, (n + 1) / 2, i / 2, p, v, l), ⟨⟨⟨⟨⟨⟨⟨by simp only; omega, by simp only; omega⟩, by simp only; omega⟩, by simp only; omega⟩, h5⟩, h6⟩, h7⟩, by simp only; omega⟩, Ent.of ?_⟩
      simp only [sx, sb1, sb2, sb3, sb4, sb5, ↓reduceIte, Nat.reduceAdd, Nat.reduceMul, Nat.reduceDiv, Nat.reduceEqDiff, Nat.reduceLT, Nat.reduceLeDiff, reduceCtorEq, Int.reduceEq, Int.reduceNe, Int.reduceLT, Int.reduceLE, Int.reduceAdd, Int.reduceSub, Int.reduceMul, Int.reduceNeg, Int.reduceToNat, Int.cast_ofNat_Int, Int.natCast_zero, Int.natCast_one, Int.toNat_natCast, Nat.reduceBEq]
  · have c1 : (1 < (n : Int)) = False := eq_false (by omega)
    have hb : bu f n i = [] := by cases f <;> simp [bu, hn1]
    rw [hb] at h7
    simp only [shs, zts, sos, sls, zss, eqs, sx, sb1, sb2, sb3, sb4, sb5, ↓reduceIte, Nat.reduceAdd, Nat.reduceMul, Nat.reduceDiv, Nat.reduceEqDiff, Nat.reduceLT, Nat.reduceLeDiff, reduceCtorEq, Int.reduceEq, Int.reduceNe, Int.reduceLT, Int.reduceLE, Int.reduceAdd, Int.reduceSub, Int.reduceMul, Int.reduceNeg, Int.reduceToNat, Int.cast_ofNat_Int, Int.natCast_zero, Int.natCast_one, Int.toNat_natCast, Nat.reduceBEq, inK, lo, hi, c1, h6.len, h6.sl, List.length_map]
    have hfin : (decide ((l.length : Int) = 0) && decide ((p : Int) = root)) = c := by
      rw [← h7]
      cases l with
      | nil => simp [rf]
      | cons q r => simp only [rf, List.length_cons]; rw [decide_eq_false (by omega)]; rfl
    rw [hfin]

def tvE (n i : Int) (t : List UInt8) : Int := if ((n < 1 ∨ 32 < n) ∨ i < 0) ∨ n ≤ i then 1 else if 64 < (t.length : Int) then 2 else 0
theorem verify_bad (root n i : Int) (t : List UInt8) (y : Value) (M : Mem) (h : tvE n i t ≠ 0) :
    Meets Proofs.Try.prog 27 [.v (.int .i64 root), .v (.int .i64 n), .v (.int .i64 i), .v (.string ⟨t.toArray⟩), .v y] M fun r _ _ => r = .tup [.v (.bool false), .v (.int .i64 (tvE n i t))] := by
  refine Meets.of_body [0,1,2,3,4,10,11,12,13,28,31,36,44,71,75] Proofs.Try.func27 rfl (by kernel_rfl) rfl fun w => ?_
  generalize hc : tvE n i t = c at h
  by_cases h1 : ((n < 1 ∨ 32 < n) ∨ i < 0) ∨ n ≤ i
  · rw [tvE, if_pos h1] at hc
    subst hc
    simp only [Proofs.Try.f27, shs, zts, sos, sls, zss, eqs, sx, sb1, sb2, sb3, sb4, sb5, ↓reduceIte, Nat.reduceAdd, Nat.reduceMul, Nat.reduceDiv, Nat.reduceEqDiff, Nat.reduceLT, Nat.reduceLeDiff, reduceCtorEq, Int.reduceEq, Int.reduceNe, Int.reduceLT, Int.reduceLE, Int.reduceAdd, Int.reduceSub, Int.reduceMul, Int.reduceNeg, Int.reduceToNat, Int.cast_ofNat_Int, Int.natCast_zero, Int.natCast_one, Int.toNat_natCast, Nat.reduceBEq]
    exact fun h2 => by omega
  · rw [tvE, if_neg h1] at hc
    have d1 : (n < 1) = False := eq_false (by omega)
    have d2 : (32 < n) = False := eq_false (by omega)
    have d3 : (i < 0) = False := eq_false (by omega)
    have d4 : (n ≤ i) = False := eq_false (by omega)
    by_cases h2 : 64 < (t.length : Int)
    · rw [if_pos h2] at hc
      subst hc
      have d5 : (64 < (t.length : Int)) = True := eq_true h2
      simp only [Proofs.Try.f27, shs, zts, sos, sls, zss, eqs, sx, sb1, sb2, sb3, sb4, sb5, ↓reduceIte, Nat.reduceAdd, Nat.reduceMul, Nat.reduceDiv, Nat.reduceEqDiff, Nat.reduceLT, Nat.reduceLeDiff, reduceCtorEq, Int.reduceEq, Int.reduceNe, Int.reduceLT, Int.reduceLE, Int.reduceAdd, Int.reduceSub, Int.reduceMul, Int.reduceNeg, Int.reduceToNat, Int.cast_ofNat_Int, Int.natCast_zero, Int.natCast_one, Int.toNat_natCast, Nat.reduceBEq, d1, d2, d3, d4, d5]
    · rw [if_neg h2] at hc
      exact (h hc.symm).elim

/-! ### the document's sides -/
def spF (n : Nat) : Nat → Nat → Nat
  | 0, k => k
  | f + 1, k => if k * 2 < n then spF n f (k * 2) else k
def sd : Nat → Nat → Nat → List Bool
  | 0, _, _ => []
  | f + 1, n, i => if n = 1 then [] else if i < spF n 6 1 then sd f (spF n 6 1) i ++ [false] else sd f (n - spF n 6 1) (i - spF n 6 1) ++ [true]
theorem sd_len : ∀ f n i, (sd f n i).length ≤ f
  | 0, _, _ => Nat.le_refl _
  | f + 1, n, i => by
    simp only [sd]
    split
    · simp
    · split
      · have := sd_len f (spF n 6 1) i
        simp only [List.length_append, List.length_singleton]; omega
      · have := sd_len f (n - spF n 6 1) (i - spF n 6 1)
        simp only [List.length_append, List.length_singleton]; omega
theorem sd_one (f i : Nat) : sd f 1 i = [] := by cases f <;> simp [sd]
theorem sp_rng : ∀ n, n < 33 → 2 ≤ n → 1 ≤ spF n 6 1 ∧ spF n 6 1 < n := by decide +kernel
theorem bu_sd : ∀ n, n < 33 → ∀ i, i < 33 → 1 ≤ n → i < n → bu 32 n i = sd 32 n i := by decide +kernel

theorem span (n : Nat) (M : Mem) (hn : n ≤ 32) :
    Meets Proofs.Try.prog 82 [.v (.int .i64 (n : Int))] M fun r _ _ => r = .v (.int .i64 ((spF n 6 1 : Nat) : Int)) := by
  refine Meets.of_body [0,2,3,7] Proofs.Try.func82 rfl (by kernel_rfl) rfl fun w => ?_
  generalize hc : spF n 6 1 = c
  simp only [Proofs.Try.f82, shs, zts, sos, sls, zss, eqs, sx, sb1, sb2, sb3, sb4, sb5, ↓reduceIte, Nat.reduceAdd, Nat.reduceMul, Nat.reduceDiv, Nat.reduceEqDiff, Nat.reduceLT, Nat.reduceLeDiff, reduceCtorEq, Int.reduceEq, Int.reduceNe, Int.reduceLT, Int.reduceLE, Int.reduceAdd, Int.reduceSub, Int.reduceMul, Int.reduceNeg, Int.reduceToNat, Int.cast_ofNat_Int, Int.natCast_zero, Int.natCast_one, Int.toNat_natCast, Nat.reduceBEq]
  refine LoopK.go (X := Nat × Nat) (fun x => ([(0, true, .v (.int .i64 n)), (3, true, .v (.int .i64 (x.2 : Int)))], [], M))
    (fun x => ((1 ≤ x.2 ∧ x.2 ≤ 32) ∧ n ≤ x.2 * 2 ^ x.1) ∧ spF n x.1 x.2 = c) (fun x => x.1) (6, 1) ⟨⟨⟨by simp, by simp⟩, by simp only; omega⟩, hc⟩ (Ent.of ?_) ?_
  · simp only [sx, sb1, sb2, sb3, sb4, sb5, ↓reduceIte, Nat.reduceAdd, Nat.reduceMul, Nat.reduceDiv, Nat.reduceEqDiff, Nat.reduceLT, Nat.reduceLeDiff, reduceCtorEq, Int.reduceEq, Int.reduceNe, Int.reduceLT, Int.reduceLE, Int.reduceAdd, Int.reduceSub, Int.reduceMul, Int.reduceNeg, Int.reduceToNat, Int.cast_ofNat_Int, Int.natCast_zero, Int.natCast_one, Int.toNat_natCast, Nat.reduceBEq]
  rintro ⟨f, k⟩ ⟨⟨⟨h1, h2⟩, h3⟩, h4⟩
  simp only at h1 h2 h3 h4
  simp only [shs, zts, sos, sls, zss, eqs, sx, sb1, sb2, sb3, sb4, sb5, ↓reduceIte, Nat.reduceAdd, Nat.reduceMul, Nat.reduceDiv, Nat.reduceEqDiff, Nat.reduceLT, Nat.reduceLeDiff, reduceCtorEq, Int.reduceEq, Int.reduceNe, Int.reduceLT, Int.reduceLE, Int.reduceAdd, Int.reduceSub, Int.reduceMul, Int.reduceNeg, Int.reduceToNat, Int.cast_ofNat_Int, Int.natCast_zero, Int.natCast_one, Int.toNat_natCast, Nat.reduceBEq, inK, lo, hi]
  refine ⟨by omega, fun h5 => ?_, fun h5 => ?_⟩
  · cases f with
    | zero => simp at h3; omega
    | succ f =>
      simp only [spF, if_pos (show k * 2 < n by omega)] at h4
      refine ⟨by omega, (f, k * 2), ⟨⟨⟨⟨by simp only; omega, by simp only; omega⟩, by simp only; rw [Nat.pow_succ] at h3; rw [Nat.mul_assoc, Nat.mul_comm 2]; exact h3⟩, h4⟩, by simp only; omega⟩, Ent.of ?_⟩
      simp only [sx, sb1, sb2, sb3, sb4, sb5, ↓reduceIte, Nat.reduceAdd, Nat.reduceMul, Nat.reduceDiv, Nat.reduceEqDiff, Nat.reduceLT, Nat.reduceLeDiff, reduceCtorEq, Int.reduceEq, Int.reduceNe, Int.reduceLT, Int.reduceLE, Int.reduceAdd, Int.reduceSub, Int.reduceMul, Int.reduceNeg, Int.reduceToNat, Int.cast_ofNat_Int, Int.natCast_zero, Int.natCast_one, Int.toNat_natCast, Nat.reduceBEq, Int.natCast_mul, Int.cast_ofNat_Int]
  · have : c = k := by
      rw [← h4]
      cases f with
      | zero => rfl
      | succ f => simp only [spF]; rw [if_neg (by omega)]
    rw [this]

theorem rsides1 (i : Int) (M : Mem) :
    Meets Proofs.Try.prog 28 [.v (.int .i64 ((1 : Nat) : Int)), .v (.int .i64 i)] M fun r _ _ => r = .v (.slice none 0 0) := by
  refine Meets.of_body [0,1,4,5,7,12] Proofs.Try.func28 rfl (by kernel_rfl) rfl fun w => ?_
  simp only [Proofs.Try.f28, shs, zts, sos, sls, zss, eqs, sx, sb1, sb2, sb3, sb4, sb5, ↓reduceIte, Nat.reduceAdd, Nat.reduceMul, Nat.reduceDiv, Nat.reduceEqDiff, Nat.reduceLT, Nat.reduceLeDiff, reduceCtorEq, Int.reduceEq, Int.reduceNe, Int.reduceLT, Int.reduceLE, Int.reduceAdd, Int.reduceSub, Int.reduceMul, Int.reduceNeg, Int.reduceToNat, Int.cast_ofNat_Int, Int.natCast_zero, Int.natCast_one, Int.toNat_natCast, Nat.reduceBEq]
theorem rsides2 : ∀ (f n i : Nat) (M : Mem), 2 ≤ n → n ≤ f → n ≤ 32 → f ≤ 32 → i < n →
    Meets Proofs.Try.prog 28 [.v (.int .i64 (n : Int)), .v (.int .i64 (i : Int))] M (OwnR (fun s => s) 1 ((sd f n i).map encT))
  | f, n, i, M, h1, h2, h3, hf, h4 => by
    refine Meets.of_body [0,1,4,5,7,12] Proofs.Try.func28 rfl (by kernel_rfl) rfl fun w => ?_
    obtain ⟨f, rfl⟩ : ∃ g, f = g + 1 := ⟨f - 1, by omega⟩
    have hs := sp_rng n (by omega) h1
    have hn1 : ((n : Int) = 1) = False := eq_false (by omega)
    simp only [Proofs.Try.f28, shs, zts, sos, sls, zss, eqs, sx, sb1, sb2, sb3, sb4, sb5, ↓reduceIte, Nat.reduceAdd, Nat.reduceMul, Nat.reduceDiv, Nat.reduceEqDiff, Nat.reduceLT, Nat.reduceLeDiff, reduceCtorEq, Int.reduceEq, Int.reduceNe, Int.reduceLT, Int.reduceLE, Int.reduceAdd, Int.reduceSub, Int.reduceMul, Int.reduceNeg, Int.reduceToNat, Int.cast_ofNat_Int, Int.natCast_zero, Int.natCast_one, Int.toNat_natCast, Nat.reduceBEq, hn1, sd, if_neg (show ¬ n = 1 by omega)]
    refine CallK.pure ⟨rfl, rfl⟩ rfl (span n M h3) ?_
    generalize spF n 6 1 = k at *
    by_cases hk : i < k
    · have c1 : ((i : Int) < (k : Int)) = True := eq_true (by omega)
      have hl := sd_len f k i
      rw [if_pos hk]
      simp only [shs, zts, sos, sls, zss, eqs, sx, sb1, sb2, sb3, sb4, sb5, ↓reduceIte, Nat.reduceAdd, Nat.reduceMul, Nat.reduceDiv, Nat.reduceEqDiff, Nat.reduceLT, Nat.reduceLeDiff, reduceCtorEq, Int.reduceEq, Int.reduceNe, Int.reduceLT, Int.reduceLE, Int.reduceAdd, Int.reduceSub, Int.reduceMul, Int.reduceNeg, Int.reduceToNat, Int.cast_ofNat_Int, Int.natCast_zero, Int.natCast_one, Int.toNat_natCast, Nat.reduceBEq, c1]
      by_cases hk1 : k = 1
      · rw [hk1, sd_one]
        refine CallK.pure ⟨rfl, rfl⟩ rfl (rsides1 i M) ?_
        simp only [shs, zts, sos, sls, zss, eqs, sx, sb1, sb2, sb3, sb4, sb5, ↓reduceIte, Nat.reduceAdd, Nat.reduceMul, Nat.reduceDiv, Nat.reduceEqDiff, Nat.reduceLT, Nat.reduceLeDiff, reduceCtorEq, Int.reduceEq, Int.reduceNe, Int.reduceLT, Int.reduceLE, Int.reduceAdd, Int.reduceSub, Int.reduceMul, Int.reduceNeg, Int.reduceToNat, Int.cast_ofNat_Int, Int.natCast_zero, Int.natCast_one, Int.toNat_natCast, Nat.reduceBEq]
        exact ⟨136, rfl, rfl⟩
      · refine CallK.own Ctx.id rfl rfl (rsides2 f k i M (by omega) (by omega) (by omega) (by omega) hk) rfl fun M2 hM2 => ?_
        simp only [shs, zts, sos, sls, zss, eqs, sx, sb1, sb2, sb3, sb4, sb5, ↓reduceIte, Nat.reduceAdd, Nat.reduceMul, Nat.reduceDiv, Nat.reduceEqDiff, Nat.reduceLT, Nat.reduceLeDiff, reduceCtorEq, Int.reduceEq, Int.reduceNe, Int.reduceLT, Int.reduceLE, Int.reduceAdd, Int.reduceSub, Int.reduceMul, Int.reduceNeg, Int.reduceToNat, Int.cast_ofNat_Int, Int.natCast_zero, Int.natCast_one, Int.toNat_natCast, Nat.reduceBEq, List.length_map]
        exact ⟨⟨by omega, by omega⟩, 136, rfl, by simp only [sx, sb1, sb2, sb3, sb4, sb5, ↓reduceIte, Nat.reduceAdd, Nat.reduceMul, Nat.reduceDiv, Nat.reduceEqDiff, Nat.reduceLT, Nat.reduceLeDiff, reduceCtorEq, Int.reduceEq, Int.reduceNe, Int.reduceLT, Int.reduceLE, Int.reduceAdd, Int.reduceSub, Int.reduceMul, Int.reduceNeg, Int.reduceToNat, Int.cast_ofNat_Int, Int.natCast_zero, Int.natCast_one, Int.toNat_natCast, Nat.reduceBEq, List.map_append]; rfl⟩
    · have c1 : ((i : Int) < (k : Int)) = False := eq_false (by omega)
      have hl := sd_len f (n - k) (i - k)
      have e1 : (n : Int) - (k : Int) = ((n - k : Nat) : Int) := by omega
      have e2 : (i : Int) - (k : Int) = ((i - k : Nat) : Int) := by omega
      rw [if_neg hk]
      simp only [shs, zts, sos, sls, zss, eqs, sx, sb1, sb2, sb3, sb4, sb5, ↓reduceIte, Nat.reduceAdd, Nat.reduceMul, Nat.reduceDiv, Nat.reduceEqDiff, Nat.reduceLT, Nat.reduceLeDiff, reduceCtorEq, Int.reduceEq, Int.reduceNe, Int.reduceLT, Int.reduceLE, Int.reduceAdd, Int.reduceSub, Int.reduceMul, Int.reduceNeg, Int.reduceToNat, Int.cast_ofNat_Int, Int.natCast_zero, Int.natCast_one, Int.toNat_natCast, Nat.reduceBEq, c1, e1, e2, inK, lo, hi]
      refine ⟨by omega, by omega, ?_⟩
      by_cases hk1 : n - k = 1
      · rw [hk1, sd_one]
        refine CallK.pure ⟨rfl, rfl⟩ rfl (rsides1 _ M) ?_
        simp only [shs, zts, sos, sls, zss, eqs, sx, sb1, sb2, sb3, sb4, sb5, ↓reduceIte, Nat.reduceAdd, Nat.reduceMul, Nat.reduceDiv, Nat.reduceEqDiff, Nat.reduceLT, Nat.reduceLeDiff, reduceCtorEq, Int.reduceEq, Int.reduceNe, Int.reduceLT, Int.reduceLE, Int.reduceAdd, Int.reduceSub, Int.reduceMul, Int.reduceNeg, Int.reduceToNat, Int.cast_ofNat_Int, Int.natCast_zero, Int.natCast_one, Int.toNat_natCast, Nat.reduceBEq]
        exact ⟨208, rfl, rfl⟩
      · refine CallK.own Ctx.id rfl rfl (rsides2 f (n - k) (i - k) M (by omega) (by omega) (by omega) (by omega) (by omega)) rfl fun M2 hM2 => ?_
        simp only [shs, zts, sos, sls, zss, eqs, sx, sb1, sb2, sb3, sb4, sb5, ↓reduceIte, Nat.reduceAdd, Nat.reduceMul, Nat.reduceDiv, Nat.reduceEqDiff, Nat.reduceLT, Nat.reduceLeDiff, reduceCtorEq, Int.reduceEq, Int.reduceNe, Int.reduceLT, Int.reduceLE, Int.reduceAdd, Int.reduceSub, Int.reduceMul, Int.reduceNeg, Int.reduceToNat, Int.cast_ofNat_Int, Int.natCast_zero, Int.natCast_one, Int.toNat_natCast, Nat.reduceBEq, List.length_map]
        exact ⟨⟨by omega, by omega⟩, 208, rfl, by simp only [sx, sb1, sb2, sb3, sb4, sb5, ↓reduceIte, Nat.reduceAdd, Nat.reduceMul, Nat.reduceDiv, Nat.reduceEqDiff, Nat.reduceLT, Nat.reduceLeDiff, reduceCtorEq, Int.reduceEq, Int.reduceNe, Int.reduceLT, Int.reduceLE, Int.reduceAdd, Int.reduceSub, Int.reduceMul, Int.reduceNeg, Int.reduceToNat, Int.cast_ofNat_Int, Int.natCast_zero, Int.natCast_one, Int.toNat_natCast, Nat.reduceBEq, List.map_append]; rfl⟩
theorem rsides (n i : Nat) (M : Mem) (h1 : 1 ≤ n) (h3 : n ≤ 32) (h4 : i < n) :
    Meets Proofs.Try.prog 28 [.v (.int .i64 (n : Int)), .v (.int .i64 (i : Int))] M (RowR (fun s => s) 1 ((sd 32 n i).map encT)) := by
  by_cases hn : n = 1
  · subst hn
    rw [sd_one]
    exact (rsides1 i M).mono fun s H M' _ e => ⟨s, rfl, by rw [e]; exact RowM.nil _ _⟩
  · exact (rsides2 32 n i M (by omega) h3 h3 (Nat.le_refl _) h4).mono fun s H M' _ ⟨k, e, hk⟩ => ⟨.own k, e, hk⟩

theorem rf_len (root : Int) : ∀ (s : List Bool) (l : List (Bool × Int)) (p : Nat), s.length ≠ l.length → rf root s l p = false
  | [], [], _, h => (h rfl).elim
  | _ :: s, (c, x) :: l, p, h => by
    simp only [rf]
    split
    · exact rf_len root s l _ (by simpa using h)
    · rfl
  | [], _ :: _, _, _ => rfl
  | _ :: _, [], _, _ => rfl

end Go.X.Tv
