/- prime.Is and prime.Next. Conditions: none. -/
import Derived.Test.YtkmbglbjpbdldaaRabT
import Derived.Test.YtkmbglbjpbdldaaMods
import Derived.Test.YtkmbglbjpbdldaaFwF
set_option linter.unusedSimpArgs false
set_option linter.unusedVariables false
set_option maxHeartbeats 4000000
set_option maxRecDepth 20000
namespace Go.X.Rb
open Go Go.X Go.X.Pol Go.X.Pl Go.X.Rp Go.X.Pd Go.X.Md

theorem prB_true {n : Nat} (h : ∀ d, 2 ≤ d → d * d ≤ n → n % d ≠ 0) : prB n = decide (1 < n) := by
  unfold prB
  rw [List.all_eq_true.2 (fun d _ => ?_), Bool.and_true]
  simp only [Bool.or_eq_true, decide_eq_true_eq]
  rcases Nat.lt_or_ge d 2 with h1 | h1
  · exact .inl h1
  · rcases Nat.lt_or_ge n (d * d) with h2 | h2
    · exact .inr (.inl h2)
    · exact .inr (.inr (h d h1 h2))
theorem prB_false {n d : Nat} (h1 : 2 ≤ d) (h2 : d * d ≤ n) (h3 : n % d = 0) : prB n = false := by
  cases hb : prB n with
  | false => rfl
  | true =>
    unfold prB at hb
    rw [Bool.and_eq_true] at hb
    have hd : d < n := by
      have := Nat.mul_le_mul_right d h1
      omega
    have := List.all_eq_true.1 hb.2 d (List.mem_range.2 hd)
    simp only [Bool.or_eq_true, decide_eq_true_eq] at this
    omega
theorem tmN (a b : Nat) : (a : Int).tmod (b : Int) = ((a % b : Nat) : Int) := (Int.ofNat_tmod a b).symm
theorem tdN (a b : Nat) : (a : Int).tdiv (b : Int) = ((a / b : Nat) : Int) := (Int.ofNat_tdiv a b).symm
theorem prime (n : Nat) (M : Mem) (hn : n ≤ 30) : Meets Proofs.Try.prog 133 [.v (.int .i64 (n : Int))] M fun r _ _ => r = .v (.bool (prB n)) := by
  refine Meets.of_body [0,2,3,8,14] Proofs.Try.func133 rfl (by kernel_rfl) rfl fun w => ?_
  simp only [Proofs.Try.f133, shs, zts, sos, sls, zss, eqs, sx, sb1, sb2, sb3, sb4, sb5, ↓reduceIte, Nat.reduceAdd, Nat.reduceMul, Nat.reduceDiv, Nat.reduceEqDiff, Nat.reduceLT, Nat.reduceLeDiff, reduceCtorEq, Int.reduceEq, Int.reduceNe, Int.reduceLT, Int.reduceLE, Int.reduceAdd, Int.reduceSub, Int.reduceMul, Int.reduceNeg, Int.reduceToNat, Int.cast_ofNat_Int, Int.natCast_zero, Int.natCast_one, Int.toNat_natCast, Nat.reduceBEq]
  refine LoopK.go (X := Nat) (fun d => ([(0, true, .v (.int .i64 (n : Int))), (3, true, .v (.int .i64 (d : Int)))], [], M))
    (fun d => (2 ≤ d ∧ d ≤ 6) ∧ ∀ e, 2 ≤ e → e < d → n % e ≠ 0) (fun d => 6 - d) 2 ⟨⟨by omega, by omega⟩, fun e _ _ => by omega⟩ (Ent.of ?_) ?_
  · simp only [sx, sb1, sb2, sb3, sb4, sb5, ↓reduceIte, Nat.reduceAdd, Nat.reduceMul, Nat.reduceDiv, Nat.reduceEqDiff, Nat.reduceLT, Nat.reduceLeDiff, reduceCtorEq, Int.reduceEq, Int.reduceNe, Int.reduceLT, Int.reduceLE, Int.reduceAdd, Int.reduceSub, Int.reduceMul, Int.reduceNeg, Int.reduceToNat, Int.cast_ofNat_Int, Int.natCast_zero, Int.natCast_one, Int.toNat_natCast, Nat.reduceBEq]
  rintro d ⟨⟨h1, h2⟩, h3⟩
  have e1 : (d : Int) * (d : Int) = ((d * d : Nat) : Int) := by simp
  have hdd : d * d ≤ 36 := Nat.mul_le_mul h2 h2
  have i1 : inK .i64 ((d * d : Nat) : Int) := ⟨by simp only [lo]; omega, by simp only [hi]; omega⟩
  have i2 : inK .i64 ((d : Int) + 1) := ⟨by simp only [lo]; omega, by simp only [hi]; omega⟩
  by_cases hc : d * d ≤ n
  · have c1 : (((d * d : Nat) : Int) ≤ (n : Int)) = True := eq_true (by omega)
    have hd5 : d ≤ 5 := by
      rcases Nat.lt_or_ge 5 d with h | h
      · have := Nat.mul_le_mul (show 6 ≤ d by omega) (show 6 ≤ d by omega)
        omega
      · exact h
    by_cases hr : n % d = 0
    · have c2 : (((n % d : Nat) : Int) = 0) = True := eq_true (by omega)
      rw [prB_false h1 hc hr]
      simp only [shs, zts, sos, sls, zss, eqs, sx, sb1, sb2, sb3, sb4, sb5, ↓reduceIte, Nat.reduceAdd, Nat.reduceMul, Nat.reduceDiv, Nat.reduceEqDiff, Nat.reduceLT, Nat.reduceLeDiff, reduceCtorEq, Int.reduceEq, Int.reduceNe, Int.reduceLT, Int.reduceLE, Int.reduceAdd, Int.reduceSub, Int.reduceMul, Int.reduceNeg, Int.reduceToNat, Int.cast_ofNat_Int, Int.natCast_zero, Int.natCast_one, Int.toNat_natCast, Nat.reduceBEq, e1, i1, c1, tmN, c2]
      omega
    · have c2 : (((n % d : Nat) : Int) = 0) = False := eq_false (by omega)
      simp only [shs, zts, sos, sls, zss, eqs, sx, sb1, sb2, sb3, sb4, sb5, ↓reduceIte, Nat.reduceAdd, Nat.reduceMul, Nat.reduceDiv, Nat.reduceEqDiff, Nat.reduceLT, Nat.reduceLeDiff, reduceCtorEq, Int.reduceEq, Int.reduceNe, Int.reduceLT, Int.reduceLE, Int.reduceAdd, Int.reduceSub, Int.reduceMul, Int.reduceNeg, Int.reduceToNat, Int.cast_ofNat_Int, Int.natCast_zero, Int.natCast_one, Int.toNat_natCast, Nat.reduceBEq, e1, i1, i2, c1, tmN, c2]
      refine ⟨by omega, d + 1, ⟨⟨⟨by omega, by omega⟩, fun e he1 he2 => ?_⟩, by omega⟩, Ent.of ?_⟩
      · rcases Nat.lt_or_ge e d with h | h
        · exact h3 e he1 h
        · have : e = d := by omega
          rw [this]; exact hr
      · simp only [sx, sb1, sb2, sb3, sb4, sb5, ↓reduceIte, Nat.reduceAdd, Nat.reduceMul, Nat.reduceDiv, Nat.reduceEqDiff, Nat.reduceLT, Nat.reduceLeDiff, reduceCtorEq, Int.reduceEq, Int.reduceNe, Int.reduceLT, Int.reduceLE, Int.reduceAdd, Int.reduceSub, Int.reduceMul, Int.reduceNeg, Int.reduceToNat, Int.cast_ofNat_Int, Int.natCast_zero, Int.natCast_one, Int.toNat_natCast, Nat.reduceBEq, Int.natCast_add]
  · have c1 : (((d * d : Nat) : Int) ≤ (n : Int)) = False := eq_false (by omega)
    rw [prB_true (n := n) (fun e he1 he2 => by
      rcases Nat.lt_or_ge e d with h | h
      · exact h3 e he1 h
      · have := Nat.mul_le_mul h h
        omega)]
    have c3 : (1 < (n : Int)) = (1 < n) := by apply propext; omega
    simp only [shs, zts, sos, sls, zss, eqs, sx, sb1, sb2, sb3, sb4, sb5, ↓reduceIte, Nat.reduceAdd, Nat.reduceMul, Nat.reduceDiv, Nat.reduceEqDiff, Nat.reduceLT, Nat.reduceLeDiff, reduceCtorEq, Int.reduceEq, Int.reduceNe, Int.reduceLT, Int.reduceLE, Int.reduceAdd, Int.reduceSub, Int.reduceMul, Int.reduceNeg, Int.reduceToNat, Int.cast_ofNat_Int, Int.natCast_zero, Int.natCast_one, Int.toNat_natCast, Nat.reduceBEq, e1, i1, c1, c3]
theorem fr_step {m : Nat} (hm : m ≠ 0) (i : Nat) : pmod (mulp (pmod (fr i 2) m) (pmod (fr i 2) m)) m = pmod (fr (i + 1) 2) m := by
  rw [pmod_mul_left hm, pmod_mul_right hm]
  rfl
theorem squared (n m : Nat) (M : Mem) (hn : n ≤ 1000) (hm : m ≤ 2147483647) (h0 : m ≠ 0) : Meets Proofs.Try.prog 132 [.v (.int .i64 (n : Int)), .v (.int .i64 (m : Int))] M fun r _ _ => r = .v (.int .i64 ((pmod (fr n 2) m : Nat) : Int)) := by
  refine Meets.of_body [0,1,4,5,12,13,14] Proofs.Try.func132 rfl (by kernel_rfl) rfl fun w => ?_
  have h1 := modmul 2 1 m M (by omega) (by omega) hm h0
  rw [mulp_one_right] at h1
  simp only [Proofs.Try.f132, shs, zts, sos, sls, zss, eqs, sx, sb1, sb2, sb3, sb4, sb5, ↓reduceIte, Nat.reduceAdd, Nat.reduceMul, Nat.reduceDiv, Nat.reduceEqDiff, Nat.reduceLT, Nat.reduceLeDiff, reduceCtorEq, Int.reduceEq, Int.reduceNe, Int.reduceLT, Int.reduceLE, Int.reduceAdd, Int.reduceSub, Int.reduceMul, Int.reduceNeg, Int.reduceToNat, Int.cast_ofNat_Int, Int.natCast_zero, Int.natCast_one, Int.toNat_natCast, Nat.reduceBEq]
  refine CallK.pure ⟨rfl, rfl⟩ rfl h1 ?_
  simp only [shs, zts, sos, sls, zss, eqs, sx, sb1, sb2, sb3, sb4, sb5, ↓reduceIte, Nat.reduceAdd, Nat.reduceMul, Nat.reduceDiv, Nat.reduceEqDiff, Nat.reduceLT, Nat.reduceLeDiff, reduceCtorEq, Int.reduceEq, Int.reduceNe, Int.reduceLT, Int.reduceLE, Int.reduceAdd, Int.reduceSub, Int.reduceMul, Int.reduceNeg, Int.reduceToNat, Int.cast_ofNat_Int, Int.natCast_zero, Int.natCast_one, Int.toNat_natCast, Nat.reduceBEq]
  refine LoopK.go (X := Nat × Nat) (fun x => ([(1, true, .v (.int .i64 (m : Int))), (5, true, .v (.int .i64 ((pmod (fr x.2 2) m : Nat) : Int))), (12, true, .v (.int .i64 (n : Int))), (13, true, .v (.int .i64 (x.2 : Int)))], [], M))
    (fun x => x.1 + x.2 = n) (fun x => x.1) (n, 0) rfl (Ent.of ?_) ?_
  · simp only [sx, sb1, sb2, sb3, sb4, sb5, ↓reduceIte, Nat.reduceAdd, Nat.reduceMul, Nat.reduceDiv, Nat.reduceEqDiff, Nat.reduceLT, Nat.reduceLeDiff, reduceCtorEq, Int.reduceEq, Int.reduceNe, Int.reduceLT, Int.reduceLE, Int.reduceAdd, Int.reduceSub, Int.reduceMul, Int.reduceNeg, Int.reduceToNat, Int.cast_ofNat_Int, Int.natCast_zero, Int.natCast_one, Int.toNat_natCast, Nat.reduceBEq, fr]
  rintro ⟨f, i⟩ h2
  simp only at h2
  by_cases hi : i < n
  · have c1 : ((i : Int) < (n : Int)) = True := eq_true (by omega)
    have i2 : inK .i64 ((i : Int) + 1) := ⟨by simp only [X.lo]; omega, by simp only [X.hi]; omega⟩
    have hp := pmod_le (a := fr i 2) h0 hm
    have h3 := modmul (pmod (fr i 2) m) (pmod (fr i 2) m) m M hp hp hm h0
    rw [fr_step h0] at h3
    simp only [shs, zts, sos, sls, zss, eqs, sx, sb1, sb2, sb3, sb4, sb5, ↓reduceIte, Nat.reduceAdd, Nat.reduceMul, Nat.reduceDiv, Nat.reduceEqDiff, Nat.reduceLT, Nat.reduceLeDiff, reduceCtorEq, Int.reduceEq, Int.reduceNe, Int.reduceLT, Int.reduceLE, Int.reduceAdd, Int.reduceSub, Int.reduceMul, Int.reduceNeg, Int.reduceToNat, Int.cast_ofNat_Int, Int.natCast_zero, Int.natCast_one, Int.toNat_natCast, Nat.reduceBEq, c1]
    refine CallK.pure ⟨rfl, rfl⟩ rfl h3 ?_
    simp only [shs, zts, sos, sls, zss, eqs, sx, sb1, sb2, sb3, sb4, sb5, ↓reduceIte, Nat.reduceAdd, Nat.reduceMul, Nat.reduceDiv, Nat.reduceEqDiff, Nat.reduceLT, Nat.reduceLeDiff, reduceCtorEq, Int.reduceEq, Int.reduceNe, Int.reduceLT, Int.reduceLE, Int.reduceAdd, Int.reduceSub, Int.reduceMul, Int.reduceNeg, Int.reduceToNat, Int.cast_ofNat_Int, Int.natCast_zero, Int.natCast_one, Int.toNat_natCast, Nat.reduceBEq, i2]
    refine ⟨(f - 1, i + 1), ⟨by simp only; omega, by simp only; omega⟩, Ent.of ?_⟩
    simp only [sx, sb1, sb2, sb3, sb4, sb5, ↓reduceIte, Nat.reduceAdd, Nat.reduceMul, Nat.reduceDiv, Nat.reduceEqDiff, Nat.reduceLT, Nat.reduceLeDiff, reduceCtorEq, Int.reduceEq, Int.reduceNe, Int.reduceLT, Int.reduceLE, Int.reduceAdd, Int.reduceSub, Int.reduceMul, Int.reduceNeg, Int.reduceToNat, Int.cast_ofNat_Int, Int.natCast_zero, Int.natCast_one, Int.toNat_natCast, Nat.reduceBEq, Int.natCast_add]
  · have c1 : ((i : Int) < (n : Int)) = False := eq_false (by omega)
    have : i = n := by omega
    simp only [shs, zts, sos, sls, zss, eqs, sx, sb1, sb2, sb3, sb4, sb5, ↓reduceIte, Nat.reduceAdd, Nat.reduceMul, Nat.reduceDiv, Nat.reduceEqDiff, Nat.reduceLT, Nat.reduceLeDiff, reduceCtorEq, Int.reduceEq, Int.reduceNe, Int.reduceLT, Int.reduceLE, Int.reduceAdd, Int.reduceSub, Int.reduceMul, Int.reduceNeg, Int.reduceToNat, Int.cast_ofNat_Int, Int.natCast_zero, Int.natCast_one, Int.toNat_natCast, Nat.reduceBEq, c1]
    rw [this]
theorem isP (m : Nat) (M : Mem) (hm : m ≤ 2147483647) : Meets Proofs.Try.prog 63 [.v (.int .i64 (m : Int))] M fun r _ _ => r = .v (.bool (irB m)) := by
  refine Meets.of_body [0,2,3,5,7,8,16,26,29,40,54] Proofs.Try.func63 rfl (by kernel_rfl) rfl fun w => ?_
  simp only [Proofs.Try.f63, shs, zts, sos, sls, zss, eqs, sx, sb1, sb2, sb3, sb4, sb5, ↓reduceIte, Nat.reduceAdd, Nat.reduceMul, Nat.reduceDiv, Nat.reduceEqDiff, Nat.reduceLT, Nat.reduceLeDiff, reduceCtorEq, Int.reduceEq, Int.reduceNe, Int.reduceLT, Int.reduceLE, Int.reduceAdd, Int.reduceSub, Int.reduceMul, Int.reduceNeg, Int.reduceToNat, Int.cast_ofNat_Int, Int.natCast_zero, Int.natCast_one, Int.toNat_natCast, Nat.reduceBEq]
  refine CallK.pure ⟨rfl, rfl⟩ rfl (Deg m M hm) ?_
  have hs31 := sz31 hm
  by_cases h2 : m < 2
  · rw [irB_false (irr_no h2)]
    have hs : sz m ≤ 1 := sz_le.2 (by omega)
    have c1 : ((sz m : Nat) : Int) - 1 < 1 := by omega
    simp only [shs, zts, sos, sls, zss, eqs, sx, sb1, sb2, sb3, sb4, sb5, ↓reduceIte, Nat.reduceAdd, Nat.reduceMul, Nat.reduceDiv, Nat.reduceEqDiff, Nat.reduceLT, Nat.reduceLeDiff, reduceCtorEq, Int.reduceEq, Int.reduceNe, Int.reduceLT, Int.reduceLE, Int.reduceAdd, Int.reduceSub, Int.reduceMul, Int.reduceNeg, Int.reduceToNat, Int.cast_ofNat_Int, Int.natCast_zero, Int.natCast_one, Int.toNat_natCast, Nat.reduceBEq, eq_true c1]
  · have hs := sz_two (q := m) (by omega)
    obtain ⟨n, hn⟩ : ∃ n, sz m = n + 1 := ⟨sz m - 1, by omega⟩
    have h0 : m ≠ 0 := by omega
    have en : ((sz m : Nat) : Int) - 1 = (n : Int) := by omega
    have c1 : ((n : Int) < 1) = False := eq_false (by omega)
    have h1 := modmul 2 1 m M (by omega) (by omega) hm h0
    rw [mulp_one_right] at h1
    rw [hn] at hs31
    simp only [shs, zts, sos, sls, zss, eqs, sx, sb1, sb2, sb3, sb4, sb5, ↓reduceIte, Nat.reduceAdd, Nat.reduceMul, Nat.reduceDiv, Nat.reduceEqDiff, Nat.reduceLT, Nat.reduceLeDiff, reduceCtorEq, Int.reduceEq, Int.reduceNe, Int.reduceLT, Int.reduceLE, Int.reduceAdd, Int.reduceSub, Int.reduceMul, Int.reduceNeg, Int.reduceToNat, Int.cast_ofNat_Int, Int.natCast_zero, Int.natCast_one, Int.toNat_natCast, Nat.reduceBEq, en, c1]
    refine CallK.pure ⟨rfl, rfl⟩ rfl h1 ?_
    simp only [shs, zts, sos, sls, zss, eqs, sx, sb1, sb2, sb3, sb4, sb5, ↓reduceIte, Nat.reduceAdd, Nat.reduceMul, Nat.reduceDiv, Nat.reduceEqDiff, Nat.reduceLT, Nat.reduceLeDiff, reduceCtorEq, Int.reduceEq, Int.reduceNe, Int.reduceLT, Int.reduceLE, Int.reduceAdd, Int.reduceSub, Int.reduceMul, Int.reduceNeg, Int.reduceToNat, Int.cast_ofNat_Int, Int.natCast_zero, Int.natCast_one, Int.toNat_natCast, Nat.reduceBEq]
    refine CallK.pure ⟨rfl, rfl⟩ rfl (squared n m M (by omega) hm h0) ?_
    have hx := pmod_le (a := 2) h0 hm
    by_cases hf : pmod (fr n 2) m = pmod 2 m
    · have c2 : (((pmod (fr n 2) m : Nat) : Int) = ((pmod 2 m : Nat) : Int)) = True := eq_true (by omega)
      simp only [shs, zts, sos, sls, zss, eqs, sx, sb1, sb2, sb3, sb4, sb5, ↓reduceIte, Nat.reduceAdd, Nat.reduceMul, Nat.reduceDiv, Nat.reduceEqDiff, Nat.reduceLT, Nat.reduceLeDiff, reduceCtorEq, Int.reduceEq, Int.reduceNe, Int.reduceLT, Int.reduceLE, Int.reduceAdd, Int.reduceSub, Int.reduceMul, Int.reduceNeg, Int.reduceToNat, Int.cast_ofNat_Int, Int.natCast_zero, Int.natCast_one, Int.toNat_natCast, Nat.reduceBEq, c2]
      refine LoopK.go (X := Nat) (fun p => ([(0, true, .v (.int .i64 (m : Int))), (3, true, .v (.int .i64 (n : Int))), (5, true, .v (.int .i64 ((pmod 2 m : Nat) : Int))), (7, true, .v (.int .i64 (p : Int)))], [], M))
        (fun p => (2 ≤ p ∧ p ≤ 32) ∧ ∀ q, 2 ≤ q → q < p → n % q = 0 → prB q = true → gcdp (sz m) (pmod (fr (n / q) 2) m ^^^ pmod 2 m) m = 1) (fun p => 33 - p) 2 ⟨⟨by omega, by omega⟩, fun q _ _ => by omega⟩ (Ent.of ?_) ?_
      · simp only [sx, sb1, sb2, sb3, sb4, sb5, ↓reduceIte, Nat.reduceAdd, Nat.reduceMul, Nat.reduceDiv, Nat.reduceEqDiff, Nat.reduceLT, Nat.reduceLeDiff, reduceCtorEq, Int.reduceEq, Int.reduceNe, Int.reduceLT, Int.reduceLE, Int.reduceAdd, Int.reduceSub, Int.reduceMul, Int.reduceNeg, Int.reduceToNat, Int.cast_ofNat_Int, Int.natCast_zero, Int.natCast_one, Int.toNat_natCast, Nat.reduceBEq]
      rintro p ⟨⟨p1, p2⟩, p3⟩
      by_cases hp : p ≤ n
      · have c3 : ((p : Int) ≤ (n : Int)) = True := eq_true (by omega)
        have i2 : inK .i64 ((p : Int) + 1) := ⟨by simp only [lo]; omega, by simp only [hi]; omega⟩
        by_cases hr : n % p = 0
        · have c4 : (0 < ((n % p : Nat) : Int)) = False := eq_false (by omega)
          simp only [shs, zts, sos, sls, zss, eqs, sx, sb1, sb2, sb3, sb4, sb5, ↓reduceIte, Nat.reduceAdd, Nat.reduceMul, Nat.reduceDiv, Nat.reduceEqDiff, Nat.reduceLT, Nat.reduceLeDiff, reduceCtorEq, Int.reduceEq, Int.reduceNe, Int.reduceLT, Int.reduceLE, Int.reduceAdd, Int.reduceSub, Int.reduceMul, Int.reduceNeg, Int.reduceToNat, Int.cast_ofNat_Int, Int.natCast_zero, Int.natCast_one, Int.toNat_natCast, Nat.reduceBEq, c3, tmN, c4]
          refine ⟨by omega, CallK.pure ⟨rfl, rfl⟩ rfl (prime p M (by omega)) ?_⟩
          cases hb : prB p with
          | false =>
            simp only [shs, zts, sos, sls, zss, eqs, sx, sb1, sb2, sb3, sb4, sb5, ↓reduceIte, Nat.reduceAdd, Nat.reduceMul, Nat.reduceDiv, Nat.reduceEqDiff, Nat.reduceLT, Nat.reduceLeDiff, reduceCtorEq, Int.reduceEq, Int.reduceNe, Int.reduceLT, Int.reduceLE, Int.reduceAdd, Int.reduceSub, Int.reduceMul, Int.reduceNeg, Int.reduceToNat, Int.cast_ofNat_Int, Int.natCast_zero, Int.natCast_one, Int.toNat_natCast, Nat.reduceBEq, i2]
            refine ⟨p + 1, ⟨⟨⟨by omega, by omega⟩, fun q q1 q2 q3 q4 => ?_⟩, by omega⟩, Ent.of ?_⟩
            · rcases Nat.lt_or_ge q p with h | h
              · exact p3 q q1 h q3 q4
              · have : q = p := by omega
                rw [this, hb] at q4
                cases q4
            · simp only [sx, sb1, sb2, sb3, sb4, sb5, ↓reduceIte, Nat.reduceAdd, Nat.reduceMul, Nat.reduceDiv, Nat.reduceEqDiff, Nat.reduceLT, Nat.reduceLeDiff, reduceCtorEq, Int.reduceEq, Int.reduceNe, Int.reduceLT, Int.reduceLE, Int.reduceAdd, Int.reduceSub, Int.reduceMul, Int.reduceNeg, Int.reduceToNat, Int.cast_ofNat_Int, Int.natCast_zero, Int.natCast_one, Int.toNat_natCast, Nat.reduceBEq, Int.natCast_add]
          | true =>
            have hdp : n / p ≤ n := Nat.div_le_self n p
            have i3 : inK .i64 ((n / p : Nat) : Int) := i64N (by omega)
            have hy := pmod_le (a := fr (n / p) 2) h0 hm
            have hxy : pmod (fr (n / p) 2) m ^^^ pmod 2 m < 2 ^ 31 := Nat.xor_lt_two_pow (by omega) (by omega)
            simp only [shs, zts, sos, sls, zss, eqs, sx, sb1, sb2, sb3, sb4, sb5, ↓reduceIte, Nat.reduceAdd, Nat.reduceMul, Nat.reduceDiv, Nat.reduceEqDiff, Nat.reduceLT, Nat.reduceLeDiff, reduceCtorEq, Int.reduceEq, Int.reduceNe, Int.reduceLT, Int.reduceLE, Int.reduceAdd, Int.reduceSub, Int.reduceMul, Int.reduceNeg, Int.reduceToNat, Int.cast_ofNat_Int, Int.natCast_zero, Int.natCast_one, Int.toNat_natCast, Nat.reduceBEq, tdN, i3]
            refine ⟨by omega, CallK.pure ⟨rfl, rfl⟩ rfl (squared (n / p) m M (by omega) hm h0) ?_⟩
            simp only [shs, zts, sos, sls, zss, eqs, sx, sb1, sb2, sb3, sb4, sb5, ↓reduceIte, Nat.reduceAdd, Nat.reduceMul, Nat.reduceDiv, Nat.reduceEqDiff, Nat.reduceLT, Nat.reduceLeDiff, reduceCtorEq, Int.reduceEq, Int.reduceNe, Int.reduceLT, Int.reduceLE, Int.reduceAdd, Int.reduceSub, Int.reduceMul, Int.reduceNeg, Int.reduceToNat, Int.cast_ofNat_Int, Int.natCast_zero, Int.natCast_one, Int.toNat_natCast, Nat.reduceBEq]
            refine ⟨⟨⟨by omega, by simp only [hi]; omega⟩, ⟨by omega, by simp only [hi]; omega⟩⟩, CallK.pure ⟨rfl, rfl⟩ rfl (Gcd (pmod (fr (n / p) 2) m ^^^ pmod 2 m) m M (by omega) hm) ?_⟩
            by_cases hg : gcdp (sz m) (pmod (fr (n / p) 2) m ^^^ pmod 2 m) m = 1
            · have c5 : (((gcdp (sz m) (pmod (fr (n / p) 2) m ^^^ pmod 2 m) m : Nat) : Int) = 1) = True := eq_true (by omega)
              simp only [shs, zts, sos, sls, zss, eqs, sx, sb1, sb2, sb3, sb4, sb5, ↓reduceIte, Nat.reduceAdd, Nat.reduceMul, Nat.reduceDiv, Nat.reduceEqDiff, Nat.reduceLT, Nat.reduceLeDiff, reduceCtorEq, Int.reduceEq, Int.reduceNe, Int.reduceLT, Int.reduceLE, Int.reduceAdd, Int.reduceSub, Int.reduceMul, Int.reduceNeg, Int.reduceToNat, Int.cast_ofNat_Int, Int.natCast_zero, Int.natCast_one, Int.toNat_natCast, Nat.reduceBEq, c5, i2]
              refine ⟨p + 1, ⟨⟨⟨by omega, by omega⟩, fun q q1 q2 q3 q4 => ?_⟩, by omega⟩, Ent.of ?_⟩
              · rcases Nat.lt_or_ge q p with h | h
                · exact p3 q q1 h q3 q4
                · have : q = p := by omega
                  rw [this]; exact hg
              · simp only [sx, sb1, sb2, sb3, sb4, sb5, ↓reduceIte, Nat.reduceAdd, Nat.reduceMul, Nat.reduceDiv, Nat.reduceEqDiff, Nat.reduceLT, Nat.reduceLeDiff, reduceCtorEq, Int.reduceEq, Int.reduceNe, Int.reduceLT, Int.reduceLE, Int.reduceAdd, Int.reduceSub, Int.reduceMul, Int.reduceNeg, Int.reduceToNat, Int.cast_ofNat_Int, Int.natCast_zero, Int.natCast_one, Int.toNat_natCast, Nat.reduceBEq, Int.natCast_add]
            · have c5 : (((gcdp (sz m) (pmod (fr (n / p) 2) m ^^^ pmod 2 m) m : Nat) : Int) = 1) = False := eq_false (by omega)
              rw [irB_false (fun hI => hg (irr_2 hI hn p1 hp))]
              simp only [shs, zts, sos, sls, zss, eqs, sx, sb1, sb2, sb3, sb4, sb5, ↓reduceIte, Nat.reduceAdd, Nat.reduceMul, Nat.reduceDiv, Nat.reduceEqDiff, Nat.reduceLT, Nat.reduceLeDiff, reduceCtorEq, Int.reduceEq, Int.reduceNe, Int.reduceLT, Int.reduceLE, Int.reduceAdd, Int.reduceSub, Int.reduceMul, Int.reduceNeg, Int.reduceToNat, Int.cast_ofNat_Int, Int.natCast_zero, Int.natCast_one, Int.toNat_natCast, Nat.reduceBEq, c5]
        · have c4 : (0 < ((n % p : Nat) : Int)) = True := eq_true (by omega)
          simp only [shs, zts, sos, sls, zss, eqs, sx, sb1, sb2, sb3, sb4, sb5, ↓reduceIte, Nat.reduceAdd, Nat.reduceMul, Nat.reduceDiv, Nat.reduceEqDiff, Nat.reduceLT, Nat.reduceLeDiff, reduceCtorEq, Int.reduceEq, Int.reduceNe, Int.reduceLT, Int.reduceLE, Int.reduceAdd, Int.reduceSub, Int.reduceMul, Int.reduceNeg, Int.reduceToNat, Int.cast_ofNat_Int, Int.natCast_zero, Int.natCast_one, Int.toNat_natCast, Nat.reduceBEq, c3, tmN, c4, i2]
          refine ⟨by omega, p + 1, ⟨⟨⟨by omega, by omega⟩, fun q q1 q2 q3 q4 => ?_⟩, by omega⟩, Ent.of ?_⟩
          · rcases Nat.lt_or_ge q p with h | h
            · exact p3 q q1 h q3 q4
            · have : q = p := by omega
              rw [this] at q3
              exact (hr q3).elim
          · simp only [sx, sb1, sb2, sb3, sb4, sb5, ↓reduceIte, Nat.reduceAdd, Nat.reduceMul, Nat.reduceDiv, Nat.reduceEqDiff, Nat.reduceLT, Nat.reduceLeDiff, reduceCtorEq, Int.reduceEq, Int.reduceNe, Int.reduceLT, Int.reduceLE, Int.reduceAdd, Int.reduceSub, Int.reduceMul, Int.reduceNeg, Int.reduceToNat, Int.cast_ofNat_Int, Int.natCast_zero, Int.natCast_one, Int.toNat_natCast, Nat.reduceBEq, Int.natCast_add]
      · have c3 : ((p : Int) ≤ (n : Int)) = False := eq_false (by omega)
        rw [irB_true (irr_of (by omega) hn (by omega) hf (fun q q1 q2 => p3 q q1 (by omega)))]
        simp only [shs, zts, sos, sls, zss, eqs, sx, sb1, sb2, sb3, sb4, sb5, ↓reduceIte, Nat.reduceAdd, Nat.reduceMul, Nat.reduceDiv, Nat.reduceEqDiff, Nat.reduceLT, Nat.reduceLeDiff, reduceCtorEq, Int.reduceEq, Int.reduceNe, Int.reduceLT, Int.reduceLE, Int.reduceAdd, Int.reduceSub, Int.reduceMul, Int.reduceNeg, Int.reduceToNat, Int.cast_ofNat_Int, Int.natCast_zero, Int.natCast_one, Int.toNat_natCast, Nat.reduceBEq, c3]
    · have c2 : (((pmod (fr n 2) m : Nat) : Int) = ((pmod 2 m : Nat) : Int)) = False := eq_false (by omega)
      rw [irB_false (fun hI => hf (irr_1 hI hn))]
      simp only [shs, zts, sos, sls, zss, eqs, sx, sb1, sb2, sb3, sb4, sb5, ↓reduceIte, Nat.reduceAdd, Nat.reduceMul, Nat.reduceDiv, Nat.reduceEqDiff, Nat.reduceLT, Nat.reduceLeDiff, reduceCtorEq, Int.reduceEq, Int.reduceNe, Int.reduceLT, Int.reduceLE, Int.reduceAdd, Int.reduceSub, Int.reduceMul, Int.reduceNeg, Int.reduceToNat, Int.cast_ofNat_Int, Int.natCast_zero, Int.natCast_one, Int.toNat_natCast, Nat.reduceBEq, c2]
theorem Is (m : Nat) (M : Mem) (hm : m ≤ 2147483647) : Meets Proofs.Try.prog 34 [.v (.int .i64 (m : Int))] M fun r _ _ => r = .tup [.v (.bool (irB m)), .v (.int .i64 0)] := by
  refine Meets.of_body [0,2,3,4,8] Proofs.Try.func34 rfl (by kernel_rfl) rfl fun w => ?_
  have hc := check (m : Int) M
  rw [er_ok (by omega)] at hc
  simp only [Proofs.Try.f34, shs, zts, sos, sls, zss, eqs, sx, sb1, sb2, sb3, sb4, sb5, ↓reduceIte, Nat.reduceAdd, Nat.reduceMul, Nat.reduceDiv, Nat.reduceEqDiff, Nat.reduceLT, Nat.reduceLeDiff, reduceCtorEq, Int.reduceEq, Int.reduceNe, Int.reduceLT, Int.reduceLE, Int.reduceAdd, Int.reduceSub, Int.reduceMul, Int.reduceNeg, Int.reduceToNat, Int.cast_ofNat_Int, Int.natCast_zero, Int.natCast_one, Int.toNat_natCast, Nat.reduceBEq]
  refine CallK.pure ⟨rfl, rfl⟩ rfl hc ?_
  simp only [shs, zts, sos, sls, zss, eqs, sx, sb1, sb2, sb3, sb4, sb5, ↓reduceIte, Nat.reduceAdd, Nat.reduceMul, Nat.reduceDiv, Nat.reduceEqDiff, Nat.reduceLT, Nat.reduceLeDiff, reduceCtorEq, Int.reduceEq, Int.reduceNe, Int.reduceLT, Int.reduceLE, Int.reduceAdd, Int.reduceSub, Int.reduceMul, Int.reduceNeg, Int.reduceToNat, Int.cast_ofNat_Int, Int.natCast_zero, Int.natCast_one, Int.toNat_natCast, Nat.reduceBEq]
  refine CallK.pure ⟨rfl, rfl⟩ rfl (isP m M hm) ?_
  simp only [shs, zts, sos, sls, zss, eqs, sx, sb1, sb2, sb3, sb4, sb5, ↓reduceIte, Nat.reduceAdd, Nat.reduceMul, Nat.reduceDiv, Nat.reduceEqDiff, Nat.reduceLT, Nat.reduceLeDiff, reduceCtorEq, Int.reduceEq, Int.reduceNe, Int.reduceLT, Int.reduceLE, Int.reduceAdd, Int.reduceSub, Int.reduceMul, Int.reduceNeg, Int.reduceToNat, Int.cast_ofNat_Int, Int.natCast_zero, Int.natCast_one, Int.toNat_natCast, Nat.reduceBEq]
theorem Is_bad (m : Int) (M : Mem) (hm : m < 0 ∨ 2147483647 < m) : Meets Proofs.Try.prog 34 [.v (.int .i64 m)] M fun r _ _ => r = .tup [.v (.bool false), .v (.int .i64 1)] := by
  refine Meets.of_body [0,2,3,4,8] Proofs.Try.func34 rfl (by kernel_rfl) rfl fun w => ?_
  have hc := check m M
  rw [er_bad hm] at hc
  simp only [Proofs.Try.f34, shs, zts, sos, sls, zss, eqs, sx, sb1, sb2, sb3, sb4, sb5, ↓reduceIte, Nat.reduceAdd, Nat.reduceMul, Nat.reduceDiv, Nat.reduceEqDiff, Nat.reduceLT, Nat.reduceLeDiff, reduceCtorEq, Int.reduceEq, Int.reduceNe, Int.reduceLT, Int.reduceLE, Int.reduceAdd, Int.reduceSub, Int.reduceMul, Int.reduceNeg, Int.reduceToNat, Int.cast_ofNat_Int, Int.natCast_zero, Int.natCast_one, Int.toNat_natCast, Nat.reduceBEq]
  refine CallK.pure ⟨rfl, rfl⟩ rfl hc ?_
  simp only [shs, zts, sos, sls, zss, eqs, sx, sb1, sb2, sb3, sb4, sb5, ↓reduceIte, Nat.reduceAdd, Nat.reduceMul, Nat.reduceDiv, Nat.reduceEqDiff, Nat.reduceLT, Nat.reduceLeDiff, reduceCtorEq, Int.reduceEq, Int.reduceNe, Int.reduceLT, Int.reduceLE, Int.reduceAdd, Int.reduceSub, Int.reduceMul, Int.reduceNeg, Int.reduceToNat, Int.cast_ofNat_Int, Int.natCast_zero, Int.natCast_one, Int.toNat_natCast, Nat.reduceBEq]

/-- the next prime, or 0 -/
def NextP (m v : Nat) : Prop := (v ≠ 0 ∧ m ≤ v ∧ v ≤ 2147483647 ∧ Irr v ∧ ∀ u, m ≤ u → u < v → ¬ Irr u) ∨ (v = 0 ∧ ∀ u, m ≤ u → u ≤ 2147483647 → ¬ Irr u)
theorem NextP.uniq {m v v' : Nat} (h : NextP m v) (h' : NextP m v') : v = v' := by
  rcases h with ⟨h0, h1, h2, h3, h4⟩ | ⟨h0, h1⟩ <;> rcases h' with ⟨g0, g1, g2, g3, g4⟩ | ⟨g0, g1⟩
  · rcases Nat.lt_trichotomy v v' with h | h | h
    · exact (g4 v h1 h h3).elim
    · exact h
    · exact (h4 v' g1 h g3).elim
  · exact (g1 v h1 h2 h3).elim
  · exact (h1 v' g1 g2 g3).elim
  · rw [h0, g0]
def nextE (v : Nat) : Int := if v = 0 then 4 else 0
theorem Next (m : Nat) (M : Mem) (hm : m ≤ 2147483647) : Meets Proofs.Try.prog 11 [.v (.int .i64 (m : Int))] M fun r _ _ => ∃ v : Nat, r = .tup [.v (.int .i64 (v : Int)), .v (.int .i64 (nextE v))] ∧ NextP m v := by
  refine Meets.of_body [0,2,3,4,8,11,15] Proofs.Try.func11 rfl (by kernel_rfl) rfl fun w => ?_
  have hc := check (m : Int) M
  rw [er_ok (by omega)] at hc
  simp only [Proofs.Try.f11, shs, zts, sos, sls, zss, eqs, sx, sb1, sb2, sb3, sb4, sb5, ↓reduceIte, Nat.reduceAdd, Nat.reduceMul, Nat.reduceDiv, Nat.reduceEqDiff, Nat.reduceLT, Nat.reduceLeDiff, reduceCtorEq, Int.reduceEq, Int.reduceNe, Int.reduceLT, Int.reduceLE, Int.reduceAdd, Int.reduceSub, Int.reduceMul, Int.reduceNeg, Int.reduceToNat, Int.cast_ofNat_Int, Int.natCast_zero, Int.natCast_one, Int.toNat_natCast, Nat.reduceBEq]
  refine CallK.pure ⟨rfl, rfl⟩ rfl hc ?_
  simp only [shs, zts, sos, sls, zss, eqs, sx, sb1, sb2, sb3, sb4, sb5, ↓reduceIte, Nat.reduceAdd, Nat.reduceMul, Nat.reduceDiv, Nat.reduceEqDiff, Nat.reduceLT, Nat.reduceLeDiff, reduceCtorEq, Int.reduceEq, Int.reduceNe, Int.reduceLT, Int.reduceLE, Int.reduceAdd, Int.reduceSub, Int.reduceMul, Int.reduceNeg, Int.reduceToNat, Int.cast_ofNat_Int, Int.natCast_zero, Int.natCast_one, Int.toNat_natCast, Nat.reduceBEq]
  refine LoopK.go (X := Nat) (fun u => ([(0, true, .v (.int .i64 (u : Int)))], [], M))
    (fun u => (m ≤ u ∧ u ≤ 2147483648) ∧ ∀ x, m ≤ x → x < u → ¬ Irr x) (fun u => 2147483649 - u) m ⟨⟨by omega, by omega⟩, fun x _ _ => by omega⟩ (Ent.of ?_) ?_
  · simp only [sx, sb1, sb2, sb3, sb4, sb5, ↓reduceIte, Nat.reduceAdd, Nat.reduceMul, Nat.reduceDiv, Nat.reduceEqDiff, Nat.reduceLT, Nat.reduceLeDiff, reduceCtorEq, Int.reduceEq, Int.reduceNe, Int.reduceLT, Int.reduceLE, Int.reduceAdd, Int.reduceSub, Int.reduceMul, Int.reduceNeg, Int.reduceToNat, Int.cast_ofNat_Int, Int.natCast_zero, Int.natCast_one, Int.toNat_natCast, Nat.reduceBEq]
  rintro u ⟨⟨h1, h2⟩, h3⟩
  by_cases hu : u ≤ 2147483647
  · have c1 : ((u : Int) ≤ 2147483647) = True := eq_true (by omega)
    have i2 : inK .i64 ((u : Int) + 1) := ⟨by simp only [lo]; omega, by simp only [hi]; omega⟩
    simp only [shs, zts, sos, sls, zss, eqs, sx, sb1, sb2, sb3, sb4, sb5, ↓reduceIte, Nat.reduceAdd, Nat.reduceMul, Nat.reduceDiv, Nat.reduceEqDiff, Nat.reduceLT, Nat.reduceLeDiff, reduceCtorEq, Int.reduceEq, Int.reduceNe, Int.reduceLT, Int.reduceLE, Int.reduceAdd, Int.reduceSub, Int.reduceMul, Int.reduceNeg, Int.reduceToNat, Int.cast_ofNat_Int, Int.natCast_zero, Int.natCast_one, Int.toNat_natCast, Nat.reduceBEq, c1]
    refine CallK.pure ⟨rfl, rfl⟩ rfl (isP u M hu) ?_
    cases hb : irB u with
    | true =>
      have hI := irB_iff.1 hb
      simp only [shs, zts, sos, sls, zss, eqs, sx, sb1, sb2, sb3, sb4, sb5, ↓reduceIte, Nat.reduceAdd, Nat.reduceMul, Nat.reduceDiv, Nat.reduceEqDiff, Nat.reduceLT, Nat.reduceLeDiff, reduceCtorEq, Int.reduceEq, Int.reduceNe, Int.reduceLT, Int.reduceLE, Int.reduceAdd, Int.reduceSub, Int.reduceMul, Int.reduceNeg, Int.reduceToNat, Int.cast_ofNat_Int, Int.natCast_zero, Int.natCast_one, Int.toNat_natCast, Nat.reduceBEq]
      exact ⟨u, by rw [nextE, if_neg (by have := hI.1; omega)], .inl ⟨by have := hI.1; omega, h1, hu, hI, h3⟩⟩
    | false =>
      simp only [shs, zts, sos, sls, zss, eqs, sx, sb1, sb2, sb3, sb4, sb5, ↓reduceIte, Nat.reduceAdd, Nat.reduceMul, Nat.reduceDiv, Nat.reduceEqDiff, Nat.reduceLT, Nat.reduceLeDiff, reduceCtorEq, Int.reduceEq, Int.reduceNe, Int.reduceLT, Int.reduceLE, Int.reduceAdd, Int.reduceSub, Int.reduceMul, Int.reduceNeg, Int.reduceToNat, Int.cast_ofNat_Int, Int.natCast_zero, Int.natCast_one, Int.toNat_natCast, Nat.reduceBEq, i2]
      refine ⟨u + 1, ⟨⟨⟨by omega, by omega⟩, fun x hx1 hx2 => ?_⟩, by omega⟩, Ent.of ?_⟩
      · rcases Nat.lt_or_ge x u with h | h
        · exact h3 x hx1 h
        · have : x = u := by omega
          rw [this]
          intro hI
          rw [irB_true hI] at hb
          cases hb
      · simp only [sx, sb1, sb2, sb3, sb4, sb5, ↓reduceIte, Nat.reduceAdd, Nat.reduceMul, Nat.reduceDiv, Nat.reduceEqDiff, Nat.reduceLT, Nat.reduceLeDiff, reduceCtorEq, Int.reduceEq, Int.reduceNe, Int.reduceLT, Int.reduceLE, Int.reduceAdd, Int.reduceSub, Int.reduceMul, Int.reduceNeg, Int.reduceToNat, Int.cast_ofNat_Int, Int.natCast_zero, Int.natCast_one, Int.toNat_natCast, Nat.reduceBEq, Int.natCast_add]
  · have c1 : ((u : Int) ≤ 2147483647) = False := eq_false (by omega)
    simp only [shs, zts, sos, sls, zss, eqs, sx, sb1, sb2, sb3, sb4, sb5, ↓reduceIte, Nat.reduceAdd, Nat.reduceMul, Nat.reduceDiv, Nat.reduceEqDiff, Nat.reduceLT, Nat.reduceLeDiff, reduceCtorEq, Int.reduceEq, Int.reduceNe, Int.reduceLT, Int.reduceLE, Int.reduceAdd, Int.reduceSub, Int.reduceMul, Int.reduceNeg, Int.reduceToNat, Int.cast_ofNat_Int, Int.natCast_zero, Int.natCast_one, Int.toNat_natCast, Nat.reduceBEq, c1]
    exact ⟨0, rfl, .inr ⟨rfl, fun x hx1 hx2 => h3 x hx1 (by omega)⟩⟩
theorem Next_bad (m : Int) (M : Mem) (hm : m < 0 ∨ 2147483647 < m) : Meets Proofs.Try.prog 11 [.v (.int .i64 m)] M fun r _ _ => r = .tup [.v (.int .i64 0), .v (.int .i64 1)] := by
  refine Meets.of_body [0,2,3,4,8,11,15] Proofs.Try.func11 rfl (by kernel_rfl) rfl fun w => ?_
  have hc := check m M
  rw [er_bad hm] at hc
  simp only [Proofs.Try.f11, shs, zts, sos, sls, zss, eqs, sx, sb1, sb2, sb3, sb4, sb5, ↓reduceIte, Nat.reduceAdd, Nat.reduceMul, Nat.reduceDiv, Nat.reduceEqDiff, Nat.reduceLT, Nat.reduceLeDiff, reduceCtorEq, Int.reduceEq, Int.reduceNe, Int.reduceLT, Int.reduceLE, Int.reduceAdd, Int.reduceSub, Int.reduceMul, Int.reduceNeg, Int.reduceToNat, Int.cast_ofNat_Int, Int.natCast_zero, Int.natCast_one, Int.toNat_natCast, Nat.reduceBEq]
  refine CallK.pure ⟨rfl, rfl⟩ rfl hc ?_
  simp only [shs, zts, sos, sls, zss, eqs, sx, sb1, sb2, sb3, sb4, sb5, ↓reduceIte, Nat.reduceAdd, Nat.reduceMul, Nat.reduceDiv, Nat.reduceEqDiff, Nat.reduceLT, Nat.reduceLeDiff, reduceCtorEq, Int.reduceEq, Int.reduceNe, Int.reduceLT, Int.reduceLE, Int.reduceAdd, Int.reduceSub, Int.reduceMul, Int.reduceNeg, Int.reduceToNat, Int.cast_ofNat_Int, Int.natCast_zero, Int.natCast_one, Int.toNat_natCast, Nat.reduceBEq]
end Go.X.Rb
