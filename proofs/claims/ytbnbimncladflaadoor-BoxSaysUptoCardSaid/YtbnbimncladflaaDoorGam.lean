/- Gamma codes: what package gamma and woolref return. Conditions: none. -/
import Derived.Test.YtbnbimncladflaaDoorStr
set_option linter.unusedSimpArgs false
set_option linter.unusedVariables false
set_option maxHeartbeats 4000000
set_option maxRecDepth 20000
namespace Go.X.Gm
open Go Go.X Go.RowKit Go.X.Pl Go.X.St Go.X.Pol

/-- the lowest k bits, the highest of them first -/
def low (n : Nat) : Nat → List UInt8
  | 0 => []
  | k + 1 => (if n.testBit k then 49 else 48) :: low n k
theorem low_len (n : Nat) : ∀ k, (low n k).length = k
  | 0 => rfl
  | k + 1 => by rw [low, List.length_cons, low_len n k]
theorem low_get (n : Nat) : ∀ k i, i < k → (low n k)[i]? = some (if n.testBit (k - 1 - i) then 49 else 48)
  | 0, _, h => by omega
  | k + 1, 0, _ => by rw [low]; simp
  | k + 1, i + 1, h => by
    rw [low, List.getElem?_cons_succ, low_get n k i (by omega)]
    rw [show k + 1 - 1 - (i + 1) = k - 1 - i by omega]
theorem low_half (n : Nat) : ∀ k, low n (k + 1) = low (n / 2) k ++ [if n % 2 = 1 then 49 else 48]
  | 0 => by
    simp only [low, List.nil_append, Nat.testBit_zero]
    congr 1
    by_cases h : n % 2 = 1 <;> simp [h]
  | k + 1 => by
    rw [low, low_half n k, low, Nat.testBit_succ]
    rfl
theorem bit1 (n k : Nat) : n >>> k % 2 = if n.testBit k then 1 else 0 := by
  rw [Nat.testBit_eq_decide_div_mod_eq, Nat.shiftRight_eq_div_pow]
  by_cases h : n / 2 ^ k % 2 = 1
  · simp [h]
  · have : n / 2 ^ k % 2 = 0 := by omega
    simp [this]

theorem byteOf_encB (b : UInt8) : byteOf (encB b) = b := by
  show UInt8.ofNat ((b.toNat : Int).toNat) = b
  rw [Int.toNat_natCast]
  exact UInt8.ofNat_toNat
theorem u8s_encB : ∀ l : List UInt8, u8s (l.map encB)
  | [] => trivial
  | b :: l => u8s_encB l
theorem map_byteOf (l : List UInt8) : (l.map encB).map byteOf = l := by
  rw [List.map_map]
  have : byteOf ∘ encB = id := funext byteOf_encB
  rw [this, List.map_id]
theorem div_pow (n j : Nat) : (n : Int) / 2 ^ j = ((n / 2 ^ j : Nat) : Int) := by
  rw [Int.natCast_ediv, Int.natCast_pow]
  rfl
theorem bitV (n j : Nat) : 48 + IntKind.u8.wrap ((((n : Int) / 2 ^ j).toNat &&& 1 : Nat) : Int) = (((if n.testBit j then 49 else 48 : UInt8).toNat : Nat) : Int) := by
  rw [div_pow, Int.toNat_natCast, Nat.and_one_is_mod, ← Nat.shiftRight_eq_div_pow, bit1]
  by_cases h : n.testBit j
  · rw [if_pos h, if_pos h]; rfl
  · rw [if_neg h, if_neg h]; rfl
theorem set_low {l : List UInt8} {k i : Nat} {b : UInt8} (hb : l[i]? = some b) (hi : i < k) :
    ((l.take i).map encB ++ List.replicate (k - i) [Value.int .u8 0]).set i [.int .u8 (b.toNat : Int)] = (l.take (i + 1)).map encB ++ List.replicate (k - (i + 1)) [Value.int .u8 0] := by
  have hl : i < l.length := (List.getElem?_eq_some_iff.1 hb).1
  rw [List.set_append_right _ _ (by rw [List.length_map, List.length_take]; exact Nat.min_le_left _ _), List.length_map, List.length_take, Nat.min_eq_left (by omega), Nat.sub_self]
  rw [show k - i = (k - (i + 1)) + 1 by omega, List.replicate_succ, List.set_cons_zero, List.take_add_one, hb, List.map_append]
  simp [encB]

theorem lowW (n k : Nat) (M : Mem) (hn : n ≤ 9223372036854775807) (hk : k ≤ 64) :
    Meets Proofs.Tryd.prog 33 [.v (.int .i64 (n : Int)), .v (.int .i64 (k : Int))] M fun r _ _ => r = .v (.string ⟨(low n k).toArray⟩) := by
  refine Meets.of_body [0,1,4,5,6,10,11,12] Proofs.Tryd.func33 rfl (by kernel_rfl) rfl fun w => ?_
  simp only [Proofs.Tryd.f33, shs, zts, sos, sls, zss, eqs, sx, sb1, sb2, sb3, sb4, sb5, sb6, sb7, ↓reduceIte, Nat.reduceAdd, Nat.reduceMul, Nat.reduceDiv, Nat.reduceEqDiff, Nat.reduceLT, Nat.reduceLeDiff, reduceCtorEq, Int.reduceEq, Int.reduceNe, Int.reduceLT, Int.reduceLE, Int.reduceAdd, Int.reduceSub, Int.reduceMul, Int.reduceNeg, Int.reduceToNat, Int.cast_ofNat_Int, Int.natCast_zero, Int.natCast_one, Int.toNat_natCast, Nat.reduceBEq, nzs, List.length_replicate]
  refine ⟨by omega, ?_⟩
  refine LoopK.go (X := Nat × Nat) (fun x => ([(0, true, .v (.int .i64 (n : Int))), (1, true, .v (.int .i64 (k : Int))), (5, true, .own 64), (10, true, .v (.int .i64 (k : Int))), (11, true, .v (.int .i64 (x.2 : Int)))], [(64, .row 1 (((low n k).take x.2).map encB ++ List.replicate (k - x.2) [.int .u8 0]))], M))
    (fun x => x.1 + x.2 = k) (fun x => x.1) (k, 0) rfl (Ent.of ?_) ?_
  · simp only [sx, sb1, sb2, sb3, sb4, sb5, sb6, sb7, ↓reduceIte, Nat.reduceAdd, Nat.reduceMul, Nat.reduceDiv, Nat.reduceEqDiff, Nat.reduceLT, Nat.reduceLeDiff, reduceCtorEq, Int.reduceEq, Int.reduceNe, Int.reduceLT, Int.reduceLE, Int.reduceAdd, Int.reduceSub, Int.reduceMul, Int.reduceNeg, Int.reduceToNat, Int.cast_ofNat_Int, Int.natCast_zero, Int.natCast_one, Int.toNat_natCast, Nat.reduceBEq, List.take_zero, List.map_nil, List.nil_append, Nat.sub_zero]
  rintro ⟨f, i⟩ h1
  simp only at h1
  by_cases hik : i < k
  · have c1 : ((i : Int) < (k : Int)) = True := eq_true (by omega)
    have e1 : (k : Int) - 1 - (i : Int) = ((k - 1 - i : Nat) : Int) := by omega
    simp only [shs, zts, sos, sls, zss, eqs, sx, sb1, sb2, sb3, sb4, sb5, sb6, sb7, ↓reduceIte, Nat.reduceAdd, Nat.reduceMul, Nat.reduceDiv, Nat.reduceEqDiff, Nat.reduceLT, Nat.reduceLeDiff, reduceCtorEq, Int.reduceEq, Int.reduceNe, Int.reduceLT, Int.reduceLE, Int.reduceAdd, Int.reduceSub, Int.reduceMul, Int.reduceNeg, Int.reduceToNat, Int.cast_ofNat_Int, Int.natCast_zero, Int.natCast_one, Int.toNat_natCast, Nat.reduceBEq, nzs, c1, inK, lo, hi, e1, bitV, b64]
    have hdl := Nat.div_le_self n (2 ^ (k - 1 - i))
    rw [div_pow, set_low (low_get n k i hik) hik]
    have hbl : (if n.testBit (k - 1 - i) then 49 else 48 : UInt8).toNat ≤ 49 := by split <;> decide
    generalize n / 2 ^ (k - 1 - i) = qq at hdl ⊢
    refine ⟨by omega, by omega, by omega, by omega, by omega, ?_, ?_, by omega, (f - 1, i + 1), ⟨by simp only; omega, by simp only; omega⟩, Ent.of ?_⟩
    · simp only [List.length_append, List.length_map, List.length_take, List.length_replicate, low_len]; omega
    · simp only [List.length_append, List.length_map, List.length_take, List.length_replicate, low_len]; omega
    · simp only [sx, sb1, sb2, sb3, sb4, sb5, sb6, sb7, ↓reduceIte, Nat.reduceAdd, Nat.reduceMul, Nat.reduceDiv, Nat.reduceEqDiff, Nat.reduceLT, Nat.reduceLeDiff, reduceCtorEq, Int.reduceEq, Int.reduceNe, Int.reduceLT, Int.reduceLE, Int.reduceAdd, Int.reduceSub, Int.reduceMul, Int.reduceNeg, Int.reduceToNat, Int.cast_ofNat_Int, Int.natCast_zero, Int.natCast_one, Int.toNat_natCast, Nat.reduceBEq, Int.natCast_add]
  · have c1 : ((i : Int) < (k : Int)) = False := eq_false (by omega)
    have e1 : ((low n k).take i).map encB ++ List.replicate (k - i) [.int .u8 0] = (low n k).map encB := by
      rw [show k - i = 0 by omega, List.replicate_zero, List.append_nil, List.take_of_length_le (by rw [low_len]; omega)]
    rw [e1]
    simp only [shs, zts, sos, sls, zss, eqs, sx, sb1, sb2, sb3, sb4, sb5, sb6, sb7, ↓reduceIte, Nat.reduceAdd, Nat.reduceMul, Nat.reduceDiv, Nat.reduceEqDiff, Nat.reduceLT, Nat.reduceLeDiff, reduceCtorEq, Int.reduceEq, Int.reduceNe, Int.reduceLT, Int.reduceLE, Int.reduceAdd, Int.reduceSub, Int.reduceMul, Int.reduceNeg, Int.reduceToNat, Int.cast_ofNat_Int, Int.natCast_zero, Int.natCast_one, Int.toNat_natCast, Nat.reduceBEq, nzs, c1]
    exact ⟨u8s_encB _, by rw [map_byteOf]⟩
theorem sz_half {m : Nat} (h : m ≠ 0) : sz m = sz (m / 2) + 1 := by
  obtain ⟨h1, h2, h3⟩ := sz_rng h
  by_cases hm : m / 2 = 0
  · have : m = 1 := by omega
    subst this
    rfl
  · obtain ⟨k1, k2, k3⟩ := sz_rng hm
    refine sz_eq ?_ ?_
    · rw [k3, Nat.pow_succ]; omega
    · rw [Nat.pow_succ]; omega
theorem digW (n : Nat) (M : Mem) (hn : n ≤ 9223372036854775807) :
    Meets Proofs.Tryd.prog 37 [.v (.int .i64 (n : Int))] M fun r _ _ => r = .v (.string ⟨(low n (sz n)).toArray⟩) := by
  refine Meets.of_body [0,2,3,5] Proofs.Tryd.func37 rfl (by kernel_rfl) rfl fun w => ?_
  generalize hc : low n (sz n) = c
  simp only [Proofs.Tryd.f37, shs, zts, sos, sls, zss, eqs, sx, sb1, sb2, sb3, sb4, sb5, sb6, sb7, ↓reduceIte, Nat.reduceAdd, Nat.reduceMul, Nat.reduceDiv, Nat.reduceEqDiff, Nat.reduceLT, Nat.reduceLeDiff, reduceCtorEq, Int.reduceEq, Int.reduceNe, Int.reduceLT, Int.reduceLE, Int.reduceAdd, Int.reduceSub, Int.reduceMul, Int.reduceNeg, Int.reduceToNat, Int.cast_ofNat_Int, Int.natCast_zero, Int.natCast_one, Int.toNat_natCast, Nat.reduceBEq, nzs]
  refine LoopK.go (X := Nat × List UInt8) (fun x => ([(0, true, .v (.int .i64 (x.1 : Int))), (3, true, .v (.string ⟨x.2.toArray⟩))], [], M))
    (fun x => (x.1 ≤ 9223372036854775807 ∧ x.2.length + sz x.1 ≤ 64) ∧ low x.1 (sz x.1) ++ x.2 = c) (fun x => x.1) (n, []) ⟨⟨hn, by have := sz_le.2 (show n < 2 ^ 64 by omega); simp; omega⟩, by rw [List.append_nil]; exact hc⟩ (Ent.of ?_) ?_
  · simp only [sx, sb1, sb2, sb3, sb4, sb5, sb6, sb7, ↓reduceIte, Nat.reduceAdd, Nat.reduceMul, Nat.reduceDiv, Nat.reduceEqDiff, Nat.reduceLT, Nat.reduceLeDiff, reduceCtorEq, Int.reduceEq, Int.reduceNe, Int.reduceLT, Int.reduceLE, Int.reduceAdd, Int.reduceSub, Int.reduceMul, Int.reduceNeg, Int.reduceToNat, Int.cast_ofNat_Int, Int.natCast_zero, Int.natCast_one, Int.toNat_natCast, Nat.reduceBEq]
  rintro ⟨m, o⟩ ⟨⟨h1, h3⟩, h2⟩
  simp only at h1 h2 h3
  by_cases hm : m = 0
  · subst hm
    have c1 : ((0 : Nat) : Int) = 0 := rfl
    simp only [shs, zts, sos, sls, zss, eqs, sx, sb1, sb2, sb3, sb4, sb5, sb6, sb7, ↓reduceIte, Nat.reduceAdd, Nat.reduceMul, Nat.reduceDiv, Nat.reduceEqDiff, Nat.reduceLT, Nat.reduceLeDiff, reduceCtorEq, Int.reduceEq, Int.reduceNe, Int.reduceLT, Int.reduceLE, Int.reduceAdd, Int.reduceSub, Int.reduceMul, Int.reduceNeg, Int.reduceToNat, Int.cast_ofNat_Int, Int.natCast_zero, Int.natCast_one, Int.toNat_natCast, Nat.reduceBEq, nzs, Int.lt_irrefl]
    rw [← h2]
    rfl
  have c1 : (0 < (m : Int)) = True := eq_true (by omega)
  have e1 : (m : Int).tmod 2 = ((m % 2 : Nat) : Int) := (Int.ofNat_tmod m 2).symm
  have e2 : (m : Int).tdiv 2 = ((m / 2 : Nat) : Int) := (Int.ofNat_tdiv m 2).symm
  have e3 : byteOf [Value.int .u8 (strIx [48, 49] ((m % 2 : Nat) : Int))] = if m % 2 = 1 then 49 else 48 := by
    rcases Nat.mod_two_eq_zero_or_one m with h | h <;> rw [h] <;> rfl
  have hsz := sz_half hm
  simp only [shs, zts, sos, sls, zss, eqs, sx, sb1, sb2, sb3, sb4, sb5, sb6, sb7, ↓reduceIte, Nat.reduceAdd, Nat.reduceMul, Nat.reduceDiv, Nat.reduceEqDiff, Nat.reduceLT, Nat.reduceLeDiff, reduceCtorEq, Int.reduceEq, Int.reduceNe, Int.reduceLT, Int.reduceLE, Int.reduceAdd, Int.reduceSub, Int.reduceMul, Int.reduceNeg, Int.reduceToNat, Int.cast_ofNat_Int, Int.natCast_zero, Int.natCast_one, Int.toNat_natCast, Nat.reduceBEq, nzs, c1, e1, e2, e3, inK, lo, hi]
  refine ⟨by omega, by omega, by omega, (m / 2, (if m % 2 = 1 then 49 else 48) :: o), ⟨⟨⟨by simp only; omega, by simp only [List.length_cons]; omega⟩, ?_⟩, by simp only; omega⟩, Ent.of ?_⟩
  · simp only
    rw [hsz, low_half, List.append_assoc] at h2
    exact h2
  · simp only [sx, sb1, sb2, sb3, sb4, sb5, sb6, sb7, ↓reduceIte, Nat.reduceAdd, Nat.reduceMul, Nat.reduceDiv, Nat.reduceEqDiff, Nat.reduceLT, Nat.reduceLeDiff, reduceCtorEq, Int.reduceEq, Int.reduceNe, Int.reduceLT, Int.reduceLE, Int.reduceAdd, Int.reduceSub, Int.reduceMul, Int.reduceNeg, Int.reduceToNat, Int.cast_ofNat_Int, Int.natCast_zero, Int.natCast_one, Int.toNat_natCast, Nat.reduceBEq]
theorem dw_nil (p : UInt8 → Bool) : ∀ l : List UInt8, l.dropWhile p = [] ↔ l.all p = true
  | [] => by simp
  | x :: l => by
    rw [List.dropWhile_cons, List.all_cons]
    cases hp : p x with
    | true => simpa using dw_nil p l
    | false => simp
theorem trim_nil (s : List UInt8) : decide (Lib.trimS s [48, 49] = []) = s.all fun b => b == 48 || b == 49 := by
  have hp : (fun b : UInt8 => [48, 49].contains b) = fun b => b == 48 || b == 49 := by
    funext b
    simp [Bool.beq_eq_decide_eq]
  unfold Lib.trimS Lib.trimRightS Lib.trimLeftS
  rw [show (([48, 49] : List UInt8).contains ·) = fun b => b == 48 || b == 49 from hp]
  generalize (fun b : UInt8 => b == 48 || b == 49) = p
  rw [← List.all_reverse (l := s)]
  have h1 := dw_nil p s.reverse
  generalize s.reverse.all p = c at *
  cases c with
  | true =>
    rw [h1.2 rfl]
    rfl
  | false =>
    refine decide_eq_false fun h => ?_
    rw [dw_nil, List.all_reverse] at h
    have h2 : s.reverse.dropWhile p ≠ [] := fun e => by cases h1.1 e
    obtain ⟨x, t, hx⟩ := List.exists_cons_of_ne_nil h2
    have h3 : p x = false := by
      have := List.head_dropWhile_not p h2
      simpa [hx] using this
    rw [hx, List.all_cons, h3] at h
    cases h
theorem bitsW (s : List UInt8) (M : Mem) (hs : s.length ≤ 9223372036854775807) :
    Meets Proofs.Tryd.prog 36 [.v (.string ⟨s.toArray⟩)] M fun r _ _ => r = .v (.bool (s.all fun b => b == 48 || b == 49)) := by
  refine Meets.of_body [0,2] Proofs.Tryd.func36 rfl (by kernel_rfl) rfl fun w => ?_
  simp only [Proofs.Tryd.f36, shs, zts, sos, sls, zss, eqs, sx, sb1, sb2, sb3, sb4, sb5, sb6, sb7, ↓reduceIte, Nat.reduceAdd, Nat.reduceMul, Nat.reduceDiv, Nat.reduceEqDiff, Nat.reduceLT, Nat.reduceLeDiff, reduceCtorEq, Int.reduceEq, Int.reduceNe, Int.reduceLT, Int.reduceLE, Int.reduceAdd, Int.reduceSub, Int.reduceMul, Int.reduceNeg, Int.reduceToNat, Int.cast_ofNat_Int, Int.natCast_zero, Int.natCast_one, Int.toNat_natCast, Nat.reduceBEq, nzs]
  refine CallK.pure ⟨rfl, rfl⟩ rfl (trim01 s M hs) ?_
  simp only [shs, zts, sos, sls, zss, eqs, sx, sb1, sb2, sb3, sb4, sb5, sb6, sb7, ↓reduceIte, Nat.reduceAdd, Nat.reduceMul, Nat.reduceDiv, Nat.reduceEqDiff, Nat.reduceLT, Nat.reduceLeDiff, reduceCtorEq, Int.reduceEq, Int.reduceNe, Int.reduceLT, Int.reduceLE, Int.reduceAdd, Int.reduceSub, Int.reduceMul, Int.reduceNeg, Int.reduceToNat, Int.cast_ofNat_Int, Int.natCast_zero, Int.natCast_one, Int.toNat_natCast, Nat.reduceBEq, nzs, trim_nil]
theorem zerosW (s : List UInt8) (M : Mem) (hs : s.length ≤ 9223372036854775807) :
    Meets Proofs.Tryd.prog 68 [.v (.string ⟨s.toArray⟩)] M fun r _ _ => r = .v (.int .i64 ((s.takeWhile (· == 48)).length : Int)) := by
  refine Meets.of_body [0,2] Proofs.Tryd.func68 rfl (by kernel_rfl) rfl fun w => ?_
  simp only [Proofs.Tryd.f68, shs, zts, sos, sls, zss, eqs, sx, sb1, sb2, sb3, sb4, sb5, sb6, sb7, ↓reduceIte, Nat.reduceAdd, Nat.reduceMul, Nat.reduceDiv, Nat.reduceEqDiff, Nat.reduceLT, Nat.reduceLeDiff, reduceCtorEq, Int.reduceEq, Int.reduceNe, Int.reduceLT, Int.reduceLE, Int.reduceAdd, Int.reduceSub, Int.reduceMul, Int.reduceNeg, Int.reduceToNat, Int.cast_ofNat_Int, Int.natCast_zero, Int.natCast_one, Int.toNat_natCast, Nat.reduceBEq, nzs]
  refine CallK.pure ⟨rfl, rfl⟩ rfl (trimL0 s M hs) ?_
  have h1 : (s.takeWhile (· == 48)).length + (s.dropWhile (· == 48)).length = s.length := by
    rw [← List.length_append, List.takeWhile_append_dropWhile]
  have e1 : (s.length : Int) - ((s.dropWhile (· == 48)).length : Int) = ((s.takeWhile (· == 48)).length : Int) := by omega
  simp only [shs, zts, sos, sls, zss, eqs, sx, sb1, sb2, sb3, sb4, sb5, sb6, sb7, ↓reduceIte, Nat.reduceAdd, Nat.reduceMul, Nat.reduceDiv, Nat.reduceEqDiff, Nat.reduceLT, Nat.reduceLeDiff, reduceCtorEq, Int.reduceEq, Int.reduceNe, Int.reduceLT, Int.reduceLE, Int.reduceAdd, Int.reduceSub, Int.reduceMul, Int.reduceNeg, Int.reduceToNat, Int.cast_ofNat_Int, Int.natCast_zero, Int.natCast_one, Int.toNat_natCast, Nat.reduceBEq, nzs, inK, lo, hi, e1]
  exact ⟨by omega, by omega⟩
def val (s : List UInt8) (n : Nat) : Nat := s.foldl (fun n b => 2 * n + (b.toNat - 48)) n
theorem valW (s : List UInt8) (M : Mem) (hs : s.length ≤ 62) (hb : ∀ b ∈ s, b = 48 ∨ b = 49) :
    Meets Proofs.Tryd.prog 69 [.v (.string ⟨s.toArray⟩)] M fun r _ _ => r = .v (.int .i64 (val s 0 : Int)) := by
  refine Meets.of_body [0,2,3,4,6,7,8] Proofs.Tryd.func69 rfl (by kernel_rfl) rfl fun w => ?_
  generalize hc : val s 0 = c
  simp only [Proofs.Tryd.f69, shs, zts, sos, sls, zss, eqs, sx, sb1, sb2, sb3, sb4, sb5, sb6, sb7, ↓reduceIte, Nat.reduceAdd, Nat.reduceMul, Nat.reduceDiv, Nat.reduceEqDiff, Nat.reduceLT, Nat.reduceLeDiff, reduceCtorEq, Int.reduceEq, Int.reduceNe, Int.reduceLT, Int.reduceLE, Int.reduceAdd, Int.reduceSub, Int.reduceMul, Int.reduceNeg, Int.reduceToNat, Int.cast_ofNat_Int, Int.natCast_zero, Int.natCast_one, Int.toNat_natCast, Nat.reduceBEq, nzs]
  refine LoopK.go (X := Nat × Nat × Nat) (fun x => ([(0, true, .v (.string ⟨s.toArray⟩)), (3, true, .v (.int .i64 (x.2.2 : Int))), (6, true, .v (.int .i64 s.length)), (7, true, .v (.int .i64 (x.2.1 : Int)))], [], M))
    (fun x => (x.1 + x.2.1 = s.length ∧ x.2.2 < 2 ^ x.2.1) ∧ val (s.drop x.2.1) x.2.2 = c) (fun x => x.1) (s.length, 0, 0) ⟨⟨rfl, Nat.one_pos⟩, hc⟩ (Ent.of ?_) ?_
  · simp only [sx, sb1, sb2, sb3, sb4, sb5, sb6, sb7, ↓reduceIte, Nat.reduceAdd, Nat.reduceMul, Nat.reduceDiv, Nat.reduceEqDiff, Nat.reduceLT, Nat.reduceLeDiff, reduceCtorEq, Int.reduceEq, Int.reduceNe, Int.reduceLT, Int.reduceLE, Int.reduceAdd, Int.reduceSub, Int.reduceMul, Int.reduceNeg, Int.reduceToNat, Int.cast_ofNat_Int, Int.natCast_zero, Int.natCast_one, Int.toNat_natCast, Nat.reduceBEq]
  rintro ⟨f, i, n⟩ ⟨⟨h1, h2⟩, h3⟩
  simp only at h1 h2 h3
  by_cases hil : i < s.length
  · have c1 : ((i : Int) < (s.length : Int)) = True := eq_true (by omega)
    obtain ⟨b, hb1, hd⟩ := l_drop_at (l := s) (i := i) hil
    have e1 : strIx s (i : Int) = ((b.toNat : Nat) : Int) := by
      unfold strIx
      rw [Int.toNat_natCast, List.getD_eq_getElem?_getD, hb1]
      rfl
    have hb2 : b.toNat = 48 ∨ b.toNat = 49 := by
      rcases hb b (List.mem_of_getElem? hb1) with rfl | rfl
      · exact .inl rfl
      · exact .inr rfl
    have e2 : ((b.toNat : Nat) : Int) - 48 = ((b.toNat - 48 : Nat) : Int) := by omega
    rw [hd] at h3
    simp only [val, List.foldl_cons] at h3
    have hp : 2 ^ i ≤ 2 ^ 61 := Nat.pow_le_pow_right (by decide) (by omega)
    have hps : 2 ^ (i + 1) = 2 * 2 ^ i := by rw [Nat.pow_succ]; omega
    simp only [shs, zts, sos, sls, zss, eqs, sx, sb1, sb2, sb3, sb4, sb5, sb6, sb7, ↓reduceIte, Nat.reduceAdd, Nat.reduceMul, Nat.reduceDiv, Nat.reduceEqDiff, Nat.reduceLT, Nat.reduceLeDiff, reduceCtorEq, Int.reduceEq, Int.reduceNe, Int.reduceLT, Int.reduceLE, Int.reduceAdd, Int.reduceSub, Int.reduceMul, Int.reduceNeg, Int.reduceToNat, Int.cast_ofNat_Int, Int.natCast_zero, Int.natCast_one, Int.toNat_natCast, Nat.reduceBEq, nzs, c1, inK, lo, hi, e1, e2, iw (show b.toNat - 48 < 9223372036854775808 by omega)]
    refine ⟨by omega, by omega, by omega, by omega, by omega, (f - 1, i + 1, 2 * n + (b.toNat - 48)), ⟨⟨⟨by simp only; omega, by simp only; omega⟩, h3⟩, by simp only; omega⟩, Ent.of ?_⟩
    simp only [sx, sb1, sb2, sb3, sb4, sb5, sb6, sb7, ↓reduceIte, Nat.reduceAdd, Nat.reduceMul, Nat.reduceDiv, Nat.reduceEqDiff, Nat.reduceLT, Nat.reduceLeDiff, reduceCtorEq, Int.reduceEq, Int.reduceNe, Int.reduceLT, Int.reduceLE, Int.reduceAdd, Int.reduceSub, Int.reduceMul, Int.reduceNeg, Int.reduceToNat, Int.cast_ofNat_Int, Int.natCast_zero, Int.natCast_one, Int.toNat_natCast, Nat.reduceBEq, Int.natCast_add, Int.natCast_mul]
  · have c1 : ((i : Int) < (s.length : Int)) = False := eq_false (by omega)
    rw [List.drop_eq_nil_of_le (by omega)] at h3
    simp only [val, List.foldl_nil] at h3
    subst h3
    simp only [shs, zts, sos, sls, zss, eqs, sx, sb1, sb2, sb3, sb4, sb5, sb6, sb7, ↓reduceIte, Nat.reduceAdd, Nat.reduceMul, Nat.reduceDiv, Nat.reduceEqDiff, Nat.reduceLT, Nat.reduceLeDiff, reduceCtorEq, Int.reduceEq, Int.reduceNe, Int.reduceLT, Int.reduceLE, Int.reduceAdd, Int.reduceSub, Int.reduceMul, Int.reduceNeg, Int.reduceToNat, Int.cast_ofNat_Int, Int.natCast_zero, Int.natCast_one, Int.toNat_natCast, Nat.reduceBEq, nzs, c1]
end Go.X.Gm
