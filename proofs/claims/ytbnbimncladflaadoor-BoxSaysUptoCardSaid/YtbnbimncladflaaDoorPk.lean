/- Bits as bytes: what package pack and woolref return. Conditions: none. -/
import Derived.Test.YtbnbimncladflaaDoorGamV
import Derived.Test.YtbnbimncladflaaDoorFwS
set_option linter.unusedSimpArgs false
set_option linter.unusedVariables false
set_option maxHeartbeats 4000000
set_option maxRecDepth 20000
namespace Go.X.Pk
open Go Go.X Go.RowKit Go.X.Pl Go.X.St Go.X.Pol Go.X.Gm

def rtr (s : List UInt8) : List UInt8 := (s.reverse.dropWhile (· == 48)).reverse
theorem rtr_snoc (s : List UInt8) (x : UInt8) : rtr (s ++ [x]) = if x = 48 then rtr s else s ++ [x] := by
  unfold rtr
  rw [List.reverse_append, List.reverse_singleton, List.singleton_append, List.dropWhile_cons]
  by_cases h : x = 48
  · simp [h]
  · simp [h]
theorem snoc_of {s : List UInt8} (h : s ≠ []) : ∃ t x, s = t ++ [x] ∧ s[s.length - 1]? = some x ∧ s.take (s.length - 1) = t := by
  rcases List.eq_nil_or_concat s with rfl | ⟨t, x, rfl⟩
  · exact absurd rfl h
  · refine ⟨t, x, by rw [List.concat_eq_append], ?_, ?_⟩
    · rw [List.concat_eq_append, List.length_append, List.length_singleton, Nat.add_sub_cancel, List.getElem?_append_right (Nat.le_refl _), Nat.sub_self]
      rfl
    · rw [List.concat_eq_append, List.length_append, List.length_singleton, Nat.add_sub_cancel, List.take_left]
theorem trimRB (s : List UInt8) (M : Mem) (hs : s.length ≤ 9223372036854775807) :
    Meets Proofs.Tryd.prog 51 [.v (.string ⟨s.toArray⟩), .v (.int .u8 48)] M fun r _ _ => r = .v (.string ⟨(rtr s).toArray⟩) := by
  refine Meets.of_body [0,1,4,16] Proofs.Tryd.func51 rfl (by kernel_rfl) rfl fun w => ?_
  generalize hc : rtr s = c
  simp only [Proofs.Tryd.f51, shs, zts, sos, sls, zss, eqs, sx, sb1, sb2, sb3, sb4, sb5, sb6, sb7, ↓reduceIte, Nat.reduceAdd, Nat.reduceMul, Nat.reduceDiv, Nat.reduceEqDiff, Nat.reduceLT, Nat.reduceLeDiff, reduceCtorEq, Int.reduceEq, Int.reduceNe, Int.reduceLT, Int.reduceLE, Int.reduceAdd, Int.reduceSub, Int.reduceMul, Int.reduceNeg, Int.reduceToNat, Int.cast_ofNat_Int, Int.natCast_zero, Int.natCast_one, Int.toNat_natCast, Nat.reduceBEq, nzs]
  refine LoopK.go (X := List UInt8) (fun t => ([(0, true, .v (.string ⟨t.toArray⟩)), (1, true, .v (.int .u8 48))], [], M))
    (fun t => t.length ≤ 9223372036854775807 ∧ rtr t = c) (fun t => t.length) s ⟨hs, hc⟩ (Ent.of ?_) ?_
  · simp only [sx, sb1, sb2, sb3, sb4, sb5, sb6, sb7, ↓reduceIte, Nat.reduceAdd, Nat.reduceMul, Nat.reduceDiv, Nat.reduceEqDiff, Nat.reduceLT, Nat.reduceLeDiff, reduceCtorEq, Int.reduceEq, Int.reduceNe, Int.reduceLT, Int.reduceLE, Int.reduceAdd, Int.reduceSub, Int.reduceMul, Int.reduceNeg, Int.reduceToNat, Int.cast_ofNat_Int, Int.natCast_zero, Int.natCast_one, Int.toNat_natCast, Nat.reduceBEq]
  rintro t ⟨ht, h2⟩
  by_cases h0 : t = []
  · subst h0
    simp only [shs, zts, sos, sls, zss, eqs, sx, sb1, sb2, sb3, sb4, sb5, sb6, sb7, ↓reduceIte, Nat.reduceAdd, Nat.reduceMul, Nat.reduceDiv, Nat.reduceEqDiff, Nat.reduceLT, Nat.reduceLeDiff, reduceCtorEq, Int.reduceEq, Int.reduceNe, Int.reduceLT, Int.reduceLE, Int.reduceAdd, Int.reduceSub, Int.reduceMul, Int.reduceNeg, Int.reduceToNat, Int.cast_ofNat_Int, Int.natCast_zero, Int.natCast_one, Int.toNat_natCast, Nat.reduceBEq, nzs, List.length_nil, Int.natCast_zero, Int.lt_irrefl]
    rw [← h2]
    rfl
  obtain ⟨u, x, hu, hx, htk⟩ := snoc_of h0
  have hl : 0 < t.length := List.length_pos_iff.2 h0
  have c1 : (0 < (t.length : Int)) = True := eq_true (by omega)
  have e1 : (t.length : Int) - 1 = ((t.length - 1 : Nat) : Int) := by omega
  have e2 := strIx_at hx
  have e3 : (t.drop 0).take (t.length - 1 - 0) = u := by rw [List.drop_zero, Nat.sub_zero, htk]
  rw [hu, rtr_snoc] at h2
  by_cases h48 : x = 48
  · rw [if_pos h48] at h2
    have c2 : (x = 48) = True := eq_true h48
    simp only [shs, zts, sos, sls, zss, eqs, sx, sb1, sb2, sb3, sb4, sb5, sb6, sb7, ↓reduceIte, Nat.reduceAdd, Nat.reduceMul, Nat.reduceDiv, Nat.reduceEqDiff, Nat.reduceLT, Nat.reduceLeDiff, reduceCtorEq, Int.reduceEq, Int.reduceNe, Int.reduceLT, Int.reduceLE, Int.reduceAdd, Int.reduceSub, Int.reduceMul, Int.reduceNeg, Int.reduceToNat, Int.cast_ofNat_Int, Int.natCast_zero, Int.natCast_one, Int.toNat_natCast, Nat.reduceBEq, nzs, c1, e1, e2, Gm.eq48, c2, inK, lo, hi, e3, Nat.sub_zero, htk]
    refine ⟨by omega, by omega, by omega, by omega, u, ⟨⟨by rw [← htk, List.length_take]; omega, h2⟩, by rw [← htk, List.length_take]; omega⟩, Ent.of ?_⟩
    simp only [sx, sb1, sb2, sb3, sb4, sb5, sb6, sb7, ↓reduceIte, Nat.reduceAdd, Nat.reduceMul, Nat.reduceDiv, Nat.reduceEqDiff, Nat.reduceLT, Nat.reduceLeDiff, reduceCtorEq, Int.reduceEq, Int.reduceNe, Int.reduceLT, Int.reduceLE, Int.reduceAdd, Int.reduceSub, Int.reduceMul, Int.reduceNeg, Int.reduceToNat, Int.cast_ofNat_Int, Int.natCast_zero, Int.natCast_one, Int.toNat_natCast, Nat.reduceBEq]
  · rw [if_neg h48, ← hu] at h2
    have c2 : (x = 48) = False := eq_false h48
    subst h2
    simp only [shs, zts, sos, sls, zss, eqs, sx, sb1, sb2, sb3, sb4, sb5, sb6, sb7, ↓reduceIte, Nat.reduceAdd, Nat.reduceMul, Nat.reduceDiv, Nat.reduceEqDiff, Nat.reduceLT, Nat.reduceLeDiff, reduceCtorEq, Int.reduceEq, Int.reduceNe, Int.reduceLT, Int.reduceLE, Int.reduceAdd, Int.reduceSub, Int.reduceMul, Int.reduceNeg, Int.reduceToNat, Int.cast_ofNat_Int, Int.natCast_zero, Int.natCast_one, Int.toNat_natCast, Nat.reduceBEq, nzs, c1, e1, e2, Gm.eq48, c2, inK, lo, hi]
    omega
theorem trimR0 (s : List UInt8) (M : Mem) (hs : s.length ≤ 9223372036854775807) :
    Meets Proofs.Tryd.prog 38 [.v (.string ⟨s.toArray⟩), .v (.string ⟨[48].toArray⟩)] M fun r _ _ => r = .v (.string ⟨(rtr s).toArray⟩) := by
  refine Meets.of_body [0,1,4,5,6,12,21,31] Proofs.Tryd.func38 rfl (by kernel_rfl) rfl fun w => ?_
  have c5 : strIx [48] 0 = 48 := rfl
  by_cases h0 : s = []
  · subst h0
    simp only [Proofs.Tryd.f38, shs, zts, sos, sls, zss, eqs, sx, sb1, sb2, sb3, sb4, sb5, sb6, sb7, ↓reduceIte, Nat.reduceAdd, Nat.reduceMul, Nat.reduceDiv, Nat.reduceEqDiff, Nat.reduceLT, Nat.reduceLeDiff, reduceCtorEq, Int.reduceEq, Int.reduceNe, Int.reduceLT, Int.reduceLE, Int.reduceAdd, Int.reduceSub, Int.reduceMul, Int.reduceNeg, Int.reduceToNat, Int.cast_ofNat_Int, Int.natCast_zero, Int.natCast_one, Int.toNat_natCast, Nat.reduceBEq, nzs, c5]
    rfl
  have c0 : (s = []) = False := eq_false h0
  simp only [Proofs.Tryd.f38, shs, zts, sos, sls, zss, eqs, sx, sb1, sb2, sb3, sb4, sb5, sb6, sb7, ↓reduceIte, Nat.reduceAdd, Nat.reduceMul, Nat.reduceDiv, Nat.reduceEqDiff, Nat.reduceLT, Nat.reduceLeDiff, reduceCtorEq, Int.reduceEq, Int.reduceNe, Int.reduceLT, Int.reduceLE, Int.reduceAdd, Int.reduceSub, Int.reduceMul, Int.reduceNeg, Int.reduceToNat, Int.cast_ofNat_Int, Int.natCast_zero, Int.natCast_one, Int.toNat_natCast, Nat.reduceBEq, nzs, c5, c0]
  refine CallK.pure ⟨rfl, rfl⟩ rfl (trimRB s M hs) ?_
  simp only [shs, zts, sos, sls, zss, eqs, sx, sb1, sb2, sb3, sb4, sb5, sb6, sb7, ↓reduceIte, Nat.reduceAdd, Nat.reduceMul, Nat.reduceDiv, Nat.reduceEqDiff, Nat.reduceLT, Nat.reduceLeDiff, reduceCtorEq, Int.reduceEq, Int.reduceNe, Int.reduceLT, Int.reduceLE, Int.reduceAdd, Int.reduceSub, Int.reduceMul, Int.reduceNeg, Int.reduceToNat, Int.cast_ofNat_Int, Int.natCast_zero, Int.natCast_one, Int.toNat_natCast, Nat.reduceBEq, nzs]
def rtn (s : List UInt8) : List UInt8 := (s.reverse.dropWhile (· != 49)).reverse
theorem rtn_snoc (s : List UInt8) (x : UInt8) : rtn (s ++ [x]) = if x = 49 then s ++ [x] else rtn s := by
  unfold rtn
  rw [List.reverse_append, List.reverse_singleton, List.singleton_append, List.dropWhile_cons]
  by_cases h : x = 49
  · simp [h]
  · simp [h]
theorem lastIB (s : List UInt8) (M : Mem) (hs : s.length ≤ 9223372036854775807) :
    Meets Proofs.Tryd.prog 41 [.v (.string ⟨s.toArray⟩), .v (.int .u8 49)] M fun r _ _ => r = .v (.int .i64 (((rtn s).length : Int) - 1)) := by
  refine Meets.of_body [0,1,4,5,10,17] Proofs.Tryd.func41 rfl (by kernel_rfl) rfl fun w => ?_
  generalize hc : (rtn s).length = c
  simp only [Proofs.Tryd.f41, shs, zts, sos, sls, zss, eqs, sx, sb1, sb2, sb3, sb4, sb5, sb6, sb7, ↓reduceIte, Nat.reduceAdd, Nat.reduceMul, Nat.reduceDiv, Nat.reduceEqDiff, Nat.reduceLT, Nat.reduceLeDiff, reduceCtorEq, Int.reduceEq, Int.reduceNe, Int.reduceLT, Int.reduceLE, Int.reduceAdd, Int.reduceSub, Int.reduceMul, Int.reduceNeg, Int.reduceToNat, Int.cast_ofNat_Int, Int.natCast_zero, Int.natCast_one, Int.toNat_natCast, Nat.reduceBEq, nzs, inK, lo, hi]
  refine ⟨by omega, ?_⟩
  refine LoopK.go (X := Nat) (fun n => ([(0, true, .v (.string ⟨s.toArray⟩)), (1, true, .v (.int .u8 49)), (5, true, .v (.int .i64 ((n : Int) - 1)))], [], M))
    (fun n => n ≤ s.length ∧ (rtn (s.take n)).length = c) (fun n => n) s.length ⟨Nat.le_refl _, by rw [List.take_length]; exact hc⟩ (Ent.of ?_) ?_
  · simp only [sx, sb1, sb2, sb3, sb4, sb5, sb6, sb7, ↓reduceIte, Nat.reduceAdd, Nat.reduceMul, Nat.reduceDiv, Nat.reduceEqDiff, Nat.reduceLT, Nat.reduceLeDiff, reduceCtorEq, Int.reduceEq, Int.reduceNe, Int.reduceLT, Int.reduceLE, Int.reduceAdd, Int.reduceSub, Int.reduceMul, Int.reduceNeg, Int.reduceToNat, Int.cast_ofNat_Int, Int.natCast_zero, Int.natCast_one, Int.toNat_natCast, Nat.reduceBEq]
  rintro n ⟨hn, h2⟩
  by_cases h0 : n = 0
  · subst h0
    have c1 : (0 ≤ ((0 : Nat) : Int) - 1) = False := eq_false (by omega)
    simp only [shs, zts, sos, sls, zss, eqs, sx, sb1, sb2, sb3, sb4, sb5, sb6, sb7, ↓reduceIte, Nat.reduceAdd, Nat.reduceMul, Nat.reduceDiv, Nat.reduceEqDiff, Nat.reduceLT, Nat.reduceLeDiff, reduceCtorEq, Int.reduceEq, Int.reduceNe, Int.reduceLT, Int.reduceLE, Int.reduceAdd, Int.reduceSub, Int.reduceMul, Int.reduceNeg, Int.reduceToNat, Int.cast_ofNat_Int, Int.natCast_zero, Int.natCast_one, Int.toNat_natCast, Nat.reduceBEq, nzs]
    rw [← h2]
    rfl
  have c1 : (0 ≤ (n : Int) - 1) = True := eq_true (by omega)
  have e1 : (n : Int) - 1 = ((n - 1 : Nat) : Int) := by omega
  obtain ⟨x, hx, hd⟩ := l_drop_at (l := s) (i := n - 1) (by omega)
  have e2 := strIx_at hx
  have e3 : s.take n = s.take (n - 1) ++ [x] := by
    rw [show n = n - 1 + 1 by omega, List.take_add_one, hx]
    rfl
  rw [e3, rtn_snoc] at h2
  by_cases h49 : x = 49
  · rw [if_pos h49, ← e3, List.length_take, Nat.min_eq_left hn] at h2
    have c2 : (x = 49) = True := eq_true h49
    rw [← h2]
    have c3 : (0 ≤ ((n - 1 : Nat) : Int)) = True := eq_true (by omega)
    simp only [shs, zts, sos, sls, zss, eqs, sx, sb1, sb2, sb3, sb4, sb5, sb6, sb7, ↓reduceIte, Nat.reduceAdd, Nat.reduceMul, Nat.reduceDiv, Nat.reduceEqDiff, Nat.reduceLT, Nat.reduceLeDiff, reduceCtorEq, Int.reduceEq, Int.reduceNe, Int.reduceLT, Int.reduceLE, Int.reduceAdd, Int.reduceSub, Int.reduceMul, Int.reduceNeg, Int.reduceToNat, Int.cast_ofNat_Int, Int.natCast_zero, Int.natCast_one, Int.toNat_natCast, Nat.reduceBEq, nzs, e1, e2, Gm.eq49, c2, c3, inK, lo, hi]
    omega
  · rw [if_neg h49] at h2
    have c2 : (x = 49) = False := eq_false h49
    have c3 : (0 ≤ ((n - 1 : Nat) : Int)) = True := eq_true (by omega)
    simp only [shs, zts, sos, sls, zss, eqs, sx, sb1, sb2, sb3, sb4, sb5, sb6, sb7, ↓reduceIte, Nat.reduceAdd, Nat.reduceMul, Nat.reduceDiv, Nat.reduceEqDiff, Nat.reduceLT, Nat.reduceLeDiff, reduceCtorEq, Int.reduceEq, Int.reduceNe, Int.reduceLT, Int.reduceLE, Int.reduceAdd, Int.reduceSub, Int.reduceMul, Int.reduceNeg, Int.reduceToNat, Int.cast_ofNat_Int, Int.natCast_zero, Int.natCast_one, Int.toNat_natCast, Nat.reduceBEq, nzs, e1, e2, Gm.eq49, c2, c3, inK, lo, hi]
    refine ⟨by omega, by omega, n - 1, ⟨⟨by omega, h2⟩, by omega⟩, Ent.of ?_⟩
    simp only [sx, sb1, sb2, sb3, sb4, sb5, sb6, sb7, ↓reduceIte, Nat.reduceAdd, Nat.reduceMul, Nat.reduceDiv, Nat.reduceEqDiff, Nat.reduceLT, Nat.reduceLeDiff, reduceCtorEq, Int.reduceEq, Int.reduceNe, Int.reduceLT, Int.reduceLE, Int.reduceAdd, Int.reduceSub, Int.reduceMul, Int.reduceNeg, Int.reduceToNat, Int.cast_ofNat_Int, Int.natCast_zero, Int.natCast_one, Int.toNat_natCast, Nat.reduceBEq]
theorem lastI (s : List UInt8) (M : Mem) (hs : s.length ≤ 9223372036854775807) :
    Meets Proofs.Tryd.prog 25 [.v (.string ⟨s.toArray⟩), .v (.int .u8 49)] M fun r _ _ => r = .v (.int .i64 (((rtn s).length : Int) - 1)) := by
  refine Meets.of_body [0,1,4] Proofs.Tryd.func25 rfl (by kernel_rfl) rfl fun w => ?_
  simp only [Proofs.Tryd.f25, shs, zts, sos, sls, zss, eqs, sx, sb1, sb2, sb3, sb4, sb5, sb6, sb7, ↓reduceIte, Nat.reduceAdd, Nat.reduceMul, Nat.reduceDiv, Nat.reduceEqDiff, Nat.reduceLT, Nat.reduceLeDiff, reduceCtorEq, Int.reduceEq, Int.reduceNe, Int.reduceLT, Int.reduceLE, Int.reduceAdd, Int.reduceSub, Int.reduceMul, Int.reduceNeg, Int.reduceToNat, Int.cast_ofNat_Int, Int.natCast_zero, Int.natCast_one, Int.toNat_natCast, Nat.reduceBEq, nzs]
  refine CallK.pure ⟨rfl, rfl⟩ rfl (lastIB s M hs) ?_
  simp only [shs, zts, sos, sls, zss, eqs, sx, sb1, sb2, sb3, sb4, sb5, sb6, sb7, ↓reduceIte, Nat.reduceAdd, Nat.reduceMul, Nat.reduceDiv, Nat.reduceEqDiff, Nat.reduceLT, Nat.reduceLeDiff, reduceCtorEq, Int.reduceEq, Int.reduceNe, Int.reduceLT, Int.reduceLE, Int.reduceAdd, Int.reduceSub, Int.reduceMul, Int.reduceNeg, Int.reduceToNat, Int.cast_ofNat_Int, Int.natCast_zero, Int.natCast_one, Int.toNat_natCast, Nat.reduceBEq, nzs]

/-- whole bytes of bits -/
def packB : Nat → List UInt8 → List UInt8
  | 0, _ => []
  | n + 1, s => UInt8.ofNat (val (s.take 8) 0) :: packB n (s.drop 8)
def padN (n : Nat) : Nat := (8 - n % 8) % 8
def padS (s : List UInt8) : List UInt8 := (s ++ [49]) ++ zs (padN (s.length + 1))
def bytesS (s : List UInt8) : List UInt8 := packB ((padS s).length / 8) (padS s)
theorem packB_snoc : ∀ (n : Nat) (s : List UInt8), packB (n + 1) s = packB n s ++ [UInt8.ofNat (val ((s.drop (8 * n)).take 8) 0)]
  | 0, s => by simp [packB]
  | n + 1, s => by
    have := packB_snoc n (s.drop 8)
    rw [packB, this, packB, List.drop_drop, List.cons_append]
    rw [show 8 + 8 * n = 8 * (n + 1) by omega]
theorem packB_len : ∀ (n : Nat) (s : List UInt8), (packB n s).length = n
  | 0, _ => rfl
  | n + 1, s => by rw [packB, List.length_cons, packB_len n]
theorem encB_ofNat {n : Nat} (h : n < 256) : encB (UInt8.ofNat n) = [.int .u8 (n : Int)] := by
  unfold encB
  rw [UInt8.toNat_ofNat', Nat.mod_eq_of_lt h]
theorem padS_len (s : List UInt8) : (padS s).length % 8 = 0 ∧ (padS s).length ≤ s.length + 8 ∧ s.length < (padS s).length := by
  unfold padS padN
  rw [List.length_append, List.length_append, List.length_singleton, zs_len]
  omega
theorem pad_bits {s : List UInt8} (h : (s.all fun b => b == 48 || b == 49) = true) : ∀ b ∈ padS s, b = 48 ∨ b = 49 := fun b hb => by
  unfold padS zs at hb
  rcases List.mem_append.1 hb with hb | hb
  · rcases List.mem_append.1 hb with hb | hb
    · exact all_of h (fun _ h => h) b hb
    · rw [List.mem_singleton] at hb
      exact .inr hb
  · exact .inl (List.eq_of_mem_replicate hb)
theorem bytesW (s : List UInt8) (M : Mem) (hs : s.length ≤ 70368744177000) :
    Meets Proofs.Tryd.prog 18 [.v (.string ⟨s.toArray⟩)] M fun r _ _ => r = .tup [.v (.string ⟨(if (s.all fun b => b == 48 || b == 49) = true then bytesS s else []).toArray⟩), .v (.int .i64 (if (s.all fun b => b == 48 || b == 49) = true then 0 else 3))] := by
  refine Meets.of_body [0,2,3,4,5,6,7,10,24,27,28] Proofs.Tryd.func18 rfl (by kernel_rfl) rfl fun w => ?_
  simp only [Proofs.Tryd.f18, shs, zts, sos, sls, zss, eqs, sx, sb1, sb2, sb3, sb4, sb5, sb6, sb7, ↓reduceIte, Nat.reduceAdd, Nat.reduceMul, Nat.reduceDiv, Nat.reduceEqDiff, Nat.reduceLT, Nat.reduceLeDiff, reduceCtorEq, Int.reduceEq, Int.reduceNe, Int.reduceLT, Int.reduceLE, Int.reduceAdd, Int.reduceSub, Int.reduceMul, Int.reduceNeg, Int.reduceToNat, Int.cast_ofNat_Int, Int.natCast_zero, Int.natCast_one, Int.toNat_natCast, Nat.reduceBEq, nzs]
  refine CallK.pure ⟨rfl, rfl⟩ rfl (bitsW s M (by omega)) ?_
  cases hA : s.all fun b => b == 48 || b == 49 with
  | false => simp only [shs, zts, sos, sls, zss, eqs, sx, sb1, sb2, sb3, sb4, sb5, sb6, sb7, ↓reduceIte, Nat.reduceAdd, Nat.reduceMul, Nat.reduceDiv, Nat.reduceEqDiff, Nat.reduceLT, Nat.reduceLeDiff, reduceCtorEq, Int.reduceEq, Int.reduceNe, Int.reduceLT, Int.reduceLE, Int.reduceAdd, Int.reduceSub, Int.reduceMul, Int.reduceNeg, Int.reduceToNat, Int.cast_ofNat_Int, Int.natCast_zero, Int.natCast_one, Int.toNat_natCast, Nat.reduceBEq, nzs, Bool.false_eq_true, if_false]
  | true =>
  have hpl := padS_len s
  have e1 : ((s.length : Int) + 1).tmod 8 = (((s.length + 1) % 8 : Nat) : Int) := (Int.ofNat_tmod (s.length + 1) 8).symm
  have e2 : (8 : Int) - (((s.length + 1) % 8 : Nat) : Int) = ((8 - (s.length + 1) % 8 : Nat) : Int) := by omega
  have e3 : ((8 - (s.length + 1) % 8 : Nat) : Int).tmod 8 = ((padN (s.length + 1) : Nat) : Int) := (Int.ofNat_tmod (8 - (s.length + 1) % 8) 8).symm
  have hpn : padN (s.length + 1) ≤ 64 := by unfold padN; omega
  simp only [shs, zts, sos, sls, zss, eqs, sx, sb1, sb2, sb3, sb4, sb5, sb6, sb7, ↓reduceIte, Nat.reduceAdd, Nat.reduceMul, Nat.reduceDiv, Nat.reduceEqDiff, Nat.reduceLT, Nat.reduceLeDiff, reduceCtorEq, Int.reduceEq, Int.reduceNe, Int.reduceLT, Int.reduceLE, Int.reduceAdd, Int.reduceSub, Int.reduceMul, Int.reduceNeg, Int.reduceToNat, Int.cast_ofNat_Int, Int.natCast_zero, Int.natCast_one, Int.toNat_natCast, Nat.reduceBEq, nzs, List.length_append, List.length_singleton, Int.natCast_add, e1, e2, e3, inK, lo, hi]
  have hp : s ++ [49] ++ List.replicate (padN (s.length + 1)) 48 = padS s := rfl
  refine ⟨by omega, by omega, CallK.pure ⟨rfl, rfl⟩ rfl (repeat0 (padN (s.length + 1)) M hpn) ?_⟩
  have hbits := pad_bits hA
  have hpl2 : (s ++ [49]).length + (List.replicate (padN (s.length + 1)) (48 : UInt8)).length = (padS s).length := by rw [← List.length_append]; rfl
  simp only [shs, zts, sos, sls, zss, eqs, sx, sb1, sb2, sb3, sb4, sb5, sb6, sb7, ↓reduceIte, Nat.reduceAdd, Nat.reduceMul, Nat.reduceDiv, Nat.reduceEqDiff, Nat.reduceLT, Nat.reduceLeDiff, reduceCtorEq, Int.reduceEq, Int.reduceNe, Int.reduceLT, Int.reduceLE, Int.reduceAdd, Int.reduceSub, Int.reduceMul, Int.reduceNeg, Int.reduceToNat, Int.cast_ofNat_Int, Int.natCast_zero, Int.natCast_one, Int.toNat_natCast, Nat.reduceBEq, nzs, hp, inK, lo, hi]
  have hcap : (((s ++ [49]).length + (List.replicate (padN (s.length + 1)) (48 : UInt8)).length : Nat) : Int) ≤ 9223372036854775807 := by rw [hpl2]; omega
  refine ⟨?_, ?_⟩
  · rw [← List.length_append] at hcap ⊢
    exact hcap
  clear hcap hpl2 hp e1 e2 e3
  unfold bytesS
  generalize padS s = q at *
  obtain ⟨h1, h2, h3⟩ := hpl
  refine LoopK.nilRow 4 45 1 rfl rfl rfl ?_
  refine LoopK.go (X := Nat × Nat) (fun x => ([(0, true, .v (.string ⟨q.toArray⟩)), (4, true, .own 360), (5, true, .v (.int .i64 ((8 * x.2 : Nat) : Int)))], [(360, .row 1 ((packB x.2 q).map encB))], M))
    (fun x => x.1 + x.2 = q.length / 8) (fun x => x.1) (q.length / 8, 0) rfl (Ent.of ?_) ?_
  · simp only [sx, sb1, sb2, sb3, sb4, sb5, sb6, sb7, ↓reduceIte, Nat.reduceAdd, Nat.reduceMul, Nat.reduceDiv, Nat.reduceEqDiff, Nat.reduceLT, Nat.reduceLeDiff, reduceCtorEq, Int.reduceEq, Int.reduceNe, Int.reduceLT, Int.reduceLE, Int.reduceAdd, Int.reduceSub, Int.reduceMul, Int.reduceNeg, Int.reduceToNat, Int.cast_ofNat_Int, Int.natCast_zero, Int.natCast_one, Int.toNat_natCast, Nat.reduceBEq, packB, List.map_nil, Nat.mul_zero, Int.natCast_zero]
  rintro ⟨f, j⟩ n1
  simp only at n1
  by_cases hjl : j < q.length / 8
  rotate_left
  · have d1 : (((8 * j : Nat) : Int) < (q.length : Int)) = False := eq_false (by omega)
    have hj : j = q.length / 8 := by omega
    subst hj
    simp only [shs, zts, sos, sls, zss, eqs, sx, sb1, sb2, sb3, sb4, sb5, sb6, sb7, ↓reduceIte, Nat.reduceAdd, Nat.reduceMul, Nat.reduceDiv, Nat.reduceEqDiff, Nat.reduceLT, Nat.reduceLeDiff, reduceCtorEq, Int.reduceEq, Int.reduceNe, Int.reduceLT, Int.reduceLE, Int.reduceAdd, Int.reduceSub, Int.reduceMul, Int.reduceNeg, Int.reduceToNat, Int.cast_ofNat_Int, Int.natCast_zero, Int.natCast_one, Int.toNat_natCast, Nat.reduceBEq, nzs, d1, map_byteOf]
    exact u8s_encB _
  have d1 : (((8 * j : Nat) : Int) < (q.length : Int)) = True := eq_true (by omega)
  simp only [shs, zts, sos, sls, zss, eqs, sx, sb1, sb2, sb3, sb4, sb5, sb6, sb7, ↓reduceIte, Nat.reduceAdd, Nat.reduceMul, Nat.reduceDiv, Nat.reduceEqDiff, Nat.reduceLT, Nat.reduceLeDiff, reduceCtorEq, Int.reduceEq, Int.reduceNe, Int.reduceLT, Int.reduceLE, Int.reduceAdd, Int.reduceSub, Int.reduceMul, Int.reduceNeg, Int.reduceToNat, Int.cast_ofNat_Int, Int.natCast_zero, Int.natCast_one, Int.toNat_natCast, Nat.reduceBEq, nzs, d1]
  have hV : ∀ b ∈ (q.drop (8 * j)).take 8, b = 48 ∨ b = 49 := fun b hb => hbits b (List.mem_of_mem_drop (List.mem_of_mem_take hb))
  have hVl := val_lt (n := 0) (j := 0) hV (by decide)
  rw [List.length_take, List.length_drop, Nat.min_eq_left (by omega)] at hVl
  rw [show 0 + 8 = 8 from rfl] at hVl
  generalize hVe : val ((q.drop (8 * j)).take 8) 0 = V at *
  refine LoopK.go (X := Nat × Nat × Nat) (fun x => ([(0, true, .v (.string ⟨q.toArray⟩)), (4, true, .own 360), (5, true, .v (.int .i64 ((8 * j : Nat) : Int))), (6, true, .v (.int .i64 (x.2.2 : Int))), (27, true, .v (.int .i64 (x.2.1 : Int)))], [(360, .row 1 ((packB j q).map encB))], M))
    (fun x => (x.1 + x.2.1 = 8 ∧ x.2.2 < 2 ^ x.2.1) ∧ val ((q.drop (8 * j + x.2.1)).take (8 - x.2.1)) x.2.2 = V) (fun x => x.1) (8, 0, 0) ⟨⟨rfl, Nat.one_pos⟩, hVe⟩ (Ent.of ?_) ?_
  · simp only [sx, sb1, sb2, sb3, sb4, sb5, sb6, sb7, ↓reduceIte, Nat.reduceAdd, Nat.reduceMul, Nat.reduceDiv, Nat.reduceEqDiff, Nat.reduceLT, Nat.reduceLeDiff, reduceCtorEq, Int.reduceEq, Int.reduceNe, Int.reduceLT, Int.reduceLE, Int.reduceAdd, Int.reduceSub, Int.reduceMul, Int.reduceNeg, Int.reduceToNat, Int.cast_ofNat_Int, Int.natCast_zero, Int.natCast_one, Int.toNat_natCast, Nat.reduceBEq, Int.natCast_zero]
  rintro ⟨g, k, n⟩ ⟨⟨m1, m2⟩, m3⟩
  simp only at m1 m2 m3
  by_cases hk8 : k < 8
  · have d2 : ((k : Int) < 8) = True := eq_true (by omega)
    obtain ⟨b, hb1, hd⟩ := l_drop_at (l := q) (i := 8 * j + k) (by omega)
    have hb2 := hbits b (List.mem_of_getElem? hb1)
    have e1 : ((8 * j : Nat) : Int) + (k : Int) = ((8 * j + k : Nat) : Int) := by omega
    have e2 := strIx_at hb1
    have hb3 : b.toNat = 48 ∨ b.toNat = 49 := by rcases hb2 with rfl | rfl <;> simp
    have e3 : ((b.toNat : Nat) : Int) - 48 = ((b.toNat - 48 : Nat) : Int) := by omega
    have hp2 : 2 ^ k ≤ 2 ^ 7 := Nat.pow_le_pow_right (by decide) (by omega)
    have hps : 2 ^ (k + 1) = 2 * 2 ^ k := by rw [Nat.pow_succ]; omega
    have h48 := d48 hb2
    rw [hd, show 8 - k = (8 - (k + 1)) + 1 by omega, List.take_succ_cons] at m3
    simp only [val, List.foldl_cons] at m3
    simp only [shs, zts, sos, sls, zss, eqs, sx, sb1, sb2, sb3, sb4, sb5, sb6, sb7, ↓reduceIte, Nat.reduceAdd, Nat.reduceMul, Nat.reduceDiv, Nat.reduceEqDiff, Nat.reduceLT, Nat.reduceLeDiff, reduceCtorEq, Int.reduceEq, Int.reduceNe, Int.reduceLT, Int.reduceLE, Int.reduceAdd, Int.reduceSub, Int.reduceMul, Int.reduceNeg, Int.reduceToNat, Int.cast_ofNat_Int, Int.natCast_zero, Int.natCast_one, Int.toNat_natCast, Nat.reduceBEq, nzs, d2, e1, e2, e3, inK, lo, hi, iw (show b.toNat - 48 < 9223372036854775808 by omega)]
    refine ⟨by omega, by omega, by omega, by omega, by omega, by omega, (g - 1, k + 1, 2 * n + (b.toNat - 48)), ⟨⟨⟨by simp only; omega, by simp only; omega⟩, ?_⟩, by simp only; omega⟩, Ent.of ?_⟩
    · simp only
      rw [← Nat.add_assoc]
      exact m3
    · simp only [sx, sb1, sb2, sb3, sb4, sb5, sb6, sb7, ↓reduceIte, Nat.reduceAdd, Nat.reduceMul, Nat.reduceDiv, Nat.reduceEqDiff, Nat.reduceLT, Nat.reduceLeDiff, reduceCtorEq, Int.reduceEq, Int.reduceNe, Int.reduceLT, Int.reduceLE, Int.reduceAdd, Int.reduceSub, Int.reduceMul, Int.reduceNeg, Int.reduceToNat, Int.cast_ofNat_Int, Int.natCast_zero, Int.natCast_one, Int.toNat_natCast, Nat.reduceBEq, Int.natCast_add, Int.natCast_mul]
  · have d2 : ((k : Int) < 8) = False := eq_false (by omega)
    have hk : k = 8 := by omega
    subst hk
    simp only [Nat.sub_self, List.take_zero, val, List.foldl_nil] at m3
    subst m3
    have w8 : IntKind.u8.wrap (n : Int) = (n : Int) := wrap_in (k := .u8) ⟨by simp only [lo]; omega, by simp only [hi]; omega⟩
    simp only [shs, zts, sos, sls, zss, eqs, sx, sb1, sb2, sb3, sb4, sb5, sb6, sb7, ↓reduceIte, Nat.reduceAdd, Nat.reduceMul, Nat.reduceDiv, Nat.reduceEqDiff, Nat.reduceLT, Nat.reduceLeDiff, reduceCtorEq, Int.reduceEq, Int.reduceNe, Int.reduceLT, Int.reduceLE, Int.reduceAdd, Int.reduceSub, Int.reduceMul, Int.reduceNeg, Int.reduceToNat, Int.cast_ofNat_Int, Int.natCast_zero, Int.natCast_one, Int.toNat_natCast, Nat.reduceBEq, nzs, d2, w8, inK, lo, hi]
    have hes : (packB (j + 1) q).map encB = (packB j q).map encB ++ [[.int .u8 (n : Int)]] := by
      rw [packB_snoc, hVe, List.map_append, List.map_singleton, encB_ofNat (by omega)]
    have e8 : ((8 * j : Nat) : Int) + 8 = ((8 * (j + 1) : Nat) : Int) := by omega
    rw [e8, ← hes, List.length_map, packB_len]
    refine ⟨⟨by omega, by omega⟩, by omega, (f - 1, j + 1), ⟨by simp only; omega, by simp only; omega⟩, Ent.of ?_⟩
    simp only [sx, sb1, sb2, sb3, sb4, sb5, sb6, sb7, ↓reduceIte, Nat.reduceAdd, Nat.reduceMul, Nat.reduceDiv, Nat.reduceEqDiff, Nat.reduceLT, Nat.reduceLeDiff, reduceCtorEq, Int.reduceEq, Int.reduceNe, Int.reduceLT, Int.reduceLE, Int.reduceAdd, Int.reduceSub, Int.reduceMul, Int.reduceNeg, Int.reduceToNat, Int.cast_ofNat_Int, Int.natCast_zero, Int.natCast_one, Int.toNat_natCast, Nat.reduceBEq]
theorem val_packB : True := trivial
theorem rbytesW (s : List UInt8) (M : Mem) (hs : s.length ≤ 70368744177000) (hA : (s.all fun b => b == 48 || b == 49) = true) :
    Meets Proofs.Tryd.prog 9 [.v (.string ⟨s.toArray⟩)] M fun r _ _ => r = .v (.string ⟨(bytesS s).toArray⟩) := by
  refine Meets.of_body [0,2,3,4,6,12,16,21,22,23,24] Proofs.Tryd.func9 rfl (by kernel_rfl) rfl fun w => ?_
  have hpl := padS_len s
  have hbits := pad_bits hA
  have hpn : padN (s.length + 1) ≤ 7 := by unfold padN; omega
  simp only [Proofs.Tryd.f9, shs, zts, sos, sls, zss, eqs, sx, sb1, sb2, sb3, sb4, sb5, sb6, sb7, ↓reduceIte, Nat.reduceAdd, Nat.reduceMul, Nat.reduceDiv, Nat.reduceEqDiff, Nat.reduceLT, Nat.reduceLeDiff, reduceCtorEq, Int.reduceEq, Int.reduceNe, Int.reduceLT, Int.reduceLE, Int.reduceAdd, Int.reduceSub, Int.reduceMul, Int.reduceNeg, Int.reduceToNat, Int.cast_ofNat_Int, Int.natCast_zero, Int.natCast_one, Int.toNat_natCast, Nat.reduceBEq, nzs, List.length_append, List.length_singleton]
  refine ⟨by omega, ?_⟩
  refine LoopK.go (X := Nat) (fun x => ([(0, true, .v (.string ⟨((s ++ [49]) ++ zs x).toArray⟩))], [], M))
    (fun x => x ≤ padN (s.length + 1)) (fun x => padN (s.length + 1) - x) 0 (Nat.zero_le _) (Ent.of ?_) ?_
  · simp only [sx, sb1, sb2, sb3, sb4, sb5, sb6, sb7, ↓reduceIte, Nat.reduceAdd, Nat.reduceMul, Nat.reduceDiv, Nat.reduceEqDiff, Nat.reduceLT, Nat.reduceLeDiff, reduceCtorEq, Int.reduceEq, Int.reduceNe, Int.reduceLT, Int.reduceLE, Int.reduceAdd, Int.reduceSub, Int.reduceMul, Int.reduceNeg, Int.reduceToNat, Int.cast_ofNat_Int, Int.natCast_zero, Int.natCast_one, Int.toNat_natCast, Nat.reduceBEq, zs, List.replicate_zero, List.append_nil]
  rintro x hx
  have hxl : ((s ++ [49]) ++ zs x).length = s.length + 1 + x := by rw [List.length_append, List.length_append, List.length_singleton, zs_len]
  have e1 : ((s.length + 1 + x : Nat) : Int).tmod 8 = (((s.length + 1 + x) % 8 : Nat) : Int) := (Int.ofNat_tmod (s.length + 1 + x) 8).symm
  have hzs : ((s ++ [49]) ++ zs x) ++ [48] = (s ++ [49]) ++ zs (x + 1) := by
    rw [List.append_assoc, zs, zs, List.replicate_succ']
  by_cases hgo : x < padN (s.length + 1)
  · have c1 : (0 < (((s.length + 1 + x) % 8 : Nat) : Int)) = True := eq_true (by unfold padN at hgo; omega)
    generalize hq : (s ++ [49]) ++ zs x = q at *
    simp only [shs, zts, sos, sls, zss, eqs, sx, sb1, sb2, sb3, sb4, sb5, sb6, sb7, ↓reduceIte, Nat.reduceAdd, Nat.reduceMul, Nat.reduceDiv, Nat.reduceEqDiff, Nat.reduceLT, Nat.reduceLeDiff, reduceCtorEq, Int.reduceEq, Int.reduceNe, Int.reduceLT, Int.reduceLE, Int.reduceAdd, Int.reduceSub, Int.reduceMul, Int.reduceNeg, Int.reduceToNat, Int.cast_ofNat_Int, Int.natCast_zero, Int.natCast_one, Int.toNat_natCast, Nat.reduceBEq, nzs, hxl, e1, c1, hzs, List.length_append, List.length_singleton]
    refine ⟨by omega, x + 1, ⟨by omega, by omega⟩, Ent.of ?_⟩
    simp only [sx, sb1, sb2, sb3, sb4, sb5, sb6, sb7, ↓reduceIte, Nat.reduceAdd, Nat.reduceMul, Nat.reduceDiv, Nat.reduceEqDiff, Nat.reduceLT, Nat.reduceLeDiff, reduceCtorEq, Int.reduceEq, Int.reduceNe, Int.reduceLT, Int.reduceLE, Int.reduceAdd, Int.reduceSub, Int.reduceMul, Int.reduceNeg, Int.reduceToNat, Int.cast_ofNat_Int, Int.natCast_zero, Int.natCast_one, Int.toNat_natCast, Nat.reduceBEq]
  have hx2 : x = padN (s.length + 1) := by omega
  subst hx2
  have hp : (s ++ [49]) ++ zs (padN (s.length + 1)) = padS s := rfl
  have c1 : (0 < (((s.length + 1 + padN (s.length + 1)) % 8 : Nat) : Int)) = False := eq_false (by unfold padN; omega)
  rw [hp] at hxl ⊢
  unfold bytesS
  generalize padS s = q at *
  obtain ⟨h1, h2, h3⟩ := hpl
  rw [← hxl] at c1 e1
  simp only [shs, zts, sos, sls, zss, eqs, sx, sb1, sb2, sb3, sb4, sb5, sb6, sb7, ↓reduceIte, Nat.reduceAdd, Nat.reduceMul, Nat.reduceDiv, Nat.reduceEqDiff, Nat.reduceLT, Nat.reduceLeDiff, reduceCtorEq, Int.reduceEq, Int.reduceNe, Int.reduceLT, Int.reduceLE, Int.reduceAdd, Int.reduceSub, Int.reduceMul, Int.reduceNeg, Int.reduceToNat, Int.cast_ofNat_Int, Int.natCast_zero, Int.natCast_one, Int.toNat_natCast, Nat.reduceBEq, nzs, e1, c1]
  refine LoopK.go (X := Nat × Nat × Mem) (fun x => ([(0, true, .v (.string ⟨(q.drop (8 * x.2.1)).toArray⟩)), (3, true, .v (.string ⟨(packB x.2.1 q).toArray⟩))], [], x.2.2))
    (fun x => x.1 + x.2.1 = q.length / 8) (fun x => x.1) (q.length / 8, 0, M) rfl (Ent.of ?_) ?_
  · simp only [sx, sb1, sb2, sb3, sb4, sb5, sb6, sb7, ↓reduceIte, Nat.reduceAdd, Nat.reduceMul, Nat.reduceDiv, Nat.reduceEqDiff, Nat.reduceLT, Nat.reduceLeDiff, reduceCtorEq, Int.reduceEq, Int.reduceNe, Int.reduceLT, Int.reduceLE, Int.reduceAdd, Int.reduceSub, Int.reduceMul, Int.reduceNeg, Int.reduceToNat, Int.cast_ofNat_Int, Int.natCast_zero, Int.natCast_one, Int.toNat_natCast, Nat.reduceBEq, packB, Nat.mul_zero, List.drop_zero]
  rintro ⟨f, j, M2⟩ n1
  simp only at n1
  by_cases hjl : j < q.length / 8
  rotate_left
  · have hd : q.drop (8 * j) = [] := List.drop_eq_nil_of_le (by omega)
    have hj : j = q.length / 8 := by omega
    subst hj
    rw [hd]
    simp only [shs, zts, sos, sls, zss, eqs, sx, sb1, sb2, sb3, sb4, sb5, sb6, sb7, ↓reduceIte, Nat.reduceAdd, Nat.reduceMul, Nat.reduceDiv, Nat.reduceEqDiff, Nat.reduceLT, Nat.reduceLeDiff, reduceCtorEq, Int.reduceEq, Int.reduceNe, Int.reduceLT, Int.reduceLE, Int.reduceAdd, Int.reduceSub, Int.reduceMul, Int.reduceNeg, Int.reduceToNat, Int.cast_ofNat_Int, Int.natCast_zero, Int.natCast_one, Int.toNat_natCast, Nat.reduceBEq, nzs]
  have hdl : (q.drop (8 * j)).length = q.length - 8 * j := List.length_drop
  have hne : (q.drop (8 * j) = []) = False := eq_false (fun h => by
    have := congrArg List.length h
    rw [hdl, List.length_nil] at this
    omega)
  have hd8 : ((q.drop (8 * j)).drop 8).take ((q.drop (8 * j)).length - 8) = q.drop (8 * (j + 1)) := by
    rw [List.drop_drop, List.take_of_length_le (by rw [List.length_drop, List.length_drop]; omega)]
    congr 1
  have hV : ∀ b ∈ (q.drop (8 * j)).take 8, b = 48 ∨ b = 49 := fun b hb => hbits b (List.mem_of_mem_drop (List.mem_of_mem_take hb))
  have hpk := packB_snoc j q
  have htl : ((q.drop (8 * j)).take 8).length = 8 := by rw [List.length_take, hdl]; omega
  simp only [shs, zts, sos, sls, zss, eqs, sx, sb1, sb2, sb3, sb4, sb5, sb6, sb7, ↓reduceIte, Nat.reduceAdd, Nat.reduceMul, Nat.reduceDiv, Nat.reduceEqDiff, Nat.reduceLT, Nat.reduceLeDiff, reduceCtorEq, Int.reduceEq, Int.reduceNe, Int.reduceLT, Int.reduceLE, Int.reduceAdd, Int.reduceSub, Int.reduceMul, Int.reduceNeg, Int.reduceToNat, Int.cast_ofNat_Int, Int.natCast_zero, Int.natCast_one, Int.toNat_natCast, Nat.reduceBEq, nzs, hne, Nat.sub_zero]
  refine ⟨by omega, ?_⟩
  generalize (q.drop (8 * j)).take 8 = t at *
  refine OpK.strBytes (e := 5) rfl rfl rfl (by kernel_rfl) (by kernel_rfl) (by kernel_rfl) rfl (by simp only [ByteArray.size, List.size_toArray]; omega) fun v M1 hM1 hv => ?_
  replace hv : RowM M1 v 1 (t.map encB) := hv
  simp only [shs, zts, sos, sls, zss, eqs, sx, sb1, sb2, sb3, sb4, sb5, sb6, sb7, ↓reduceIte, Nat.reduceAdd, Nat.reduceMul, Nat.reduceDiv, Nat.reduceEqDiff, Nat.reduceLT, Nat.reduceLeDiff, reduceCtorEq, Int.reduceEq, Int.reduceNe, Int.reduceLT, Int.reduceLE, Int.reduceAdd, Int.reduceSub, Int.reduceMul, Int.reduceNeg, Int.reduceToNat, Int.cast_ofNat_Int, Int.natCast_zero, Int.natCast_one, Int.toNat_natCast, Nat.reduceBEq, nzs, hv.len, hv.sl, List.length_map, htl]
  refine LoopK.go (X := Nat × Nat × Nat) (fun x => ([(0, true, .v (.string ⟨(q.drop (8 * j)).toArray⟩)), (3, true, .v (.string ⟨(packB j q).toArray⟩)), (4, true, .v (.int .i64 (x.2.2 : Int))), (21, true, .v v), (22, true, .v (.int .i64 8)), (23, true, .v (.int .i64 (x.2.1 : Int)))], [], M1))
    (fun x => (x.1 + x.2.1 = 8 ∧ x.2.2 < 2 ^ x.2.1) ∧ val (t.drop x.2.1) x.2.2 = val t 0) (fun x => x.1) (8, 0, 0) ⟨⟨rfl, Nat.one_pos⟩, rfl⟩ (Ent.of ?_) ?_
  · simp only [sx, sb1, sb2, sb3, sb4, sb5, sb6, sb7, ↓reduceIte, Nat.reduceAdd, Nat.reduceMul, Nat.reduceDiv, Nat.reduceEqDiff, Nat.reduceLT, Nat.reduceLeDiff, reduceCtorEq, Int.reduceEq, Int.reduceNe, Int.reduceLT, Int.reduceLE, Int.reduceAdd, Int.reduceSub, Int.reduceMul, Int.reduceNeg, Int.reduceToNat, Int.cast_ofNat_Int, Int.natCast_zero, Int.natCast_one, Int.toNat_natCast, Nat.reduceBEq, Int.natCast_zero]
  rintro ⟨g, k, n⟩ ⟨⟨m1, m2⟩, m3⟩
  simp only at m1 m2 m3
  by_cases hk8 : k < 8
  · have d1 : ((k : Int) < 8) = True := eq_true (by omega)
    obtain ⟨b, hb1, hd⟩ := l_drop_at (l := t) (i := k) (by omega)
    have hb2 := hV b (List.mem_of_getElem? hb1)
    have gg := hv.el1 hb1 (c := .int .u8 (b.toNat : Int)) rfl
    have i0 := hv.ix (i := (k : Int)) (by omega) (by rw [List.length_map]; omega)
    have hp : 2 ^ k ≤ 2 ^ 7 := Nat.pow_le_pow_right (by decide) (by omega)
    have hps : 2 ^ (k + 1) = 2 * 2 ^ k := by rw [Nat.pow_succ]; omega
    have h48 := d48 hb2
    have hb2' : b.toNat < 256 := UInt8.toNat_lt b
    rw [hd] at m3
    simp only [val, List.foldl_cons] at m3
    simp only [shs, zts, sos, sls, zss, eqs, sx, sb1, sb2, sb3, sb4, sb5, sb6, sb7, ↓reduceIte, Nat.reduceAdd, Nat.reduceMul, Nat.reduceDiv, Nat.reduceEqDiff, Nat.reduceLT, Nat.reduceLeDiff, reduceCtorEq, Int.reduceEq, Int.reduceNe, Int.reduceLT, Int.reduceLE, Int.reduceAdd, Int.reduceSub, Int.reduceMul, Int.reduceNeg, Int.reduceToNat, Int.cast_ofNat_Int, Int.natCast_zero, Int.natCast_one, Int.toNat_natCast, Nat.reduceBEq, nzs, d1, i0, i0.2, gg.1, gg.2, and1 hb2, inK, lo, hi, iw (show b.toNat - 48 < 9223372036854775808 by omega)]
    refine ⟨by omega, by omega, by omega, by omega, (g - 1, k + 1, 2 * n + (b.toNat - 48)), ⟨⟨⟨by simp only; omega, by simp only; omega⟩, m3⟩, by simp only; omega⟩, Ent.of ?_⟩
    simp only [sx, sb1, sb2, sb3, sb4, sb5, sb6, sb7, ↓reduceIte, Nat.reduceAdd, Nat.reduceMul, Nat.reduceDiv, Nat.reduceEqDiff, Nat.reduceLT, Nat.reduceLeDiff, reduceCtorEq, Int.reduceEq, Int.reduceNe, Int.reduceLT, Int.reduceLE, Int.reduceAdd, Int.reduceSub, Int.reduceMul, Int.reduceNeg, Int.reduceToNat, Int.cast_ofNat_Int, Int.natCast_zero, Int.natCast_one, Int.toNat_natCast, Nat.reduceBEq, Int.natCast_add, Int.natCast_mul]
  · have d1 : ((k : Int) < 8) = False := eq_false (by omega)
    have hk : k = 8 := by omega
    subst hk
    rw [List.drop_eq_nil_of_le (by omega)] at m3
    simp only [val, List.foldl_nil] at m3
    rw [show List.foldl _ 0 t = val t 0 from rfl] at m3
    have w8 : IntKind.u8.wrap (n : Int) = (n : Int) := wrap_in (k := .u8) ⟨by simp only [lo]; omega, by simp only [hi]; omega⟩
    have hby : byteOf [.int .u8 (n : Int)] = UInt8.ofNat (val t 0) := by rw [← m3]; rfl
    simp only [shs, zts, sos, sls, zss, eqs, sx, sb1, sb2, sb3, sb4, sb5, sb6, sb7, ↓reduceIte, Nat.reduceAdd, Nat.reduceMul, Nat.reduceDiv, Nat.reduceEqDiff, Nat.reduceLT, Nat.reduceLeDiff, reduceCtorEq, Int.reduceEq, Int.reduceNe, Int.reduceLT, Int.reduceLE, Int.reduceAdd, Int.reduceSub, Int.reduceMul, Int.reduceNeg, Int.reduceToNat, Int.cast_ofNat_Int, Int.natCast_zero, Int.natCast_one, Int.toNat_natCast, Nat.reduceBEq, nzs, d1, w8, inK, lo, hi, hby, ← hpk, hd8]
    rw [packB_len]
    refine ⟨by omega, by omega, (f - 1, j + 1, M1), ⟨by simp only; omega, by simp only; omega⟩, Ent.of ?_⟩
    simp only [sx, sb1, sb2, sb3, sb4, sb5, sb6, sb7, ↓reduceIte, Nat.reduceAdd, Nat.reduceMul, Nat.reduceDiv, Nat.reduceEqDiff, Nat.reduceLT, Nat.reduceLeDiff, reduceCtorEq, Int.reduceEq, Int.reduceNe, Int.reduceLT, Int.reduceLE, Int.reduceAdd, Int.reduceSub, Int.reduceMul, Int.reduceNeg, Int.reduceToNat, Int.cast_ofNat_Int, Int.natCast_zero, Int.natCast_one, Int.toNat_natCast, Nat.reduceBEq]

def bitsOf (s : List UInt8) : List UInt8 := s.flatMap fun b => low b.toNat 8
theorem bitsOf_len : ∀ s : List UInt8, (bitsOf s).length = 8 * s.length
  | [] => rfl
  | b :: s => by
    have := bitsOf_len s
    unfold bitsOf at this ⊢
    rw [List.flatMap_cons, List.length_append, low_len, this, List.length_cons]
    omega
theorem bitsOf_take {s : List UInt8} {i : Nat} {b : UInt8} (h : s[i]? = some b) : bitsOf (s.take (i + 1)) = bitsOf (s.take i) ++ low b.toNat 8 := by
  unfold bitsOf
  rw [List.take_add_one, h, List.flatMap_append]
  simp
def unbE (s : List UInt8) : Bool := rtr (bitsOf s) = [] || decide (7 < 8 * s.length - (rtr (bitsOf s)).length)
theorem rtr_le (s : List UInt8) : (rtr s).length ≤ s.length := by
  unfold rtr
  rw [List.length_reverse]
  have := congrArg List.length (List.takeWhile_append_dropWhile (p := (· == (48 : UInt8))) (l := s.reverse))
  rw [List.length_append, List.length_reverse] at this
  omega
theorem unbytesW (s : List UInt8) (M : Mem) (hs : s.length ≤ 1048576) :
    Meets Proofs.Tryd.prog 22 [.v (.string ⟨s.toArray⟩)] M fun r _ _ => r = .tup [.v (.string ⟨(if unbE s = true then [] else (rtr (bitsOf s)).dropLast).toArray⟩), .v (.int .i64 (if unbE s = true then 3 else 0))] := by
  refine Meets.of_body [0,2,3,4,5,6,8,9,10,31] Proofs.Tryd.func22 rfl (by kernel_rfl) rfl fun w => ?_
  simp only [Proofs.Tryd.f22, shs, zts, sos, sls, zss, eqs, sx, sb1, sb2, sb3, sb4, sb5, sb6, sb7, ↓reduceIte, Nat.reduceAdd, Nat.reduceMul, Nat.reduceDiv, Nat.reduceEqDiff, Nat.reduceLT, Nat.reduceLeDiff, reduceCtorEq, Int.reduceEq, Int.reduceNe, Int.reduceLT, Int.reduceLE, Int.reduceAdd, Int.reduceSub, Int.reduceMul, Int.reduceNeg, Int.reduceToNat, Int.cast_ofNat_Int, Int.natCast_zero, Int.natCast_one, Int.toNat_natCast, Nat.reduceBEq, nzs]
  refine OpK.bldNew (e := 5) rfl rfl rfl ⟨_, _, rfl, rfl, rfl⟩ fun b M1 hM1 hB => ?_
  simp only [shs, zts, sos, sls, zss, eqs, sx, sb1, sb2, sb3, sb4, sb5, sb6, sb7, ↓reduceIte, Nat.reduceAdd, Nat.reduceMul, Nat.reduceDiv, Nat.reduceEqDiff, Nat.reduceLT, Nat.reduceLeDiff, reduceCtorEq, Int.reduceEq, Int.reduceNe, Int.reduceLT, Int.reduceLE, Int.reduceAdd, Int.reduceSub, Int.reduceMul, Int.reduceNeg, Int.reduceToNat, Int.cast_ofNat_Int, Int.natCast_zero, Int.natCast_one, Int.toNat_natCast, Nat.reduceBEq, nzs]
  refine LoopK.go (X := Nat × Nat × Mem) (fun x => ([(0, true, .v (.string ⟨s.toArray⟩)), (4, true, .v (ptrV b)), (8, true, .v (.int .i64 s.length)), (9, true, .v (.int .i64 (x.2.1 : Int)))], [], x.2.2))
    (fun x => x.1 + x.2.1 = s.length ∧ Bld ⟨Proofs.Tryd.prog, 37, w, M⟩ 54 5 b (bitsOf (s.take x.2.1)) x.2.2) (fun x => x.1) (s.length, 0, M1) ⟨rfl, by rw [List.take_zero]; exact hB⟩ (Ent.of ?_) ?_
  · simp only [sx, sb1, sb2, sb3, sb4, sb5, sb6, sb7, ↓reduceIte, Nat.reduceAdd, Nat.reduceMul, Nat.reduceDiv, Nat.reduceEqDiff, Nat.reduceLT, Nat.reduceLeDiff, reduceCtorEq, Int.reduceEq, Int.reduceNe, Int.reduceLT, Int.reduceLE, Int.reduceAdd, Int.reduceSub, Int.reduceMul, Int.reduceNeg, Int.reduceToNat, Int.cast_ofNat_Int, Int.natCast_zero, Int.natCast_one, Int.toNat_natCast, Nat.reduceBEq, Int.natCast_zero]
  rintro ⟨f, i, M2⟩ ⟨n1, hB2⟩
  simp only at n1 hB2
  by_cases hil : i < s.length
  · have d1 : ((i : Int) < (s.length : Int)) = True := eq_true (by omega)
    obtain ⟨x, hx, hd⟩ := l_drop_at (l := s) (i := i) hil
    have e1 := strIx_at hx
    have hx2 : x.toNat < 256 := UInt8.toNat_lt x
    simp only [shs, zts, sos, sls, zss, eqs, sx, sb1, sb2, sb3, sb4, sb5, sb6, sb7, ↓reduceIte, Nat.reduceAdd, Nat.reduceMul, Nat.reduceDiv, Nat.reduceEqDiff, Nat.reduceLT, Nat.reduceLeDiff, reduceCtorEq, Int.reduceEq, Int.reduceNe, Int.reduceLT, Int.reduceLE, Int.reduceAdd, Int.reduceSub, Int.reduceMul, Int.reduceNeg, Int.reduceToNat, Int.cast_ofNat_Int, Int.natCast_zero, Int.natCast_one, Int.toNat_natCast, Nat.reduceBEq, nzs, d1, e1, iw (show x.toNat < 9223372036854775808 by omega)]
    refine ⟨by omega, CallK.pure ⟨rfl, rfl⟩ rfl (lowW x.toNat 8 M2 (by omega) (by omega)) ?_⟩
    simp only [shs, zts, sos, sls, zss, eqs, sx, sb1, sb2, sb3, sb4, sb5, sb6, sb7, ↓reduceIte, Nat.reduceAdd, Nat.reduceMul, Nat.reduceDiv, Nat.reduceEqDiff, Nat.reduceLT, Nat.reduceLeDiff, reduceCtorEq, Int.reduceEq, Int.reduceNe, Int.reduceLT, Int.reduceLE, Int.reduceAdd, Int.reduceSub, Int.reduceMul, Int.reduceNeg, Int.reduceToNat, Int.cast_ofNat_Int, Int.natCast_zero, Int.natCast_one, Int.toNat_natCast, Nat.reduceBEq, nzs]
    refine CallK.bldWrite (ρ := Proofs.Tryd.lays166_ren) Proofs.Tryd.lays166 Proofs.Tryd.extra166 rfl rfl rfl rfl ⟨_, Proofs.Tryd.func32, by kernel_rfl, by kernel_rfl⟩ hB2 (by rw [bitsOf_len, List.length_take, size_bl]; show _ + (low x.toNat 8).length ≤ _; rw [low_len]; omega) fun M3 hB3 => ?_
    simp only [shs, zts, sos, sls, zss, eqs, sx, sb1, sb2, sb3, sb4, sb5, sb6, sb7, ↓reduceIte, Nat.reduceAdd, Nat.reduceMul, Nat.reduceDiv, Nat.reduceEqDiff, Nat.reduceLT, Nat.reduceLeDiff, reduceCtorEq, Int.reduceEq, Int.reduceNe, Int.reduceLT, Int.reduceLE, Int.reduceAdd, Int.reduceSub, Int.reduceMul, Int.reduceNeg, Int.reduceToNat, Int.cast_ofNat_Int, Int.natCast_zero, Int.natCast_one, Int.toNat_natCast, Nat.reduceBEq, nzs, inK, lo, hi]
    refine ⟨by omega, (f - 1, i + 1, M3), ⟨⟨by simp only; omega, ?_⟩, by simp only; omega⟩, Ent.of ?_⟩
    · simp only
      rw [bitsOf_take hx]
      exact hB3
    · simp only [sx, sb1, sb2, sb3, sb4, sb5, sb6, sb7, ↓reduceIte, Nat.reduceAdd, Nat.reduceMul, Nat.reduceDiv, Nat.reduceEqDiff, Nat.reduceLT, Nat.reduceLeDiff, reduceCtorEq, Int.reduceEq, Int.reduceNe, Int.reduceLT, Int.reduceLE, Int.reduceAdd, Int.reduceSub, Int.reduceMul, Int.reduceNeg, Int.reduceToNat, Int.cast_ofNat_Int, Int.natCast_zero, Int.natCast_one, Int.toNat_natCast, Nat.reduceBEq, Int.natCast_add]
  have d1 : ((i : Int) < (s.length : Int)) = False := eq_false (by omega)
  rw [List.take_of_length_le (by omega)] at hB2
  simp only [shs, zts, sos, sls, zss, eqs, sx, sb1, sb2, sb3, sb4, sb5, sb6, sb7, ↓reduceIte, Nat.reduceAdd, Nat.reduceMul, Nat.reduceDiv, Nat.reduceEqDiff, Nat.reduceLT, Nat.reduceLeDiff, reduceCtorEq, Int.reduceEq, Int.reduceNe, Int.reduceLT, Int.reduceLE, Int.reduceAdd, Int.reduceSub, Int.reduceMul, Int.reduceNeg, Int.reduceToNat, Int.cast_ofNat_Int, Int.natCast_zero, Int.natCast_one, Int.toNat_natCast, Nat.reduceBEq, nzs, d1]
  refine CallK.bldString (ρ := Proofs.Tryd.lays169_ren) Proofs.Tryd.lays169 Proofs.Tryd.extra169 rfl rfl rfl rfl ⟨_, Proofs.Tryd.func35, by kernel_rfl, by kernel_rfl⟩ hB2 ?_
  simp only [shs, zts, sos, sls, zss, eqs, sx, sb1, sb2, sb3, sb4, sb5, sb6, sb7, ↓reduceIte, Nat.reduceAdd, Nat.reduceMul, Nat.reduceDiv, Nat.reduceEqDiff, Nat.reduceLT, Nat.reduceLeDiff, reduceCtorEq, Int.reduceEq, Int.reduceNe, Int.reduceLT, Int.reduceLE, Int.reduceAdd, Int.reduceSub, Int.reduceMul, Int.reduceNeg, Int.reduceToNat, Int.cast_ofNat_Int, Int.natCast_zero, Int.natCast_one, Int.toNat_natCast, Nat.reduceBEq, nzs]
  have hbl := bitsOf_len s
  have hrl := rtr_le (bitsOf s)
  refine CallK.pure ⟨rfl, rfl⟩ rfl (trimR0 (bitsOf s) M (by omega)) ?_
  simp only [shs, zts, sos, sls, zss, eqs, sx, sb1, sb2, sb3, sb4, sb5, sb6, sb7, ↓reduceIte, Nat.reduceAdd, Nat.reduceMul, Nat.reduceDiv, Nat.reduceEqDiff, Nat.reduceLT, Nat.reduceLeDiff, reduceCtorEq, Int.reduceEq, Int.reduceNe, Int.reduceLT, Int.reduceLE, Int.reduceAdd, Int.reduceSub, Int.reduceMul, Int.reduceNeg, Int.reduceToNat, Int.cast_ofNat_Int, Int.natCast_zero, Int.natCast_one, Int.toNat_natCast, Nat.reduceBEq, nzs]
  generalize hT : rtr (bitsOf s) = T at *
  have hiff : unbE s = true ↔ (T = [] ∨ 7 < (s.length : Int) * 8 - (T.length : Int)) := by
    unfold unbE
    rw [hT, Bool.or_eq_true, decide_eq_true_eq, decide_eq_true_eq]
    refine or_congr Iff.rfl ⟨fun h => by omega, fun h => by omega⟩
  refine ⟨fun h => ⟨h, by simp only [lo]; omega, by simp only [hi]; omega⟩, fun h => ⟨h, by simp only [lo]; omega, by simp only [hi]; omega⟩, fun h => ?_, fun h => ?_⟩
  · rw [if_pos (hiff.2 h), if_pos (hiff.2 h)]
  · have hn : ¬ unbE s = true := fun h2 => by
      rcases hiff.1 h2 with h3 | h3
      · exact h.1 h3
      · omega
    have hl : 0 < T.length := List.length_pos_iff.2 h.1
    rw [if_neg hn, if_neg hn, List.dropLast_eq_take]
    rw [show ((T.length : Int) - 1).toNat - 0 = T.length - 1 by omega]
    exact ⟨⟨by simp only [lo]; omega, by simp only [hi]; omega⟩, by omega, rfl⟩

theorem low_up (n : Nat) : ∀ j, low n (j + sz n) = zs j ++ low n (sz n)
  | 0 => by rw [Nat.zero_add]; rfl
  | j + 1 => by
    rw [show j + 1 + sz n = (j + sz n) + 1 by omega, low, testBit_sz (by omega), low_up n j]
    rfl
theorem rbyteW (b : Nat) (M : Mem) (hb : b < 256) :
    Meets Proofs.Tryd.prog 19 [.v (.int .i64 (b : Int))] M fun r _ _ => r = .v (.string ⟨(low b 8).toArray⟩) := by
  refine Meets.of_body [0,2,3] Proofs.Tryd.func19 rfl (by kernel_rfl) rfl fun w => ?_
  have h8 : sz b ≤ 8 := sz_le.2 (by omega)
  have e1 : (8 : Int) - ((sz b : Nat) : Int) = ((8 - sz b : Nat) : Int) := by omega
  have e2 : List.replicate (8 - sz b) (48 : UInt8) ++ low b (sz b) = low b 8 := by
    have := low_up b (8 - sz b)
    rw [show 8 - sz b + sz b = 8 by omega] at this
    exact this.symm
  simp only [Proofs.Tryd.f19, shs, zts, sos, sls, zss, eqs, sx, sb1, sb2, sb3, sb4, sb5, sb6, sb7, ↓reduceIte, Nat.reduceAdd, Nat.reduceMul, Nat.reduceDiv, Nat.reduceEqDiff, Nat.reduceLT, Nat.reduceLeDiff, reduceCtorEq, Int.reduceEq, Int.reduceNe, Int.reduceLT, Int.reduceLE, Int.reduceAdd, Int.reduceSub, Int.reduceMul, Int.reduceNeg, Int.reduceToNat, Int.cast_ofNat_Int, Int.natCast_zero, Int.natCast_one, Int.toNat_natCast, Nat.reduceBEq, nzs]
  refine CallK.pure ⟨rfl, rfl⟩ rfl (digW b M (by omega)) ?_
  simp only [shs, zts, sos, sls, zss, eqs, sx, sb1, sb2, sb3, sb4, sb5, sb6, sb7, ↓reduceIte, Nat.reduceAdd, Nat.reduceMul, Nat.reduceDiv, Nat.reduceEqDiff, Nat.reduceLT, Nat.reduceLeDiff, reduceCtorEq, Int.reduceEq, Int.reduceNe, Int.reduceLT, Int.reduceLE, Int.reduceAdd, Int.reduceSub, Int.reduceMul, Int.reduceNeg, Int.reduceToNat, Int.cast_ofNat_Int, Int.natCast_zero, Int.natCast_one, Int.toNat_natCast, Nat.reduceBEq, nzs, low_len, e1, inK, lo, hi]
  refine ⟨by omega, CallK.pure ⟨rfl, rfl⟩ rfl (repeat0 (8 - sz b) M (by omega)) ?_⟩
  simp only [shs, zts, sos, sls, zss, eqs, sx, sb1, sb2, sb3, sb4, sb5, sb6, sb7, ↓reduceIte, Nat.reduceAdd, Nat.reduceMul, Nat.reduceDiv, Nat.reduceEqDiff, Nat.reduceLT, Nat.reduceLeDiff, reduceCtorEq, Int.reduceEq, Int.reduceNe, Int.reduceLT, Int.reduceLE, Int.reduceAdd, Int.reduceSub, Int.reduceMul, Int.reduceNeg, Int.reduceToNat, Int.cast_ofNat_Int, Int.natCast_zero, Int.natCast_one, Int.toNat_natCast, Nat.reduceBEq, nzs, inK, lo, hi, e2, List.length_replicate, low_len]
  omega
theorem dw_bits : ∀ l : List UInt8, (∀ b ∈ l, b = 48 ∨ b = 49) → l.dropWhile (· != 49) = l.dropWhile (· == 48)
  | [], _ => rfl
  | b :: l, h => by
    have ih := dw_bits l fun x hx => h x (List.mem_cons_of_mem _ hx)
    rcases h b List.mem_cons_self with rfl | rfl
    · rw [List.dropWhile_cons, List.dropWhile_cons]
      exact ih
    · rw [List.dropWhile_cons, List.dropWhile_cons]
      rfl
theorem rtn_bits {s : List UInt8} (h : ∀ b ∈ s, b = 48 ∨ b = 49) : rtn s = rtr s := by
  unfold rtn rtr
  rw [dw_bits _ fun b hb => h b (List.mem_reverse.1 hb)]
theorem low_bits (n : Nat) : ∀ k, ∀ b ∈ low n k, b = 48 ∨ b = 49
  | 0, b, h => by cases h
  | k + 1, b, h => by
    rcases List.mem_cons.1 h with rfl | h
    · split
      · exact .inr rfl
      · exact .inl rfl
    · exact low_bits n k b h
theorem bitsOf_bits (s : List UInt8) : ∀ b ∈ bitsOf s, b = 48 ∨ b = 49 := fun b hb => by
  obtain ⟨x, _, hx⟩ := List.mem_flatMap.1 hb
  exact low_bits _ _ b hx
theorem rtr_app (s : List UInt8) : s = rtr s ++ zs (s.length - (rtr s).length) := by
  have h1 := List.takeWhile_append_dropWhile (p := (· == (48 : UInt8))) (l := s.reverse)
  have h2 : s = (s.reverse.dropWhile (· == 48)).reverse ++ (s.reverse.takeWhile (· == 48)).reverse := by
    rw [← List.reverse_append, h1, List.reverse_reverse]
  have h3 : (s.reverse.takeWhile (· == (48 : UInt8))).reverse = zs (s.reverse.takeWhile (· == 48)).length := by
    unfold zs
    refine List.eq_replicate_iff.2 ⟨List.length_reverse, fun b hb => ?_⟩
    have := List.all_takeWhile (p := (· == (48 : UInt8))) (l := s.reverse)
    have := List.all_eq_true.1 this b (List.mem_reverse.1 hb)
    simpa using this
  have h4 : s.length - (rtr s).length = (s.reverse.takeWhile (· == 48)).length := by
    have := congrArg List.length h1
    rw [List.length_append, List.length_reverse] at this
    unfold rtr
    rw [List.length_reverse]
    omega
  rw [h4, ← h3]
  exact h2
theorem rtr_last {s : List UInt8} (hb : ∀ b ∈ s, b = 48 ∨ b = 49) (h : rtr s ≠ []) : rtr s = (rtr s).dropLast ++ [49] := by
  have h1 : s.reverse.dropWhile (· == 48) ≠ [] := fun e => h (by unfold rtr; rw [e]; rfl)
  obtain ⟨x, t, hx⟩ := List.exists_cons_of_ne_nil h1
  have h2 : (x == 48) = false := by
    have := List.head_dropWhile_not (· == (48 : UInt8)) h1
    simpa [hx] using this
  have hr : rtr s = t.reverse ++ [x] := by unfold rtr; rw [hx, List.reverse_cons]
  have hx49 : x = 49 := by
    rcases hb x (by
      have : x ∈ rtr s := by rw [hr]; simp
      rw [rtr_app s]
      exact List.mem_append_left _ this) with e | e
    · subst e; simp at h2
    · exact e
  rw [hr, List.dropLast_concat, hx49]
theorem val_low (n : Nat) : ∀ k, val (low n k) 0 = n % 2 ^ k
  | 0 => by simp [low, val, Nat.mod_one]
  | k + 1 => by
    have e : val (low n (k + 1)) 0 = val (low n k) (2 * 0 + ((if n.testBit k then 49 else 48 : UInt8).toNat - 48)) := rfl
    have h1 : n % 2 ^ (k + 1) = 2 ^ k * (n / 2 ^ k % 2) + n % 2 ^ k := by
      rw [Nat.pow_succ, Nat.mod_mul, Nat.add_comm]
    have h2 : n / 2 ^ k % 2 = (n.testBit k).toNat := by
      have := bit1 n k
      rw [Nat.shiftRight_eq_div_pow] at this
      rw [this]
      cases n.testBit k <;> rfl
    rw [e, val_add, low_len, val_low n k, h1, h2, Nat.mul_comm (2 ^ k)]
    cases n.testBit k <;> rfl
theorem packB_bits : ∀ s : List UInt8, packB s.length (bitsOf s) = s
  | [] => rfl
  | b :: s => by
    have e : bitsOf (b :: s) = low b.toNat 8 ++ bitsOf s := by unfold bitsOf; rw [List.flatMap_cons]
    have h1 : (low b.toNat 8 ++ bitsOf s).take 8 = low b.toNat 8 := by rw [List.take_append_of_le_length (by rw [low_len]; decide), List.take_of_length_le (by rw [low_len]; decide)]
    have h2 : (low b.toNat 8 ++ bitsOf s).drop 8 = bitsOf s := by rw [List.drop_append, low_len, List.drop_eq_nil_of_le (by rw [low_len]; decide)]; rfl
    have hb : b.toNat < 256 := UInt8.toNat_lt b
    rw [List.length_cons, packB, e, h1, h2, packB_bits s, val_low, Nat.mod_eq_of_lt (by omega), UInt8.ofNat_toNat]
theorem unb_iff (s : List UInt8) (h : rtr (bitsOf s) ≠ []) : bytesS (rtr (bitsOf s)).dropLast = s ↔ ¬ 7 < 8 * s.length - (rtr (bitsOf s)).length := by
  have h1 := rtr_last (bitsOf_bits s) h
  have h2 := rtr_app (bitsOf s)
  have h3 := bitsOf_len s
  have h4 := rtr_le (bitsOf s)
  have hl : 0 < (rtr (bitsOf s)).length := List.length_pos_iff.2 h
  generalize hT : rtr (bitsOf s) = T at *
  have hdl : T.dropLast.length + 1 = T.length := by rw [List.length_dropLast]; omega
  have hp : padS T.dropLast = T ++ zs (padN T.length) := by
    unfold padS
    rw [hdl, ← h1]
  unfold bytesS
  rw [hp]
  refine ⟨fun e hlt => ?_, fun hlt => ?_⟩
  · have := congrArg List.length e
    rw [packB_len, List.length_append, zs_len] at this
    unfold padN at this
    omega
  · have hm : padN T.length = (bitsOf s).length - T.length := by unfold padN; omega
    rw [hm, ← h2, h3, Nat.mul_div_cancel_left _ (by decide)]
    exact packB_bits s
theorem runbytesW (s : List UInt8) (M : Mem) (hs : s.length ≤ 1048576) :
    Meets Proofs.Tryd.prog 13 [.v (.string ⟨s.toArray⟩)] M fun r _ _ => r = .tup [.v (.string ⟨(if unbE s = true then [] else (rtr (bitsOf s)).dropLast).toArray⟩), .v (.int .i64 (if unbE s = true then 3 else 0))] := by
  refine Meets.of_body [0,2,3,4,5,6,8,9,10,31] Proofs.Tryd.func13 rfl (by kernel_rfl) rfl fun w => ?_
  simp only [Proofs.Tryd.f13, shs, zts, sos, sls, zss, eqs, sx, sb1, sb2, sb3, sb4, sb5, sb6, sb7, ↓reduceIte, Nat.reduceAdd, Nat.reduceMul, Nat.reduceDiv, Nat.reduceEqDiff, Nat.reduceLT, Nat.reduceLeDiff, reduceCtorEq, Int.reduceEq, Int.reduceNe, Int.reduceLT, Int.reduceLE, Int.reduceAdd, Int.reduceSub, Int.reduceMul, Int.reduceNeg, Int.reduceToNat, Int.cast_ofNat_Int, Int.natCast_zero, Int.natCast_one, Int.toNat_natCast, Nat.reduceBEq, nzs]
  refine LoopK.go (X := Nat × Nat) (fun x => ([(0, true, .v (.string ⟨s.toArray⟩)), (4, true, .v (.string ⟨(bitsOf (s.take x.2)).toArray⟩)), (8, true, .v (.int .i64 s.length)), (9, true, .v (.int .i64 (x.2 : Int)))], [], M))
    (fun x => x.1 + x.2 = s.length) (fun x => x.1) (s.length, 0) rfl (Ent.of ?_) ?_
  · simp only [sx, sb1, sb2, sb3, sb4, sb5, sb6, sb7, ↓reduceIte, Nat.reduceAdd, Nat.reduceMul, Nat.reduceDiv, Nat.reduceEqDiff, Nat.reduceLT, Nat.reduceLeDiff, reduceCtorEq, Int.reduceEq, Int.reduceNe, Int.reduceLT, Int.reduceLE, Int.reduceAdd, Int.reduceSub, Int.reduceMul, Int.reduceNeg, Int.reduceToNat, Int.cast_ofNat_Int, Int.natCast_zero, Int.natCast_one, Int.toNat_natCast, Nat.reduceBEq, Int.natCast_zero, List.take_zero, bitsOf, List.flatMap_nil]
  rintro ⟨f, i⟩ n1
  simp only at n1
  by_cases hil : i < s.length
  · have d1 : ((i : Int) < (s.length : Int)) = True := eq_true (by omega)
    obtain ⟨x, hx, hd⟩ := l_drop_at (l := s) (i := i) hil
    have e1 := strIx_at hx
    have hx2 : x.toNat < 256 := UInt8.toNat_lt x
    have hbl := bitsOf_len (s.take i)
    have htl : (s.take i).length = i := by rw [List.length_take]; omega
    have e2 := bitsOf_take hx
    simp only [shs, zts, sos, sls, zss, eqs, sx, sb1, sb2, sb3, sb4, sb5, sb6, sb7, ↓reduceIte, Nat.reduceAdd, Nat.reduceMul, Nat.reduceDiv, Nat.reduceEqDiff, Nat.reduceLT, Nat.reduceLeDiff, reduceCtorEq, Int.reduceEq, Int.reduceNe, Int.reduceLT, Int.reduceLE, Int.reduceAdd, Int.reduceSub, Int.reduceMul, Int.reduceNeg, Int.reduceToNat, Int.cast_ofNat_Int, Int.natCast_zero, Int.natCast_one, Int.toNat_natCast, Nat.reduceBEq, nzs, d1, e1, iw (show x.toNat < 9223372036854775808 by omega)]
    refine ⟨by omega, CallK.pure ⟨rfl, rfl⟩ rfl (rbyteW x.toNat M hx2) ?_⟩
    simp only [shs, zts, sos, sls, zss, eqs, sx, sb1, sb2, sb3, sb4, sb5, sb6, sb7, ↓reduceIte, Nat.reduceAdd, Nat.reduceMul, Nat.reduceDiv, Nat.reduceEqDiff, Nat.reduceLT, Nat.reduceLeDiff, reduceCtorEq, Int.reduceEq, Int.reduceNe, Int.reduceLT, Int.reduceLE, Int.reduceAdd, Int.reduceSub, Int.reduceMul, Int.reduceNeg, Int.reduceToNat, Int.cast_ofNat_Int, Int.natCast_zero, Int.natCast_one, Int.toNat_natCast, Nat.reduceBEq, nzs, ← e2, hbl, low_len, htl, inK, lo, hi]
    refine ⟨by omega, by omega, (f - 1, i + 1), ⟨by simp only; omega, by simp only; omega⟩, Ent.of ?_⟩
    simp only [sx, sb1, sb2, sb3, sb4, sb5, sb6, sb7, ↓reduceIte, Nat.reduceAdd, Nat.reduceMul, Nat.reduceDiv, Nat.reduceEqDiff, Nat.reduceLT, Nat.reduceLeDiff, reduceCtorEq, Int.reduceEq, Int.reduceNe, Int.reduceLT, Int.reduceLE, Int.reduceAdd, Int.reduceSub, Int.reduceMul, Int.reduceNeg, Int.reduceToNat, Int.cast_ofNat_Int, Int.natCast_zero, Int.natCast_one, Int.toNat_natCast, Nat.reduceBEq, Int.natCast_add]
  have d1 : ((i : Int) < (s.length : Int)) = False := eq_false (by omega)
  have hbl := bitsOf_len s
  have hrl := rtr_le (bitsOf s)
  rw [List.take_of_length_le (by omega)]
  simp only [shs, zts, sos, sls, zss, eqs, sx, sb1, sb2, sb3, sb4, sb5, sb6, sb7, ↓reduceIte, Nat.reduceAdd, Nat.reduceMul, Nat.reduceDiv, Nat.reduceEqDiff, Nat.reduceLT, Nat.reduceLeDiff, reduceCtorEq, Int.reduceEq, Int.reduceNe, Int.reduceLT, Int.reduceLE, Int.reduceAdd, Int.reduceSub, Int.reduceMul, Int.reduceNeg, Int.reduceToNat, Int.cast_ofNat_Int, Int.natCast_zero, Int.natCast_one, Int.toNat_natCast, Nat.reduceBEq, nzs, d1]
  refine CallK.pure ⟨rfl, rfl⟩ rfl (lastI (bitsOf s) M (by omega)) ?_
  rw [rtn_bits (bitsOf_bits s)]
  by_cases hT : rtr (bitsOf s) = []
  · have hE : unbE s = true := by unfold unbE; rw [hT]; rfl
    rw [if_pos hE, if_pos hE, hT]
    simp only [shs, zts, sos, sls, zss, eqs, sx, sb1, sb2, sb3, sb4, sb5, sb6, sb7, ↓reduceIte, Nat.reduceAdd, Nat.reduceMul, Nat.reduceDiv, Nat.reduceEqDiff, Nat.reduceLT, Nat.reduceLeDiff, reduceCtorEq, Int.reduceEq, Int.reduceNe, Int.reduceLT, Int.reduceLE, Int.reduceAdd, Int.reduceSub, Int.reduceMul, Int.reduceNeg, Int.reduceToNat, Int.cast_ofNat_Int, Int.natCast_zero, Int.natCast_one, Int.toNat_natCast, Nat.reduceBEq, nzs, List.length_nil]
  have hl : 0 < (rtr (bitsOf s)).length := List.length_pos_iff.2 hT
  have hiff := unb_iff s hT
  have happ := rtr_app (bitsOf s)
  have hx : (bitsOf s).take ((rtr (bitsOf s)).length - 1) = (rtr (bitsOf s)).dropLast := by
    rw [happ, List.take_append_of_le_length (by rw [← happ]; omega), ← happ, List.dropLast_eq_take]
  have hE : unbE s = true ↔ ¬ bytesS (rtr (bitsOf s)).dropLast = s := by
    rw [hiff]
    unfold unbE
    rw [Bool.or_eq_true, decide_eq_true_eq, decide_eq_true_eq, Classical.not_not]
    exact ⟨fun h => h.resolve_left hT, .inr⟩
  have hbd : ∀ b ∈ (rtr (bitsOf s)).dropLast, b ∈ bitsOf s := fun b hb => by
    rw [← hx] at hb
    exact List.mem_of_mem_take hb
  have hAll : ((rtr (bitsOf s)).dropLast.all fun b => b == 48 || b == 49) = true := List.all_eq_true.2 fun b hb => by
    rcases bitsOf_bits s b (hbd b hb) with h | h <;> simp [h]
  have hdl : (rtr (bitsOf s)).dropLast.length = (rtr (bitsOf s)).length - 1 := List.length_dropLast
  have e1 : ((rtr (bitsOf s)).length : Int) - 1 = (((rtr (bitsOf s)).length - 1 : Nat) : Int) := by omega
  have c1 : ((((rtr (bitsOf s)).length - 1 : Nat) : Int) < 0) = False := eq_false (by omega)
  have hxl : ((bitsOf s).drop 0).take ((rtr (bitsOf s)).length - 1 - 0) = (rtr (bitsOf s)).dropLast := by rw [List.drop_zero, Nat.sub_zero, hx]
  rw [e1]
  simp only [shs, zts, sos, sls, zss, eqs, sx, sb1, sb2, sb3, sb4, sb5, sb6, sb7, ↓reduceIte, Nat.reduceAdd, Nat.reduceMul, Nat.reduceDiv, Nat.reduceEqDiff, Nat.reduceLT, Nat.reduceLeDiff, reduceCtorEq, Int.reduceEq, Int.reduceNe, Int.reduceLT, Int.reduceLE, Int.reduceAdd, Int.reduceSub, Int.reduceMul, Int.reduceNeg, Int.reduceToNat, Int.cast_ofNat_Int, Int.natCast_zero, Int.natCast_one, Int.toNat_natCast, Nat.reduceBEq, nzs, c1, Nat.sub_zero, hx]
  refine ⟨⟨by omega, by omega⟩, CallK.pure ⟨rfl, rfl⟩ rfl (rbytesW _ M (by omega) hAll) ?_⟩
  by_cases hS : bytesS (rtr (bitsOf s)).dropLast = s
  · have hn : ¬ unbE s = true := fun h => (hE.1 h) hS
    rw [if_neg hn, if_neg hn]
    simp only [shs, zts, sos, sls, zss, eqs, sx, sb1, sb2, sb3, sb4, sb5, sb6, sb7, ↓reduceIte, Nat.reduceAdd, Nat.reduceMul, Nat.reduceDiv, Nat.reduceEqDiff, Nat.reduceLT, Nat.reduceLeDiff, reduceCtorEq, Int.reduceEq, Int.reduceNe, Int.reduceLT, Int.reduceLE, Int.reduceAdd, Int.reduceSub, Int.reduceMul, Int.reduceNeg, Int.reduceToNat, Int.cast_ofNat_Int, Int.natCast_zero, Int.natCast_one, Int.toNat_natCast, Nat.reduceBEq, nzs, hS, c1, Nat.sub_zero, hx]
    omega
  · rw [if_pos (hE.2 hS), if_pos (hE.2 hS)]
    have c2 : (bytesS (rtr (bitsOf s)).dropLast = s) = False := eq_false hS
    simp only [shs, zts, sos, sls, zss, eqs, sx, sb1, sb2, sb3, sb4, sb5, sb6, sb7, ↓reduceIte, Nat.reduceAdd, Nat.reduceMul, Nat.reduceDiv, Nat.reduceEqDiff, Nat.reduceLT, Nat.reduceLeDiff, reduceCtorEq, Int.reduceEq, Int.reduceNe, Int.reduceLT, Int.reduceLE, Int.reduceAdd, Int.reduceSub, Int.reduceMul, Int.reduceNeg, Int.reduceToNat, Int.cast_ofNat_Int, Int.natCast_zero, Int.natCast_one, Int.toNat_natCast, Nat.reduceBEq, nzs, c2]
end Go.X.Pk
