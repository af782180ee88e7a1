/- tree.Root, tree.Proof, woolref.Root, woolref.Proof; woollaw.TreeSays returns true. Conditions: none. -/
import Derived.Test.YtkmbglbjpbdldaaTreeP
set_option linter.unusedSimpArgs false
set_option linter.unusedVariables false
set_option maxHeartbeats 4000000
set_option maxRecDepth 20000
namespace Go.X.Ts
open Go Go.X Go.X.Pol Go.X.Pl Go.X.Rp Go.X.Pd Go.X.Md Go.X.Mv Go.X.Pt Go.X.Tv

def lv0 (l : List (List UInt8)) : List Nat := l.map leafP
theorem lv0_ok (l : List (List UInt8)) : okL (lv0 l) := fun x hx => by obtain ⟨s, _, rfl⟩ := List.mem_map.1 hx; exact leaf_le s
theorem lv0_len (l : List (List UInt8)) : (lv0 l).length = l.length := List.length_map _
/-- what Check lets by -/
theorem lvE_ok {l : List (List UInt8)} (h : lvE l = 0) : l ≠ [] ∧ l.length ≤ 32 ∧ ∀ s ∈ l, s.length ≤ 64 := by
  unfold lvE at h
  split at h
  · cases h
  · split at h
    · cases h
    · rename_i h1 h2
      refine ⟨fun e => h1 (by rw [e]; rfl), by omega, fun s hs => ?_⟩
      have h3 : ¬ l.any bigB = true := fun e => h2 (.inr e)
      rw [List.any_eq_true] at h3
      rcases Nat.lt_or_ge 64 s.length with h4 | h4
      · exact (h3 ⟨s, hs, decide_eq_true (by omega)⟩).elim
      · exact h4
def rootE (l : List (List UInt8)) : Int := if lvE l = 0 then (topV (lv0 l) : Int) else 0
theorem Levs.get {v : Value} {ls : List (List Nat)} {M : Mem} (h : Levs v ls M) {i : Nat} {lv : List Nat} (hi : ls[i]? = some lv) : ∃ u, (elE M v 1 i 0 = u ∧ okE M v 1 i 0) ∧ RowM M u 1 (lv.map encN) := by
  obtain ⟨ps, h1, h2, rfl⟩ := h
  rw [List.getElem?_map, Option.map_eq_some_iff] at hi
  obtain ⟨p, hp, rfl⟩ := hi
  exact ⟨p.1, h1.el1 hp rfl, h2 p (List.mem_of_getElem? hp)⟩
theorem Levs.len {v : Value} {ls : List (List Nat)} {M : Mem} (h : Levs v ls M) : lenV v = ls.length ∧ isSl v = true := by
  obtain ⟨ps, h1, h2, rfl⟩ := h
  exact ⟨by rw [h1.len, List.length_map, List.length_map], h1.sl⟩
theorem Levs.ix {v : Value} {ls : List (List Nat)} {M : Mem} (h : Levs v ls M) {i : Int} (h0 : 0 ≤ i) (h1 : i < ls.length) : ixOk v i := by
  obtain ⟨ps, h2, _, rfl⟩ := h
  exact h2.ix h0 (by rw [List.length_map] at h1 ⊢; exact h1)

theorem lv0_split {l : List (List UInt8)} {k : Nat} : lv0 l = lv0 (l.take k) ++ lv0 (l.drop k) := by
  unfold lv0
  rw [← List.map_append, List.take_append_drop]
theorem rroot : ∀ (n : Nat) (y : Value) (l : List (List UInt8)) (M : Mem), RowM M y 1 (l.map encS) → l ≠ [] → l.length ≤ n → l.length ≤ 32 → (∀ s ∈ l, s.length ≤ 64) →
    Meets Proofs.Try.prog 32 [.v y] M fun r _ _ => r = .v (.int .i64 (topV (lv0 l) : Int))
  | n, y, l, M, hy, h0, hn, h32, h64 => by
    refine Meets.of_body [0,2,3,6] Proofs.Try.func32 rfl (by kernel_rfl) rfl fun w => ?_
    have hlp := List.length_pos_iff.2 h0
    by_cases h1 : l.length = 1
    · obtain ⟨s, rfl⟩ : ∃ s, l = [s] := by
        match l, h1 with
        | [s], _ => exact ⟨s, rfl⟩
      have g1 := hy.el1 (i := 0) (x := s) rfl rfl
      have i1 := hy.ix (i := 0) (by omega) (by simp)
      have hs := h64 s (by simp)
      have d2 : (((1 + s.length : Nat) : Int) ≤ 9223372036854775807) = True := eq_true (by omega)
      have ht : topV (lv0 [s]) = leafP s := rfl
      rw [ht]
      simp only [Proofs.Try.f32, shs, zts, sos, sls, zss, eqs, sx, sb1, sb2, sb3, sb4, sb5, ↓reduceIte, Nat.reduceAdd, Nat.reduceMul, Nat.reduceDiv, Nat.reduceEqDiff, Nat.reduceLT, Nat.reduceLeDiff, reduceCtorEq, Int.reduceEq, Int.reduceNe, Int.reduceLT, Int.reduceLE, Int.reduceAdd, Int.reduceSub, Int.reduceMul, Int.reduceNeg, Int.reduceToNat, Int.cast_ofNat_Int, Int.natCast_zero, Int.natCast_one, Int.toNat_natCast, Nat.reduceBEq, nzs, hy.len, hy.sl, List.length_map, g1.1, g1.2, i1, i1.2, d2]
      refine CallK.pure ⟨rfl, rfl⟩ rfl (rprint 1073741907 (108 :: s) M (by omega) (by omega) (by simp only [maxLen, List.length_cons]; omega)) ?_
      simp only [shs, zts, sos, sls, zss, eqs, sx, sb1, sb2, sb3, sb4, sb5, ↓reduceIte, Nat.reduceAdd, Nat.reduceMul, Nat.reduceDiv, Nat.reduceEqDiff, Nat.reduceLT, Nat.reduceLeDiff, reduceCtorEq, Int.reduceEq, Int.reduceNe, Int.reduceLT, Int.reduceLE, Int.reduceAdd, Int.reduceSub, Int.reduceMul, Int.reduceNeg, Int.reduceToNat, Int.cast_ofNat_Int, Int.natCast_zero, Int.natCast_one, Int.toNat_natCast, Nat.reduceBEq]
      rfl
    · have d1 : ((l.length : Int) = 1) = False := eq_false (by omega)
      simp only [Proofs.Try.f32, shs, zts, sos, sls, zss, eqs, sx, sb1, sb2, sb3, sb4, sb5, ↓reduceIte, Nat.reduceAdd, Nat.reduceMul, Nat.reduceDiv, Nat.reduceEqDiff, Nat.reduceLT, Nat.reduceLeDiff, reduceCtorEq, Int.reduceEq, Int.reduceNe, Int.reduceLT, Int.reduceLE, Int.reduceAdd, Int.reduceSub, Int.reduceMul, Int.reduceNeg, Int.reduceToNat, Int.cast_ofNat_Int, Int.natCast_zero, Int.natCast_one, Int.toNat_natCast, Nat.reduceBEq, nzs, hy.len, hy.sl, List.length_map, d1]
      refine CallK.pure ⟨rfl, rfl⟩ rfl (span l.length M h32) ?_
      obtain ⟨d, hd, hk, hk1, hk2⟩ := sp_pow l.length (by omega) (by omega)
      rw [hk]
      have hp := Nat.two_pow_pos d
      have hT := topV_split (d := d) (l1 := lv0 (l.take (2 ^ d))) (l2 := lv0 (l.drop (2 ^ d))) (by rw [lv0_len, List.length_take]; omega) (by rw [lv0_len, List.length_drop]; omega) (by rw [lv0_len, List.length_drop]; omega) (by omega)
      rw [← lv0_split] at hT
      have hA := topV_le (lv0_ok (l.take (2 ^ d))) (List.length_pos_iff.1 (by rw [lv0_len, List.length_take]; omega)) (by rw [lv0_len, List.length_take]; omega)
      have hB := topV_le (lv0_ok (l.drop (2 ^ d))) (List.length_pos_iff.1 (by rw [lv0_len, List.length_drop]; omega)) (by rw [lv0_len, List.length_drop]; omega)
      have s1 := hy.sub (lo := 0) (hi := 2 ^ d) (by omega) (by rw [List.length_map]; omega)
      have s2 := hy.sub (lo := 2 ^ d) (hi := l.length) (by omega) (by rw [List.length_map]; omega)
      rw [List.drop_zero, Nat.sub_zero, ← List.map_take] at s1
      rw [← List.map_drop, ← List.map_take, List.take_of_length_le (by rw [List.length_drop]; omega)] at s2
      have r1 := fun M' hM => rroot (n - 1) (subV y 1 0 (2 ^ d)) (l.take (2 ^ d)) M' (s1.le hM) (List.length_pos_iff.1 (by rw [List.length_take]; omega)) (by rw [List.length_take]; omega) (by rw [List.length_take]; omega) (fun s hs => h64 s (List.mem_of_mem_take hs))
      have r2 := fun M' hM => rroot (n - 1) (subV y 1 (2 ^ d) l.length) (l.drop (2 ^ d)) M' (s2.le hM) (List.length_pos_iff.1 (by rw [List.length_drop]; omega)) (by rw [List.length_drop]; omega) (by rw [List.length_drop]; omega) (fun s hs => h64 s (List.mem_of_mem_drop hs))
      have hcap := hy.1.2.2.1
      rw [hy.len, List.length_map] at hcap
      rw [hT]
      generalize 2 ^ d = k at *
      generalize topV (lv0 (l.take k)) = a at *
      generalize topV (lv0 (l.drop k)) = b at *
      simp only [shs, zts, sos, sls, zss, eqs, sx, sb1, sb2, sb3, sb4, sb5, ↓reduceIte, Nat.reduceAdd, Nat.reduceMul, Nat.reduceDiv, Nat.reduceEqDiff, Nat.reduceLT, Nat.reduceLeDiff, reduceCtorEq, Int.reduceEq, Int.reduceNe, Int.reduceLT, Int.reduceLE, Int.reduceAdd, Int.reduceSub, Int.reduceMul, Int.reduceNeg, Int.reduceToNat, Int.cast_ofNat_Int, Int.natCast_zero, Int.natCast_one, Int.toNat_natCast, Nat.reduceBEq, nzs]
      refine DrawK.plan (tk [0, 1, 2, 4, 5, 6] (ones' [3, 7, 8, 9, 10] .done)) (by kernel_rfl) (by kernel_rfl) ?_
      simp only [shs, zts, sos, sls, zss, eqs, sx, sb1, sb2, sb3, sb4, sb5, ↓reduceIte, Nat.reduceAdd, Nat.reduceMul, Nat.reduceDiv, Nat.reduceEqDiff, Nat.reduceLT, Nat.reduceLeDiff, reduceCtorEq, Int.reduceEq, Int.reduceNe, Int.reduceLT, Int.reduceLE, Int.reduceAdd, Int.reduceSub, Int.reduceMul, Int.reduceNeg, Int.reduceToNat, Int.cast_ofNat_Int, Int.natCast_zero, Int.natCast_one, Int.toNat_natCast, Nat.reduceBEq, nzs, se1, se2, tks, hy.len, hy.sl, List.length_map]
      refine ⟨by omega, by omega, CallK.pure ⟨rfl, rfl⟩ rfl (r1 M (Mem.le.refl M)) ?_⟩
      simp only [shs, zts, sos, sls, zss, eqs, sx, sb1, sb2, sb3, sb4, sb5, ↓reduceIte, Nat.reduceAdd, Nat.reduceMul, Nat.reduceDiv, Nat.reduceEqDiff, Nat.reduceLT, Nat.reduceLeDiff, reduceCtorEq, Int.reduceEq, Int.reduceNe, Int.reduceLT, Int.reduceLE, Int.reduceAdd, Int.reduceSub, Int.reduceMul, Int.reduceNeg, Int.reduceToNat, Int.cast_ofNat_Int, Int.natCast_zero, Int.natCast_one, Int.toNat_natCast, Nat.reduceBEq, nzs, se1, se2, tks]
      refine CallK.pure ⟨rfl, rfl⟩ rfl (r2 M (Mem.le.refl M)) ?_
      simp only [shs, zts, sos, sls, zss, eqs, sx, sb1, sb2, sb3, sb4, sb5, ↓reduceIte, Nat.reduceAdd, Nat.reduceMul, Nat.reduceDiv, Nat.reduceEqDiff, Nat.reduceLT, Nat.reduceLeDiff, reduceCtorEq, Int.reduceEq, Int.reduceNe, Int.reduceLT, Int.reduceLE, Int.reduceAdd, Int.reduceSub, Int.reduceMul, Int.reduceNeg, Int.reduceToNat, Int.cast_ofNat_Int, Int.natCast_zero, Int.natCast_one, Int.toNat_natCast, Nat.reduceBEq, nzs, se1, se2, tks]
      refine CallK.pure ⟨rfl, rfl⟩ rfl (rsaid a b M (by omega) (by omega)) ?_
      simp only [shs, zts, sos, sls, zss, eqs, sx, sb1, sb2, sb3, sb4, sb5, ↓reduceIte, Nat.reduceAdd, Nat.reduceMul, Nat.reduceDiv, Nat.reduceEqDiff, Nat.reduceLT, Nat.reduceLeDiff, reduceCtorEq, Int.reduceEq, Int.reduceNe, Int.reduceLT, Int.reduceLE, Int.reduceAdd, Int.reduceSub, Int.reduceMul, Int.reduceNeg, Int.reduceToNat, Int.cast_ofNat_Int, Int.natCast_zero, Int.natCast_one, Int.toNat_natCast, Nat.reduceBEq, nzs, se1, se2, tks]
      refine CallK.pure ⟨rfl, rfl⟩ rfl (rprint 1073741907 (saidN a b) M (by omega) (by omega) (by simp only [maxLen, saidN_len]; omega)) ?_
      simp only [shs, zts, sos, sls, zss, eqs, sx, sb1, sb2, sb3, sb4, sb5, ↓reduceIte, Nat.reduceAdd, Nat.reduceMul, Nat.reduceDiv, Nat.reduceEqDiff, Nat.reduceLT, Nat.reduceLeDiff, reduceCtorEq, Int.reduceEq, Int.reduceNe, Int.reduceLT, Int.reduceLE, Int.reduceAdd, Int.reduceSub, Int.reduceMul, Int.reduceNeg, Int.reduceToNat, Int.cast_ofNat_Int, Int.natCast_zero, Int.natCast_one, Int.toNat_natCast, Nat.reduceBEq, nzs, se1, se2, tks]
      rfl
  termination_by n => n
  decreasing_by all_goals (have := hn; omega)

def prE (l : List (List UInt8)) (i : Int) : Int := if lvE l ≠ 0 then lvE l else if i < 0 ∨ (l.length : Int) ≤ i then 1 else 0
def prL (l : List (List UInt8)) (i : Int) : List (Bool × Int) := if prE l i = 0 then pf 5 (lv0 l) i.toNat else []
theorem stp1_len (l : List Nat) (i : Nat) : (stp1 l i).length ≤ 1 := by unfold stp1; split <;> simp
theorem pf_len : ∀ (d : Nat) (l : List Nat) (i : Nat), (pf d l i).length ≤ d
  | 0, _, _ => Nat.le_refl _
  | d + 1, l, i => by
    have h1 := stp1_len l i
    have h2 := pf_len d (upL l) (i / 2)
    simp only [pf, List.length_append]
    omega
end Go.X.Ts
