/- tree.Root, tree.Proof, woolref.Root, woolref.Proof; woollaw.TreeSays returns true. Conditions: none. -/
import Derived.Test.YtkhadbanpfngnaaTreeP
set_option linter.unusedSimpArgs false
set_option linter.unusedVariables false
set_option maxHeartbeats 4000000
set_option maxRecDepth 20000
namespace Go.X.Ts
open Go Go.X Go.X.Pol Go.X.Pl Go.X.Rp Go.X.Pd Go.X.Md Go.X.Mv Go.X.Pt Go.X.Tv

def lv0 (l : List (List UInt8)) : List Nat := l.map leafP
theorem lv0_ok (l : List (List UInt8)) : okL (lv0 l) := fun x hx => by obtain ⟨s, _, rfl⟩ := List.mem_map.1 hx; exact leaf_le s
theorem lv0_len (l : List (List UInt8)) : (lv0 l).length = l.length := List.length_map _
/-- what Check lets by -/
theorem lvE_ok {l : List (List UInt8)} (h : lvE l = 0) : l ≠ [] ∧ l.length ≤ 32 ∧ ∀ s ∈ l, s.length ≤ 64 := by
  unfold lvE at h
  split at h
  · cases h
  · split at h
    · cases h
    · rename_i h1 h2
      refine ⟨fun e => h1 (by rw [e]; rfl), by omega, fun s hs => ?_⟩
      have h3 : ¬ l.any bigB = true := fun e => h2 (.inr e)
      rw [List.any_eq_true] at h3
      rcases Nat.lt_or_ge 64 s.length with h4 | h4
      · exact (h3 ⟨s, hs, decide_eq_true (by omega)⟩).elim
      · exact h4
def rootE (l : List (List UInt8)) : Int := if lvE l = 0 then (topV (lv0 l) : Int) else 0
theorem Levs.get {v : Value} {ls : List (List Nat)} {M : Mem} (h : Levs v ls M) {i : Nat} {lv : List Nat} (hi : ls[i]? = some lv) : ∃ u, (elE M v 1 i 0 = u ∧ okE M v 1 i 0) ∧ RowM M u 1 (lv.map encN) := by
  obtain ⟨ps, h1, h2, rfl⟩ := h
  rw [List.getElem?_map, Option.map_eq_some_iff] at hi
  obtain ⟨p, hp, rfl⟩ := hi
  exact ⟨p.1, h1.el1 hp rfl, h2 p (List.mem_of_getElem? hp)⟩
theorem Levs.len {v : Value} {ls : List (List Nat)} {M : Mem} (h : Levs v ls M) : lenV v = ls.length ∧ isSl v = true := by
  obtain ⟨ps, h1, h2, rfl⟩ := h
  exact ⟨by rw [h1.len, List.length_map, List.length_map], h1.sl⟩
theorem Levs.ix {v : Value} {ls : List (List Nat)} {M : Mem} (h : Levs v ls M) {i : Int} (h0 : 0 ≤ i) (h1 : i < ls.length) : ixOk v i := by
  obtain ⟨ps, h2, _, rfl⟩ := h
  exact h2.ix h0 (by rw [List.length_map] at h1 ⊢; exact h1)

theorem root (y : Value) (l : List (List UInt8)) (M : Mem) (hy : RowM M y 1 (l.map encS)) (hl : ∀ s ∈ l, s.length ≤ maxLen) :
    Meets Proofs.Try.prog 53 [.v y] M fun r _ _ => r = .tup [.v (.int .i64 (rootE l)), .v (.int .i64 (lvE l))] := by
  refine Meets.of_body [0,2,3,4,5,9] Proofs.Try.func53 rfl (by kernel_rfl) rfl fun w => ?_
  have hC := check y l M hy hl
  unfold rootE
  by_cases he : lvE l = 0
  · obtain ⟨h0, h32, h64⟩ := lvE_ok he
    rw [he] at hC
    rw [if_pos he, he]
    simp only [Proofs.Try.f53, shs, zts, sos, sls, zss, eqs, sx, sb1, sb2, sb3, sb4, sb5, ↓reduceIte, Nat.reduceAdd, Nat.reduceMul, Nat.reduceDiv, Nat.reduceEqDiff, Nat.reduceLT, Nat.reduceLeDiff, reduceCtorEq, Int.reduceEq, Int.reduceNe, Int.reduceLT, Int.reduceLE, Int.reduceAdd, Int.reduceSub, Int.reduceMul, Int.reduceNeg, Int.reduceToNat, Int.cast_ofNat_Int, Int.natCast_zero, Int.natCast_one, Int.toNat_natCast, Nat.reduceBEq]
    refine CallK.pure ⟨rfl, rfl⟩ rfl hC ?_
    simp only [shs, zts, sos, sls, zss, eqs, sx, sb1, sb2, sb3, sb4, sb5, ↓reduceIte, Nat.reduceAdd, Nat.reduceMul, Nat.reduceDiv, Nat.reduceEqDiff, Nat.reduceLT, Nat.reduceLeDiff, reduceCtorEq, Int.reduceEq, Int.reduceNe, Int.reduceLT, Int.reduceLE, Int.reduceAdd, Int.reduceSub, Int.reduceMul, Int.reduceNeg, Int.reduceToNat, Int.cast_ofNat_Int, Int.natCast_zero, Int.natCast_one, Int.toNat_natCast, Nat.reduceBEq]
    refine CallK.res rfl rfl (levels y l M hy h0 h32 h64) (fun r M' ⟨v, h, _⟩ => by subst h; rfl) fun r M' hM ⟨v, hr, hv⟩ => ?_
    subst hr
    obtain ⟨pre, hpre, hpl⟩ := levs_topV (l := lv0 l) (by rw [lv0_len]; exact List.length_pos_iff.2 h0) (by rw [lv0_len]; exact h32)
    have hL := hv.len
    have hls : (levs 32 (l.map leafP)).length = pre.length + 1 := by rw [show l.map leafP = lv0 l from rfl, hpre]; simp
    rw [hls] at hL
    have e1 : ((pre.length + 1 : Nat) : Int) - 1 = (pre.length : Int) := by omega
    obtain ⟨u, ⟨g1, g2⟩, hu⟩ := hv.get (i := pre.length) (lv := [topV (lv0 l)]) (by rw [show l.map leafP = lv0 l from rfl, hpre, List.getElem?_append_right (Nat.le_refl _)]; simp)
    have ix1 := hv.ix (i := (pre.length : Int)) (by omega) (by rw [hls]; omega)
    have g3 := hu.el1 (i := 0) (x := topV (lv0 l)) rfl rfl
    have ix2 := hu.ix (i := 0) (by omega) (by simp)
    have i1 : inK .i64 ((pre.length : Nat) : Int) := i64N (by omega)
    simp only [shs, zts, sos, sls, zss, eqs, sx, sb1, sb2, sb3, sb4, sb5, ↓reduceIte, Nat.reduceAdd, Nat.reduceMul, Nat.reduceDiv, Nat.reduceEqDiff, Nat.reduceLT, Nat.reduceLeDiff, reduceCtorEq, Int.reduceEq, Int.reduceNe, Int.reduceLT, Int.reduceLE, Int.reduceAdd, Int.reduceSub, Int.reduceMul, Int.reduceNeg, Int.reduceToNat, Int.cast_ofNat_Int, Int.natCast_zero, Int.natCast_one, Int.toNat_natCast, Nat.reduceBEq, nzs, hL.1, hL.2, e1, i1, g1, g2, g3.1, g3.2, ix1, ix1.2, ix2, ix2.2, hu.sl]
  · have de : (lvE l = 0) = False := eq_false he
    rw [if_neg he]
    simp only [Proofs.Try.f53, shs, zts, sos, sls, zss, eqs, sx, sb1, sb2, sb3, sb4, sb5, ↓reduceIte, Nat.reduceAdd, Nat.reduceMul, Nat.reduceDiv, Nat.reduceEqDiff, Nat.reduceLT, Nat.reduceLeDiff, reduceCtorEq, Int.reduceEq, Int.reduceNe, Int.reduceLT, Int.reduceLE, Int.reduceAdd, Int.reduceSub, Int.reduceMul, Int.reduceNeg, Int.reduceToNat, Int.cast_ofNat_Int, Int.natCast_zero, Int.natCast_one, Int.toNat_natCast, Nat.reduceBEq]
    refine CallK.pure ⟨rfl, rfl⟩ rfl hC ?_
    simp only [shs, zts, sos, sls, zss, eqs, sx, sb1, sb2, sb3, sb4, sb5, ↓reduceIte, Nat.reduceAdd, Nat.reduceMul, Nat.reduceDiv, Nat.reduceEqDiff, Nat.reduceLT, Nat.reduceLeDiff, reduceCtorEq, Int.reduceEq, Int.reduceNe, Int.reduceLT, Int.reduceLE, Int.reduceAdd, Int.reduceSub, Int.reduceMul, Int.reduceNeg, Int.reduceToNat, Int.cast_ofNat_Int, Int.natCast_zero, Int.natCast_one, Int.toNat_natCast, Nat.reduceBEq, de]

theorem lv0_split {l : List (List UInt8)} {k : Nat} : lv0 l = lv0 (l.take k) ++ lv0 (l.drop k) := by
  unfold lv0
  rw [← List.map_append, List.take_append_drop]
theorem rroot : ∀ (n : Nat) (y : Value) (l : List (List UInt8)) (M : Mem), RowM M y 1 (l.map encS) → l ≠ [] → l.length ≤ n → l.length ≤ 32 → (∀ s ∈ l, s.length ≤ 64) →
    Meets Proofs.Try.prog 57 [.v y] M fun r _ _ => r = .v (.int .i64 (topV (lv0 l) : Int))
  | n, y, l, M, hy, h0, hn, h32, h64 => by
    refine Meets.of_body [0,2,3,6] Proofs.Try.func57 rfl (by kernel_rfl) rfl fun w => ?_
    have hlp := List.length_pos_iff.2 h0
    by_cases h1 : l.length = 1
    · obtain ⟨s, rfl⟩ : ∃ s, l = [s] := by
        match l, h1 with
        | [s], _ => exact ⟨s, rfl⟩
      have g1 := hy.el1 (i := 0) (x := s) rfl rfl
      have i1 := hy.ix (i := 0) (by omega) (by simp)
      have hs := h64 s (by simp)
      have d2 : (((1 + s.length : Nat) : Int) ≤ 9223372036854775807) = True := eq_true (by omega)
      have ht : topV (lv0 [s]) = leafP s := rfl
      rw [ht]
      simp only [Proofs.Try.f57, shs, zts, sos, sls, zss, eqs, sx, sb1, sb2, sb3, sb4, sb5, ↓reduceIte, Nat.reduceAdd, Nat.reduceMul, Nat.reduceDiv, Nat.reduceEqDiff, Nat.reduceLT, Nat.reduceLeDiff, reduceCtorEq, Int.reduceEq, Int.reduceNe, Int.reduceLT, Int.reduceLE, Int.reduceAdd, Int.reduceSub, Int.reduceMul, Int.reduceNeg, Int.reduceToNat, Int.cast_ofNat_Int, Int.natCast_zero, Int.natCast_one, Int.toNat_natCast, Nat.reduceBEq, nzs, hy.len, hy.sl, List.length_map, g1.1, g1.2, i1, i1.2, d2]
      refine CallK.pure ⟨rfl, rfl⟩ rfl (rprint 1073741907 (108 :: s) M (by omega) (by omega) (by simp only [maxLen, List.length_cons]; omega)) ?_
      simp only [shs, zts, sos, sls, zss, eqs, sx, sb1, sb2, sb3, sb4, sb5, ↓reduceIte, Nat.reduceAdd, Nat.reduceMul, Nat.reduceDiv, Nat.reduceEqDiff, Nat.reduceLT, Nat.reduceLeDiff, reduceCtorEq, Int.reduceEq, Int.reduceNe, Int.reduceLT, Int.reduceLE, Int.reduceAdd, Int.reduceSub, Int.reduceMul, Int.reduceNeg, Int.reduceToNat, Int.cast_ofNat_Int, Int.natCast_zero, Int.natCast_one, Int.toNat_natCast, Nat.reduceBEq]
      rfl
    · have d1 : ((l.length : Int) = 1) = False := eq_false (by omega)
      simp only [Proofs.Try.f57, shs, zts, sos, sls, zss, eqs, sx, sb1, sb2, sb3, sb4, sb5, ↓reduceIte, Nat.reduceAdd, Nat.reduceMul, Nat.reduceDiv, Nat.reduceEqDiff, Nat.reduceLT, Nat.reduceLeDiff, reduceCtorEq, Int.reduceEq, Int.reduceNe, Int.reduceLT, Int.reduceLE, Int.reduceAdd, Int.reduceSub, Int.reduceMul, Int.reduceNeg, Int.reduceToNat, Int.cast_ofNat_Int, Int.natCast_zero, Int.natCast_one, Int.toNat_natCast, Nat.reduceBEq, nzs, hy.len, hy.sl, List.length_map, d1]
      refine CallK.pure ⟨rfl, rfl⟩ rfl (span l.length M h32) ?_
      obtain ⟨d, hd, hk, hk1, hk2⟩ := sp_pow l.length (by omega) (by omega)
      rw [hk]
      have hp := Nat.two_pow_pos d
      have hT := topV_split (d := d) (l1 := lv0 (l.take (2 ^ d))) (l2 := lv0 (l.drop (2 ^ d))) (by rw [lv0_len, List.length_take]; omega) (by rw [lv0_len, List.length_drop]; omega) (by rw [lv0_len, List.length_drop]; omega) (by omega)
      rw [← lv0_split] at hT
      have hA := topV_le (lv0_ok (l.take (2 ^ d))) (List.length_pos_iff.1 (by rw [lv0_len, List.length_take]; omega)) (by rw [lv0_len, List.length_take]; omega)
      have hB := topV_le (lv0_ok (l.drop (2 ^ d))) (List.length_pos_iff.1 (by rw [lv0_len, List.length_drop]; omega)) (by rw [lv0_len, List.length_drop]; omega)
      have s1 := hy.sub (lo := 0) (hi := 2 ^ d) (by omega) (by rw [List.length_map]; omega)
      have s2 := hy.sub (lo := 2 ^ d) (hi := l.length) (by omega) (by rw [List.length_map]; omega)
      rw [List.drop_zero, Nat.sub_zero, ← List.map_take] at s1
      rw [← List.map_drop, ← List.map_take, List.take_of_length_le (by rw [List.length_drop]; omega)] at s2
      have r1 := fun M' hM => rroot (n - 1) (subV y 1 0 (2 ^ d)) (l.take (2 ^ d)) M' (s1.le hM) (List.length_pos_iff.1 (by rw [List.length_take]; omega)) (by rw [List.length_take]; omega) (by rw [List.length_take]; omega) (fun s hs => h64 s (List.mem_of_mem_take hs))
      have r2 := fun M' hM => rroot (n - 1) (subV y 1 (2 ^ d) l.length) (l.drop (2 ^ d)) M' (s2.le hM) (List.length_pos_iff.1 (by rw [List.length_drop]; omega)) (by rw [List.length_drop]; omega) (by rw [List.length_drop]; omega) (fun s hs => h64 s (List.mem_of_mem_drop hs))
      have hcap := hy.1.2.2.1
      rw [hy.len, List.length_map] at hcap
      rw [hT]
      generalize 2 ^ d = k at *
      generalize topV (lv0 (l.take k)) = a at *
      generalize topV (lv0 (l.drop k)) = b at *
      simp only [shs, zts, sos, sls, zss, eqs, sx, sb1, sb2, sb3, sb4, sb5, ↓reduceIte, Nat.reduceAdd, Nat.reduceMul, Nat.reduceDiv, Nat.reduceEqDiff, Nat.reduceLT, Nat.reduceLeDiff, reduceCtorEq, Int.reduceEq, Int.reduceNe, Int.reduceLT, Int.reduceLE, Int.reduceAdd, Int.reduceSub, Int.reduceMul, Int.reduceNeg, Int.reduceToNat, Int.cast_ofNat_Int, Int.natCast_zero, Int.natCast_one, Int.toNat_natCast, Nat.reduceBEq, nzs]
      refine DrawK.plan (tk [0, 1, 2, 4, 5, 6] (ones' [3, 7, 8, 9, 10] .done)) (by kernel_rfl) (by kernel_rfl) ?_
      simp only [shs, zts, sos, sls, zss, eqs, sx, sb1, sb2, sb3, sb4, sb5, ↓reduceIte, Nat.reduceAdd, Nat.reduceMul, Nat.reduceDiv, Nat.reduceEqDiff, Nat.reduceLT, Nat.reduceLeDiff, reduceCtorEq, Int.reduceEq, Int.reduceNe, Int.reduceLT, Int.reduceLE, Int.reduceAdd, Int.reduceSub, Int.reduceMul, Int.reduceNeg, Int.reduceToNat, Int.cast_ofNat_Int, Int.natCast_zero, Int.natCast_one, Int.toNat_natCast, Nat.reduceBEq, nzs, se1, se2, tks, hy.len, hy.sl, List.length_map]
      refine ⟨by omega, by omega, CallK.pure ⟨rfl, rfl⟩ rfl (r1 M (Mem.le.refl M)) ?_⟩
      simp only [shs, zts, sos, sls, zss, eqs, sx, sb1, sb2, sb3, sb4, sb5, ↓reduceIte, Nat.reduceAdd, Nat.reduceMul, Nat.reduceDiv, Nat.reduceEqDiff, Nat.reduceLT, Nat.reduceLeDiff, reduceCtorEq, Int.reduceEq, Int.reduceNe, Int.reduceLT, Int.reduceLE, Int.reduceAdd, Int.reduceSub, Int.reduceMul, Int.reduceNeg, Int.reduceToNat, Int.cast_ofNat_Int, Int.natCast_zero, Int.natCast_one, Int.toNat_natCast, Nat.reduceBEq, nzs, se1, se2, tks]
      refine CallK.pure ⟨rfl, rfl⟩ rfl (r2 M (Mem.le.refl M)) ?_
      simp only [shs, zts, sos, sls, zss, eqs, sx, sb1, sb2, sb3, sb4, sb5, ↓reduceIte, Nat.reduceAdd, Nat.reduceMul, Nat.reduceDiv, Nat.reduceEqDiff, Nat.reduceLT, Nat.reduceLeDiff, reduceCtorEq, Int.reduceEq, Int.reduceNe, Int.reduceLT, Int.reduceLE, Int.reduceAdd, Int.reduceSub, Int.reduceMul, Int.reduceNeg, Int.reduceToNat, Int.cast_ofNat_Int, Int.natCast_zero, Int.natCast_one, Int.toNat_natCast, Nat.reduceBEq, nzs, se1, se2, tks]
      refine CallK.pure ⟨rfl, rfl⟩ rfl (rsaid a b M (by omega) (by omega)) ?_
      simp only [shs, zts, sos, sls, zss, eqs, sx, sb1, sb2, sb3, sb4, sb5, ↓reduceIte, Nat.reduceAdd, Nat.reduceMul, Nat.reduceDiv, Nat.reduceEqDiff, Nat.reduceLT, Nat.reduceLeDiff, reduceCtorEq, Int.reduceEq, Int.reduceNe, Int.reduceLT, Int.reduceLE, Int.reduceAdd, Int.reduceSub, Int.reduceMul, Int.reduceNeg, Int.reduceToNat, Int.cast_ofNat_Int, Int.natCast_zero, Int.natCast_one, Int.toNat_natCast, Nat.reduceBEq, nzs, se1, se2, tks]
      refine CallK.pure ⟨rfl, rfl⟩ rfl (rprint 1073741907 (saidN a b) M (by omega) (by omega) (by simp only [maxLen, saidN_len]; omega)) ?_
      simp only [shs, zts, sos, sls, zss, eqs, sx, sb1, sb2, sb3, sb4, sb5, ↓reduceIte, Nat.reduceAdd, Nat.reduceMul, Nat.reduceDiv, Nat.reduceEqDiff, Nat.reduceLT, Nat.reduceLeDiff, reduceCtorEq, Int.reduceEq, Int.reduceNe, Int.reduceLT, Int.reduceLE, Int.reduceAdd, Int.reduceSub, Int.reduceMul, Int.reduceNeg, Int.reduceToNat, Int.cast_ofNat_Int, Int.natCast_zero, Int.natCast_one, Int.toNat_natCast, Nat.reduceBEq, nzs, se1, se2, tks]
      rfl
  termination_by n => n
  decreasing_by all_goals (have := hn; omega)

def prE (l : List (List UInt8)) (i : Int) : Int := if lvE l ≠ 0 then lvE l else if i < 0 ∨ (l.length : Int) ≤ i then 1 else 0
def prL (l : List (List UInt8)) (i : Int) : List (Bool × Int) := if prE l i = 0 then pf 5 (lv0 l) i.toNat else []
theorem stp1_len (l : List Nat) (i : Nat) : (stp1 l i).length ≤ 1 := by unfold stp1; split <;> simp
theorem proof (y : Value) (l : List (List UInt8)) (i : Int) (M : Mem) (hy : RowM M y 1 (l.map encS)) (hl : ∀ s ∈ l, s.length ≤ maxLen) :
    Meets Proofs.Try.prog 54 [.v y, .v (.int .i64 i)] M (RowR (fun t => .tup [t, .v (.int .i64 (prE l i))]) 2 ((prL l i).map encSt)) := by
  refine Meets.of_body [0,1,4,5,6,7,9,10,14,23,25,26,27,28,36] Proofs.Try.func54 rfl (by kernel_rfl) rfl fun w => ?_
  have hC := check y l M hy hl
  by_cases he : lvE l = 0
  · obtain ⟨h0, h32, h64⟩ := lvE_ok he
    have hlp := List.length_pos_iff.2 h0
    rw [he] at hC
    by_cases hi1 : i < 0 ∨ (l.length : Int) ≤ i
    · have hE : prE l i = 1 := by unfold prE; rw [if_neg (by simp [he]), if_pos hi1]
      have hL : prL l i = [] := by unfold prL; rw [if_neg (by omega)]
      rw [hE, hL]
      simp only [Proofs.Try.f54, shs, zts, sos, sls, zss, eqs, sx, sb1, sb2, sb3, sb4, sb5, ↓reduceIte, Nat.reduceAdd, Nat.reduceMul, Nat.reduceDiv, Nat.reduceEqDiff, Nat.reduceLT, Nat.reduceLeDiff, reduceCtorEq, Int.reduceEq, Int.reduceNe, Int.reduceLT, Int.reduceLE, Int.reduceAdd, Int.reduceSub, Int.reduceMul, Int.reduceNeg, Int.reduceToNat, Int.cast_ofNat_Int, Int.natCast_zero, Int.natCast_one, Int.toNat_natCast, Nat.reduceBEq]
      refine CallK.pure ⟨rfl, rfl⟩ rfl hC ?_
      rcases Int.lt_or_le i 0 with h | h
      · have d1 : (i < 0) = True := eq_true h
        simp only [shs, zts, sos, sls, zss, eqs, sx, sb1, sb2, sb3, sb4, sb5, ↓reduceIte, Nat.reduceAdd, Nat.reduceMul, Nat.reduceDiv, Nat.reduceEqDiff, Nat.reduceLT, Nat.reduceLeDiff, reduceCtorEq, Int.reduceEq, Int.reduceNe, Int.reduceLT, Int.reduceLE, Int.reduceAdd, Int.reduceSub, Int.reduceMul, Int.reduceNeg, Int.reduceToNat, Int.cast_ofNat_Int, Int.natCast_zero, Int.natCast_one, Int.toNat_natCast, Nat.reduceBEq, hy.len, hy.sl, List.length_map, d1]
        exact ⟨_, rfl, RowM.nil _ _⟩
      · have d1 : (i < 0) = False := eq_false (by omega)
        have d2 : ((l.length : Int) ≤ i) = True := eq_true (by omega)
        simp only [shs, zts, sos, sls, zss, eqs, sx, sb1, sb2, sb3, sb4, sb5, ↓reduceIte, Nat.reduceAdd, Nat.reduceMul, Nat.reduceDiv, Nat.reduceEqDiff, Nat.reduceLT, Nat.reduceLeDiff, reduceCtorEq, Int.reduceEq, Int.reduceNe, Int.reduceLT, Int.reduceLE, Int.reduceAdd, Int.reduceSub, Int.reduceMul, Int.reduceNeg, Int.reduceToNat, Int.cast_ofNat_Int, Int.natCast_zero, Int.natCast_one, Int.toNat_natCast, Nat.reduceBEq, hy.len, hy.sl, List.length_map, d1, d2]
        exact ⟨_, rfl, RowM.nil _ _⟩
    · have hE : prE l i = 0 := by unfold prE; rw [if_neg (by simp [he]), if_neg hi1]
      obtain ⟨i, rfl⟩ : ∃ k : Nat, i = k := ⟨i.toNat, by omega⟩
      have hP := pfL_levs 32 (lv0 l) i (by rw [lv0_len]; omega) (by rw [lv0_len]; omega)
      rw [show 32 + 1 = 5 + 28 by omega, pf_enough (by rw [lv0_len]; omega) (by rw [lv0_len]; omega)] at hP
      have hL : prL l i = pfL (levs 32 (lv0 l)) i := by unfold prL; rw [if_pos hE, hP, Int.toNat_natCast]
      rw [hE, hL]
      have d1 : ((i : Int) < 0) = False := eq_false (by omega)
      have d2 : ((l.length : Int) ≤ (i : Int)) = False := eq_false (by omega)
      simp only [Proofs.Try.f54, shs, zts, sos, sls, zss, eqs, sx, sb1, sb2, sb3, sb4, sb5, ↓reduceIte, Nat.reduceAdd, Nat.reduceMul, Nat.reduceDiv, Nat.reduceEqDiff, Nat.reduceLT, Nat.reduceLeDiff, reduceCtorEq, Int.reduceEq, Int.reduceNe, Int.reduceLT, Int.reduceLE, Int.reduceAdd, Int.reduceSub, Int.reduceMul, Int.reduceNeg, Int.reduceToNat, Int.cast_ofNat_Int, Int.natCast_zero, Int.natCast_one, Int.toNat_natCast, Nat.reduceBEq]
      refine CallK.pure ⟨rfl, rfl⟩ rfl hC ?_
      simp only [shs, zts, sos, sls, zss, eqs, sx, sb1, sb2, sb3, sb4, sb5, ↓reduceIte, Nat.reduceAdd, Nat.reduceMul, Nat.reduceDiv, Nat.reduceEqDiff, Nat.reduceLT, Nat.reduceLeDiff, reduceCtorEq, Int.reduceEq, Int.reduceNe, Int.reduceLT, Int.reduceLE, Int.reduceAdd, Int.reduceSub, Int.reduceMul, Int.reduceNeg, Int.reduceToNat, Int.cast_ofNat_Int, Int.natCast_zero, Int.natCast_one, Int.toNat_natCast, Nat.reduceBEq, hy.len, hy.sl, List.length_map, d1, d2]
      refine CallK.res rfl rfl (levels y l M hy h0 h32 h64) (fun r M' ⟨v, h, _⟩ => by subst h; rfl) fun r M' hM ⟨v, hr, hv⟩ => ?_
      subst hr
      rw [show l.map leafP = lv0 l from rfl] at hv
      obtain ⟨hvl, hvs⟩ := hv.len
      have hLen : (levs 32 (lv0 l)).length ≤ 33 := by
        obtain ⟨pre, hpre, hpl⟩ := levs_topV (l := lv0 l) (by rw [lv0_len]; exact hlp) (by rw [lv0_len]; exact h32)
        rw [hpre]; simp; omega
      generalize levs 32 (lv0 l) = ls at *
      generalize hc : pfL ls i = c
      simp only [shs, zts, sos, sls, zss, eqs, sx, sb1, sb2, sb3, sb4, sb5, ↓reduceIte, Nat.reduceAdd, Nat.reduceMul, Nat.reduceDiv, Nat.reduceEqDiff, Nat.reduceLT, Nat.reduceLeDiff, reduceCtorEq, Int.reduceEq, Int.reduceNe, Int.reduceLT, Int.reduceLE, Int.reduceAdd, Int.reduceSub, Int.reduceMul, Int.reduceNeg, Int.reduceToNat, Int.cast_ofNat_Int, Int.natCast_zero, Int.natCast_one, Int.toNat_natCast, Nat.reduceBEq, hvl, hvs]
      refine LoopK.nilRow 7 47 2 rfl rfl rfl ?_
      simp only [sx, sb1, sb2, sb3, sb4, sb5, ↓reduceIte, Nat.reduceAdd, Nat.reduceMul, Nat.reduceDiv, Nat.reduceEqDiff, Nat.reduceLT, Nat.reduceLeDiff, reduceCtorEq, Int.reduceEq, Int.reduceNe, Int.reduceLT, Int.reduceLE, Int.reduceAdd, Int.reduceSub, Int.reduceMul, Int.reduceNeg, Int.reduceToNat, Int.cast_ofNat_Int, Int.natCast_zero, Int.natCast_one, Int.toNat_natCast, Nat.reduceBEq]
      refine LoopK.go (X := Nat × Nat × Nat × List (Bool × Int)) (fun x => ([(1, true, .v (.int .i64 (x.2.2.1 : Int))), (7, true, .own 376), (25, true, .v v), (26, true, .v (.int .i64 ls.length)), (27, true, .v (.int .i64 x.2.1))], [(376, .row 2 (x.2.2.2.map encSt))], M'))
        (fun x => ((x.1 + x.2.1 = ls.length ∧ x.2.2.2.length ≤ x.2.1) ∧ x.2.2.1 < 64) ∧ x.2.2.2 ++ pfL (ls.drop x.2.1) x.2.2.1 = c) (fun x => x.1) (ls.length, 0, i, []) ⟨⟨⟨rfl, by simp⟩, by simp only; omega⟩, hc⟩ (Ent.of ?_) ?_
      · simp only [sx, sb1, sb2, sb3, sb4, sb5, ↓reduceIte, Nat.reduceAdd, Nat.reduceMul, Nat.reduceDiv, Nat.reduceEqDiff, Nat.reduceLT, Nat.reduceLeDiff, reduceCtorEq, Int.reduceEq, Int.reduceNe, Int.reduceLT, Int.reduceLE, Int.reduceAdd, Int.reduceSub, Int.reduceMul, Int.reduceNeg, Int.reduceToNat, Int.cast_ofNat_Int, Int.natCast_zero, Int.natCast_one, Int.toNat_natCast, Nat.reduceBEq, List.map_nil]
      rintro ⟨f, j, i, out⟩ ⟨⟨⟨h1, h2⟩, h3⟩, h4⟩
      simp only at h1 h2 h3 h4
      by_cases hj : j < ls.length
      · have c1 : ((j : Int) < (ls.length : Int)) = True := eq_true (by omega)
        obtain ⟨lv, hx, hd⟩ := l_drop_at (l := ls) (i := j) hj
        obtain ⟨u, ⟨g1, g2⟩, hu⟩ := hv.get hx
        have ix1 := hv.ix (i := (j : Int)) (by omega) (by omega)
        have hx1 : i ^^^ 1 < 64 := Nat.xor_lt_two_pow (n := 6) (by omega) (by omega)
        have e2 : (i : Int).tdiv 2 = ((i / 2 : Nat) : Int) := td2 i
        rw [hd, pfL, stp1] at h4
        by_cases hk : i ^^^ 1 < lv.length
        · have c2 : (((i ^^^ 1 : Nat) : Int) < (lv.length : Int)) = True := eq_true (by omega)
          rw [if_pos hk, List.singleton_append] at h4
          obtain ⟨z, hz, _⟩ := l_drop_at (l := lv) (i := i ^^^ 1) hk
          have hz' : lv.getD (i ^^^ 1) 0 = z := by rw [List.getD_eq_getElem?_getD, hz]; rfl
          have g3 := hu.el1 hz rfl
          have ix2 := hu.ix (i := ((i ^^^ 1 : Nat) : Int)) (by omega) (by rw [List.length_map]; omega)
          rw [hz'] at h4
          have hdc : decide (((i ^^^ 1 : Nat) : Int) < (i : Int)) = decide (i ^^^ 1 < i) := by apply decide_eq_decide.2; omega
          simp only [shs, zts, sos, sls, zss, eqs, sx, sb1, sb2, sb3, sb4, sb5, ↓reduceIte, Nat.reduceAdd, Nat.reduceMul, Nat.reduceDiv, Nat.reduceEqDiff, Nat.reduceLT, Nat.reduceLeDiff, reduceCtorEq, Int.reduceEq, Int.reduceNe, Int.reduceLT, Int.reduceLE, Int.reduceAdd, Int.reduceSub, Int.reduceMul, Int.reduceNeg, Int.reduceToNat, Int.cast_ofNat_Int, Int.natCast_zero, Int.natCast_one, Int.toNat_natCast, Nat.reduceBEq, nzs, c1, g1, g2, ix1, ix1.2, hvl, hvs, hu.one, hu.len, hu.sl, List.length_map, show (Int.toNat 1) = 1 from rfl, c2, g3.1, g3.2, ix2, ix2.2, e2, inK, lo, hi, hdc]
          refine ⟨by omega, ⟨by omega, by omega⟩, by omega, by omega, (f - 1, j + 1, i / 2, out ++ [(decide (i ^^^ 1 < i), (z : Int))]), ⟨⟨⟨⟨by simp only; omega, by simp only [List.length_append, List.length_singleton]; omega⟩, by simp only; omega⟩, by simpa using h4⟩, by simp only; omega⟩, Ent.of ?_⟩
          simp only [sx, sb1, sb2, sb3, sb4, sb5, ↓reduceIte, Nat.reduceAdd, Nat.reduceMul, Nat.reduceDiv, Nat.reduceEqDiff, Nat.reduceLT, Nat.reduceLeDiff, reduceCtorEq, Int.reduceEq, Int.reduceNe, Int.reduceLT, Int.reduceLE, Int.reduceAdd, Int.reduceSub, Int.reduceMul, Int.reduceNeg, Int.reduceToNat, Int.cast_ofNat_Int, Int.natCast_zero, Int.natCast_one, Int.toNat_natCast, Nat.reduceBEq, Int.natCast_add, List.map_append, encSt]
        · have c2 : (((i ^^^ 1 : Nat) : Int) < (lv.length : Int)) = False := eq_false (by omega)
          rw [if_neg hk, List.nil_append] at h4
          simp only [shs, zts, sos, sls, zss, eqs, sx, sb1, sb2, sb3, sb4, sb5, ↓reduceIte, Nat.reduceAdd, Nat.reduceMul, Nat.reduceDiv, Nat.reduceEqDiff, Nat.reduceLT, Nat.reduceLeDiff, reduceCtorEq, Int.reduceEq, Int.reduceNe, Int.reduceLT, Int.reduceLE, Int.reduceAdd, Int.reduceSub, Int.reduceMul, Int.reduceNeg, Int.reduceToNat, Int.cast_ofNat_Int, Int.natCast_zero, Int.natCast_one, Int.toNat_natCast, Nat.reduceBEq, nzs, c1, g1, g2, ix1, ix1.2, hvl, hvs, hu.one, hu.len, hu.sl, List.length_map, show (Int.toNat 1) = 1 from rfl, c2, e2, inK, lo, hi]
          refine ⟨by omega, by omega, by omega, (f - 1, j + 1, i / 2, out), ⟨⟨⟨⟨by simp only; omega, by simp only; omega⟩, by simp only; omega⟩, h4⟩, by simp only; omega⟩, Ent.of ?_⟩
          simp only [sx, sb1, sb2, sb3, sb4, sb5, ↓reduceIte, Nat.reduceAdd, Nat.reduceMul, Nat.reduceDiv, Nat.reduceEqDiff, Nat.reduceLT, Nat.reduceLeDiff, reduceCtorEq, Int.reduceEq, Int.reduceNe, Int.reduceLT, Int.reduceLE, Int.reduceAdd, Int.reduceSub, Int.reduceMul, Int.reduceNeg, Int.reduceToNat, Int.cast_ofNat_Int, Int.natCast_zero, Int.natCast_one, Int.toNat_natCast, Nat.reduceBEq, Int.natCast_add]
      · have c1 : ((j : Int) < (ls.length : Int)) = False := eq_false (by omega)
        have hd : ls.drop j = [] := List.drop_eq_nil_of_le (by omega)
        rw [hd, pfL, List.append_nil] at h4
        subst h4
        simp only [shs, zts, sos, sls, zss, eqs, sx, sb1, sb2, sb3, sb4, sb5, ↓reduceIte, Nat.reduceAdd, Nat.reduceMul, Nat.reduceDiv, Nat.reduceEqDiff, Nat.reduceLT, Nat.reduceLeDiff, reduceCtorEq, Int.reduceEq, Int.reduceNe, Int.reduceLT, Int.reduceLE, Int.reduceAdd, Int.reduceSub, Int.reduceMul, Int.reduceNeg, Int.reduceToNat, Int.cast_ofNat_Int, Int.natCast_zero, Int.natCast_one, Int.toNat_natCast, Nat.reduceBEq, c1]
        exact ⟨.own 376, rfl, rfl⟩
  · have de : (lvE l = 0) = False := eq_false he
    have hE : prE l i = lvE l := by unfold prE; rw [if_pos he]
    have hL : prL l i = [] := by unfold prL; rw [if_neg (by omega)]
    rw [hE, hL]
    simp only [Proofs.Try.f54, shs, zts, sos, sls, zss, eqs, sx, sb1, sb2, sb3, sb4, sb5, ↓reduceIte, Nat.reduceAdd, Nat.reduceMul, Nat.reduceDiv, Nat.reduceEqDiff, Nat.reduceLT, Nat.reduceLeDiff, reduceCtorEq, Int.reduceEq, Int.reduceNe, Int.reduceLT, Int.reduceLE, Int.reduceAdd, Int.reduceSub, Int.reduceMul, Int.reduceNeg, Int.reduceToNat, Int.cast_ofNat_Int, Int.natCast_zero, Int.natCast_one, Int.toNat_natCast, Nat.reduceBEq]
    refine CallK.pure ⟨rfl, rfl⟩ rfl hC ?_
    simp only [shs, zts, sos, sls, zss, eqs, sx, sb1, sb2, sb3, sb4, sb5, ↓reduceIte, Nat.reduceAdd, Nat.reduceMul, Nat.reduceDiv, Nat.reduceEqDiff, Nat.reduceLT, Nat.reduceLeDiff, reduceCtorEq, Int.reduceEq, Int.reduceNe, Int.reduceLT, Int.reduceLE, Int.reduceAdd, Int.reduceSub, Int.reduceMul, Int.reduceNeg, Int.reduceToNat, Int.cast_ofNat_Int, Int.natCast_zero, Int.natCast_one, Int.toNat_natCast, Nat.reduceBEq, de]
    exact ⟨_, rfl, RowM.nil _ _⟩

theorem rproof1 (y : Value) (s : List UInt8) (i : Int) (M : Mem) (hy : RowM M y 1 ([s].map encS)) :
    Meets Proofs.Try.prog 59 [.v y, .v (.int .i64 i)] M fun r _ _ => r = .v (.slice none 0 0) := by
  refine Meets.of_body [0,1,4,5,8,14] Proofs.Try.func59 rfl (by kernel_rfl) rfl fun w => ?_
  have hl := hy.len
  rw [List.length_map, List.length_singleton] at hl
  have d1 : (((1 : Nat) : Int) = 1) = True := eq_true rfl
  simp only [Proofs.Try.f59, shs, zts, sos, sls, zss, eqs, sx, sb1, sb2, sb3, sb4, sb5, ↓reduceIte, Nat.reduceAdd, Nat.reduceMul, Nat.reduceDiv, Nat.reduceEqDiff, Nat.reduceLT, Nat.reduceLeDiff, reduceCtorEq, Int.reduceEq, Int.reduceNe, Int.reduceLT, Int.reduceLE, Int.reduceAdd, Int.reduceSub, Int.reduceMul, Int.reduceNeg, Int.reduceToNat, Int.cast_ofNat_Int, Int.natCast_zero, Int.natCast_one, Int.toNat_natCast, Nat.reduceBEq, nzs, hl, hy.sl, List.length_map, List.length_singleton, d1]
theorem pf_len : ∀ (d : Nat) (l : List Nat) (i : Nat), (pf d l i).length ≤ d
  | 0, _, _ => Nat.le_refl _
  | d + 1, l, i => by
    have h1 := stp1_len l i
    have h2 := pf_len d (upL l) (i / 2)
    simp only [pf, List.length_append]
    omega
theorem rproof2 : ∀ (n : Nat) (y : Value) (l : List (List UInt8)) (i : Nat) (M : Mem), RowM M y 1 (l.map encS) → 1 ≤ l.length → l.length ≤ n → l.length ≤ 32 → (∀ s ∈ l, s.length ≤ 64) → i < l.length →
    Meets Proofs.Try.prog 59 [.v y, .v (.int .i64 (i : Int))] M (OwnR (fun s => s) 2 ((pf 5 (lv0 l) i).map encSt))
  | n, y, l, i, M, hy, h2, hn, h32, h64, hi => by
    by_cases hl1 : l.length = 1
    · obtain ⟨s, rfl⟩ : ∃ s, l = [s] := by
        match l, hl1 with
        | [s], _ => exact ⟨s, rfl⟩
      have e0 : i = 0 := by simpa using hi
      subst e0
      rw [show pf 5 (lv0 [s]) 0 = [] from pf_one _ 5]
      exact Meets.nilOwn (rproof1 y s _ M hy)
    refine Meets.of_body [0,1,4,5,8,14] Proofs.Try.func59 rfl (by kernel_rfl) rfl fun w => ?_
    have d1 : ((l.length : Int) = 1) = False := eq_false (by omega)
    simp only [Proofs.Try.f59, shs, zts, sos, sls, zss, eqs, sx, sb1, sb2, sb3, sb4, sb5, ↓reduceIte, Nat.reduceAdd, Nat.reduceMul, Nat.reduceDiv, Nat.reduceEqDiff, Nat.reduceLT, Nat.reduceLeDiff, reduceCtorEq, Int.reduceEq, Int.reduceNe, Int.reduceLT, Int.reduceLE, Int.reduceAdd, Int.reduceSub, Int.reduceMul, Int.reduceNeg, Int.reduceToNat, Int.cast_ofNat_Int, Int.natCast_zero, Int.natCast_one, Int.toNat_natCast, Nat.reduceBEq, nzs, hy.len, hy.sl, List.length_map, d1]
    refine CallK.pure ⟨rfl, rfl⟩ rfl (span l.length M h32) ?_
    obtain ⟨d, hd, hk, hk1, hk2⟩ := sp_pow l.length (by omega) (by omega)
    rw [hk]
    have hp := Nat.two_pow_pos d
    have hS1 := fun h => pf_split1 (d := d) (l1 := lv0 (l.take (2 ^ d))) (l2 := lv0 (l.drop (2 ^ d))) (i := i) (by rw [lv0_len, List.length_take]; omega) (by rw [lv0_len, List.length_drop]; omega) (by rw [lv0_len, List.length_drop]; omega) (by omega) h
    have hS2 := fun h h' => pf_split2 (d := d) (l1 := lv0 (l.take (2 ^ d))) (l2 := lv0 (l.drop (2 ^ d))) (i := i) (by rw [lv0_len, List.length_take]; omega) (by rw [lv0_len, List.length_drop]; omega) (by omega) h h'
    rw [← lv0_split] at hS1 hS2
    rw [lv0_len, List.length_drop] at hS2
    have s1 := hy.sub (lo := 0) (hi := 2 ^ d) (by omega) (by rw [List.length_map]; omega)
    have s2 := hy.sub (lo := 2 ^ d) (hi := l.length) (by omega) (by rw [List.length_map]; omega)
    rw [List.drop_zero, Nat.sub_zero, ← List.map_take] at s1
    rw [← List.map_drop, ← List.map_take, List.take_of_length_le (by rw [List.length_drop]; omega)] at s2
    have ht1 : (l.take (2 ^ d)).length = 2 ^ d := by rw [List.length_take]; omega
    have ht2 : (l.drop (2 ^ d)).length = l.length - 2 ^ d := List.length_drop
    have r1 := fun M' (hM : M.le M') => rroot n (subV y 1 0 (2 ^ d)) (l.take (2 ^ d)) M' (s1.le hM) (List.length_pos_iff.1 (by omega)) (by omega) (by omega) (fun s hs => h64 s (List.mem_of_mem_take hs))
    have r2 := fun M' (hM : M.le M') => rroot n (subV y 1 (2 ^ d) l.length) (l.drop (2 ^ d)) M' (s2.le hM) (List.length_pos_iff.1 (by omega)) (by omega) (by omega) (fun s hs => h64 s (List.mem_of_mem_drop hs))
    have hcap := hy.1.2.2.1
    rw [hy.len, List.length_map] at hcap
    generalize 2 ^ d = k at *
    by_cases hik : i < k
    · have c1 : ((i : Int) < (k : Int)) = True := eq_true (by omega)
      rw [hS1 hik]
      have hpl := pf_len 5 (lv0 (l.take k)) i
      simp only [shs, zts, sos, sls, zss, eqs, sx, sb1, sb2, sb3, sb4, sb5, ↓reduceIte, Nat.reduceAdd, Nat.reduceMul, Nat.reduceDiv, Nat.reduceEqDiff, Nat.reduceLT, Nat.reduceLeDiff, reduceCtorEq, Int.reduceEq, Int.reduceNe, Int.reduceLT, Int.reduceLE, Int.reduceAdd, Int.reduceSub, Int.reduceMul, Int.reduceNeg, Int.reduceToNat, Int.cast_ofNat_Int, Int.natCast_zero, Int.natCast_one, Int.toNat_natCast, Nat.reduceBEq, nzs, c1]
      refine DrawK.plan (tk [0, 1, 2, 3, 5, 6, 7] (ones' [4, 8, 9, 10, 11, 12] .done)) (by kernel_rfl) (by kernel_rfl) ?_
      simp only [shs, zts, sos, sls, zss, eqs, sx, sb1, sb2, sb3, sb4, sb5, ↓reduceIte, Nat.reduceAdd, Nat.reduceMul, Nat.reduceDiv, Nat.reduceEqDiff, Nat.reduceLT, Nat.reduceLeDiff, reduceCtorEq, Int.reduceEq, Int.reduceNe, Int.reduceLT, Int.reduceLE, Int.reduceAdd, Int.reduceSub, Int.reduceMul, Int.reduceNeg, Int.reduceToNat, Int.cast_ofNat_Int, Int.natCast_zero, Int.natCast_one, Int.toNat_natCast, Nat.reduceBEq, nzs, se1, se2, tks, hy.len, hy.sl, List.length_map]
      refine ⟨by omega, by omega, CallK.own Ctx.id rfl rfl (rproof2 (n - 1) _ (l.take k) i M s1 (by omega) (by omega) (by omega) (fun s hs => h64 s (List.mem_of_mem_take hs)) (by omega)) rfl fun M2 hM2 => ⟨⟨trivial, hM2⟩, ?_⟩⟩
      simp only [shs, zts, sos, sls, zss, eqs, sx, sb1, sb2, sb3, sb4, sb5, ↓reduceIte, Nat.reduceAdd, Nat.reduceMul, Nat.reduceDiv, Nat.reduceEqDiff, Nat.reduceLT, Nat.reduceLeDiff, reduceCtorEq, Int.reduceEq, Int.reduceNe, Int.reduceLT, Int.reduceLE, Int.reduceAdd, Int.reduceSub, Int.reduceMul, Int.reduceNeg, Int.reduceToNat, Int.cast_ofNat_Int, Int.natCast_zero, Int.natCast_one, Int.toNat_natCast, Nat.reduceBEq, nzs, se1, se2, tks]
      refine CallK.pure ⟨rfl, rfl⟩ rfl (r2 M2 hM2) ?_
      simp only [shs, zts, sos, sls, zss, eqs, sx, sb1, sb2, sb3, sb4, sb5, ↓reduceIte, Nat.reduceAdd, Nat.reduceMul, Nat.reduceDiv, Nat.reduceEqDiff, Nat.reduceLT, Nat.reduceLeDiff, reduceCtorEq, Int.reduceEq, Int.reduceNe, Int.reduceLT, Int.reduceLE, Int.reduceAdd, Int.reduceSub, Int.reduceMul, Int.reduceNeg, Int.reduceToNat, Int.cast_ofNat_Int, Int.natCast_zero, Int.natCast_one, Int.toNat_natCast, Nat.reduceBEq, nzs, se1, se2, tks, hM2, List.length_map]
      exact ⟨⟨by omega, by omega⟩, 208, rfl, by simp only [sx, sb1, sb2, sb3, sb4, sb5, ↓reduceIte, Nat.reduceAdd, Nat.reduceMul, Nat.reduceDiv, Nat.reduceEqDiff, Nat.reduceLT, Nat.reduceLeDiff, reduceCtorEq, Int.reduceEq, Int.reduceNe, Int.reduceLT, Int.reduceLE, Int.reduceAdd, Int.reduceSub, Int.reduceMul, Int.reduceNeg, Int.reduceToNat, Int.cast_ofNat_Int, Int.natCast_zero, Int.natCast_one, Int.toNat_natCast, Nat.reduceBEq, List.map_append]; rfl⟩
    · have c1 : ((i : Int) < (k : Int)) = False := eq_false (by omega)
      have e1 : (i : Int) - (k : Int) = ((i - k : Nat) : Int) := by omega
      rw [hS2 (by omega) (by omega)]
      have hpl := pf_len 5 (lv0 (l.drop k)) (i - k)
      have i1 : inK .i64 ((i - k : Nat) : Int) := i64N (by omega)
      simp only [shs, zts, sos, sls, zss, eqs, sx, sb1, sb2, sb3, sb4, sb5, ↓reduceIte, Nat.reduceAdd, Nat.reduceMul, Nat.reduceDiv, Nat.reduceEqDiff, Nat.reduceLT, Nat.reduceLeDiff, reduceCtorEq, Int.reduceEq, Int.reduceNe, Int.reduceLT, Int.reduceLE, Int.reduceAdd, Int.reduceSub, Int.reduceMul, Int.reduceNeg, Int.reduceToNat, Int.cast_ofNat_Int, Int.natCast_zero, Int.natCast_one, Int.toNat_natCast, Nat.reduceBEq, nzs, c1]
      refine DrawK.plan (tk [0, 1, 2, 3, 4, 5, 7, 8, 9] (ones' [6, 10, 11, 12, 13, 14] .done)) (by kernel_rfl) (by kernel_rfl) ?_
      simp only [shs, zts, sos, sls, zss, eqs, sx, sb1, sb2, sb3, sb4, sb5, ↓reduceIte, Nat.reduceAdd, Nat.reduceMul, Nat.reduceDiv, Nat.reduceEqDiff, Nat.reduceLT, Nat.reduceLeDiff, reduceCtorEq, Int.reduceEq, Int.reduceNe, Int.reduceLT, Int.reduceLE, Int.reduceAdd, Int.reduceSub, Int.reduceMul, Int.reduceNeg, Int.reduceToNat, Int.cast_ofNat_Int, Int.natCast_zero, Int.natCast_one, Int.toNat_natCast, Nat.reduceBEq, nzs, se1, se2, tks, hy.len, hy.sl, List.length_map, e1, i1]
      refine ⟨by omega, by omega, CallK.own Ctx.id rfl rfl (rproof2 (n - 1) _ (l.drop k) (i - k) M s2 (by omega) (by omega) (by omega) (fun s hs => h64 s (List.mem_of_mem_drop hs)) (by omega)) rfl fun M2 hM2 => ⟨⟨trivial, hM2⟩, ?_⟩⟩
      simp only [shs, zts, sos, sls, zss, eqs, sx, sb1, sb2, sb3, sb4, sb5, ↓reduceIte, Nat.reduceAdd, Nat.reduceMul, Nat.reduceDiv, Nat.reduceEqDiff, Nat.reduceLT, Nat.reduceLeDiff, reduceCtorEq, Int.reduceEq, Int.reduceNe, Int.reduceLT, Int.reduceLE, Int.reduceAdd, Int.reduceSub, Int.reduceMul, Int.reduceNeg, Int.reduceToNat, Int.cast_ofNat_Int, Int.natCast_zero, Int.natCast_one, Int.toNat_natCast, Nat.reduceBEq, nzs, se1, se2, tks]
      refine CallK.pure ⟨rfl, rfl⟩ rfl (r1 M2 hM2) ?_
      simp only [shs, zts, sos, sls, zss, eqs, sx, sb1, sb2, sb3, sb4, sb5, ↓reduceIte, Nat.reduceAdd, Nat.reduceMul, Nat.reduceDiv, Nat.reduceEqDiff, Nat.reduceLT, Nat.reduceLeDiff, reduceCtorEq, Int.reduceEq, Int.reduceNe, Int.reduceLT, Int.reduceLE, Int.reduceAdd, Int.reduceSub, Int.reduceMul, Int.reduceNeg, Int.reduceToNat, Int.cast_ofNat_Int, Int.natCast_zero, Int.natCast_one, Int.toNat_natCast, Nat.reduceBEq, nzs, se1, se2, tks, hM2, List.length_map]
      exact ⟨⟨by omega, by omega⟩, _, rfl, by simp only [sx, sb1, sb2, sb3, sb4, sb5, ↓reduceIte, Nat.reduceAdd, Nat.reduceMul, Nat.reduceDiv, Nat.reduceEqDiff, Nat.reduceLT, Nat.reduceLeDiff, reduceCtorEq, Int.reduceEq, Int.reduceNe, Int.reduceLT, Int.reduceLE, Int.reduceAdd, Int.reduceSub, Int.reduceMul, Int.reduceNeg, Int.reduceToNat, Int.cast_ofNat_Int, Int.natCast_zero, Int.natCast_one, Int.toNat_natCast, Nat.reduceBEq, List.map_append]; rfl⟩
  termination_by n => n
  decreasing_by all_goals (have := hn; omega)

theorem says (y : Value) (l : List (List UInt8)) (i : Int) (M : Mem) (hy : RowM M y 1 (l.map encS)) (hl : ∀ s ∈ l, s.length ≤ maxLen) (hi' : inK .i64 i) :
    Meets Proofs.Try.prog 12 [.v y, .v (.int .i64 i)] M fun r _ _ => r = .v (.bool true) := by
  refine Meets.of_body [0,1,4,5,6,7,8,9,30,32,57,65] Proofs.Try.func12 rfl (by kernel_rfl) rfl fun w => ?_
  simp only [Proofs.Try.f12, shs, zts, sos, sls, zss, eqs, sx, sb1, sb2, sb3, sb4, sb5, ↓reduceIte, Nat.reduceAdd, Nat.reduceMul, Nat.reduceDiv, Nat.reduceEqDiff, Nat.reduceLT, Nat.reduceLeDiff, reduceCtorEq, Int.reduceEq, Int.reduceNe, Int.reduceLT, Int.reduceLE, Int.reduceAdd, Int.reduceSub, Int.reduceMul, Int.reduceNeg, Int.reduceToNat, Int.cast_ofNat_Int, Int.natCast_zero, Int.natCast_one, Int.toNat_natCast, Nat.reduceBEq]
  refine CallK.pure ⟨rfl, rfl⟩ rfl (root y l M hy hl) ?_
  simp only [shs, zts, sos, sls, zss, eqs, sx, sb1, sb2, sb3, sb4, sb5, ↓reduceIte, Nat.reduceAdd, Nat.reduceMul, Nat.reduceDiv, Nat.reduceEqDiff, Nat.reduceLT, Nat.reduceLeDiff, reduceCtorEq, Int.reduceEq, Int.reduceNe, Int.reduceLT, Int.reduceLE, Int.reduceAdd, Int.reduceSub, Int.reduceMul, Int.reduceNeg, Int.reduceToNat, Int.cast_ofNat_Int, Int.natCast_zero, Int.natCast_one, Int.toNat_natCast, Nat.reduceBEq]
  refine CallK.row (Ctx.fst _) rfl rfl (proof y l i M hy hl) fun v1 M1 hM1 hv1 => ?_
  have hy1 := hy.le hM1
  simp only [shs, zts, sos, sls, zss, eqs, sx, sb1, sb2, sb3, sb4, sb5, ↓reduceIte, Nat.reduceAdd, Nat.reduceMul, Nat.reduceDiv, Nat.reduceEqDiff, Nat.reduceLT, Nat.reduceLeDiff, reduceCtorEq, Int.reduceEq, Int.reduceNe, Int.reduceLT, Int.reduceLE, Int.reduceAdd, Int.reduceSub, Int.reduceMul, Int.reduceNeg, Int.reduceToNat, Int.cast_ofNat_Int, Int.natCast_zero, Int.natCast_one, Int.toNat_natCast, Nat.reduceBEq]
  refine CallK.pure ⟨rfl, rfl⟩ rfl (rleaves y l M1 hy1 hl) ?_
  simp only [shs, zts, sos, sls, zss, eqs, sx, sb1, sb2, sb3, sb4, sb5, ↓reduceIte, Nat.reduceAdd, Nat.reduceMul, Nat.reduceDiv, Nat.reduceEqDiff, Nat.reduceLT, Nat.reduceLeDiff, reduceCtorEq, Int.reduceEq, Int.reduceNe, Int.reduceLT, Int.reduceLE, Int.reduceAdd, Int.reduceSub, Int.reduceMul, Int.reduceNeg, Int.reduceToNat, Int.cast_ofNat_Int, Int.natCast_zero, Int.natCast_one, Int.toNat_natCast, Nat.reduceBEq]
  refine CallK.pure ⟨rfl, rfl⟩ rfl (check y l M1 hy1 hl) ?_
  simp only [shs, zts, sos, sls, zss, eqs, sx, sb1, sb2, sb3, sb4, sb5, ↓reduceIte, Nat.reduceAdd, Nat.reduceMul, Nat.reduceDiv, Nat.reduceEqDiff, Nat.reduceLT, Nat.reduceLeDiff, reduceCtorEq, Int.reduceEq, Int.reduceNe, Int.reduceLT, Int.reduceLE, Int.reduceAdd, Int.reduceSub, Int.reduceMul, Int.reduceNeg, Int.reduceToNat, Int.cast_ofNat_Int, Int.natCast_zero, Int.natCast_one, Int.toNat_natCast, Nat.reduceBEq]
  refine CallK.pure ⟨rfl, rfl⟩ rfl (check (.slice none 0 0) [] M1 (RowM.nil _ _) (fun s hs => by simp at hs)) ?_
  have e4 : lvE [] = 4 := rfl
  simp only [shs, zts, sos, sls, zss, eqs, sx, sb1, sb2, sb3, sb4, sb5, ↓reduceIte, Nat.reduceAdd, Nat.reduceMul, Nat.reduceDiv, Nat.reduceEqDiff, Nat.reduceLT, Nat.reduceLeDiff, reduceCtorEq, Int.reduceEq, Int.reduceNe, Int.reduceLT, Int.reduceLE, Int.reduceAdd, Int.reduceSub, Int.reduceMul, Int.reduceNeg, Int.reduceToNat, Int.cast_ofNat_Int, Int.natCast_zero, Int.natCast_one, Int.toNat_natCast, Nat.reduceBEq, e4, hv1.len, hv1.sl, List.length_map, hy.len, hy.sl]
  by_cases he : lvE l = 0
  · obtain ⟨h0, h32, h64⟩ := lvE_ok he
    have hR := rroot 32 y l M1 hy1 h0 h32 h32 h64
    have hlp := List.length_pos_iff.2 h0
    rw [rootE, if_pos he, he]
    simp only [shs, zts, sos, sls, zss, eqs, sx, sb1, sb2, sb3, sb4, sb5, ↓reduceIte, Nat.reduceAdd, Nat.reduceMul, Nat.reduceDiv, Nat.reduceEqDiff, Nat.reduceLT, Nat.reduceLeDiff, reduceCtorEq, Int.reduceEq, Int.reduceNe, Int.reduceLT, Int.reduceLE, Int.reduceAdd, Int.reduceSub, Int.reduceMul, Int.reduceNeg, Int.reduceToNat, Int.cast_ofNat_Int, Int.natCast_zero, Int.natCast_one, Int.toNat_natCast, Nat.reduceBEq]
    refine CallK.pure ⟨rfl, rfl⟩ rfl hR ?_
    simp only [shs, zts, sos, sls, zss, eqs, sx, sb1, sb2, sb3, sb4, sb5, ↓reduceIte, Nat.reduceAdd, Nat.reduceMul, Nat.reduceDiv, Nat.reduceEqDiff, Nat.reduceLT, Nat.reduceLeDiff, reduceCtorEq, Int.reduceEq, Int.reduceNe, Int.reduceLT, Int.reduceLE, Int.reduceAdd, Int.reduceSub, Int.reduceMul, Int.reduceNeg, Int.reduceToNat, Int.cast_ofNat_Int, Int.natCast_zero, Int.natCast_one, Int.toNat_natCast, Nat.reduceBEq, hv1.len, hv1.sl, List.length_map, hy.len, hy.sl]
    by_cases hi1 : i < 0 ∨ (l.length : Int) ≤ i
    · have hE : prE l i = 1 := by unfold prE; rw [if_neg (by simp [he]), if_pos hi1]
      have hL : prL l i = [] := by unfold prL; rw [if_neg (by omega)]
      rw [hE, hL]
      exact ⟨fun _ => rfl, fun h => by omega⟩
    · have hE : prE l i = 0 := by unfold prE; rw [if_neg (by simp [he]), if_neg hi1]
      obtain ⟨i, rfl⟩ : ∃ k : Nat, i = k := ⟨i.toNat, by omega⟩
      have hL : prL l i = pf 5 (lv0 l) i := by unfold prL; rw [if_pos hE, Int.toNat_natCast]
      have hP : Meets Proofs.Try.prog 59 [.v y, .v (.int .i64 (i : Int))] M1 (RowR (fun s => s) 2 ((pf 5 (lv0 l) i).map encSt)) :=
        (rproof2 32 y l i M1 hy1 hlp h32 h32 h64 (by omega)).mono fun s H M' _ ⟨k, e, hk⟩ => ⟨.own k, e, hk⟩
      rw [hL] at hv1
      rw [hE, hL]
      refine ⟨fun h => by omega, fun _ => ⟨fun _ => ⟨rfl, ?_⟩, fun h => (h rfl).elim⟩⟩
      refine CallK.row Ctx.id rfl rfl hP fun v2 M2 hM2 hv2 => ?_
      simp only [shs, zts, sos, sls, zss, eqs, sx, sb1, sb2, sb3, sb4, sb5, ↓reduceIte, Nat.reduceAdd, Nat.reduceMul, Nat.reduceDiv, Nat.reduceEqDiff, Nat.reduceLT, Nat.reduceLeDiff, reduceCtorEq, Int.reduceEq, Int.reduceNe, Int.reduceLT, Int.reduceLE, Int.reduceAdd, Int.reduceSub, Int.reduceMul, Int.reduceNeg, Int.reduceToNat, Int.cast_ofNat_Int, Int.natCast_zero, Int.natCast_one, Int.toNat_natCast, Nat.reduceBEq]
      refine CallK.pure ⟨rfl, rfl⟩ rfl (eqSt v1 v2 _ _ M2 (hv1.le hM2) hv2) ?_
      simp only [shs, zts, sos, sls, zss, eqs, sx, sb1, sb2, sb3, sb4, sb5, ↓reduceIte, Nat.reduceAdd, Nat.reduceMul, Nat.reduceDiv, Nat.reduceEqDiff, Nat.reduceLT, Nat.reduceLeDiff, reduceCtorEq, Int.reduceEq, Int.reduceNe, Int.reduceLT, Int.reduceLE, Int.reduceAdd, Int.reduceSub, Int.reduceMul, Int.reduceNeg, Int.reduceToNat, Int.cast_ofNat_Int, Int.natCast_zero, Int.natCast_one, Int.toNat_natCast, Nat.reduceBEq]
  · have de : (lvE l = 0) = False := eq_false he
    have hE : prE l i = lvE l := by unfold prE; rw [if_pos he]
    have hL : prL l i = [] := by unfold prL; rw [if_neg (by omega)]
    have hR : rootE l = 0 := if_neg he
    simp only [shs, zts, sos, sls, zss, eqs, sx, sb1, sb2, sb3, sb4, sb5, ↓reduceIte, Nat.reduceAdd, Nat.reduceMul, Nat.reduceDiv, Nat.reduceEqDiff, Nat.reduceLT, Nat.reduceLeDiff, reduceCtorEq, Int.reduceEq, Int.reduceNe, Int.reduceLT, Int.reduceLE, Int.reduceAdd, Int.reduceSub, Int.reduceMul, Int.reduceNeg, Int.reduceToNat, Int.cast_ofNat_Int, Int.natCast_zero, Int.natCast_one, Int.toNat_natCast, Nat.reduceBEq, de, hE, hL, hR, List.length_nil]
theorem law (a : Value × List (List UInt8)) (i : Int) (M : Mem) (h : RowM M a.1 1 (a.2.map fun s => [.string ⟨s.toArray⟩]) ∧ ∀ s ∈ a.2, s.length ≤ maxLen) (hi' : inK .i64 i) :
    Meets Proofs.Try.prog 12 [.v a.1, .v (.int .i64 i)] M fun r _ _ => r = .v (.bool true) := says a.1 a.2 i M h.1 h.2 hi'
end Go.X.Ts
