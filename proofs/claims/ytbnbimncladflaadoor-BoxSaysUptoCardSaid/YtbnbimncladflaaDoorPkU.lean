/- Bits as tokens: what pack.Tokens returns. Conditions: none. -/
import Derived.Test.YtbnbimncladflaaDoorPkT
set_option linter.unusedSimpArgs false
set_option linter.unusedVariables false
set_option maxHeartbeats 4000000
set_option maxRecDepth 20000
namespace Go.X.Pb
open Go Go.X Go.RowKit Go.X.Pl Go.X.St Go.X.Pol Go.X.Gm Go.X.Pk Go.X.Lz

theorem Meets.nilOr {P : Program} {f : FuncId} {args : List SV} {sz : Nat} {M : Mem} {T : SV → SV} {es : List (List Value)} (hT : Ctx T) (h : Meets P f args M (fun r H M' => (r = T (.v (.slice none 0 0)) ∧ es = []) ∨ OwnR T sz es r H M')) : Meets P f args M (OwnR T sz es) := by
  refine ⟨h.1, fun w hw => (h.2 w hw).mono ?_⟩
  rintro e w' ⟨s, H', M', ν, h1, hh, h2⟩
  rcases h2 with ⟨rfl, rfl⟩ | h2
  · refine ⟨T (.own 0), [(0, .row sz [])], M', fun _ => .slice none 0 0, ?_, ⟨fun p hp => ?_, by simp [fp, blk?], by simp [fp, blk?], hh.mem, hh.below, hh.le0, hh.fresh, fun _ => rfl⟩, 0, rfl, rfl⟩
    · rw [h1, hT (.v (.slice none 0 0)) (.own 0) ν (fun _ => .slice none 0 0) rfl]
    · simp only [List.mem_singleton] at hp
      subst hp
      exact ⟨fun e he => by simp at he, .inl ⟨rfl, rfl⟩⟩
  · exact ⟨s, H', M', ν, h1, hh, h2⟩
def tokT (n : Int) (t : SV) : SV := .tup [t, .v (.int .i64 n)]
theorem tokens (s : List UInt8) (M : Mem) (hs : s.length ≤ 8388608) :
    Meets Proofs.Tryd.prog 23 [.v (.string ⟨s.toArray⟩)] M (OwnR (tokT (toks s).2) 3 ((toks s).1.map Lz.encT)) := by
  refine Meets.nilOr (Ctx.fst _) ?_
  refine Meets.of_body [0,2,3,4,5,6,7,9,12,14,22,37] Proofs.Tryd.func23 rfl (by kernel_rfl) rfl fun w => ?_
  generalize hc : toks s = c at *
  unfold toks at hc
  simp only [Proofs.Tryd.f23, shs, zts, sos, sls, zss, eqs, sx, sb1, sb2, sb3, sb4, sb5, sb6, sb7, ↓reduceIte, Nat.reduceAdd, Nat.reduceMul, Nat.reduceDiv, Nat.reduceEqDiff, Nat.reduceLT, Nat.reduceLeDiff, reduceCtorEq, Int.reduceEq, Int.reduceNe, Int.reduceLT, Int.reduceLE, Int.reduceAdd, Int.reduceSub, Int.reduceMul, Int.reduceNeg, Int.reduceToNat, Int.cast_ofNat_Int, Int.natCast_zero, Int.natCast_one, Int.toNat_natCast, Nat.reduceBEq, nzs]
  refine CallK.pure ⟨rfl, rfl⟩ rfl (bitsW s M (by omega)) ?_
  by_cases hA : (s.all fun b => b == 48 || b == 49) = false
  · rw [if_pos hA] at hc
    subst hc
    simp only [shs, zts, sos, sls, zss, eqs, sx, sb1, sb2, sb3, sb4, sb5, sb6, sb7, ↓reduceIte, Nat.reduceAdd, Nat.reduceMul, Nat.reduceDiv, Nat.reduceEqDiff, Nat.reduceLT, Nat.reduceLeDiff, reduceCtorEq, Int.reduceEq, Int.reduceNe, Int.reduceLT, Int.reduceLE, Int.reduceAdd, Int.reduceSub, Int.reduceMul, Int.reduceNeg, Int.reduceToNat, Int.cast_ofNat_Int, Int.natCast_zero, Int.natCast_one, Int.toNat_natCast, Nat.reduceBEq, nzs, hA]
    exact .inl rfl
  rw [if_neg hA] at hc
  have hA' : (s.all fun b => b == 48 || b == 49) = true := by cases h : (s.all fun b => b == 48 || b == 49) <;> simp_all
  simp only [shs, zts, sos, sls, zss, eqs, sx, sb1, sb2, sb3, sb4, sb5, sb6, sb7, ↓reduceIte, Nat.reduceAdd, Nat.reduceMul, Nat.reduceDiv, Nat.reduceEqDiff, Nat.reduceLT, Nat.reduceLeDiff, reduceCtorEq, Int.reduceEq, Int.reduceNe, Int.reduceLT, Int.reduceLE, Int.reduceAdd, Int.reduceSub, Int.reduceMul, Int.reduceNeg, Int.reduceToNat, Int.cast_ofNat_Int, Int.natCast_zero, Int.natCast_one, Int.toNat_natCast, Nat.reduceBEq, nzs, hA']
  refine LoopK.nilRow 4 27 3 rfl rfl rfl ?_
  refine LoopK.go (X := Nat × List Tk × List UInt8) (fun y => ([(0, true, .v (.string ⟨y.2.2.toArray⟩)), (2, true, .v (.slice none 0 0)), (3, true, .v (.int .i64 0)), (4, true, .own 216)], [(216, .row 3 (y.2.1.map Lz.encT))], M))
    (fun y => (y.2.2.length ≤ y.1 ∧ (∀ b ∈ y.2.2, b = 48 ∨ b = 49)) ∧ y.2.1.length + y.2.2.length ≤ 8388608 ∧ run y.1 y.2.1 y.2.2 = run s.length [] s) (fun y => y.1) (s.length, [], s) ⟨⟨Nat.le_refl _, all_of hA' fun _ h => h⟩, by simpa using hs, rfl⟩ (Ent.of ?_) ?_
  · simp only [sx, sb1, sb2, sb3, sb4, sb5, sb6, sb7, ↓reduceIte, Nat.reduceAdd, Nat.reduceMul, Nat.reduceDiv, Nat.reduceEqDiff, Nat.reduceLT, Nat.reduceLeDiff, reduceCtorEq, Int.reduceEq, Int.reduceNe, Int.reduceLT, Int.reduceLE, Int.reduceAdd, Int.reduceSub, Int.reduceMul, Int.reduceNeg, Int.reduceToNat, Int.cast_ofNat_Int, Int.natCast_zero, Int.natCast_one, Int.toNat_natCast, Nat.reduceBEq, List.map_nil]
  rintro ⟨f, o, u⟩ ⟨⟨n1, n2⟩, n3, n4⟩
  simp only at n1 n2 n3 n4
  by_cases hu : u = []
  · subst hu
    have hrun : run s.length [] s = (o, 0) := by
      rw [← n4]
      cases f <;> simp [run]
    rw [hrun] at hc
    simp only [ne_eq, not_true, if_false] at hc
    simp only [shs, zts, sos, sls, zss, eqs, sx, sb1, sb2, sb3, sb4, sb5, sb6, sb7, ↓reduceIte, Nat.reduceAdd, Nat.reduceMul, Nat.reduceDiv, Nat.reduceEqDiff, Nat.reduceLT, Nat.reduceLeDiff, reduceCtorEq, Int.reduceEq, Int.reduceNe, Int.reduceLT, Int.reduceLE, Int.reduceAdd, Int.reduceSub, Int.reduceMul, Int.reduceNeg, Int.reduceToNat, Int.cast_ofNat_Int, Int.natCast_zero, Int.natCast_one, Int.toNat_natCast, Nat.reduceBEq, nzs]
    refine CallK.lend (k := 216) rfl rfl rfl (fun _ => rfl) (fun v M' _ hv => expand v o M' hv) ?_
    by_cases he : (exp o []).2 = 0
    · rw [if_neg (fun e => e he)] at hc
      subst hc
      have c0 := eq_true he
      simp only [shs, zts, sos, sls, zss, eqs, sx, sb1, sb2, sb3, sb4, sb5, sb6, sb7, ↓reduceIte, Nat.reduceAdd, Nat.reduceMul, Nat.reduceDiv, Nat.reduceEqDiff, Nat.reduceLT, Nat.reduceLeDiff, reduceCtorEq, Int.reduceEq, Int.reduceNe, Int.reduceLT, Int.reduceLE, Int.reduceAdd, Int.reduceSub, Int.reduceMul, Int.reduceNeg, Int.reduceToNat, Int.cast_ofNat_Int, Int.natCast_zero, Int.natCast_one, Int.toNat_natCast, Nat.reduceBEq, nzs, he]
      exact .inr ⟨216, rfl, rfl⟩
    · rw [if_pos he] at hc
      subst hc
      have c0 := eq_false he
      simp only [shs, zts, sos, sls, zss, eqs, sx, sb1, sb2, sb3, sb4, sb5, sb6, sb7, ↓reduceIte, Nat.reduceAdd, Nat.reduceMul, Nat.reduceDiv, Nat.reduceEqDiff, Nat.reduceLT, Nat.reduceLeDiff, reduceCtorEq, Int.reduceEq, Int.reduceNe, Int.reduceLT, Int.reduceLE, Int.reduceAdd, Int.reduceSub, Int.reduceMul, Int.reduceNeg, Int.reduceToNat, Int.cast_ofNat_Int, Int.natCast_zero, Int.natCast_one, Int.toNat_natCast, Nat.reduceBEq, nzs, c0]
      exact .inl rfl
  · have d1 := eq_false hu
    simp only [shs, zts, sos, sls, zss, eqs, sx, sb1, sb2, sb3, sb4, sb5, sb6, sb7, ↓reduceIte, Nat.reduceAdd, Nat.reduceMul, Nat.reduceDiv, Nat.reduceEqDiff, Nat.reduceLT, Nat.reduceLeDiff, reduceCtorEq, Int.reduceEq, Int.reduceNe, Int.reduceLT, Int.reduceLE, Int.reduceAdd, Int.reduceSub, Int.reduceMul, Int.reduceNeg, Int.reduceToNat, Int.cast_ofNat_Int, Int.natCast_zero, Int.natCast_one, Int.toNat_natCast, Nat.reduceBEq, nzs, d1]
    refine CallK.pure ⟨rfl, rfl⟩ rfl (token u M (by omega) hu n2) ?_
    obtain ⟨f', rfl⟩ : ∃ f', f = f' + 1 := ⟨f - 1, by have := List.length_pos_iff.2 hu; omega⟩
    rw [run, if_neg hu] at n4
    by_cases he : (tkOf u).2.2 = 0
    rotate_left
    · rw [if_pos he] at n4
      rw [← n4] at hc
      simp only [ne_eq, he, not_false_eq_true, if_true] at hc
      subst hc
      have c0 := eq_false he
      simp only [shs, zts, sos, sls, zss, eqs, sx, sb1, sb2, sb3, sb4, sb5, sb6, sb7, ↓reduceIte, Nat.reduceAdd, Nat.reduceMul, Nat.reduceDiv, Nat.reduceEqDiff, Nat.reduceLT, Nat.reduceLeDiff, reduceCtorEq, Int.reduceEq, Int.reduceNe, Int.reduceLT, Int.reduceLE, Int.reduceAdd, Int.reduceSub, Int.reduceMul, Int.reduceNeg, Int.reduceToNat, Int.cast_ofNat_Int, Int.natCast_zero, Int.natCast_one, Int.toNat_natCast, Nat.reduceBEq, nzs, tkR, tkV, c0]
      exact .inl rfl
    rw [if_neg (fun e => e he)] at n4
    obtain ⟨t, m, ht, m1, m2⟩ := tkOf_ok hu he
    rw [ht] at n4 ⊢
    simp only [Int.toNat_natCast] at n4
    have et : List.take (u.length - m) (u.drop m) = u.drop m := List.take_of_length_le (by rw [List.length_drop]; omega)
    simp only [shs, zts, sos, sls, zss, eqs, sx, sb1, sb2, sb3, sb4, sb5, sb6, sb7, ↓reduceIte, Nat.reduceAdd, Nat.reduceMul, Nat.reduceDiv, Nat.reduceEqDiff, Nat.reduceLT, Nat.reduceLeDiff, reduceCtorEq, Int.reduceEq, Int.reduceNe, Int.reduceLT, Int.reduceLE, Int.reduceAdd, Int.reduceSub, Int.reduceMul, Int.reduceNeg, Int.reduceToNat, Int.cast_ofNat_Int, Int.natCast_zero, Int.natCast_one, Int.toNat_natCast, Nat.reduceBEq, nzs, tkR, tkV, et, List.length_map]
    refine ⟨by omega, by omega, (f', o ++ [t], u.drop m), ⟨⟨⟨by simp only [List.length_drop]; omega, fun b hb => n2 b (List.mem_of_mem_drop hb)⟩, by simp only [List.length_drop, List.length_append, List.length_singleton]; omega, n4⟩, by simp only; omega⟩, Ent.of ?_⟩
    simp only [sx, sb1, sb2, sb3, sb4, sb5, sb6, sb7, ↓reduceIte, Nat.reduceAdd, Nat.reduceMul, Nat.reduceDiv, Nat.reduceEqDiff, Nat.reduceLT, Nat.reduceLeDiff, reduceCtorEq, Int.reduceEq, Int.reduceNe, Int.reduceLT, Int.reduceLE, Int.reduceAdd, Int.reduceSub, Int.reduceMul, Int.reduceNeg, Int.reduceToNat, Int.cast_ofNat_Int, Int.natCast_zero, Int.natCast_one, Int.toNat_natCast, Nat.reduceBEq, List.map_append, List.map_cons, List.map_nil, Lz.encT]
end Go.X.Pb
