/- Bits as tokens: what pack.Tokens and woolref.Tokens return. Conditions: none. -/
import Derived.Test.YtbnbimncladflaaDoorPkB
set_option linter.unusedSimpArgs false
set_option linter.unusedVariables false
set_option maxHeartbeats 4000000
set_option maxRecDepth 20000
namespace Go.X.Pb
open Go Go.X Go.RowKit Go.X.Pl Go.X.St Go.X.Pol Go.X.Gm Go.X.Pk Go.X.Lz

def z3 : Tk := (0, 0, 0)
/-- the token that bits begin with, how many it takes, the error -/
def tkOf (s : List UInt8) : Tk × Int × Int :=
  if s[0]? = some 48 then (if s.length < 9 then (z3, 0, 7) else ((0, 0, (val ((s.drop 1).take 8) 0 : Int)), 9, 0)) else
    if (rdG (s.drop 1)).2.2 ≠ 0 then (z3, 0, (rdG (s.drop 1)).2.2) else
    if (rdG (s.drop (1 + (rdG (s.drop 1)).2.1).toNat)).2.2 ≠ 0 then (z3, 0, (rdG (s.drop (1 + (rdG (s.drop 1)).2.1).toNat)).2.2) else
      (((rdG (s.drop 1)).1, (rdG (s.drop (1 + (rdG (s.drop 1)).2.1).toNat)).1, 0), 1 + (rdG (s.drop 1)).2.1 + (rdG (s.drop (1 + (rdG (s.drop 1)).2.1).toNat)).2.1, 0)
def tkR (x : Tk × Int × Int) : SV := .tup [tkV x.1, .v (.int .i64 x.2.1), .v (.int .i64 x.2.2)]
theorem token (s : List UInt8) (M : Mem) (hs : s.length ≤ 9223372036854775807) (h0 : s ≠ []) (hA : ∀ b ∈ s, b = 48 ∨ b = 49) :
    Meets Proofs.Tryd.prog 39 [.v (.string ⟨s.toArray⟩)] M fun r _ _ => r = tkR (tkOf s) := by
  refine Meets.of_body [0,2,3,4,5,6,7,8,9,10,11,14,17,20,41,54] Proofs.Tryd.func39 rfl (by kernel_rfl) rfl fun w => ?_
  generalize hc : tkOf s = c
  unfold tkOf at hc
  obtain ⟨x, t, rfl⟩ := List.exists_cons_of_ne_nil h0
  have e0 : strIx (x :: t) 0 = ((x.toNat : Nat) : Int) := rfl
  have cl : (0 < (((x :: t).length : Nat) : Int)) = True := eq_true (by rw [List.length_cons]; omega)
  by_cases hx : x = 48
  · rw [if_pos (show (x :: t)[0]? = some 48 by simp [hx])] at hc
    have cx := eq_true hx
    by_cases h9 : (x :: t).length < 9
    · rw [if_pos h9] at hc
      subst hc
      have c9 : (((t.length + 1 : Nat) : Int) < 9) = True := eq_true (by rw [List.length_cons] at h9; omega)
      simp only [Proofs.Tryd.f39, shs, zts, sos, sls, zss, eqs, sx, sb1, sb2, sb3, sb4, sb5, sb6, sb7, ↓reduceIte, Nat.reduceAdd, Nat.reduceMul, Nat.reduceDiv, Nat.reduceEqDiff, Nat.reduceLT, Nat.reduceLeDiff, reduceCtorEq, Int.reduceEq, Int.reduceNe, Int.reduceLT, Int.reduceLE, Int.reduceAdd, Int.reduceSub, Int.reduceMul, Int.reduceNeg, Int.reduceToNat, Int.cast_ofNat_Int, Int.natCast_zero, Int.natCast_one, Int.toNat_natCast, Nat.reduceBEq, nzs, e0, Gm.eq48, cx, List.length_cons, c9, tkR, tkV, z3]
      omega
    · rw [if_neg h9] at hc
      subst hc
      have c9 : (((t.length + 1 : Nat) : Int) < 9) = False := eq_false (by rw [List.length_cons] at h9; omega)
      rw [List.length_cons] at h9
      have hdt : (x :: t).drop 1 = t := rfl
      rw [hdt]
      generalize hv : val (t.take 8) 0 = V
      simp only [Proofs.Tryd.f39, shs, zts, sos, sls, zss, eqs, sx, sb1, sb2, sb3, sb4, sb5, sb6, sb7, ↓reduceIte, Nat.reduceAdd, Nat.reduceMul, Nat.reduceDiv, Nat.reduceEqDiff, Nat.reduceLT, Nat.reduceLeDiff, reduceCtorEq, Int.reduceEq, Int.reduceNe, Int.reduceLT, Int.reduceLE, Int.reduceAdd, Int.reduceSub, Int.reduceMul, Int.reduceNeg, Int.reduceToNat, Int.cast_ofNat_Int, Int.natCast_zero, Int.natCast_one, Int.toNat_natCast, Nat.reduceBEq, nzs, e0, Gm.eq48, cx, List.length_cons, c9, tkR, tkV, z3]
      refine ⟨by omega, ?_⟩
      refine LoopK.go (X := Nat × Nat × Nat) (fun y => ([(0, true, .v (.string ⟨(x :: t).toArray⟩)), (2, true, .ptr 16 0 0 0), (3, true, .v (.int .i64 0)), (4, true, .v (.int .i64 0)), (5, true, .v (.int .i64 (y.2.2 : Int))), (6, true, .v (.int .i64 ((y.2.1 + 1 : Nat) : Int)))], [(16, PO.box [.v (.int .i64 0), .v (.int .i64 0), .v (.int .i64 0)] none)], M))
        (fun y => (y.1 + y.2.1 = 8 ∧ y.2.2 < 2 ^ y.2.1) ∧ val ((t.take 8).drop y.2.1) y.2.2 = V) (fun y => y.1) (8, 0, 0) ⟨⟨rfl, Nat.one_pos⟩, hv⟩ (Ent.of ?_) ?_
      · simp only [sx, sb1, sb2, sb3, sb4, sb5, sb6, sb7, ↓reduceIte, Nat.reduceAdd, Nat.reduceMul, Nat.reduceDiv, Nat.reduceEqDiff, Nat.reduceLT, Nat.reduceLeDiff, reduceCtorEq, Int.reduceEq, Int.reduceNe, Int.reduceLT, Int.reduceLE, Int.reduceAdd, Int.reduceSub, Int.reduceMul, Int.reduceNeg, Int.reduceToNat, Int.cast_ofNat_Int, Int.natCast_zero, Int.natCast_one, Int.toNat_natCast, Nat.reduceBEq, Nat.zero_add, Int.natCast_zero, Int.natCast_one]
      rintro ⟨f, k, n⟩ ⟨⟨n1, n2⟩, n3⟩
      simp only at n1 n2 n3
      by_cases hk : k < 8
      · have d1 : ((((k + 1 : Nat) : Int)) < 9) = True := eq_true (by omega)
        obtain ⟨b, hb, hd⟩ := l_drop_at (l := t.take 8) (i := k) (by rw [List.length_take]; omega)
        have hb' : t[k]? = some b := by rw [List.getElem?_take, if_pos hk] at hb; exact hb
        have hx1 : (x :: t)[k + 1]? = some b := by rw [List.getElem?_cons_succ]; exact hb'
        have e1 := strIx_at hx1
        have hb2 : b.toNat = 48 ∨ b.toNat = 49 := by
          rcases hA b (List.mem_of_getElem? hx1) with rfl | rfl
          · exact .inl rfl
          · exact .inr rfl
        have e2 : ((b.toNat : Nat) : Int) - 48 = ((b.toNat - 48 : Nat) : Int) := by omega
        rw [hd] at n3
        simp only [val, List.foldl_cons] at n3
        have hp : 2 ^ k ≤ 2 ^ 61 := Nat.pow_le_pow_right (by decide) (by omega)
        have hps : 2 ^ (k + 1) = 2 * 2 ^ k := by rw [Nat.pow_succ]; omega
        simp only [shs, zts, sos, sls, zss, eqs, sx, sb1, sb2, sb3, sb4, sb5, sb6, sb7, ↓reduceIte, Nat.reduceAdd, Nat.reduceMul, Nat.reduceDiv, Nat.reduceEqDiff, Nat.reduceLT, Nat.reduceLeDiff, reduceCtorEq, Int.reduceEq, Int.reduceNe, Int.reduceLT, Int.reduceLE, Int.reduceAdd, Int.reduceSub, Int.reduceMul, Int.reduceNeg, Int.reduceToNat, Int.cast_ofNat_Int, Int.natCast_zero, Int.natCast_one, Int.toNat_natCast, Nat.reduceBEq, nzs, d1, inK, lo, hi, e1, e2, iw (show b.toNat - 48 < 9223372036854775808 by omega), List.length_cons]
        refine ⟨by omega, by omega, by omega, by omega, by omega, (f - 1, k + 1, 2 * n + (b.toNat - 48)), ⟨⟨⟨by simp only; omega, by simp only; omega⟩, n3⟩, by simp only; omega⟩, Ent.of ?_⟩
        simp only [sx, sb1, sb2, sb3, sb4, sb5, sb6, sb7, ↓reduceIte, Nat.reduceAdd, Nat.reduceMul, Nat.reduceDiv, Nat.reduceEqDiff, Nat.reduceLT, Nat.reduceLeDiff, reduceCtorEq, Int.reduceEq, Int.reduceNe, Int.reduceLT, Int.reduceLE, Int.reduceAdd, Int.reduceSub, Int.reduceMul, Int.reduceNeg, Int.reduceToNat, Int.cast_ofNat_Int, Int.natCast_zero, Int.natCast_one, Int.toNat_natCast, Nat.reduceBEq, Int.natCast_add, Int.natCast_mul, Int.natCast_one]
      · have d1 : ((((k + 1 : Nat) : Int)) < 9) = False := eq_false (by omega)
        rw [List.drop_eq_nil_of_le (by rw [List.length_take]; omega)] at n3
        simp only [val, List.foldl_nil] at n3
        subst n3
        simp only [shs, zts, sos, sls, zss, eqs, sx, sb1, sb2, sb3, sb4, sb5, sb6, sb7, ↓reduceIte, Nat.reduceAdd, Nat.reduceMul, Nat.reduceDiv, Nat.reduceEqDiff, Nat.reduceLT, Nat.reduceLeDiff, reduceCtorEq, Int.reduceEq, Int.reduceNe, Int.reduceLT, Int.reduceLE, Int.reduceAdd, Int.reduceSub, Int.reduceMul, Int.reduceNeg, Int.reduceToNat, Int.cast_ofNat_Int, Int.natCast_zero, Int.natCast_one, Int.toNat_natCast, Nat.reduceBEq, nzs, d1]
  · rw [if_neg (show ¬ (x :: t)[0]? = some 48 by simp [hx])] at hc
    have cx := eq_false hx
    have hdt : (x :: t).drop 1 = t := rfl
    have ht : t.length + 1 ≤ 9223372036854775807 := by rw [List.length_cons] at hs; exact hs
    have et : List.take (t.length + 1 - 1) t = t := List.take_of_length_le (by omega)
    rw [hdt] at hc
    simp only [Proofs.Tryd.f39, shs, zts, sos, sls, zss, eqs, sx, sb1, sb2, sb3, sb4, sb5, sb6, sb7, ↓reduceIte, Nat.reduceAdd, Nat.reduceMul, Nat.reduceDiv, Nat.reduceEqDiff, Nat.reduceLT, Nat.reduceLeDiff, reduceCtorEq, Int.reduceEq, Int.reduceNe, Int.reduceLT, Int.reduceLE, Int.reduceAdd, Int.reduceSub, Int.reduceMul, Int.reduceNeg, Int.reduceToNat, Int.cast_ofNat_Int, Int.natCast_zero, Int.natCast_one, Int.toNat_natCast, Nat.reduceBEq, nzs, e0, Gm.eq48, cx, List.length_cons, et]
    refine ⟨by omega, by omega, CallK.pure ⟨rfl, rfl⟩ rfl (readGW t M (by omega)) ?_⟩
    by_cases he : (rdG t).2.2 = 0
    rotate_left
    · rw [if_pos he] at hc
      subst hc
      have c0 := eq_false he
      simp only [shs, zts, sos, sls, zss, eqs, sx, sb1, sb2, sb3, sb4, sb5, sb6, sb7, ↓reduceIte, Nat.reduceAdd, Nat.reduceMul, Nat.reduceDiv, Nat.reduceEqDiff, Nat.reduceLT, Nat.reduceLeDiff, reduceCtorEq, Int.reduceEq, Int.reduceNe, Int.reduceLT, Int.reduceLE, Int.reduceAdd, Int.reduceSub, Int.reduceMul, Int.reduceNeg, Int.reduceToNat, Int.cast_ofNat_Int, Int.natCast_zero, Int.natCast_one, Int.toNat_natCast, Nat.reduceBEq, nzs, tup3, c0, tkR, tkV, z3]
    rw [if_neg (fun e => e he)] at hc
    obtain ⟨hA1, ⟨hz1, hz2⟩, k, hk, hk1, hk2⟩ := rdG_ok he
    rw [hk] at hc ⊢
    simp only at hc
    generalize zn t = z at *
    have e2 : (1 + ((2 * z + 1 : Nat) : Int)).toNat = 2 * z + 1 + 1 := by omega
    have hdt2 : (x :: t).drop (2 * z + 1 + 1) = t.drop (2 * z + 1) := rfl
    rw [e2, hdt2] at hc
    have ez : 1 + ((2 * z + 1 : Nat) : Int) = ((2 * z + 1 + 1 : Nat) : Int) := by omega
    have et2 : List.take (t.length + 1 - (2 * z + 1 + 1)) (List.drop (2 * z + 1) t) = t.drop (2 * z + 1) := List.take_of_length_le (by rw [List.length_drop]; omega)
    have hl2 : (t.drop (2 * z + 1)).length ≤ t.length := by rw [List.length_drop]; omega
    simp only [shs, zts, sos, sls, zss, eqs, sx, sb1, sb2, sb3, sb4, sb5, sb6, sb7, ↓reduceIte, Nat.reduceAdd, Nat.reduceMul, Nat.reduceDiv, Nat.reduceEqDiff, Nat.reduceLT, Nat.reduceLeDiff, reduceCtorEq, Int.reduceEq, Int.reduceNe, Int.reduceLT, Int.reduceLE, Int.reduceAdd, Int.reduceSub, Int.reduceMul, Int.reduceNeg, Int.reduceToNat, Int.cast_ofNat_Int, Int.natCast_zero, Int.natCast_one, Int.toNat_natCast, Nat.reduceBEq, nzs, tup3, ez, et2, inK, lo, hi]
    refine ⟨by omega, by omega, CallK.pure ⟨rfl, rfl⟩ rfl (readGW (t.drop (2 * z + 1)) M (by omega)) ?_⟩
    have hdl : (t.drop (2 * z + 1)).length = t.length - (2 * z + 1) := List.length_drop
    generalize t.drop (2 * z + 1) = u at *
    by_cases hf : (rdG u).2.2 = 0
    rotate_left
    · rw [if_pos hf] at hc
      subst hc
      have c0 := eq_false hf
      simp only [shs, zts, sos, sls, zss, eqs, sx, sb1, sb2, sb3, sb4, sb5, sb6, sb7, ↓reduceIte, Nat.reduceAdd, Nat.reduceMul, Nat.reduceDiv, Nat.reduceEqDiff, Nat.reduceLT, Nat.reduceLeDiff, reduceCtorEq, Int.reduceEq, Int.reduceNe, Int.reduceLT, Int.reduceLE, Int.reduceAdd, Int.reduceSub, Int.reduceMul, Int.reduceNeg, Int.reduceToNat, Int.cast_ofNat_Int, Int.natCast_zero, Int.natCast_one, Int.toNat_natCast, Nat.reduceBEq, nzs, tup3, c0, tkR, tkV, z3]
    rw [if_neg (fun e => e hf)] at hc
    obtain ⟨hB1, ⟨hy1, hy2⟩, j, hj, hj1, hj2⟩ := rdG_ok hf
    rw [hj] at hc ⊢
    simp only at hc
    generalize zn u = y at *
    subst hc
    simp only [shs, zts, sos, sls, zss, eqs, sx, sb1, sb2, sb3, sb4, sb5, sb6, sb7, ↓reduceIte, Nat.reduceAdd, Nat.reduceMul, Nat.reduceDiv, Nat.reduceEqDiff, Nat.reduceLT, Nat.reduceLeDiff, reduceCtorEq, Int.reduceEq, Int.reduceNe, Int.reduceLT, Int.reduceLE, Int.reduceAdd, Int.reduceSub, Int.reduceMul, Int.reduceNeg, Int.reduceToNat, Int.cast_ofNat_Int, Int.natCast_zero, Int.natCast_one, Int.toNat_natCast, Nat.reduceBEq, nzs, tup3, tkR, tkV, ez, inK, lo, hi]
    exact ⟨by omega, by omega⟩
theorem tkOf_ok {s : List UInt8} (h0 : s ≠ []) (h : (tkOf s).2.2 = 0) : ∃ (t : Tk) (u : Nat), tkOf s = (t, (u : Int), 0) ∧ 1 ≤ u ∧ u ≤ s.length := by
  have hl : 0 < s.length := List.length_pos_iff.2 h0
  unfold tkOf at h ⊢
  split at h
  · rename_i c1
    rw [if_pos c1]
    split at h
    · cases h
    · rename_i c2
      rw [if_neg c2]
      exact ⟨_, 9, rfl, by omega, by omega⟩
  · rename_i c1
    rw [if_neg c1]
    split at h
    · exact absurd h (by assumption)
    · rename_i c2
      rw [if_neg c2]
      split at h
      · exact absurd h (by assumption)
      · rename_i c3
        rw [if_neg c3]
        obtain ⟨_, ⟨_, a2⟩, k, hk, _, _⟩ := rdG_ok (Decidable.of_not_not c2)
        obtain ⟨_, ⟨_, b2⟩, j, hj, _, _⟩ := rdG_ok (Decidable.of_not_not c3)
        rw [hk] at hj b2 ⊢
        simp only at hj b2 ⊢
        have e1 : (1 + ((2 * zn (s.drop 1) + 1 : Nat) : Int)).toNat = 2 * zn (s.drop 1) + 1 + 1 := by omega
        rw [e1] at hj b2 ⊢
        rw [hj]
        rw [List.length_drop] at a2 b2
        exact ⟨_, 2 * zn (s.drop 1) + 1 + 1 + (2 * zn (s.drop (2 * zn (s.drop 1) + 1 + 1)) + 1), by congr 2; simp only; omega, by omega, by omega⟩
/-- tokens off bits: the tokens so far, the bits left -/
def run : Nat → List Tk → List UInt8 → List Tk × Int
  | 0, o, _ => (o, 0)
  | n + 1, o, s => if s = [] then (o, 0) else if (tkOf s).2.2 ≠ 0 then ([], (tkOf s).2.2) else run n (o ++ [(tkOf s).1]) (s.drop (tkOf s).2.1.toNat)
def toks (s : List UInt8) : List Tk × Int :=
  if (s.all fun b => b == 48 || b == 49) = false then ([], 3) else
    if (run s.length [] s).2 ≠ 0 then ([], (run s.length [] s).2) else
    if (exp (run s.length [] s).1 []).2 ≠ 0 then ([], (exp (run s.length [] s).1 []).2) else ((run s.length [] s).1, 0)
end Go.X.Pb
