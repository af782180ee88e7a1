/- tree.Clash, woolref.Clash. Conditions: none. -/
import Derived.Test.YtkmbglbjpbdldaaClash3
set_option linter.unusedSimpArgs false
set_option linter.unusedVariables false
set_option maxHeartbeats 4000000
set_option maxRecDepth 20000
namespace Go.X.Ts
open Go Go.X Go.X.Pol Go.X.Pl Go.X.Rp Go.X.Pd Go.X.Md Go.X.Mv Go.X.Pt Go.X.Tv

def strV (s : List UInt8) : SV := .v (.string ⟨s.toArray⟩)
/-- what woolref.Clash hands back -/
def ans2 : Option (List UInt8 × List UInt8) → SV
  | some (s, t) => .tup [strV s, strV t]
  | none => .tup [strV [], strV []]
theorem srL_at {a b : List (List UInt8)} {i : Nat} {x y : List UInt8} (hx : a.drop i = x :: a.drop (i + 1)) (hy : b.drop i = y :: b.drop (i + 1)) : srL (a.drop i) (b.drop i) = if x = y then srL (a.drop (i + 1)) (b.drop (i + 1)) else some (108 :: x, 108 :: y) := by
  rw [hx, hy, srL]
theorem take_min {α : Type} (l : List α) (m k j : Nat) (h : j = m + k) : (l.drop m).take (min l.length j - m) = (l.drop m).take k := by
  subst h
  rcases Nat.lt_or_ge l.length (m + k) with h | h
  · rw [Nat.min_eq_left (by omega), List.take_of_length_le (by rw [List.length_drop]; omega), List.take_of_length_le (by rw [List.length_drop]; omega)]
  · rw [Nat.min_eq_right h, Nat.add_sub_cancel_left]
theorem rclash (ya yb : Value) (a b : List (List UInt8)) (M : Mem) (ha : RowM M ya 1 (a.map encS)) (hb : RowM M yb 1 (b.map encS)) (h0 : 1 ≤ a.length) (hab : a.length = b.length) (h32 : a.length ≤ 32) (ha64 : ∀ s ∈ a, s.length ≤ 64) (hb64 : ∀ s ∈ b, s.length ≤ 64) :
    Meets Proofs.Try.prog 33 [.v ya, .v yb] M (fun r _ _ => r = ans2 (clP a b)) := by
  refine Meets.of_body [0,1,4,5,6,7,8,9,10,11,12,14,20,39,64,68,69,70,80] Proofs.Try.func33 rfl (by kernel_rfl) rfl fun w => ?_
  have hla := lv0_len a
  have hlb := lv0_len b
  generalize hR : clP a b = R
  unfold clP at hR
  simp only [Proofs.Try.f33, shs, zts, sos, sls, zss, eqs, sx, sb1, sb2, sb3, sb4, sb5, ↓reduceIte, Nat.reduceAdd, Nat.reduceMul, Nat.reduceDiv, Nat.reduceEqDiff, Nat.reduceLT, Nat.reduceLeDiff, reduceCtorEq, Int.reduceEq, Int.reduceNe, Int.reduceLT, Int.reduceLE, Int.reduceAdd, Int.reduceSub, Int.reduceMul, Int.reduceNeg, Int.reduceToNat, Int.cast_ofNat_Int, Int.natCast_zero, Int.natCast_one, Int.toNat_natCast, Nat.reduceBEq]
  refine LoopK.go (X := Nat) (fun x => ([(0, true, .v ya), (1, true, .v yb), (4, true, .v (.string ⟨#[]⟩)), (5, true, .v (.string ⟨#[]⟩)), (6, true, .v (.int .i64 x))], [], M))
    (fun x => x ≤ 5 ∧ orO (srD (lv0 a) (lv0 b) x) (srL a b) = R) (fun x => x) 5 ⟨Nat.le_refl _, hR⟩ (Ent.of ?_) ?_
  · simp only [sx, sb1, sb2, sb3, sb4, sb5, ↓reduceIte, Nat.reduceAdd, Nat.reduceMul, Nat.reduceDiv, Nat.reduceEqDiff, Nat.reduceLT, Nat.reduceLeDiff, reduceCtorEq, Int.reduceEq, Int.reduceNe, Int.reduceLT, Int.reduceLE, Int.reduceAdd, Int.reduceSub, Int.reduceMul, Int.reduceNeg, Int.reduceToNat, Int.cast_ofNat_Int, Int.natCast_zero, Int.natCast_one, Int.toNat_natCast, Nat.reduceBEq]
  rintro d ⟨h1, h2⟩
  cases d with
  | zero =>
    rw [srD, orO] at h2
    simp only [shs, zts, sos, sls, zss, eqs, sx, sb1, sb2, sb3, sb4, sb5, ↓reduceIte, Nat.reduceAdd, Nat.reduceMul, Nat.reduceDiv, Nat.reduceEqDiff, Nat.reduceLT, Nat.reduceLeDiff, reduceCtorEq, Int.reduceEq, Int.reduceNe, Int.reduceLT, Int.reduceLE, Int.reduceAdd, Int.reduceSub, Int.reduceMul, Int.reduceNeg, Int.reduceToNat, Int.cast_ofNat_Int, Int.natCast_zero, Int.natCast_one, Int.toNat_natCast, Nat.reduceBEq, ha.len, ha.sl, List.length_map]
    refine LoopK.go (X := Nat × Nat) (fun x => ([(0, true, .v ya), (1, true, .v yb), (4, true, .v (.string ⟨#[]⟩)), (5, true, .v (.string ⟨#[]⟩)), (68, true, .v (.int .i64 a.length)), (69, true, .v (.int .i64 x.2))], [], M))
      (fun x => x.1 + x.2 = a.length ∧ srL (a.drop x.2) (b.drop x.2) = R) (fun x => x.1) (a.length, 0) ⟨rfl, h2⟩ (Ent.of ?_) ?_
    · simp only [sx, sb1, sb2, sb3, sb4, sb5, ↓reduceIte, Nat.reduceAdd, Nat.reduceMul, Nat.reduceDiv, Nat.reduceEqDiff, Nat.reduceLT, Nat.reduceLeDiff, reduceCtorEq, Int.reduceEq, Int.reduceNe, Int.reduceLT, Int.reduceLE, Int.reduceAdd, Int.reduceSub, Int.reduceMul, Int.reduceNeg, Int.reduceToNat, Int.cast_ofNat_Int, Int.natCast_zero, Int.natCast_one, Int.toNat_natCast, Nat.reduceBEq]
    rintro ⟨f, i⟩ ⟨h3, h4⟩
    simp only at h3 h4
    by_cases hi : i < a.length
    · have c1 : ((i : Int) < (a.length : Int)) = True := eq_true (by omega)
      obtain ⟨x, hx, hdx⟩ := l_drop_at (l := a) (i := i) hi
      obtain ⟨y, hy, hdy⟩ := l_drop_at (l := b) (i := i) (by omega)
      have g1 := ha.el1 hx rfl
      have g2 := hb.el1 hy rfl
      have x1 := ha.ix (i := (i : Int)) (by omega) (by rw [List.length_map]; omega)
      have x2 := hb.ix (i := (i : Int)) (by omega) (by rw [List.length_map]; omega)
      have lx := ha64 x (List.mem_of_getElem? hx)
      have ly := hb64 y (List.mem_of_getElem? hy)
      have z1 : (((1 + x.length : Nat) : Int) ≤ 9223372036854775807) = True := eq_true (by omega)
      have z2 : (((1 + y.length : Nat) : Int) ≤ 9223372036854775807) = True := eq_true (by omega)
      have i1 : inK .i64 ((i : Int) + 1) := i64J (by omega)
      rw [srL_at hdx hdy] at h4
      simp only [shs, zts, sos, sls, zss, eqs, sx, sb1, sb2, sb3, sb4, sb5, ↓reduceIte, Nat.reduceAdd, Nat.reduceMul, Nat.reduceDiv, Nat.reduceEqDiff, Nat.reduceLT, Nat.reduceLeDiff, reduceCtorEq, Int.reduceEq, Int.reduceNe, Int.reduceLT, Int.reduceLE, Int.reduceAdd, Int.reduceSub, Int.reduceMul, Int.reduceNeg, Int.reduceToNat, Int.cast_ofNat_Int, Int.natCast_zero, Int.natCast_one, Int.toNat_natCast, Nat.reduceBEq, nzs, c1]
      refine DrawK.quiet (by kernel_rfl) (by kernel_rfl) ?_
      by_cases hxy : x = y
      · have e1 : (x = y) = True := eq_true hxy
        rw [if_pos hxy] at h4
        simp only [shs, zts, sos, sls, zss, eqs, sx, sb1, sb2, sb3, sb4, sb5, ↓reduceIte, Nat.reduceAdd, Nat.reduceMul, Nat.reduceDiv, Nat.reduceEqDiff, Nat.reduceLT, Nat.reduceLeDiff, reduceCtorEq, Int.reduceEq, Int.reduceNe, Int.reduceLT, Int.reduceLE, Int.reduceAdd, Int.reduceSub, Int.reduceMul, Int.reduceNeg, Int.reduceToNat, Int.cast_ofNat_Int, Int.natCast_zero, Int.natCast_one, Int.toNat_natCast, Nat.reduceBEq, nzs, g1.1, g1.2, g2.1, g2.2, x1, x1.2, x2, x2.2, e1, i1]
        refine ⟨(f - 1, i + 1), ⟨⟨by simp only; omega, h4⟩, by simp only; omega⟩, Ent.of ?_⟩
        simp only [sx, sb1, sb2, sb3, sb4, sb5, ↓reduceIte, Nat.reduceAdd, Nat.reduceMul, Nat.reduceDiv, Nat.reduceEqDiff, Nat.reduceLT, Nat.reduceLeDiff, reduceCtorEq, Int.reduceEq, Int.reduceNe, Int.reduceLT, Int.reduceLE, Int.reduceAdd, Int.reduceSub, Int.reduceMul, Int.reduceNeg, Int.reduceToNat, Int.cast_ofNat_Int, Int.natCast_zero, Int.natCast_one, Int.toNat_natCast, Nat.reduceBEq, Int.natCast_add]
      · have e1 : (x = y) = False := eq_false hxy
        rw [if_neg hxy] at h4
        subst h4
        simp only [shs, zts, sos, sls, zss, eqs, sx, sb1, sb2, sb3, sb4, sb5, ↓reduceIte, Nat.reduceAdd, Nat.reduceMul, Nat.reduceDiv, Nat.reduceEqDiff, Nat.reduceLT, Nat.reduceLeDiff, reduceCtorEq, Int.reduceEq, Int.reduceNe, Int.reduceLT, Int.reduceLE, Int.reduceAdd, Int.reduceSub, Int.reduceMul, Int.reduceNeg, Int.reduceToNat, Int.cast_ofNat_Int, Int.natCast_zero, Int.natCast_one, Int.toNat_natCast, Nat.reduceBEq, nzs, g1.1, g1.2, g2.1, g2.2, x1, x1.2, x2, x2.2, e1]
        refine DrawK.plan (tk [0, 1, 2, 3, 4, 5, 6, 7, 8, 9] (ones' [10, 11] .done)) (by kernel_rfl) (by kernel_rfl) ?_
        simp only [shs, zts, sos, sls, zss, eqs, sx, sb1, sb2, sb3, sb4, sb5, ↓reduceIte, Nat.reduceAdd, Nat.reduceMul, Nat.reduceDiv, Nat.reduceEqDiff, Nat.reduceLT, Nat.reduceLeDiff, reduceCtorEq, Int.reduceEq, Int.reduceNe, Int.reduceLT, Int.reduceLE, Int.reduceAdd, Int.reduceSub, Int.reduceMul, Int.reduceNeg, Int.reduceToNat, Int.cast_ofNat_Int, Int.natCast_zero, Int.natCast_one, Int.toNat_natCast, Nat.reduceBEq, nzs, se1, se2, tks, g1.1, g1.2, g2.1, g2.2, x1, x1.2, x2, x2.2, z1, z2]
        rfl
    · have c1 : ((i : Int) < (a.length : Int)) = False := eq_false (by omega)
      rw [List.drop_eq_nil_of_le (by omega), List.drop_eq_nil_of_le (by omega)] at h4
      subst h4
      simp only [shs, zts, sos, sls, zss, eqs, sx, sb1, sb2, sb3, sb4, sb5, ↓reduceIte, Nat.reduceAdd, Nat.reduceMul, Nat.reduceDiv, Nat.reduceEqDiff, Nat.reduceLT, Nat.reduceLeDiff, reduceCtorEq, Int.reduceEq, Int.reduceNe, Int.reduceLT, Int.reduceLE, Int.reduceAdd, Int.reduceSub, Int.reduceMul, Int.reduceNeg, Int.reduceToNat, Int.cast_ofNat_Int, Int.natCast_zero, Int.natCast_one, Int.toNat_natCast, Nat.reduceBEq, nzs, c1]
      rfl
  | succ e =>
    have e0 : (1 ≤ ((e + 1 : Nat) : Int)) = True := eq_true (by omega)
    rw [srD] at h2
    rw [orO_assoc, hla] at h2
    generalize hC : orO (srD (lv0 a) (lv0 b) e) (srL a b) = C at h2
    simp only [shs, zts, sos, sls, zss, eqs, sx, sb1, sb2, sb3, sb4, sb5, ↓reduceIte, Nat.reduceAdd, Nat.reduceMul, Nat.reduceDiv, Nat.reduceEqDiff, Nat.reduceLT, Nat.reduceLeDiff, reduceCtorEq, Int.reduceEq, Int.reduceNe, Int.reduceLT, Int.reduceLE, Int.reduceAdd, Int.reduceSub, Int.reduceMul, Int.reduceNeg, Int.reduceToNat, Int.cast_ofNat_Int, Int.natCast_zero, Int.natCast_one, Int.toNat_natCast, Nat.reduceBEq, e0]
    refine LoopK.go (X := Nat × Nat) (fun x => ([(0, true, .v ya), (1, true, .v yb), (4, true, .v (.string ⟨#[]⟩)), (5, true, .v (.string ⟨#[]⟩)), (6, true, .v (.int .i64 ((e + 1 : Nat) : Int))), (7, true, .v (.int .i64 ((x.2 * 2 ^ (e + 1) : Nat) : Int)))], [], M))
      (fun x => x.1 + x.2 = cl (e + 1) a.length ∧ orO (srI (lv0 a) (lv0 b) e x.1 x.2) C = R) (fun x => x.1) (cl (e + 1) a.length, 0) ⟨rfl, h2⟩ (Ent.of ?_) ?_
    · simp only [sx, sb1, sb2, sb3, sb4, sb5, ↓reduceIte, Nat.reduceAdd, Nat.reduceMul, Nat.reduceDiv, Nat.reduceEqDiff, Nat.reduceLT, Nat.reduceLeDiff, reduceCtorEq, Int.reduceEq, Int.reduceNe, Int.reduceLT, Int.reduceLE, Int.reduceAdd, Int.reduceSub, Int.reduceMul, Int.reduceNeg, Int.reduceToNat, Int.cast_ofNat_Int, Int.natCast_zero, Int.natCast_one, Int.toNat_natCast, Nat.reduceBEq, Nat.zero_mul]
    rintro ⟨f, i⟩ ⟨h3, h4⟩
    simp only at h3 h4
    have hci := cl_iff (e + 1) a.length i
    have hp := Nat.two_pow_pos e
    have hp5 : 2 ^ (e + 1) ≤ 2 ^ 5 := Nat.pow_le_pow_right (by omega) (by omega)
    have pe : 2 ^ (e + 1) = 2 ^ e * 2 := Nat.pow_succ 2 e
    have ee : i * 2 ^ (e + 1) = 2 * i * 2 ^ e := by rw [Nat.pow_succ, Nat.mul_comm 2 i, Nat.mul_assoc, Nat.mul_comm (2 ^ e)]
    by_cases hi : i < cl (e + 1) a.length
    · have hin := hci.1 hi
      obtain ⟨f, rfl⟩ : ∃ g, f = g + 1 := ⟨f - 1, by omega⟩
      have c1 : (((i * 2 ^ (e + 1) : Nat) : Int) < (a.length : Int)) = True := eq_true (by omega)
      have e1 : ((e + 1 : Nat) : Int) - 1 = (e : Int) := by omega
      have o1 := ow (e + 1)
      have o2 := ow e
      have ie : inK .i64 ((e : Nat) : Int) := i64J (by omega)
      have i1 : inK .i64 ((2 ^ (e + 1) : Nat) : Int) := i64J (by omega)
      have i2 : inK .i64 ((2 ^ e : Nat) : Int) := i64J (by omega)
      have em : (2 * i + 1) * 2 ^ e = i * 2 ^ (e + 1) + 2 ^ e := by rw [ee, Nat.add_mul, Nat.one_mul]
      have en : (i + 1) * 2 ^ (e + 1) = i * 2 ^ (e + 1) + 2 ^ (e + 1) := by rw [Nat.add_mul, Nat.one_mul]
      rw [srI, em, hla, nd, nd] at h4
      have hb1 : (2 * i) * 2 ^ e = i * 2 ^ (e + 1) := ee.symm
      have hA1 := blk_lv0 a e (2 * i)
      have hA2 := blk_lv0 a e (2 * i + 1)
      have hB1 := blk_lv0 b e (2 * i)
      have hB2 := blk_lv0 b e (2 * i + 1)
      unfold blk at hA1 hA2 hB1 hB2 h4
      rw [em] at hA2 hB2 h4
      rw [hb1] at hA1 hB1 h4
      have hcap := ha.1.2.2.1
      rw [ha.len, List.length_map] at hcap
      have hcap' := hb.1.2.2.1
      rw [hb.len, List.length_map] at hcap'
      clear hci em ee hb1
      generalize i * 2 ^ (e + 1) = p at *
      generalize 2 ^ (e + 1) = k2 at *
      generalize 2 ^ e = k1 at *
      have n1 : (p : Int) + (k2 : Int) = ((p + k2 : Nat) : Int) := by omega
      have n2 : (p : Int) + (k1 : Int) = ((p + k1 : Nat) : Int) := by omega
      have n3 : min ((a.length : Nat) : Int) ((p + k2 : Nat) : Int) = ((min a.length (p + k2) : Nat) : Int) := by omega
      have i3 : inK .i64 ((p + k2 : Nat) : Int) := i64J (by omega)
      have i4 : inK .i64 ((p + k1 : Nat) : Int) := i64J (by omega)
      have b1 : 0 ≤ ((e + 1 : Nat) : Int) ∧ ((e + 1 : Nat) : Int) ≤ (IntKind.i64.bits : Nat) := ⟨by omega, by rw [show ((IntKind.i64.bits : Nat) : Int) = 64 from rfl]; omega⟩
      have b2 : 0 ≤ ((e : Nat) : Int) ∧ ((e : Nat) : Int) ≤ (IntKind.i64.bits : Nat) := ⟨by omega, by rw [show ((IntKind.i64.bits : Nat) : Int) = 64 from rfl]; omega⟩
      by_cases hm : p + k1 < a.length
      · have c2 : (((p + k1 : Nat) : Int) < ((min a.length (p + k2) : Nat) : Int)) = True := eq_true (by omega)
        have s1 := ha.sub (lo := p) (hi := p + k1) (by omega) (by rw [List.length_map]; omega)
        have s2 := ha.sub (lo := p + k1) (hi := min a.length (p + k2)) (by omega) (by rw [List.length_map]; omega)
        have t1 := hb.sub (lo := p) (hi := p + k1) (by omega) (by rw [List.length_map]; omega)
        have t2 := hb.sub (lo := p + k1) (hi := min a.length (p + k2)) (by omega) (by rw [List.length_map]; omega)
        rw [Nat.add_sub_cancel_left, ← List.map_drop, ← List.map_take] at s1 t1
        rw [← List.map_drop, ← List.map_take, take_min a (p + k1) k1 (p + k2) (by omega)] at s2
        rw [← List.map_drop, ← List.map_take, hab, take_min b (p + k1) k1 (p + k2) (by omega), ← hab] at t2
        have r1 := rroot 32 _ _ M s1 (List.length_pos_iff.1 (by rw [List.length_take, List.length_drop]; omega)) (by rw [List.length_take, List.length_drop]; omega) (by rw [List.length_take, List.length_drop]; omega) (fun s hs => ha64 s (List.mem_of_mem_drop (List.mem_of_mem_take hs)))
        have r2 := rroot 32 _ _ M s2 (List.length_pos_iff.1 (by rw [List.length_take, List.length_drop]; omega)) (by rw [List.length_take, List.length_drop]; omega) (by rw [List.length_take, List.length_drop]; omega) (fun s hs => ha64 s (List.mem_of_mem_drop (List.mem_of_mem_take hs)))
        have r3 := rroot 32 _ _ M t1 (List.length_pos_iff.1 (by rw [List.length_take, List.length_drop]; omega)) (by rw [List.length_take, List.length_drop]; omega) (by rw [List.length_take, List.length_drop]; omega) (fun s hs => hb64 s (List.mem_of_mem_drop (List.mem_of_mem_take hs)))
        have r4 := rroot 32 _ _ M t2 (List.length_pos_iff.1 (by rw [List.length_take, List.length_drop]; omega)) (by rw [List.length_take, List.length_drop]; omega) (by rw [List.length_take, List.length_drop]; omega) (fun s hs => hb64 s (List.mem_of_mem_drop (List.mem_of_mem_take hs)))
        have q1 := topV_le (lv0_ok ((a.drop p).take k1)) (List.length_pos_iff.1 (by rw [lv0_len, List.length_take, List.length_drop]; omega)) (by rw [lv0_len, List.length_take, List.length_drop]; omega)
        have q2 := topV_le (lv0_ok ((a.drop (p + k1)).take k1)) (List.length_pos_iff.1 (by rw [lv0_len, List.length_take, List.length_drop]; omega)) (by rw [lv0_len, List.length_take, List.length_drop]; omega)
        have q3 := topV_le (lv0_ok ((b.drop p).take k1)) (List.length_pos_iff.1 (by rw [lv0_len, List.length_take, List.length_drop]; omega)) (by rw [lv0_len, List.length_take, List.length_drop]; omega)
        have q4 := topV_le (lv0_ok ((b.drop (p + k1)).take k1)) (List.length_pos_iff.1 (by rw [lv0_len, List.length_take, List.length_drop]; omega)) (by rw [lv0_len, List.length_take, List.length_drop]; omega)
        rw [hA1] at r1 q1
        rw [hA2] at r2 q2
        rw [hB1] at r3 q3
        rw [hB2] at r4 q4
        generalize topV (((lv0 a).drop p).take k1) = x1 at *
        generalize topV (((lv0 a).drop (p + k1)).take k1) = x2 at *
        generalize topV (((lv0 b).drop p).take k1) = x3 at *
        generalize topV (((lv0 b).drop (p + k1)).take k1) = x4 at *
        simp only [shs, zts, sos, sls, zss, eqs, sx, sb1, sb2, sb3, sb4, sb5, ↓reduceIte, Nat.reduceAdd, Nat.reduceMul, Nat.reduceDiv, Nat.reduceEqDiff, Nat.reduceLT, Nat.reduceLeDiff, reduceCtorEq, Int.reduceEq, Int.reduceNe, Int.reduceLT, Int.reduceLE, Int.reduceAdd, Int.reduceSub, Int.reduceMul, Int.reduceNeg, Int.reduceToNat, Int.cast_ofNat_Int, Int.natCast_zero, Int.natCast_one, Int.toNat_natCast, Nat.reduceBEq, nzs, c1, e1, o1, o2, ie, i1, i2, i3, i4, n1, n2, n3, c2, b1, b2, ha.len, ha.sl, List.length_map]
        refine DrawK.plan (tk [0, 1, 2, 3, 5, 6, 7, 8, 11, 12, 13, 14, 16, 17, 18, 19] (ones' [4, 9, 10, 15, 20, 21, 22, 23] .done)) (by kernel_rfl) (by kernel_rfl) ?_
        simp only [shs, zts, sos, sls, zss, eqs, sx, sb1, sb2, sb3, sb4, sb5, ↓reduceIte, Nat.reduceAdd, Nat.reduceMul, Nat.reduceDiv, Nat.reduceEqDiff, Nat.reduceLT, Nat.reduceLeDiff, reduceCtorEq, Int.reduceEq, Int.reduceNe, Int.reduceLT, Int.reduceLE, Int.reduceAdd, Int.reduceSub, Int.reduceMul, Int.reduceNeg, Int.reduceToNat, Int.cast_ofNat_Int, Int.natCast_zero, Int.natCast_one, Int.toNat_natCast, Nat.reduceBEq, nzs, se1, se2, tks, ha.len, ha.sl, hb.len, hb.sl, List.length_map]
        refine ⟨⟨⟨by omega, by omega⟩, by omega⟩, ⟨⟨by omega, by omega⟩, by omega⟩, ⟨⟨by omega, by omega⟩, by omega⟩, ⟨⟨by omega, by omega⟩, by omega⟩, ?_⟩
        refine CallK.pure ⟨rfl, rfl⟩ rfl r1 ?_
        simp only [shs, zts, sos, sls, zss, eqs, sx, sb1, sb2, sb3, sb4, sb5, ↓reduceIte, Nat.reduceAdd, Nat.reduceMul, Nat.reduceDiv, Nat.reduceEqDiff, Nat.reduceLT, Nat.reduceLeDiff, reduceCtorEq, Int.reduceEq, Int.reduceNe, Int.reduceLT, Int.reduceLE, Int.reduceAdd, Int.reduceSub, Int.reduceMul, Int.reduceNeg, Int.reduceToNat, Int.cast_ofNat_Int, Int.natCast_zero, Int.natCast_one, Int.toNat_natCast, Nat.reduceBEq, nzs, se1, se2, tks]
        refine CallK.pure ⟨rfl, rfl⟩ rfl r2 ?_
        simp only [shs, zts, sos, sls, zss, eqs, sx, sb1, sb2, sb3, sb4, sb5, ↓reduceIte, Nat.reduceAdd, Nat.reduceMul, Nat.reduceDiv, Nat.reduceEqDiff, Nat.reduceLT, Nat.reduceLeDiff, reduceCtorEq, Int.reduceEq, Int.reduceNe, Int.reduceLT, Int.reduceLE, Int.reduceAdd, Int.reduceSub, Int.reduceMul, Int.reduceNeg, Int.reduceToNat, Int.cast_ofNat_Int, Int.natCast_zero, Int.natCast_one, Int.toNat_natCast, Nat.reduceBEq, nzs, se1, se2, tks]
        refine CallK.pure ⟨rfl, rfl⟩ rfl (rsaid x1 x2 M (by omega) (by omega)) ?_
        simp only [shs, zts, sos, sls, zss, eqs, sx, sb1, sb2, sb3, sb4, sb5, ↓reduceIte, Nat.reduceAdd, Nat.reduceMul, Nat.reduceDiv, Nat.reduceEqDiff, Nat.reduceLT, Nat.reduceLeDiff, reduceCtorEq, Int.reduceEq, Int.reduceNe, Int.reduceLT, Int.reduceLE, Int.reduceAdd, Int.reduceSub, Int.reduceMul, Int.reduceNeg, Int.reduceToNat, Int.cast_ofNat_Int, Int.natCast_zero, Int.natCast_one, Int.toNat_natCast, Nat.reduceBEq, nzs, se1, se2, tks]
        refine CallK.pure ⟨rfl, rfl⟩ rfl r3 ?_
        simp only [shs, zts, sos, sls, zss, eqs, sx, sb1, sb2, sb3, sb4, sb5, ↓reduceIte, Nat.reduceAdd, Nat.reduceMul, Nat.reduceDiv, Nat.reduceEqDiff, Nat.reduceLT, Nat.reduceLeDiff, reduceCtorEq, Int.reduceEq, Int.reduceNe, Int.reduceLT, Int.reduceLE, Int.reduceAdd, Int.reduceSub, Int.reduceMul, Int.reduceNeg, Int.reduceToNat, Int.cast_ofNat_Int, Int.natCast_zero, Int.natCast_one, Int.toNat_natCast, Nat.reduceBEq, nzs, se1, se2, tks]
        refine CallK.pure ⟨rfl, rfl⟩ rfl r4 ?_
        simp only [shs, zts, sos, sls, zss, eqs, sx, sb1, sb2, sb3, sb4, sb5, ↓reduceIte, Nat.reduceAdd, Nat.reduceMul, Nat.reduceDiv, Nat.reduceEqDiff, Nat.reduceLT, Nat.reduceLeDiff, reduceCtorEq, Int.reduceEq, Int.reduceNe, Int.reduceLT, Int.reduceLE, Int.reduceAdd, Int.reduceSub, Int.reduceMul, Int.reduceNeg, Int.reduceToNat, Int.cast_ofNat_Int, Int.natCast_zero, Int.natCast_one, Int.toNat_natCast, Nat.reduceBEq, nzs, se1, se2, tks]
        refine CallK.pure ⟨rfl, rfl⟩ rfl (rsaid x3 x4 M (by omega) (by omega)) ?_
        by_cases hne : saidN x1 x2 = saidN x3 x4
        · have d1 : (saidN x1 x2 = saidN x3 x4) = True := eq_true hne
          rw [if_neg (fun h => h.2 hne)] at h4
          simp only [shs, zts, sos, sls, zss, eqs, sx, sb1, sb2, sb3, sb4, sb5, ↓reduceIte, Nat.reduceAdd, Nat.reduceMul, Nat.reduceDiv, Nat.reduceEqDiff, Nat.reduceLT, Nat.reduceLeDiff, reduceCtorEq, Int.reduceEq, Int.reduceNe, Int.reduceLT, Int.reduceLE, Int.reduceAdd, Int.reduceSub, Int.reduceMul, Int.reduceNeg, Int.reduceToNat, Int.cast_ofNat_Int, Int.natCast_zero, Int.natCast_one, Int.toNat_natCast, Nat.reduceBEq, nzs, se1, se2, tks, d1, o1, i1, n1, i3, b1]
          refine ⟨(f, i + 1), ⟨⟨by simp only; omega, h4⟩, by simp only; omega⟩, Ent.of ?_⟩
          simp only [sx, sb1, sb2, sb3, sb4, sb5, ↓reduceIte, Nat.reduceAdd, Nat.reduceMul, Nat.reduceDiv, Nat.reduceEqDiff, Nat.reduceLT, Nat.reduceLeDiff, reduceCtorEq, Int.reduceEq, Int.reduceNe, Int.reduceLT, Int.reduceLE, Int.reduceAdd, Int.reduceSub, Int.reduceMul, Int.reduceNeg, Int.reduceToNat, Int.cast_ofNat_Int, Int.natCast_zero, Int.natCast_one, Int.toNat_natCast, Nat.reduceBEq, en]
        · have d1 : (saidN x1 x2 = saidN x3 x4) = False := eq_false hne
          rw [if_pos ⟨hm, hne⟩, orO] at h4
          subst h4
          simp only [shs, zts, sos, sls, zss, eqs, sx, sb1, sb2, sb3, sb4, sb5, ↓reduceIte, Nat.reduceAdd, Nat.reduceMul, Nat.reduceDiv, Nat.reduceEqDiff, Nat.reduceLT, Nat.reduceLeDiff, reduceCtorEq, Int.reduceEq, Int.reduceNe, Int.reduceLT, Int.reduceLE, Int.reduceAdd, Int.reduceSub, Int.reduceMul, Int.reduceNeg, Int.reduceToNat, Int.cast_ofNat_Int, Int.natCast_zero, Int.natCast_one, Int.toNat_natCast, Nat.reduceBEq, nzs, se1, se2, tks, d1]
          rfl
      · have c2 : (((p + k1 : Nat) : Int) < ((min a.length (p + k2) : Nat) : Int)) = False := eq_false (by omega)
        rw [if_neg (fun h => hm h.1)] at h4
        simp only [shs, zts, sos, sls, zss, eqs, sx, sb1, sb2, sb3, sb4, sb5, ↓reduceIte, Nat.reduceAdd, Nat.reduceMul, Nat.reduceDiv, Nat.reduceEqDiff, Nat.reduceLT, Nat.reduceLeDiff, reduceCtorEq, Int.reduceEq, Int.reduceNe, Int.reduceLT, Int.reduceLE, Int.reduceAdd, Int.reduceSub, Int.reduceMul, Int.reduceNeg, Int.reduceToNat, Int.cast_ofNat_Int, Int.natCast_zero, Int.natCast_one, Int.toNat_natCast, Nat.reduceBEq, nzs, c1, e1, o1, o2, ie, i1, i2, i3, i4, n1, n2, n3, c2, b1, b2, ha.len, ha.sl, List.length_map]
        refine ⟨(f, i + 1), ⟨⟨by simp only; omega, h4⟩, by simp only; omega⟩, Ent.of ?_⟩
        simp only [sx, sb1, sb2, sb3, sb4, sb5, ↓reduceIte, Nat.reduceAdd, Nat.reduceMul, Nat.reduceDiv, Nat.reduceEqDiff, Nat.reduceLT, Nat.reduceLeDiff, reduceCtorEq, Int.reduceEq, Int.reduceNe, Int.reduceLT, Int.reduceLE, Int.reduceAdd, Int.reduceSub, Int.reduceMul, Int.reduceNeg, Int.reduceToNat, Int.cast_ofNat_Int, Int.natCast_zero, Int.natCast_one, Int.toNat_natCast, Nat.reduceBEq, en]
    · have c1 : (((i * 2 ^ (e + 1) : Nat) : Int) < (a.length : Int)) = False := eq_false (by omega)
      have f0 : f = 0 := by omega
      subst f0
      rw [srI, orO] at h4
      have e1 : ((e + 1 : Nat) : Int) - 1 = (e : Int) := by omega
      have ie : inK .i64 ((e : Nat) : Int) := i64J (by omega)
      simp only [shs, zts, sos, sls, zss, eqs, sx, sb1, sb2, sb3, sb4, sb5, ↓reduceIte, Nat.reduceAdd, Nat.reduceMul, Nat.reduceDiv, Nat.reduceEqDiff, Nat.reduceLT, Nat.reduceLeDiff, reduceCtorEq, Int.reduceEq, Int.reduceNe, Int.reduceLT, Int.reduceLE, Int.reduceAdd, Int.reduceSub, Int.reduceMul, Int.reduceNeg, Int.reduceToNat, Int.cast_ofNat_Int, Int.natCast_zero, Int.natCast_one, Int.toNat_natCast, Nat.reduceBEq, nzs, c1, e1, ie, ha.len, ha.sl, List.length_map]
      refine ⟨e, ⟨⟨by omega, by rw [hC]; exact h4⟩, by omega⟩, Ent.of ?_⟩
      simp only [sx, sb1, sb2, sb3, sb4, sb5, ↓reduceIte, Nat.reduceAdd, Nat.reduceMul, Nat.reduceDiv, Nat.reduceEqDiff, Nat.reduceLT, Nat.reduceLeDiff, reduceCtorEq, Int.reduceEq, Int.reduceNe, Int.reduceLT, Int.reduceLE, Int.reduceAdd, Int.reduceSub, Int.reduceMul, Int.reduceNeg, Int.reduceToNat, Int.cast_ofNat_Int, Int.natCast_zero, Int.natCast_one, Int.toNat_natCast, Nat.reduceBEq]
end Go.X.Ts
