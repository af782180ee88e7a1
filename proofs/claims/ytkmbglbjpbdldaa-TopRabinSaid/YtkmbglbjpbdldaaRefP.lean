/- What woolref says of polynomials: what each function returns. Conditions: none. -/
import Derived.Test.YtkmbglbjpbdldaaPoly
set_option linter.unusedSimpArgs false
set_option linter.unusedVariables false
set_option maxHeartbeats 4000000
set_option maxRecDepth 20000
namespace Go.X.Rp
open Go Go.X Go.X.Pol Go.X.Pl

theorem within (x a b : Int) (M : Mem) : Meets Proofs.Try.prog 77 [.v (.int .i64 x), .v (.int .i64 a), .v (.int .i64 b)] M fun r _ _ => r = .v (.bool (decide (a ≤ x ∧ x ≤ b))) := by
  refine Meets.of_body [0,1,2,6] Proofs.Try.func77 rfl (by kernel_rfl) rfl fun w => ?_
  simp only [Proofs.Try.f77, shs, zts, sos, sls, zss, eqs, sx, sb1, sb2, sb3, sb4, sb5, ↓reduceIte, Nat.reduceAdd, Nat.reduceMul, Nat.reduceDiv, Nat.reduceEqDiff, Nat.reduceLT, Nat.reduceLeDiff, reduceCtorEq, Int.reduceEq, Int.reduceNe, Int.reduceLT, Int.reduceLE, Int.reduceAdd, Int.reduceSub, Int.reduceMul, Int.reduceNeg, Int.reduceToNat, Int.cast_ofNat_Int, Int.natCast_zero, Int.natCast_one, Int.toNat_natCast, Nat.reduceBEq]
  by_cases h : a ≤ x <;> by_cases h' : x ≤ b <;> simp [h, h']

def pe : List Int → Int
  | [] => 0
  | a :: l => if a < 0 ∨ 2147483647 < a then 1 else pe l

theorem drop_at {α : Type} {l : List α} {i : Nat} (h : i < l.length) : ∃ x, l[i]? = some x ∧ l.drop i = x :: l.drop (i + 1) :=
  ⟨_, List.getElem?_eq_getElem h, List.drop_eq_getElem_cons h⟩

theorem poly (y : Value) (l : List Int) (M : Mem) (hy : RowM M y 1 (l.map encI)) :
    Meets Proofs.Try.prog 36 [.v y] M fun r _ _ => r = .v (.int .i64 (pe l)) := by
  refine Meets.of_body [0,2,4,5,6,7,8,13] Proofs.Try.func36 rfl (by kernel_rfl) rfl fun w => ?_
  generalize hc : pe l = c
  have hle := hy.len_le
  rw [List.length_map] at hle
  simp only [Proofs.Try.f36, shs, zts, sos, sls, zss, eqs, sx, sb1, sb2, sb3, sb4, sb5, ↓reduceIte, Nat.reduceAdd, Nat.reduceMul, Nat.reduceDiv, Nat.reduceEqDiff, Nat.reduceLT, Nat.reduceLeDiff, reduceCtorEq, Int.reduceEq, Int.reduceNe, Int.reduceLT, Int.reduceLE, Int.reduceAdd, Int.reduceSub, Int.reduceMul, Int.reduceNeg, Int.reduceToNat, Int.cast_ofNat_Int, Int.natCast_zero, Int.natCast_one, Int.toNat_natCast, Nat.reduceBEq, hy.len, hy.sl, List.length_map]
  refine LoopK.go (X := Nat × Nat) (fun x => ([(2, true, .v (.int .i64 0)), (5, true, .v y), (6, true, .v (.int .i64 l.length)), (7, true, .v (.int .i64 x.2))], [], M))
    (fun x => x.1 + x.2 = l.length ∧ pe (l.drop x.2) = c) (fun x => x.1) (l.length, 0) ⟨rfl, hc⟩ (Ent.of ?_) ?_
  · simp only [sx, sb1, sb2, sb3, sb4, sb5, ↓reduceIte, Nat.reduceAdd, Nat.reduceMul, Nat.reduceDiv, Nat.reduceEqDiff, Nat.reduceLT, Nat.reduceLeDiff, reduceCtorEq, Int.reduceEq, Int.reduceNe, Int.reduceLT, Int.reduceLE, Int.reduceAdd, Int.reduceSub, Int.reduceMul, Int.reduceNeg, Int.reduceToNat, Int.cast_ofNat_Int, Int.natCast_zero, Int.natCast_one, Int.toNat_natCast, Nat.reduceBEq]
  rintro ⟨f, i⟩ ⟨h1, h2⟩
  simp only at h1 h2
  simp only [shs, zts, sos, sls, zss, eqs, sx, sb1, sb2, sb3, sb4, sb5, ↓reduceIte, Nat.reduceAdd, Nat.reduceMul, Nat.reduceDiv, Nat.reduceEqDiff, Nat.reduceLT, Nat.reduceLeDiff, reduceCtorEq, Int.reduceEq, Int.reduceNe, Int.reduceLT, Int.reduceLE, Int.reduceAdd, Int.reduceSub, Int.reduceMul, Int.reduceNeg, Int.reduceToNat, Int.cast_ofNat_Int, Int.natCast_zero, Int.natCast_one, Int.toNat_natCast, Nat.reduceBEq]
  refine ⟨fun h3 => ?_, fun h3 => ?_⟩
  · obtain ⟨e, he, hd⟩ := drop_at (l := l) (i := i) (by omega)
    have g1 := hy.el1 he rfl
    have i1 := hy.ix (i := (i : Int)) (by omega) (by rw [List.length_map]; omega)
    rw [hd] at h2
    simp only [pe] at h2
    simp only [shs, zts, sos, sls, zss, eqs, sx, sb1, sb2, sb3, sb4, sb5, ↓reduceIte, Nat.reduceAdd, Nat.reduceMul, Nat.reduceDiv, Nat.reduceEqDiff, Nat.reduceLT, Nat.reduceLeDiff, reduceCtorEq, Int.reduceEq, Int.reduceNe, Int.reduceLT, Int.reduceLE, Int.reduceAdd, Int.reduceSub, Int.reduceMul, Int.reduceNeg, Int.reduceToNat, Int.cast_ofNat_Int, Int.natCast_zero, Int.natCast_one, Int.toNat_natCast, Nat.reduceBEq, g1.1]
    refine ⟨i1, g1.2, CallK.pure ⟨rfl, rfl⟩ rfl (within e 0 2147483647 M) ?_⟩
    simp only [shs, zts, sos, sls, zss, eqs, sx, sb1, sb2, sb3, sb4, sb5, ↓reduceIte, Nat.reduceAdd, Nat.reduceMul, Nat.reduceDiv, Nat.reduceEqDiff, Nat.reduceLT, Nat.reduceLeDiff, reduceCtorEq, Int.reduceEq, Int.reduceNe, Int.reduceLT, Int.reduceLE, Int.reduceAdd, Int.reduceSub, Int.reduceMul, Int.reduceNeg, Int.reduceToNat, Int.cast_ofNat_Int, Int.natCast_zero, Int.natCast_one, Int.toNat_natCast, Nat.reduceBEq, inK, lo, hi]
    refine ⟨fun h4 => ?_, fun h4 => ⟨by omega, (f - 1, i + 1), ⟨⟨by simp only; omega, by simp only; rw [if_neg (by omega)] at h2; exact h2⟩, by simp only; omega⟩, Ent.of ?_⟩⟩
    · rw [if_pos (by omega)] at h2
      rw [h2]
    · simp only [sx, sb1, sb2, sb3, sb4, sb5, ↓reduceIte, Nat.reduceAdd, Nat.reduceMul, Nat.reduceDiv, Nat.reduceEqDiff, Nat.reduceLT, Nat.reduceLeDiff, reduceCtorEq, Int.reduceEq, Int.reduceNe, Int.reduceLT, Int.reduceLE, Int.reduceAdd, Int.reduceSub, Int.reduceMul, Int.reduceNeg, Int.reduceToNat, Int.cast_ofNat_Int, Int.natCast_zero, Int.natCast_one, Int.toNat_natCast, Nat.reduceBEq, Int.natCast_add]
  · have hd : l.drop i = [] := List.drop_eq_nil_of_le (by omega)
    rw [hd] at h2
    simp only [pe] at h2
    rw [h2]

theorem tm2 (x : Nat) : (x : Int).tmod 2 = ((x % 2 : Nat) : Int) := (Int.ofNat_tmod x 2).symm
theorem td2 (x : Nat) : (x : Int).tdiv 2 = ((x / 2 : Nat) : Int) := (Int.ofNat_tdiv x 2).symm
theorem pm2 (a k : Nat) : a / 2 ^ k / 2 = a / 2 ^ (k + 1) := by rw [Nat.div_div_eq_div_mul, Nat.pow_succ]

theorem i64N {x : Nat} (h : x ≤ 9223372036854775807) : (-9223372036854775808 : Int) ≤ (x : Int) ∧ (x : Int) ≤ 9223372036854775807 := by omega

theorem coef (a : Nat) (M : Mem) (ha : a ≤ 9223372036854775807) :
    Meets Proofs.Try.prog 89 [.v (.int .i64 (a : Int))] M (RowR (fun s => s) 1 ((bitsL (sz a) a).map encT)) := by
  refine Meets.of_body [0,2,3,5] Proofs.Try.func89 rfl (by kernel_rfl) rfl fun w => ?_
  simp only [Proofs.Try.f89, shs, zts, sos, sls, zss, eqs, sx, sb1, sb2, sb3, sb4, sb5, ↓reduceIte, Nat.reduceAdd, Nat.reduceMul, Nat.reduceDiv, Nat.reduceEqDiff, Nat.reduceLT, Nat.reduceLeDiff, reduceCtorEq, Int.reduceEq, Int.reduceNe, Int.reduceLT, Int.reduceLE, Int.reduceAdd, Int.reduceSub, Int.reduceMul, Int.reduceNeg, Int.reduceToNat, Int.cast_ofNat_Int, Int.natCast_zero, Int.natCast_one, Int.toNat_natCast, Nat.reduceBEq]
  refine LoopK.nilRow 3 13 1 rfl rfl rfl ?_
  simp only [sx, sb1, sb2, sb3, sb4, sb5, ↓reduceIte, Nat.reduceAdd, Nat.reduceMul, Nat.reduceDiv, Nat.reduceEqDiff, Nat.reduceLT, Nat.reduceLeDiff, reduceCtorEq, Int.reduceEq, Int.reduceNe, Int.reduceLT, Int.reduceLE, Int.reduceAdd, Int.reduceSub, Int.reduceMul, Int.reduceNeg, Int.reduceToNat, Int.cast_ofNat_Int, Int.natCast_zero, Int.natCast_one, Int.toNat_natCast, Nat.reduceBEq]
  refine LoopK.go (X := Nat) (fun k => ([(0, true, .v (.int .i64 ((a / 2 ^ k : Nat) : Int))), (3, true, .own 104)], [(104, .row 1 ((bitsL k a).map encT))], M))
    (fun k => k ≤ sz a) (fun k => sz a - k) 0 (Nat.zero_le _) (Ent.of ?_) ?_
  · simp only [sx, sb1, sb2, sb3, sb4, sb5, ↓reduceIte, Nat.reduceAdd, Nat.reduceMul, Nat.reduceDiv, Nat.reduceEqDiff, Nat.reduceLT, Nat.reduceLeDiff, reduceCtorEq, Int.reduceEq, Int.reduceNe, Int.reduceLT, Int.reduceLE, Int.reduceAdd, Int.reduceSub, Int.reduceMul, Int.reduceNeg, Int.reduceToNat, Int.cast_ofNat_Int, Int.natCast_zero, Int.natCast_one, Int.toNat_natCast, Nat.reduceBEq, Nat.pow_zero, Nat.div_one, bitsL_zero]
  intro k hk
  have hs : sz a ≤ 63 := sz_le.2 (by omega)
  have h3 : a / 2 ^ k ≤ a := Nat.div_le_self _ _
  simp only [shs, zts, sos, sls, zss, eqs, sx, sb1, sb2, sb3, sb4, sb5, ↓reduceIte, Nat.reduceAdd, Nat.reduceMul, Nat.reduceDiv, Nat.reduceEqDiff, Nat.reduceLT, Nat.reduceLeDiff, reduceCtorEq, Int.reduceEq, Int.reduceNe, Int.reduceLT, Int.reduceLE, Int.reduceAdd, Int.reduceSub, Int.reduceMul, Int.reduceNeg, Int.reduceToNat, Int.cast_ofNat_Int, Int.natCast_zero, Int.natCast_one, Int.toNat_natCast, Nat.reduceBEq, inK, lo, hi, tm2, td2, pm2, List.length_map, bitsL_len]
  refine ⟨fun h5 => ?_, fun h5 => ?_⟩
  · have h6 : k < sz a := lt_sz.2 (by
      rcases Nat.lt_or_ge a (2 ^ k) with h | h
      · rw [Nat.div_eq_of_lt h] at h5; omega
      · exact h)
    have h7 : a / 2 ^ (k + 1) ≤ a := Nat.div_le_self _ _
    have h8 : ((a / 2 ^ k % 2 : Nat) : Int) = 1 ↔ a / 2 ^ k % 2 = 1 := by omega
    refine ⟨by omega, i64N (Nat.le_trans h7 ha), k + 1, ⟨by omega, by omega⟩, Ent.of ?_⟩
    simp only [sx, sb1, sb2, sb3, sb4, sb5, ↓reduceIte, Nat.reduceAdd, Nat.reduceMul, Nat.reduceDiv, Nat.reduceEqDiff, Nat.reduceLT, Nat.reduceLeDiff, reduceCtorEq, Int.reduceEq, Int.reduceNe, Int.reduceLT, Int.reduceLE, Int.reduceAdd, Int.reduceSub, Int.reduceMul, Int.reduceNeg, Int.reduceToNat, Int.cast_ofNat_Int, Int.natCast_zero, Int.natCast_one, Int.toNat_natCast, Nat.reduceBEq, bitsL_succ, List.map_append, encT, Nat.testBit_eq_decide_div_mod_eq, h8]
  · have h6 : a < 2 ^ k := by
      rcases Nat.lt_or_ge a (2 ^ k) with h | h
      · exact h
      · have := Nat.div_pos h (Nat.two_pow_pos k)
        omega
    have : k = sz a := by have := sz_le.2 h6; omega
    subst this
    exact ⟨.own 104, rfl, rfl⟩

theorem num (y : Value) (n x : Nat) (M : Mem) (hy : RowM M y 1 ((bitsL n x).map encT)) (hn : n ≤ 62) (hx : x < 2 ^ n) :
    Meets Proofs.Try.prog 90 [.v y] M fun r _ _ => r = .v (.int .i64 (x : Int)) := by
  refine Meets.of_body [0,2,3,4,9,17] Proofs.Try.func90 rfl (by kernel_rfl) rfl fun w => ?_
  simp only [Proofs.Try.f90, shs, zts, sos, sls, zss, eqs, sx, sb1, sb2, sb3, sb4, sb5, ↓reduceIte, Nat.reduceAdd, Nat.reduceMul, Nat.reduceDiv, Nat.reduceEqDiff, Nat.reduceLT, Nat.reduceLeDiff, reduceCtorEq, Int.reduceEq, Int.reduceNe, Int.reduceLT, Int.reduceLE, Int.reduceAdd, Int.reduceSub, Int.reduceMul, Int.reduceNeg, Int.reduceToNat, Int.cast_ofNat_Int, Int.natCast_zero, Int.natCast_one, Int.toNat_natCast, Nat.reduceBEq, hy.len, hy.sl, List.length_map, bitsL_len, inK, lo, hi]
  refine ⟨by omega, ?_⟩
  refine LoopK.go (X := Nat) (fun i => ([(0, true, .v y), (3, true, .v (.int .i64 ((x / 2 ^ i : Nat) : Int))), (4, true, .v (.int .i64 ((i : Int) - 1)))], [], M))
    (fun i => i ≤ n) (fun i => i) n (Nat.le_refl _) (Ent.of ?_) ?_
  · simp only [sx, sb1, sb2, sb3, sb4, sb5, ↓reduceIte, Nat.reduceAdd, Nat.reduceMul, Nat.reduceDiv, Nat.reduceEqDiff, Nat.reduceLT, Nat.reduceLeDiff, reduceCtorEq, Int.reduceEq, Int.reduceNe, Int.reduceLT, Int.reduceLE, Int.reduceAdd, Int.reduceSub, Int.reduceMul, Int.reduceNeg, Int.reduceToNat, Int.cast_ofNat_Int, Int.natCast_zero, Int.natCast_one, Int.toNat_natCast, Nat.reduceBEq, Nat.div_eq_of_lt hx]
  intro i hk
  simp only [shs, zts, sos, sls, zss, eqs, sx, sb1, sb2, sb3, sb4, sb5, ↓reduceIte, Nat.reduceAdd, Nat.reduceMul, Nat.reduceDiv, Nat.reduceEqDiff, Nat.reduceLT, Nat.reduceLeDiff, reduceCtorEq, Int.reduceEq, Int.reduceNe, Int.reduceLT, Int.reduceLE, Int.reduceAdd, Int.reduceSub, Int.reduceMul, Int.reduceNeg, Int.reduceToNat, Int.cast_ofNat_Int, Int.natCast_zero, Int.natCast_one, Int.toNat_natCast, Nat.reduceBEq]
  have h2 : x < 4611686018427387904 := Nat.lt_of_lt_of_le hx (Nat.pow_le_pow_right (n := 2) (j := 62) (by omega) hn)
  refine ⟨fun h5 => ?_, fun h5 => ?_⟩
  · obtain ⟨i, rfl⟩ : ∃ j, i = j + 1 := ⟨i - 1, by omega⟩
    have g1 := hy.el1 (bitsL_get (x := x) (show i < n by omega)) rfl
    have i1 := hy.ix (i := (i : Int)) (by omega) (by rw [List.length_map, bitsL_len]; omega)
    have hd := div_succ x i
    have h3 : x / 2 ^ i ≤ x := Nat.div_le_self _ _
    simp only [shs, zts, sos, sls, zss, eqs, sx, sb1, sb2, sb3, sb4, sb5, ↓reduceIte, Nat.reduceAdd, Nat.reduceMul, Nat.reduceDiv, Nat.reduceEqDiff, Nat.reduceLT, Nat.reduceLeDiff, reduceCtorEq, Int.reduceEq, Int.reduceNe, Int.reduceLT, Int.reduceLE, Int.reduceAdd, Int.reduceSub, Int.reduceMul, Int.reduceNeg, Int.reduceToNat, Int.cast_ofNat_Int, Int.natCast_zero, Int.natCast_one, Int.toNat_natCast, Nat.reduceBEq, inK, lo, hi, Int.natCast_add, Int.add_sub_cancel, g1.1]
    have h6 : x / 2 ^ (i + 1) ≤ x := Nat.div_le_self _ _
    refine ⟨?_, i1, g1.2, fun hb => ⟨?_, by omega, i, ⟨by omega, by omega⟩, Ent.of ?_⟩, fun hb => ⟨by omega, i, ⟨by omega, by omega⟩, Ent.of ?_⟩⟩
    · generalize x / 2 ^ (i + 1) = z at h6; omega
    · generalize x / 2 ^ (i + 1) = z at h6; omega
    · have e : ((x / 2 ^ i : Nat) : Int) = ((x / 2 ^ (i + 1) : Nat) : Int) * 2 + 1 := by rw [hd, if_pos hb]; generalize x / 2 ^ (i + 1) = z; omega
      simp only [sx, sb1, sb2, sb3, sb4, sb5, ↓reduceIte, Nat.reduceAdd, Nat.reduceMul, Nat.reduceDiv, Nat.reduceEqDiff, Nat.reduceLT, Nat.reduceLeDiff, reduceCtorEq, Int.reduceEq, Int.reduceNe, Int.reduceLT, Int.reduceLE, Int.reduceAdd, Int.reduceSub, Int.reduceMul, Int.reduceNeg, Int.reduceToNat, Int.cast_ofNat_Int, Int.natCast_zero, Int.natCast_one, Int.toNat_natCast, Nat.reduceBEq, e]
    · have e : ((x / 2 ^ i : Nat) : Int) = ((x / 2 ^ (i + 1) : Nat) : Int) * 2 := by rw [hd, if_neg (by rw [hb]; decide)]; generalize x / 2 ^ (i + 1) = z; omega
      simp only [sx, sb1, sb2, sb3, sb4, sb5, ↓reduceIte, Nat.reduceAdd, Nat.reduceMul, Nat.reduceDiv, Nat.reduceEqDiff, Nat.reduceLT, Nat.reduceLeDiff, reduceCtorEq, Int.reduceEq, Int.reduceNe, Int.reduceLT, Int.reduceLE, Int.reduceAdd, Int.reduceSub, Int.reduceMul, Int.reduceNeg, Int.reduceToNat, Int.cast_ofNat_Int, Int.natCast_zero, Int.natCast_one, Int.toNat_natCast, Nat.reduceBEq, e]
  · have : i = 0 := by omega
    subst this
    rw [Nat.pow_zero, Nat.div_one]

theorem subV_full {M : Mem} {v : Value} {sz : Nat} {es : List (List Value)} (h : RowM M v sz es) : subV v sz 0 es.length = v := by
  have h1 := h.sl
  have h2 := h.len
  cases v <;> simp only [isSl, reduceCtorEq, Bool.false_eq_true] at h1
  rename_i ad n c
  simp only [lenV] at h2
  subst h2
  simp only [subV, Nat.sub_zero, Nat.zero_mul]
  congr 1
  split
  · rfl
  · cases ad with
    | none => rfl
    | some ad => simp only [Option.map_some, Addr.add_zero']
theorem subV_sub (v : Value) (sz k j : Nat) : subV (subV v sz 0 k) sz 0 j = subV v sz 0 j := by
  cases v <;> try rfl
  rename_i ad n c
  simp only [subV, Nat.sub_zero, Nat.zero_mul]
  congr 1
  split
  · rename_i h; simp only [h, if_true]
  · rename_i h
    cases ad with
    | none => rfl
    | some ad => simp only [Option.map_some, Addr.add_zero', ite_self]
theorem pre {M : Mem} {v : Value} {sz k : Nat} {es : List (List Value)} (h : RowM M v sz es) (hk : k ≤ es.length) : RowM M (subV v sz 0 k) sz (es.take k) := by
  have := h.sub (Nat.zero_le k) hk
  simpa using this
theorem preB {M : Mem} {v : Value} {n x k : Nat} (h : RowM M v 1 ((bitsL n x).map encT)) (hk : k ≤ n) : RowM M (subV v 1 0 k) 1 ((bitsL k x).map encT) := by
  have := pre h (k := k) (by rw [List.length_map, bitsL_len]; exact hk)
  rwa [← List.map_take, bitsL_take hk] at this

theorem trim (y : Value) (n x : Nat) (M : Mem) (hy : RowM M y 1 ((bitsL n x).map encT)) (hx : x < 2 ^ n) :
    Meets Proofs.Try.prog 149 [.v y] M fun r _ _ => r = .v (subV y 1 0 (sz x)) := by
  refine Meets.of_body [0,2,14] Proofs.Try.func149 rfl (by kernel_rfl) rfl fun w => ?_
  have hle := hy.len_le
  rw [List.length_map, bitsL_len] at hle
  have hfull := subV_full hy
  rw [List.length_map, bitsL_len] at hfull
  simp only [Proofs.Try.f149, shs, zts, sos, sls, zss, eqs, sx, sb1, sb2, sb3, sb4, sb5, ↓reduceIte, Nat.reduceAdd, Nat.reduceMul, Nat.reduceDiv, Nat.reduceEqDiff, Nat.reduceLT, Nat.reduceLeDiff, reduceCtorEq, Int.reduceEq, Int.reduceNe, Int.reduceLT, Int.reduceLE, Int.reduceAdd, Int.reduceSub, Int.reduceMul, Int.reduceNeg, Int.reduceToNat, Int.cast_ofNat_Int, Int.natCast_zero, Int.natCast_one, Int.toNat_natCast, Nat.reduceBEq]
  refine LoopK.go (X := Nat) (fun k => ([(0, true, .v (subV y 1 0 k))], [], M))
    (fun k => k ≤ n ∧ sz x ≤ k) (fun k => k) n ⟨Nat.le_refl _, sz_le.2 hx⟩ (Ent.of ?_) ?_
  · simp only [sx, sb1, sb2, sb3, sb4, sb5, ↓reduceIte, Nat.reduceAdd, Nat.reduceMul, Nat.reduceDiv, Nat.reduceEqDiff, Nat.reduceLT, Nat.reduceLeDiff, reduceCtorEq, Int.reduceEq, Int.reduceNe, Int.reduceLT, Int.reduceLE, Int.reduceAdd, Int.reduceSub, Int.reduceMul, Int.reduceNeg, Int.reduceToNat, Int.cast_ofNat_Int, Int.natCast_zero, Int.natCast_one, Int.toNat_natCast, Nat.reduceBEq, hfull]
  rintro k ⟨hk, hxk⟩
  have hr := preB hy hk
  cases k with
  | zero =>
    have : sz x = 0 := by omega
    simp only [shs, zts, sos, sls, zss, eqs, sx, sb1, sb2, sb3, sb4, sb5, ↓reduceIte, Nat.reduceAdd, Nat.reduceMul, Nat.reduceDiv, Nat.reduceEqDiff, Nat.reduceLT, Nat.reduceLeDiff, reduceCtorEq, Int.reduceEq, Int.reduceNe, Int.reduceLT, Int.reduceLE, Int.reduceAdd, Int.reduceSub, Int.reduceMul, Int.reduceNeg, Int.reduceToNat, Int.cast_ofNat_Int, Int.natCast_zero, Int.natCast_one, Int.toNat_natCast, Nat.reduceBEq, hr.len, hr.sl, List.length_map, bitsL_len, this]
  | succ j =>
    have g1 := hr.el1 (bitsL_get (x := x) (show j < j + 1 by omega)) rfl
    have i1 := hr.ix (i := (j : Int)) (by omega) (by rw [List.length_map, bitsL_len]; omega)
    have hcap := hr.1.2.2.1
    rw [hr.len, List.length_map, bitsL_len] at hcap
    simp only [shs, zts, sos, sls, zss, eqs, sx, sb1, sb2, sb3, sb4, sb5, ↓reduceIte, Nat.reduceAdd, Nat.reduceMul, Nat.reduceDiv, Nat.reduceEqDiff, Nat.reduceLT, Nat.reduceLeDiff, reduceCtorEq, Int.reduceEq, Int.reduceNe, Int.reduceLT, Int.reduceLE, Int.reduceAdd, Int.reduceSub, Int.reduceMul, Int.reduceNeg, Int.reduceToNat, Int.cast_ofNat_Int, Int.natCast_zero, Int.natCast_one, Int.toNat_natCast, Nat.reduceBEq, inK, lo, hi, hr.len, hr.sl, List.length_map, bitsL_len, Int.natCast_add, Int.add_sub_cancel, g1.1, subV_sub]
    refine ⟨fun _ => by omega, fun _ => ⟨by omega, i1⟩, fun _ => ⟨by omega, g1.2⟩, fun h => ⟨by omega, by omega, j, ⟨⟨by omega, ?_⟩, by omega⟩, Ent.of ?_⟩, fun h => ?_⟩
    · have h2 := h.2
      rcases Nat.lt_or_ge j (sz x) with h3 | h3
      · have h4 : sz x = j + 1 := by omega
        have h5 := testBit_top (x := x) (sz_pos.1 (by omega))
        rw [h4, Nat.add_sub_cancel, h2] at h5
        cases h5
      · exact h3
    · simp only [sx, sb1, sb2, sb3, sb4, sb5, ↓reduceIte, Nat.reduceAdd, Nat.reduceMul, Nat.reduceDiv, Nat.reduceEqDiff, Nat.reduceLT, Nat.reduceLeDiff, reduceCtorEq, Int.reduceEq, Int.reduceNe, Int.reduceLT, Int.reduceLE, Int.reduceAdd, Int.reduceSub, Int.reduceMul, Int.reduceNeg, Int.reduceToNat, Int.cast_ofNat_Int, Int.natCast_zero, Int.natCast_one, Int.toNat_natCast, Nat.reduceBEq]
    · have h2 := h (by omega)
      have : sz x = j + 1 := by
        rcases Nat.lt_or_ge j (sz x) with h3 | h3
        · omega
        · rw [testBit_sz h3] at h2; cases h2
      rw [this]

theorem gD {n z j : Nat} (h : j < n) : ((bitsL n z).map encT).getD j [] = [.bool (z.testBit j)] := by
  rw [List.getD_eq_getElem?_getD, List.getElem?_map, bitsL_get h]
  rfl
theorem setT {n z j : Nat} : ((bitsL n z).map encT).set j [.bool (!z.testBit j)] = (bitsL n (z ^^^ 2 ^ j)).map encT := by
  rw [← bitsL_flip, List.map_set]
  rfl
theorem setTrue {n z j : Nat} (h : z.testBit j = false) : ((bitsL n z).map encT).set j [.bool true] = (bitsL n (z ^^^ 2 ^ j)).map encT := by
  rw [← setT, h]
  rfl
theorem repF (n : Nat) : List.replicate n [Value.bool false] = (bitsL n 0).map encT := by
  induction n with
  | zero => rfl
  | succ n ih => rw [bitsL_succ, List.map_append, ← ih, List.replicate_succ']; simp [encT]
theorem sz_mulp_lt {a b n m : Nat} (h1 : sz a ≤ n) (h2 : sz b ≤ m) (hn : 1 ≤ n) : sz (mulp a b) ≤ n + m - 1 := by
  by_cases ha : a = 0
  · subst ha; rw [mulp_zero]; simp [sz_zero]
  by_cases hb : b = 0
  · subst hb; rw [mulp_zero_right]; simp [sz_zero]
  have := sz_mulp ha hb
  omega
theorem xor_right (a b c : Nat) : (a ^^^ b) ^^^ c = a ^^^ (b ^^^ c) := Nat.xor_assoc a b c
theorem mod_mul (b k i : Nat) : b % 2 ^ (k + 1) * 2 ^ i = b % 2 ^ k * 2 ^ i ^^^ (if b.testBit k then 2 ^ (i + k) else 0) := by
  rw [mod_succ, xor_pow]
  congr 1
  split
  · rw [← Nat.pow_add, Nat.add_comm]
  · rw [Nat.zero_mul]

theorem len_nil : lenV (.slice none 0 0) = 0 := rfl
theorem clone (u : Value) (l : List Bool) (M : Mem) (hu : RowM M u 1 (l.map encT)) (hs : someV u = true) (hb : l.length ≤ 1000000) :
    Meets Proofs.Try.prog 148 [.v u] M (OwnR (fun s => s) 1 (l.map encT)) := by
  refine Meets.of_body [0,2,4] Proofs.Try.func148 rfl (by kernel_rfl) rfl fun w => ?_
  obtain ⟨r1, r2⟩ := hu.rows (by omega)
  simp only [Proofs.Try.f148, shs, zts, sos, sls, zss, eqs, sx, sb1, sb2, sb3, sb4, sb5, ↓reduceIte, Nat.reduceAdd, Nat.reduceMul, Nat.reduceDiv, Nat.reduceEqDiff, Nat.reduceLT, Nat.reduceLeDiff, reduceCtorEq, Int.reduceEq, Int.reduceNe, Int.reduceLT, Int.reduceLE, Int.reduceAdd, Int.reduceSub, Int.reduceMul, Int.reduceNeg, Int.reduceToNat, Int.cast_ofNat_Int, Int.natCast_zero, Int.natCast_one, Int.toNat_natCast, Nat.reduceBEq, hu.sl, hs, r1, List.length_map]
  exact ⟨⟨by omega, r2⟩, 56, rfl, rfl⟩
theorem cloneNil (u : Value) (l : List Bool) (M : Mem) (hu : RowM M u 1 (l.map encT)) (hs : someV u = false) :
    Meets Proofs.Try.prog 148 [.v u] M fun r _ _ => r = .v (.slice none 0 0) := by
  refine Meets.of_body [0,2,4] Proofs.Try.func148 rfl (by kernel_rfl) rfl fun w => ?_
  simp only [Proofs.Try.f148, shs, zts, sos, sls, zss, eqs, sx, sb1, sb2, sb3, sb4, sb5, ↓reduceIte, Nat.reduceAdd, Nat.reduceMul, Nat.reduceDiv, Nat.reduceEqDiff, Nat.reduceLT, Nat.reduceLeDiff, reduceCtorEq, Int.reduceEq, Int.reduceNe, Int.reduceLT, Int.reduceLE, Int.reduceAdd, Int.reduceSub, Int.reduceMul, Int.reduceNeg, Int.reduceToNat, Int.cast_ofNat_Int, Int.natCast_zero, Int.natCast_one, Int.toNat_natCast, Nat.reduceBEq, hu.sl, hs]

theorem left (u v : Value) (n a b : Nat) (M : Mem) (hu : RowM M u 1 ((bitsL n a).map encT)) (hv : RowM M v 1 ((bitsL (sz b) b).map encT)) (ha : a < 2 ^ n) (hb : b ≠ 0) (hn : n ≤ 200) :
    Meets Proofs.Try.prog 88 [.v u, .v v] M (RowR2 1 ((bitsL (sz (pdiv a b)) (pdiv a b)).map encT) ((bitsL (sz (pmod a b)) (pmod a b)).map encT)) := by
  refine Meets.of_body [0,1,4,5,6,7,8,24,33,34,35,36,40] Proofs.Try.func88 rfl (by kernel_rfl) rfl fun w => ?_
  have hza : sz a ≤ n := sz_le.2 ha
  have hsb := sz_pos.2 hb
  have h1 := preB hu hza
  have hlv := hv.len_le
  rw [List.length_map, bitsL_len] at hlv
  simp only [Proofs.Try.f88, shs, zts, sos, sls, zss, eqs, sx, sb1, sb2, sb3, sb4, sb5, ↓reduceIte, Nat.reduceAdd, Nat.reduceMul, Nat.reduceDiv, Nat.reduceEqDiff, Nat.reduceLT, Nat.reduceLeDiff, reduceCtorEq, Int.reduceEq, Int.reduceNe, Int.reduceLT, Int.reduceLE, Int.reduceAdd, Int.reduceSub, Int.reduceMul, Int.reduceNeg, Int.reduceToNat, Int.cast_ofNat_Int, Int.natCast_zero, Int.natCast_one, Int.toNat_natCast, Nat.reduceBEq]
  refine CallK.pure ⟨rfl, rfl⟩ rfl (trim u n a M hu ha) ?_
  simp only [shs, zts, sos, sls, zss, eqs, sx, sb1, sb2, sb3, sb4, sb5, ↓reduceIte, Nat.reduceAdd, Nat.reduceMul, Nat.reduceDiv, Nat.reduceEqDiff, Nat.reduceLT, Nat.reduceLeDiff, reduceCtorEq, Int.reduceEq, Int.reduceNe, Int.reduceLT, Int.reduceLE, Int.reduceAdd, Int.reduceSub, Int.reduceMul, Int.reduceNeg, Int.reduceToNat, Int.cast_ofNat_Int, Int.natCast_zero, Int.natCast_one, Int.toNat_natCast, Nat.reduceBEq]
  cases hs : someV (subV u 1 0 (sz a)) with
  | false =>
    refine CallK.pure ⟨rfl, rfl⟩ rfl (cloneNil _ _ M h1 hs) ?_
    have hsa : sz a = 0 := by
      have h2 := h1.2.1
      rw [hs] at h2
      rcases Nat.eq_zero_or_pos (sz a) with h | h
      · exact h
      · exact (Bool.false_ne_true (h2 (fun e => by
          have := congrArg List.length e
          rw [List.length_map, bitsL_len, List.length_nil] at this
          omega))).elim
    have ha0 : a = 0 := by
      rcases Nat.eq_zero_or_pos a with h | h
      · exact h
      · have := sz_pos.2 (Nat.ne_of_gt h); omega
    obtain ⟨e1, e2⟩ := divmod_uniq (a := a) (b := b) (q := 0) (r := 0) (by rw [mulp_zero, ha0]; rfl) (by rw [sz_zero]; exact hsb)
    rw [e1, e2]
    have hL : (max 0 (0 - (sz b : Int) + 1)).toNat = 1 - sz b := by omega
    simp only [shs, zts, sos, sls, zss, eqs, sx, sb1, sb2, sb3, sb4, sb5, ↓reduceIte, Nat.reduceAdd, Nat.reduceMul, Nat.reduceDiv, Nat.reduceEqDiff, Nat.reduceLT, Nat.reduceLeDiff, reduceCtorEq, Int.reduceEq, Int.reduceNe, Int.reduceLT, Int.reduceLE, Int.reduceAdd, Int.reduceSub, Int.reduceMul, Int.reduceNeg, Int.reduceToNat, Int.cast_ofNat_Int, Int.natCast_zero, Int.natCast_one, Int.toNat_natCast, Nat.reduceBEq, inK, lo, hi, len_nil, hv.len, hv.sl, List.length_map, bitsL_len, hL, repF]
    refine ⟨by omega, by omega, by omega, ?_⟩
    refine LoopK.go (X := Unit) (fun _ => ([(1, true, .v v), (4, true, .own 152), (5, true, .v (.slice none 0 0))], [(152, .row 1 ((bitsL (1 - sz b) 0).map encT))], M)) (fun _ => True) (fun _ => 0) () trivial (Ent.of ?_) ?_
    · simp only [sx, sb1, sb2, sb3, sb4, sb5, ↓reduceIte, Nat.reduceAdd, Nat.reduceMul, Nat.reduceDiv, Nat.reduceEqDiff, Nat.reduceLT, Nat.reduceLeDiff, reduceCtorEq, Int.reduceEq, Int.reduceNe, Int.reduceLT, Int.reduceLE, Int.reduceAdd, Int.reduceSub, Int.reduceMul, Int.reduceNeg, Int.reduceToNat, Int.cast_ofNat_Int, Int.natCast_zero, Int.natCast_one, Int.toNat_natCast, Nat.reduceBEq]
    intro _ _
    simp only [shs, zts, sos, sls, zss, eqs, sx, sb1, sb2, sb3, sb4, sb5, ↓reduceIte, Nat.reduceAdd, Nat.reduceMul, Nat.reduceDiv, Nat.reduceEqDiff, Nat.reduceLT, Nat.reduceLeDiff, reduceCtorEq, Int.reduceEq, Int.reduceNe, Int.reduceLT, Int.reduceLE, Int.reduceAdd, Int.reduceSub, Int.reduceMul, Int.reduceNeg, Int.reduceToNat, Int.cast_ofNat_Int, Int.natCast_zero, Int.natCast_one, Int.toNat_natCast, Nat.reduceBEq, len_nil, hv.len, hv.sl, List.length_map, bitsL_len]
    refine ⟨fun h => by omega, fun _ => ?_⟩
    refine CallK.pub (k := 152) rfl fun v2 M2 hM2 hv2 => ?_
    simp only [sx, sb1, sb2, sb3, sb4, sb5, ↓reduceIte, Nat.reduceAdd, Nat.reduceMul, Nat.reduceDiv, Nat.reduceEqDiff, Nat.reduceLT, Nat.reduceLeDiff, reduceCtorEq, Int.reduceEq, Int.reduceNe, Int.reduceLT, Int.reduceLE, Int.reduceAdd, Int.reduceSub, Int.reduceMul, Int.reduceNeg, Int.reduceToNat, Int.cast_ofNat_Int, Int.natCast_zero, Int.natCast_one, Int.toNat_natCast, Nat.reduceBEq, sp1, sp2, sp3]
    refine CallK.pure ⟨rfl, rfl⟩ rfl (trim v2 _ _ M2 hv2 (Nat.two_pow_pos _)) ?_
    simp only [shs, zts, sos, sls, zss, eqs, sx, sb1, sb2, sb3, sb4, sb5, ↓reduceIte, Nat.reduceAdd, Nat.reduceMul, Nat.reduceDiv, Nat.reduceEqDiff, Nat.reduceLT, Nat.reduceLeDiff, reduceCtorEq, Int.reduceEq, Int.reduceNe, Int.reduceLT, Int.reduceLE, Int.reduceAdd, Int.reduceSub, Int.reduceMul, Int.reduceNeg, Int.reduceToNat, Int.cast_ofNat_Int, Int.natCast_zero, Int.natCast_one, Int.toNat_natCast, Nat.reduceBEq]
    exact ⟨_, _, rfl, preB hv2 (Nat.zero_le _), RowM.nil _ _⟩
  | true =>
    refine CallK.own Ctx.id rfl rfl (clone _ _ M h1 hs (by rw [bitsL_len]; omega)) rfl fun M2 hM2 => ?_
    replace hv := hv.le hM2
    have hL : (max 0 ((sz a : Int) - (sz b : Int) + 1)).toNat = sz a + 1 - sz b := by omega
    simp only [shs, zts, sos, sls, zss, eqs, sx, sb1, sb2, sb3, sb4, sb5, ↓reduceIte, Nat.reduceAdd, Nat.reduceMul, Nat.reduceDiv, Nat.reduceEqDiff, Nat.reduceLT, Nat.reduceLeDiff, reduceCtorEq, Int.reduceEq, Int.reduceNe, Int.reduceLT, Int.reduceLE, Int.reduceAdd, Int.reduceSub, Int.reduceMul, Int.reduceNeg, Int.reduceToNat, Int.cast_ofNat_Int, Int.natCast_zero, Int.natCast_one, Int.toNat_natCast, Nat.reduceBEq, List.length_map, bitsL_len, inK, lo, hi, hv.len, hv.sl, hL, repF]
    refine ⟨by omega, by omega, by omega, ?_⟩
    refine LoopK.go (X := Nat × Nat) (fun p => ([(1, true, .v v), (4, true, .own 152), (5, true, .own 88)], [(88, .row 1 ((bitsL (sz p.2) p.2).map encT)), (152, .row 1 ((bitsL (sz a + 1 - sz b) p.1).map encT))], M2))
      (fun p => ((a = mulp p.1 b ^^^ p.2 ∧ ∀ j, j + sz b ≤ sz p.2 → p.1.testBit j = false) ∧ sz p.2 ≤ sz a) ∧ sz p.1 ≤ sz a + 1 - sz b) (fun p => sz p.2) (0, a) ⟨⟨⟨by rw [mulp_zero, Nat.zero_xor], fun j _ => Nat.zero_testBit j⟩, Nat.le_refl _⟩, Nat.zero_le _⟩ (Ent.of ?_) ?_
    · simp only [sx, sb1, sb2, sb3, sb4, sb5, ↓reduceIte, Nat.reduceAdd, Nat.reduceMul, Nat.reduceDiv, Nat.reduceEqDiff, Nat.reduceLT, Nat.reduceLeDiff, reduceCtorEq, Int.reduceEq, Int.reduceNe, Int.reduceLT, Int.reduceLE, Int.reduceAdd, Int.reduceSub, Int.reduceMul, Int.reduceNeg, Int.reduceToNat, Int.cast_ofNat_Int, Int.natCast_zero, Int.natCast_one, Int.toNat_natCast, Nat.reduceBEq]
    rintro ⟨q, x⟩ ⟨⟨⟨i1, i2⟩, i3⟩, i4⟩
    simp only at i1 i2 i3 i4
    simp only [shs, zts, sos, sls, zss, eqs, sx, sb1, sb2, sb3, sb4, sb5, ↓reduceIte, Nat.reduceAdd, Nat.reduceMul, Nat.reduceDiv, Nat.reduceEqDiff, Nat.reduceLT, Nat.reduceLeDiff, reduceCtorEq, Int.reduceEq, Int.reduceNe, Int.reduceLT, Int.reduceLE, Int.reduceAdd, Int.reduceSub, Int.reduceMul, Int.reduceNeg, Int.reduceToNat, Int.cast_ofNat_Int, Int.natCast_zero, Int.natCast_one, Int.toNat_natCast, Nat.reduceBEq, List.length_map, bitsL_len, inK, lo, hi, hv.len, hv.sl]
    refine ⟨fun h5 => ?_, fun h5 => ?_⟩
    · have hs2 : (sz x : Int) - (sz b : Int) = ((sz x - sz b : Nat) : Int) := by omega
      have h10 := i2 (sz x - sz b) (by omega)
      simp only [shs, zts, sos, sls, zss, eqs, sx, sb1, sb2, sb3, sb4, sb5, ↓reduceIte, Nat.reduceAdd, Nat.reduceMul, Nat.reduceDiv, Nat.reduceEqDiff, Nat.reduceLT, Nat.reduceLeDiff, reduceCtorEq, Int.reduceEq, Int.reduceNe, Int.reduceLT, Int.reduceLE, Int.reduceAdd, Int.reduceSub, Int.reduceMul, Int.reduceNeg, Int.reduceToNat, Int.cast_ofNat_Int, Int.natCast_zero, Int.natCast_one, Int.toNat_natCast, Nat.reduceBEq, hs2, List.length_map, bitsL_len, setTrue h10]
      refine ⟨by omega, ⟨by omega, by omega⟩, fun _ => trivial, ⟨by omega, by omega⟩, ?_⟩
      refine LoopK.go (X := Nat) (fun i => ([(1, true, .v v), (4, true, .own 152), (5, true, .own 88), (6, true, .v (.int .i64 ((sz x - sz b : Nat) : Int))), (33, true, .v v), (34, true, .v (.int .i64 (sz b : Nat))), (35, true, .v (.int .i64 i))],
          [(88, .row 1 ((bitsL (sz x) (x ^^^ b % 2 ^ i * 2 ^ (sz x - sz b))).map encT)), (152, .row 1 ((bitsL (sz a + 1 - sz b) (q ^^^ 2 ^ (sz x - sz b))).map encT))], M2))
        (fun i => i ≤ sz b) (fun i => sz b - i) 0 (Nat.zero_le _) (Ent.of ?_) ?_
      · simp only [sx, sb1, sb2, sb3, sb4, sb5, ↓reduceIte, Nat.reduceAdd, Nat.reduceMul, Nat.reduceDiv, Nat.reduceEqDiff, Nat.reduceLT, Nat.reduceLeDiff, reduceCtorEq, Int.reduceEq, Int.reduceNe, Int.reduceLT, Int.reduceLE, Int.reduceAdd, Int.reduceSub, Int.reduceMul, Int.reduceNeg, Int.reduceToNat, Int.cast_ofNat_Int, Int.natCast_zero, Int.natCast_one, Int.toNat_natCast, Nat.reduceBEq, Nat.pow_zero, Nat.mod_one, Nat.zero_mul, Nat.xor_zero]
      intro i hib
      simp only [shs, zts, sos, sls, zss, eqs, sx, sb1, sb2, sb3, sb4, sb5, ↓reduceIte, Nat.reduceAdd, Nat.reduceMul, Nat.reduceDiv, Nat.reduceEqDiff, Nat.reduceLT, Nat.reduceLeDiff, reduceCtorEq, Int.reduceEq, Int.reduceNe, Int.reduceLT, Int.reduceLE, Int.reduceAdd, Int.reduceSub, Int.reduceMul, Int.reduceNeg, Int.reduceToNat, Int.cast_ofNat_Int, Int.natCast_zero, Int.natCast_one, Int.toNat_natCast, Nat.reduceBEq]
      refine ⟨fun h6 => ?_, fun h6 => ?_⟩
      · have g2 := hv.el1 (bitsL_get (x := b) (show i < sz b by omega)) rfl
        have j2 := hv.ix (i := (i : Int)) (by omega) (by rw [List.length_map, bitsL_len]; omega)
        have hik : sz x - sz b + i < sz x := by omega
        simp only [shs, zts, sos, sls, zss, eqs, sx, sb1, sb2, sb3, sb4, sb5, ↓reduceIte, Nat.reduceAdd, Nat.reduceMul, Nat.reduceDiv, Nat.reduceEqDiff, Nat.reduceLT, Nat.reduceLeDiff, reduceCtorEq, Int.reduceEq, Int.reduceNe, Int.reduceLT, Int.reduceLE, Int.reduceAdd, Int.reduceSub, Int.reduceMul, Int.reduceNeg, Int.reduceToNat, Int.cast_ofNat_Int, Int.natCast_zero, Int.natCast_one, Int.toNat_natCast, Nat.reduceBEq, g2.1, inK, lo, hi, ← Int.natCast_add, gD hik, setT, List.length_map, bitsL_len]
        have hmm := mod_mul b i (sz x - sz b)
        refine ⟨j2, g2.2, fun hb => ⟨by omega, by omega, by omega, by omega, by omega, fun _ => trivial, ⟨by omega, by omega⟩, by omega, i + 1, ⟨by omega, by omega⟩, Ent.of ?_⟩, fun hb => ⟨by omega, i + 1, ⟨by omega, by omega⟩, Ent.of ?_⟩⟩
        · rw [if_pos hb] at hmm
          simp only [sx, sb1, sb2, sb3, sb4, sb5, ↓reduceIte, Nat.reduceAdd, Nat.reduceMul, Nat.reduceDiv, Nat.reduceEqDiff, Nat.reduceLT, Nat.reduceLeDiff, reduceCtorEq, Int.reduceEq, Int.reduceNe, Int.reduceLT, Int.reduceLE, Int.reduceAdd, Int.reduceSub, Int.reduceMul, Int.reduceNeg, Int.reduceToNat, Int.cast_ofNat_Int, Int.natCast_zero, Int.natCast_one, Int.toNat_natCast, Nat.reduceBEq, hmm, Nat.xor_assoc, Int.natCast_add]
        · rw [if_neg (by rw [hb]; decide), Nat.xor_zero] at hmm
          simp only [sx, sb1, sb2, sb3, sb4, sb5, ↓reduceIte, Nat.reduceAdd, Nat.reduceMul, Nat.reduceDiv, Nat.reduceEqDiff, Nat.reduceLT, Nat.reduceLeDiff, reduceCtorEq, Int.reduceEq, Int.reduceNe, Int.reduceLT, Int.reduceLE, Int.reduceAdd, Int.reduceSub, Int.reduceMul, Int.reduceNeg, Int.reduceToNat, Int.cast_ofNat_Int, Int.natCast_zero, Int.natCast_one, Int.toNat_natCast, Nat.reduceBEq, hmm, Int.natCast_add]
      · have hib' : i = sz b := by omega
        subst hib'
        rw [mod_of_lt (Nat.le_refl _)]
        have hsz := sz_step hb (show sz b ≤ sz x by omega)
        refine CallK.cut (k := 88) (n := sz (x ^^^ b * 2 ^ (sz x - sz b))) rfl rfl (fun _ => rfl) (by rw [List.length_map, bitsL_len]; omega)
          (fun v3 M3 _ hv3 => trim v3 _ _ M3 hv3 (sz_le.1 (Nat.le_of_lt hsz))) rfl ?_
        rw [← List.map_take, bitsL_take (Nat.le_of_lt hsz)]
        simp only [shs, zts, sos, sls, zss, eqs, sx, sb1, sb2, sb3, sb4, sb5, ↓reduceIte, Nat.reduceAdd, Nat.reduceMul, Nat.reduceDiv, Nat.reduceEqDiff, Nat.reduceLT, Nat.reduceLeDiff, reduceCtorEq, Int.reduceEq, Int.reduceNe, Int.reduceLT, Int.reduceLE, Int.reduceAdd, Int.reduceSub, Int.reduceMul, Int.reduceNeg, Int.reduceToNat, Int.cast_ofNat_Int, Int.natCast_zero, Int.natCast_one, Int.toNat_natCast, Nat.reduceBEq]
        refine ⟨(q ^^^ 2 ^ (sz x - sz b), x ^^^ b * 2 ^ (sz x - sz b)), ⟨⟨⟨⟨?_, fun j hj => ?_⟩, by simp only; omega⟩, sz_xor i4 ?_⟩, hsz⟩, Ent.rekey 5 11 440 1 _ rfl rfl rfl rfl (Ent.of ?_)⟩
        · simp only
          rw [mulp_xor, mulp_pow1]
          conv => lhs; rw [i1]
          rw [show mulp q b ^^^ b * 2 ^ (sz x - sz b) ^^^ (x ^^^ b * 2 ^ (sz x - sz b)) = (mulp q b ^^^ x) ^^^ (b * 2 ^ (sz x - sz b) ^^^ b * 2 ^ (sz x - sz b)) by ac_rfl, Nat.xor_self, Nat.xor_zero]
        · simp only at hj ⊢
          rw [testBit_flip, if_neg (by omega)]
          exact i2 j (by omega)
        · rw [sz_eq (k := sz x - sz b) (Nat.le_refl _) (Nat.pow_lt_pow_right (by omega) (by omega))]
          omega
        · simp only [sx, sb1, sb2, sb3, sb4, sb5, ↓reduceIte, Nat.reduceAdd, Nat.reduceMul, Nat.reduceDiv, Nat.reduceEqDiff, Nat.reduceLT, Nat.reduceLeDiff, reduceCtorEq, Int.reduceEq, Int.reduceNe, Int.reduceLT, Int.reduceLE, Int.reduceAdd, Int.reduceSub, Int.reduceMul, Int.reduceNeg, Int.reduceToNat, Int.cast_ofNat_Int, Int.natCast_zero, Int.natCast_one, Int.toNat_natCast, Nat.reduceBEq]
    · obtain ⟨e1, e2⟩ := divmod_uniq i1 (show sz x < sz b by omega)
      rw [e1, e2]
      refine CallK.pub (k := 152) rfl fun v2 M3 hM3 hv2 => ?_
      simp only [sx, sb1, sb2, sb3, sb4, sb5, ↓reduceIte, Nat.reduceAdd, Nat.reduceMul, Nat.reduceDiv, Nat.reduceEqDiff, Nat.reduceLT, Nat.reduceLeDiff, reduceCtorEq, Int.reduceEq, Int.reduceNe, Int.reduceLT, Int.reduceLE, Int.reduceAdd, Int.reduceSub, Int.reduceMul, Int.reduceNeg, Int.reduceToNat, Int.cast_ofNat_Int, Int.natCast_zero, Int.natCast_one, Int.toNat_natCast, Nat.reduceBEq, sp1, sp2, sp3]
      refine CallK.pure ⟨rfl, rfl⟩ rfl (trim v2 _ _ M3 hv2 (sz_le.1 i4)) ?_
      simp only [shs, zts, sos, sls, zss, eqs, sx, sb1, sb2, sb3, sb4, sb5, ↓reduceIte, Nat.reduceAdd, Nat.reduceMul, Nat.reduceDiv, Nat.reduceEqDiff, Nat.reduceLT, Nat.reduceLeDiff, reduceCtorEq, Int.reduceEq, Int.reduceNe, Int.reduceLT, Int.reduceLE, Int.reduceAdd, Int.reduceSub, Int.reduceMul, Int.reduceNeg, Int.reduceToNat, Int.cast_ofNat_Int, Int.natCast_zero, Int.natCast_one, Int.toNat_natCast, Nat.reduceBEq]
      exact ⟨_, _, rfl, preB hv2 i4, rfl⟩

/-! ### greatest common divisors -/
end Go.X.Rp
