/- Tokens as bits: what pack.Bits and woolref.Pack return. Conditions: none. -/
import Derived.Test.YtbnbimncladflaaDoorPk
import Derived.Test.YtbnbimncladflaaDoorLzR
set_option linter.unusedSimpArgs false
set_option linter.unusedVariables false
set_option maxHeartbeats 4000000
set_option maxRecDepth 20000
namespace Go.X.Pb
open Go Go.X Go.RowKit Go.X.Pl Go.X.St Go.X.Pol Go.X.Gm Go.X.Pk Go.X.Lz

def tokB (t : Tk) : List UInt8 := if t.2.1 = 0 then 48 :: low t.2.2.toNat 8 else 49 :: (plainS t.1.toNat ++ plainS t.2.1.toNat)
def packT (l : List Tk) : List UInt8 := l.flatMap tokB
theorem cpy_len : ∀ (n d : Nat) (o : List UInt8), (cpy n d o).length = o.length + n
  | 0, _, _ => rfl
  | n + 1, d, o => by rw [cpy, cpy_len n d, List.length_append, List.length_singleton]; omega
theorem tk_ok {t : Tk} (h : tkB t = true) : (t.2.1 = 0 ∧ t.1 = 0 ∧ 0 ≤ t.2.2 ∧ t.2.2 < 256) ∨ ((1 ≤ t.2.1 ∧ t.2.1 ≤ 64) ∧ (1 ≤ t.1 ∧ t.1 ≤ 256) ∧ t.2.2 = 0) := by
  unfold tkB at h
  split at h
  · simp only [decide_eq_true_eq] at h; exact .inl ⟨by omega, by omega, by omega, by omega⟩
  · simp only [decide_eq_true_eq] at h; exact .inr ⟨by omega, by omega, by omega⟩
theorem exp_ok : ∀ {l : List Tk} {o : List UInt8}, o.length ≤ 600 → (exp l o).2 = 0 → (∀ t ∈ l, tkB t = true) ∧ o.length + l.length ≤ 600
  | [], o, ho, _ => ⟨(fun t h => by cases h), by simpa using ho⟩
  | t :: l, o, ho, h => by
    unfold exp at h
    split at h
    · cases h
    · rename_i h1
      have hB : tkB t = true := by simpa using h1
      split at h
      · cases h
      · rename_i h2
        split at h
        · cases h
        · rename_i h3
          have hl : (if t.2.1 = 0 then o ++ [UInt8.ofNat t.2.2.toNat] else cpy t.2.1.toNat t.1.toNat o).length ≤ 600 ∧ o.length + 1 ≤ (if t.2.1 = 0 then o ++ [UInt8.ofNat t.2.2.toNat] else cpy t.2.1.toNat t.1.toNat o).length := by
            rcases tk_ok hB with k | k
            · rw [if_pos k.1, List.length_append, List.length_singleton]
              omega
            · rw [if_neg (by omega), cpy_len]
              omega
          obtain ⟨h4, h5⟩ := exp_ok hl.1 h
          refine ⟨fun x hx => ?_, by rw [List.length_cons]; omega⟩
          rcases List.mem_cons.1 hx with rfl | hx
          · exact hB
          · exact h4 x hx
theorem plainS_len {n : Nat} (h : n ≤ 256) : (plainS n).length ≤ 20 := by
  have : sz n ≤ 9 := sz_le.2 (by omega)
  unfold plainS
  rw [List.length_append, zs_len, low_len]
  omega
theorem tokB_len {t : Tk} (h : tkB t = true) : (tokB t).length ≤ 50 := by
  unfold tokB
  rcases tk_ok h with k | k
  · rw [if_pos k.1, List.length_cons, low_len]; omega
  · have h1 := plainS_len (n := t.1.toNat) (by omega)
    have h2 := plainS_len (n := t.2.1.toNat) (by omega)
    rw [if_neg (by omega), List.length_cons, List.length_append]
    omega
theorem packT_len : ∀ {l : List Tk}, (∀ t ∈ l, tkB t = true) → (packT l).length ≤ 50 * l.length
  | [], _ => Nat.zero_le _
  | t :: l, h => by
    have h1 := tokB_len (h t List.mem_cons_self)
    have h2 := packT_len (l := l) fun x hx => h x (List.mem_cons_of_mem _ hx)
    unfold packT at h2 ⊢
    rw [List.flatMap_cons, List.length_append, List.length_cons]
    omega
theorem packT_take {l : List Tk} {i : Nat} {t : Tk} (h : l[i]? = some t) : packT (l.take (i + 1)) = packT (l.take i) ++ tokB t := by
  unfold packT
  rw [List.take_add_one, h, List.flatMap_append]
  simp
theorem bits (y : Value) (l : List Tk) (M : Mem) (hy : RowM M y 3 (l.map Lz.encT)) :
    Meets Proofs.Tryd.prog 17 [.v y] M fun r _ _ => r = .tup [.v (.string ⟨(if (exp l []).2 = 0 then packT l else []).toArray⟩), .v (.int .i64 (exp l []).2)] := by
  refine Meets.of_body [0,2,3,5,6,8,9,11,19,21,22,23,24,29] Proofs.Tryd.func17 rfl (by kernel_rfl) rfl fun w => ?_
  have hyl := hy.len_le
  rw [List.length_map] at hyl
  simp only [Proofs.Tryd.f17, shs, zts, sos, sls, zss, eqs, sx, sb1, sb2, sb3, sb4, sb5, sb6, sb7, ↓reduceIte, Nat.reduceAdd, Nat.reduceMul, Nat.reduceDiv, Nat.reduceEqDiff, Nat.reduceLT, Nat.reduceLeDiff, reduceCtorEq, Int.reduceEq, Int.reduceNe, Int.reduceLT, Int.reduceLE, Int.reduceAdd, Int.reduceSub, Int.reduceMul, Int.reduceNeg, Int.reduceToNat, Int.cast_ofNat_Int, Int.natCast_zero, Int.natCast_one, Int.toNat_natCast, Nat.reduceBEq, nzs]
  refine CallK.pure ⟨rfl, rfl⟩ rfl (expand y l M hy) ?_
  by_cases he : (exp l []).2 = 0
  rotate_left
  · have c0 := eq_false he
    simp only [shs, zts, sos, sls, zss, eqs, sx, sb1, sb2, sb3, sb4, sb5, sb6, sb7, ↓reduceIte, Nat.reduceAdd, Nat.reduceMul, Nat.reduceDiv, Nat.reduceEqDiff, Nat.reduceLT, Nat.reduceLeDiff, reduceCtorEq, Int.reduceEq, Int.reduceNe, Int.reduceLT, Int.reduceLE, Int.reduceAdd, Int.reduceSub, Int.reduceMul, Int.reduceNeg, Int.reduceToNat, Int.cast_ofNat_Int, Int.natCast_zero, Int.natCast_one, Int.toNat_natCast, Nat.reduceBEq, nzs, c0]
  rw [if_pos he]
  obtain ⟨hall, hll⟩ := exp_ok (Nat.zero_le _) he
  rw [List.length_nil, Nat.zero_add] at hll
  simp only [shs, zts, sos, sls, zss, eqs, sx, sb1, sb2, sb3, sb4, sb5, sb6, sb7, ↓reduceIte, Nat.reduceAdd, Nat.reduceMul, Nat.reduceDiv, Nat.reduceEqDiff, Nat.reduceLT, Nat.reduceLeDiff, reduceCtorEq, Int.reduceEq, Int.reduceNe, Int.reduceLT, Int.reduceLE, Int.reduceAdd, Int.reduceSub, Int.reduceMul, Int.reduceNeg, Int.reduceToNat, Int.cast_ofNat_Int, Int.natCast_zero, Int.natCast_one, Int.toNat_natCast, Nat.reduceBEq, nzs, he]
  refine OpK.bldNew (e := 5) rfl rfl rfl ⟨_, _, rfl, rfl, rfl⟩ fun b M1 hM1 hB => ?_
  simp only [shs, zts, sos, sls, zss, eqs, sx, sb1, sb2, sb3, sb4, sb5, sb6, sb7, ↓reduceIte, Nat.reduceAdd, Nat.reduceMul, Nat.reduceDiv, Nat.reduceEqDiff, Nat.reduceLT, Nat.reduceLeDiff, reduceCtorEq, Int.reduceEq, Int.reduceNe, Int.reduceLT, Int.reduceLE, Int.reduceAdd, Int.reduceSub, Int.reduceMul, Int.reduceNeg, Int.reduceToNat, Int.cast_ofNat_Int, Int.natCast_zero, Int.natCast_one, Int.toNat_natCast, Nat.reduceBEq, nzs, hy.len, hy.sl, List.length_map]
  refine LoopK.go (X := Nat × Nat × Mem) (fun x => ([(0, true, .v y), (6, true, .v (ptrV b)), (21, true, .v y), (22, true, .v (.int .i64 l.length)), (23, true, .v (.int .i64 (x.2.1 : Int)))], [], x.2.2))
    (fun x => x.1 + x.2.1 = l.length ∧ Bld ⟨Proofs.Tryd.prog, 54, w, M⟩ 54 5 b (packT (l.take x.2.1)) x.2.2) (fun x => x.1) (l.length, 0, M1) ⟨rfl, by rw [List.take_zero]; exact hB⟩ (Ent.of ?_) ?_
  · simp only [sx, sb1, sb2, sb3, sb4, sb5, sb6, sb7, ↓reduceIte, Nat.reduceAdd, Nat.reduceMul, Nat.reduceDiv, Nat.reduceEqDiff, Nat.reduceLT, Nat.reduceLeDiff, reduceCtorEq, Int.reduceEq, Int.reduceNe, Int.reduceLT, Int.reduceLE, Int.reduceAdd, Int.reduceSub, Int.reduceMul, Int.reduceNeg, Int.reduceToNat, Int.cast_ofNat_Int, Int.natCast_zero, Int.natCast_one, Int.toNat_natCast, Nat.reduceBEq, Int.natCast_zero]
  rintro ⟨f, i, M2⟩ ⟨n1, hB2⟩
  simp only at n1 hB2
  have hy2 := hy.le hB2.le
  by_cases hil : i < l.length
  rotate_left
  · have d1 : ((i : Int) < (l.length : Int)) = False := eq_false (by omega)
    rw [List.take_of_length_le (by omega)] at hB2
    simp only [shs, zts, sos, sls, zss, eqs, sx, sb1, sb2, sb3, sb4, sb5, sb6, sb7, ↓reduceIte, Nat.reduceAdd, Nat.reduceMul, Nat.reduceDiv, Nat.reduceEqDiff, Nat.reduceLT, Nat.reduceLeDiff, reduceCtorEq, Int.reduceEq, Int.reduceNe, Int.reduceLT, Int.reduceLE, Int.reduceAdd, Int.reduceSub, Int.reduceMul, Int.reduceNeg, Int.reduceToNat, Int.cast_ofNat_Int, Int.natCast_zero, Int.natCast_one, Int.toNat_natCast, Nat.reduceBEq, nzs, d1]
    refine CallK.bldString (ρ := Proofs.Tryd.lays169_ren) Proofs.Tryd.lays169 Proofs.Tryd.extra169 rfl rfl rfl rfl ⟨_, Proofs.Tryd.func35, by kernel_rfl, by kernel_rfl⟩ hB2 ?_
    simp only [shs, zts, sos, sls, zss, eqs, sx, sb1, sb2, sb3, sb4, sb5, sb6, sb7, ↓reduceIte, Nat.reduceAdd, Nat.reduceMul, Nat.reduceDiv, Nat.reduceEqDiff, Nat.reduceLT, Nat.reduceLeDiff, reduceCtorEq, Int.reduceEq, Int.reduceNe, Int.reduceLT, Int.reduceLE, Int.reduceAdd, Int.reduceSub, Int.reduceMul, Int.reduceNeg, Int.reduceToNat, Int.cast_ofNat_Int, Int.natCast_zero, Int.natCast_one, Int.toNat_natCast, Nat.reduceBEq, nzs]
  have d1 : ((i : Int) < (l.length : Int)) = True := eq_true (by omega)
  obtain ⟨t, hx, hd⟩ := l_drop_at (l := l) (i := i) hil
  obtain ⟨⟨g0, g1⟩, g2, i0⟩ := tk_at hy2 hx
  have hBt := hall t (List.mem_of_getElem? hx)
  have hpl := packT_len (l := l.take i) fun x h => hall x (List.mem_of_mem_take h)
  rw [List.length_take, Nat.min_eq_left (by omega)] at hpl
  have htl := tokB_len hBt
  have hpt := packT_take hx
  obtain ⟨td, tn, tb⟩ := t
  simp only at g0 g1 g2
  rcases tk_ok hBt with ⟨k1, k2, k3, k4⟩ | ⟨k1, k2, k3⟩
  · simp only at k1 k2 k3 k4
    subst k1
    obtain ⟨nb, rfl⟩ : ∃ nb : Nat, tb = nb := ⟨tb.toNat, by omega⟩
    simp only [shs, zts, sos, sls, zss, eqs, sx, sb1, sb2, sb3, sb4, sb5, sb6, sb7, ↓reduceIte, Nat.reduceAdd, Nat.reduceMul, Nat.reduceDiv, Nat.reduceEqDiff, Nat.reduceLT, Nat.reduceLeDiff, reduceCtorEq, Int.reduceEq, Int.reduceNe, Int.reduceLT, Int.reduceLE, Int.reduceAdd, Int.reduceSub, Int.reduceMul, Int.reduceNeg, Int.reduceToNat, Int.cast_ofNat_Int, Int.natCast_zero, Int.natCast_one, Int.toNat_natCast, Nat.reduceBEq, nzs, d1, i0, i0.2, g0.1, g0.2, g1.1, g1.2, g2.1, g2.2]
    refine CallK.pure ⟨rfl, rfl⟩ rfl (lowW nb 8 M2 (by omega) (by omega)) ?_
    simp only [shs, zts, sos, sls, zss, eqs, sx, sb1, sb2, sb3, sb4, sb5, sb6, sb7, ↓reduceIte, Nat.reduceAdd, Nat.reduceMul, Nat.reduceDiv, Nat.reduceEqDiff, Nat.reduceLT, Nat.reduceLeDiff, reduceCtorEq, Int.reduceEq, Int.reduceNe, Int.reduceLT, Int.reduceLE, Int.reduceAdd, Int.reduceSub, Int.reduceMul, Int.reduceNeg, Int.reduceToNat, Int.cast_ofNat_Int, Int.natCast_zero, Int.natCast_one, Int.toNat_natCast, Nat.reduceBEq, nzs, low_len, List.length_cons, inK, lo, hi]
    have htk : tokB (td, 0, (nb : Int)) = 48 :: low nb 8 := rfl
    refine CallK.bldWrite (ρ := Proofs.Tryd.lays166_ren) Proofs.Tryd.lays166 Proofs.Tryd.extra166 rfl rfl rfl rfl ⟨_, Proofs.Tryd.func32, by kernel_rfl, by kernel_rfl⟩ hB2 (by rw [size_bl]; show _ + (48 :: low nb 8).length ≤ _; rw [← htk]; omega) fun M3 hB3 => ?_
    simp only [shs, zts, sos, sls, zss, eqs, sx, sb1, sb2, sb3, sb4, sb5, sb6, sb7, ↓reduceIte, Nat.reduceAdd, Nat.reduceMul, Nat.reduceDiv, Nat.reduceEqDiff, Nat.reduceLT, Nat.reduceLeDiff, reduceCtorEq, Int.reduceEq, Int.reduceNe, Int.reduceLT, Int.reduceLE, Int.reduceAdd, Int.reduceSub, Int.reduceMul, Int.reduceNeg, Int.reduceToNat, Int.cast_ofNat_Int, Int.natCast_zero, Int.natCast_one, Int.toNat_natCast, Nat.reduceBEq, nzs, inK, lo, hi]
    refine ⟨by omega, (f - 1, i + 1, M3), ⟨⟨by simp only; omega, ?_⟩, by simp only; omega⟩, Ent.of ?_⟩
    · simp only
      rw [hpt, htk]
      exact hB3
    · simp only [sx, sb1, sb2, sb3, sb4, sb5, sb6, sb7, ↓reduceIte, Nat.reduceAdd, Nat.reduceMul, Nat.reduceDiv, Nat.reduceEqDiff, Nat.reduceLT, Nat.reduceLeDiff, reduceCtorEq, Int.reduceEq, Int.reduceNe, Int.reduceLT, Int.reduceLE, Int.reduceAdd, Int.reduceSub, Int.reduceMul, Int.reduceNeg, Int.reduceToNat, Int.cast_ofNat_Int, Int.natCast_zero, Int.natCast_one, Int.toNat_natCast, Nat.reduceBEq, Int.natCast_add]
  · simp only at k1 k2 k3
    obtain ⟨d, rfl⟩ : ∃ d : Nat, td = d := ⟨td.toNat, by omega⟩
    obtain ⟨n, rfl⟩ : ∃ n : Nat, tn = n := ⟨tn.toNat, by omega⟩
    have c0 : ((n : Int) = 0) = False := eq_false (by omega)
    have hEd : gamE (d : Int) = 0 := by unfold gamE; rw [if_neg (by omega)]
    have hEn : gamE (n : Int) = 0 := by unfold gamE; rw [if_neg (by omega)]
    simp only [shs, zts, sos, sls, zss, eqs, sx, sb1, sb2, sb3, sb4, sb5, sb6, sb7, ↓reduceIte, Nat.reduceAdd, Nat.reduceMul, Nat.reduceDiv, Nat.reduceEqDiff, Nat.reduceLT, Nat.reduceLeDiff, reduceCtorEq, Int.reduceEq, Int.reduceNe, Int.reduceLT, Int.reduceLE, Int.reduceAdd, Int.reduceSub, Int.reduceMul, Int.reduceNeg, Int.reduceToNat, Int.cast_ofNat_Int, Int.natCast_zero, Int.natCast_one, Int.toNat_natCast, Nat.reduceBEq, nzs, d1, c0, i0, i0.2, g0.1, g0.2, g1.1, g1.2, g2.1, g2.2]
    refine CallK.pure ⟨rfl, rfl⟩ rfl (gammaW (d : Int) M2) ?_
    simp only [shs, zts, sos, sls, zss, eqs, sx, sb1, sb2, sb3, sb4, sb5, sb6, sb7, ↓reduceIte, Nat.reduceAdd, Nat.reduceMul, Nat.reduceDiv, Nat.reduceEqDiff, Nat.reduceLT, Nat.reduceLeDiff, reduceCtorEq, Int.reduceEq, Int.reduceNe, Int.reduceLT, Int.reduceLE, Int.reduceAdd, Int.reduceSub, Int.reduceMul, Int.reduceNeg, Int.reduceToNat, Int.cast_ofNat_Int, Int.natCast_zero, Int.natCast_one, Int.toNat_natCast, Nat.reduceBEq, nzs, hEd]
    refine CallK.pure ⟨rfl, rfl⟩ rfl (gammaW (n : Int) M2) ?_
    have hp1 := plainS_len (n := d) (by omega)
    have hp2 := plainS_len (n := n) (by omega)
    simp only [shs, zts, sos, sls, zss, eqs, sx, sb1, sb2, sb3, sb4, sb5, sb6, sb7, ↓reduceIte, Nat.reduceAdd, Nat.reduceMul, Nat.reduceDiv, Nat.reduceEqDiff, Nat.reduceLT, Nat.reduceLeDiff, reduceCtorEq, Int.reduceEq, Int.reduceNe, Int.reduceLT, Int.reduceLE, Int.reduceAdd, Int.reduceSub, Int.reduceMul, Int.reduceNeg, Int.reduceToNat, Int.cast_ofNat_Int, Int.natCast_zero, Int.natCast_one, Int.toNat_natCast, Nat.reduceBEq, nzs, hEn, Int.toNat_natCast]
    have htk : tokB ((d : Int), (n : Int), tb) = 49 :: (plainS d ++ plainS n) := by
      unfold tokB
      rw [if_neg (by simp only; omega)]
      rfl
    refine ⟨by omega, by omega, ?_⟩
    refine CallK.bldWrite (ρ := Proofs.Tryd.lays166_ren) Proofs.Tryd.lays166 Proofs.Tryd.extra166 rfl rfl rfl rfl ⟨_, Proofs.Tryd.func32, by kernel_rfl, by kernel_rfl⟩ hB2 (by rw [size_bl]; show _ + (49 :: (plainS d ++ plainS n)).length ≤ _; rw [← htk]; omega) fun M3 hB3 => ?_
    simp only [shs, zts, sos, sls, zss, eqs, sx, sb1, sb2, sb3, sb4, sb5, sb6, sb7, ↓reduceIte, Nat.reduceAdd, Nat.reduceMul, Nat.reduceDiv, Nat.reduceEqDiff, Nat.reduceLT, Nat.reduceLeDiff, reduceCtorEq, Int.reduceEq, Int.reduceNe, Int.reduceLT, Int.reduceLE, Int.reduceAdd, Int.reduceSub, Int.reduceMul, Int.reduceNeg, Int.reduceToNat, Int.cast_ofNat_Int, Int.natCast_zero, Int.natCast_one, Int.toNat_natCast, Nat.reduceBEq, nzs, inK, lo, hi]
    refine ⟨by omega, (f - 1, i + 1, M3), ⟨⟨by simp only; omega, ?_⟩, by simp only; omega⟩, Ent.of ?_⟩
    · simp only
      rw [hpt, htk]
      exact hB3
    · simp only [sx, sb1, sb2, sb3, sb4, sb5, sb6, sb7, ↓reduceIte, Nat.reduceAdd, Nat.reduceMul, Nat.reduceDiv, Nat.reduceEqDiff, Nat.reduceLT, Nat.reduceLeDiff, reduceCtorEq, Int.reduceEq, Int.reduceNe, Int.reduceLT, Int.reduceLE, Int.reduceAdd, Int.reduceSub, Int.reduceMul, Int.reduceNeg, Int.reduceToNat, Int.cast_ofNat_Int, Int.natCast_zero, Int.natCast_one, Int.toNat_natCast, Nat.reduceBEq, Int.natCast_add]
theorem rpack (y : Value) (l : List Tk) (M : Mem) (hy : RowM M y 3 (l.map Lz.encT)) (hall : ∀ t ∈ l, tkB t = true) (hll : l.length ≤ 600) :
    Meets Proofs.Tryd.prog 10 [.v y] M fun r _ _ => r = .v (.string ⟨(packT l).toArray⟩) := by
  refine Meets.of_body [0,2,3,5,6,7,8,9,14] Proofs.Tryd.func10 rfl (by kernel_rfl) rfl fun w => ?_
  have hyl := hy.len_le
  rw [List.length_map] at hyl
  simp only [Proofs.Tryd.f10, shs, zts, sos, sls, zss, eqs, sx, sb1, sb2, sb3, sb4, sb5, sb6, sb7, ↓reduceIte, Nat.reduceAdd, Nat.reduceMul, Nat.reduceDiv, Nat.reduceEqDiff, Nat.reduceLT, Nat.reduceLeDiff, reduceCtorEq, Int.reduceEq, Int.reduceNe, Int.reduceLT, Int.reduceLE, Int.reduceAdd, Int.reduceSub, Int.reduceMul, Int.reduceNeg, Int.reduceToNat, Int.cast_ofNat_Int, Int.natCast_zero, Int.natCast_one, Int.toNat_natCast, Nat.reduceBEq, nzs, hy.len, hy.sl, List.length_map]
  refine LoopK.go (X := Nat × Nat) (fun x => ([(0, true, .v y), (3, true, .v (.string ⟨(packT (l.take x.2)).toArray⟩)), (6, true, .v y), (7, true, .v (.int .i64 l.length)), (8, true, .v (.int .i64 (x.2 : Int)))], [], M))
    (fun x => x.1 + x.2 = l.length) (fun x => x.1) (l.length, 0) rfl (Ent.of ?_) ?_
  · simp only [sx, sb1, sb2, sb3, sb4, sb5, sb6, sb7, ↓reduceIte, Nat.reduceAdd, Nat.reduceMul, Nat.reduceDiv, Nat.reduceEqDiff, Nat.reduceLT, Nat.reduceLeDiff, reduceCtorEq, Int.reduceEq, Int.reduceNe, Int.reduceLT, Int.reduceLE, Int.reduceAdd, Int.reduceSub, Int.reduceMul, Int.reduceNeg, Int.reduceToNat, Int.cast_ofNat_Int, Int.natCast_zero, Int.natCast_one, Int.toNat_natCast, Nat.reduceBEq, Int.natCast_zero, List.take_zero, packT, List.flatMap_nil]
  rintro ⟨f, i⟩ n1
  simp only at n1
  by_cases hil : i < l.length
  rotate_left
  · have d1 : ((i : Int) < (l.length : Int)) = False := eq_false (by omega)
    rw [List.take_of_length_le (by omega)]
    simp only [shs, zts, sos, sls, zss, eqs, sx, sb1, sb2, sb3, sb4, sb5, sb6, sb7, ↓reduceIte, Nat.reduceAdd, Nat.reduceMul, Nat.reduceDiv, Nat.reduceEqDiff, Nat.reduceLT, Nat.reduceLeDiff, reduceCtorEq, Int.reduceEq, Int.reduceNe, Int.reduceLT, Int.reduceLE, Int.reduceAdd, Int.reduceSub, Int.reduceMul, Int.reduceNeg, Int.reduceToNat, Int.cast_ofNat_Int, Int.natCast_zero, Int.natCast_one, Int.toNat_natCast, Nat.reduceBEq, nzs, d1]
  have d1 : ((i : Int) < (l.length : Int)) = True := eq_true (by omega)
  obtain ⟨t, hx, hd⟩ := l_drop_at (l := l) (i := i) hil
  obtain ⟨⟨g0, g1⟩, g2, i0⟩ := tk_at hy hx
  have hBt := hall t (List.mem_of_getElem? hx)
  have hpl := packT_len (l := l.take i) fun x h => hall x (List.mem_of_mem_take h)
  rw [List.length_take, Nat.min_eq_left (by omega)] at hpl
  have htl := tokB_len hBt
  have hpt := packT_take hx
  obtain ⟨td, tn, tb⟩ := t
  simp only at g0 g1 g2
  rcases tk_ok hBt with ⟨k1, k2, k3, k4⟩ | ⟨k1, k2, k3⟩
  · simp only at k1 k2 k3 k4
    subst k1
    obtain ⟨nb, rfl⟩ : ∃ nb : Nat, tb = nb := ⟨tb.toNat, by omega⟩
    have htk : tokB (td, 0, (nb : Int)) = 48 :: low nb 8 := rfl
    rw [htk] at hpt
    simp only [shs, zts, sos, sls, zss, eqs, sx, sb1, sb2, sb3, sb4, sb5, sb6, sb7, ↓reduceIte, Nat.reduceAdd, Nat.reduceMul, Nat.reduceDiv, Nat.reduceEqDiff, Nat.reduceLT, Nat.reduceLeDiff, reduceCtorEq, Int.reduceEq, Int.reduceNe, Int.reduceLT, Int.reduceLE, Int.reduceAdd, Int.reduceSub, Int.reduceMul, Int.reduceNeg, Int.reduceToNat, Int.cast_ofNat_Int, Int.natCast_zero, Int.natCast_one, Int.toNat_natCast, Nat.reduceBEq, nzs, d1, i0, i0.2, g0.1, g0.2, g1.1, g1.2, g2.1, g2.2]
    refine CallK.pure ⟨rfl, rfl⟩ rfl (rbyteW nb M (by omega)) ?_
    simp only [shs, zts, sos, sls, zss, eqs, sx, sb1, sb2, sb3, sb4, sb5, sb6, sb7, ↓reduceIte, Nat.reduceAdd, Nat.reduceMul, Nat.reduceDiv, Nat.reduceEqDiff, Nat.reduceLT, Nat.reduceLeDiff, reduceCtorEq, Int.reduceEq, Int.reduceNe, Int.reduceLT, Int.reduceLE, Int.reduceAdd, Int.reduceSub, Int.reduceMul, Int.reduceNeg, Int.reduceToNat, Int.cast_ofNat_Int, Int.natCast_zero, Int.natCast_one, Int.toNat_natCast, Nat.reduceBEq, nzs, low_len, List.length_cons, ← hpt, inK, lo, hi]
    refine ⟨by omega, by omega, (f - 1, i + 1), ⟨by simp only; omega, by simp only; omega⟩, Ent.of ?_⟩
    simp only [sx, sb1, sb2, sb3, sb4, sb5, sb6, sb7, ↓reduceIte, Nat.reduceAdd, Nat.reduceMul, Nat.reduceDiv, Nat.reduceEqDiff, Nat.reduceLT, Nat.reduceLeDiff, reduceCtorEq, Int.reduceEq, Int.reduceNe, Int.reduceLT, Int.reduceLE, Int.reduceAdd, Int.reduceSub, Int.reduceMul, Int.reduceNeg, Int.reduceToNat, Int.cast_ofNat_Int, Int.natCast_zero, Int.natCast_one, Int.toNat_natCast, Nat.reduceBEq, Int.natCast_add]
  · simp only at k1 k2 k3
    obtain ⟨d, rfl⟩ : ∃ d : Nat, td = d := ⟨td.toNat, by omega⟩
    obtain ⟨n, rfl⟩ : ∃ n : Nat, tn = n := ⟨tn.toNat, by omega⟩
    have c0 : ((n : Int) = 0) = False := eq_false (by omega)
    have hp1 := plainS_len (n := d) (by omega)
    have hp2 := plainS_len (n := n) (by omega)
    have htk : tokB ((d : Int), (n : Int), tb) = 49 :: (plainS d ++ plainS n) := by
      unfold tokB
      rw [if_neg (by simp only; omega)]
      rfl
    rw [htk] at hpt htl
    simp only [shs, zts, sos, sls, zss, eqs, sx, sb1, sb2, sb3, sb4, sb5, sb6, sb7, ↓reduceIte, Nat.reduceAdd, Nat.reduceMul, Nat.reduceDiv, Nat.reduceEqDiff, Nat.reduceLT, Nat.reduceLeDiff, reduceCtorEq, Int.reduceEq, Int.reduceNe, Int.reduceLT, Int.reduceLE, Int.reduceAdd, Int.reduceSub, Int.reduceMul, Int.reduceNeg, Int.reduceToNat, Int.cast_ofNat_Int, Int.natCast_zero, Int.natCast_one, Int.toNat_natCast, Nat.reduceBEq, nzs, d1, c0, i0, i0.2, g0.1, g0.2, g1.1, g1.2, g2.1, g2.2]
    refine DrawK.quiet (by kernel_rfl) (by kernel_rfl) ?_
    simp only [shs, zts, sos, sls, zss, eqs, sx, sb1, sb2, sb3, sb4, sb5, sb6, sb7, ↓reduceIte, Nat.reduceAdd, Nat.reduceMul, Nat.reduceDiv, Nat.reduceEqDiff, Nat.reduceLT, Nat.reduceLeDiff, reduceCtorEq, Int.reduceEq, Int.reduceNe, Int.reduceLT, Int.reduceLE, Int.reduceAdd, Int.reduceSub, Int.reduceMul, Int.reduceNeg, Int.reduceToNat, Int.cast_ofNat_Int, Int.natCast_zero, Int.natCast_one, Int.toNat_natCast, Nat.reduceBEq, nzs]
    refine ⟨_, ⟨⟨rfl, rfl⟩, rgammaW d M (by omega) (by omega)⟩, ?_⟩
    simp only [shs, zts, sos, sls, zss, eqs, sx, sb1, sb2, sb3, sb4, sb5, sb6, sb7, ↓reduceIte, Nat.reduceAdd, Nat.reduceMul, Nat.reduceDiv, Nat.reduceEqDiff, Nat.reduceLT, Nat.reduceLeDiff, reduceCtorEq, Int.reduceEq, Int.reduceNe, Int.reduceLT, Int.reduceLE, Int.reduceAdd, Int.reduceSub, Int.reduceMul, Int.reduceNeg, Int.reduceToNat, Int.cast_ofNat_Int, Int.natCast_zero, Int.natCast_one, Int.toNat_natCast, Nat.reduceBEq, nzs]
    refine ⟨by omega, _, ⟨⟨rfl, rfl⟩, rgammaW n M (by omega) (by omega)⟩, ?_⟩
    simp only [shs, zts, sos, sls, zss, eqs, sx, sb1, sb2, sb3, sb4, sb5, sb6, sb7, ↓reduceIte, Nat.reduceAdd, Nat.reduceMul, Nat.reduceDiv, Nat.reduceEqDiff, Nat.reduceLT, Nat.reduceLeDiff, reduceCtorEq, Int.reduceEq, Int.reduceNe, Int.reduceLT, Int.reduceLE, Int.reduceAdd, Int.reduceSub, Int.reduceMul, Int.reduceNeg, Int.reduceToNat, Int.cast_ofNat_Int, Int.natCast_zero, Int.natCast_one, Int.toNat_natCast, Nat.reduceBEq, nzs, inK, lo, hi, List.length_cons, List.length_append, List.cons_append, ← hpt]
    refine ⟨by omega, by omega, by omega, (f - 1, i + 1), ⟨by simp only; omega, by simp only; omega⟩, Ent.of ?_⟩
    simp only [sx, sb1, sb2, sb3, sb4, sb5, sb6, sb7, ↓reduceIte, Nat.reduceAdd, Nat.reduceMul, Nat.reduceDiv, Nat.reduceEqDiff, Nat.reduceLT, Nat.reduceLeDiff, reduceCtorEq, Int.reduceEq, Int.reduceNe, Int.reduceLT, Int.reduceLE, Int.reduceAdd, Int.reduceSub, Int.reduceMul, Int.reduceNeg, Int.reduceToNat, Int.cast_ofNat_Int, Int.natCast_zero, Int.natCast_one, Int.toNat_natCast, Nat.reduceBEq, Int.natCast_add]
end Go.X.Pb
