/- Tokens: what woolref.Expand returns; strings.Repeat by the kit's contract. Conditions: none. -/
import Derived.Test.YtbnbimncladflaaDoorLzE
import Derived.Test.YtbnbimncladflaaDoorStrC
import Derived.Shelf.Strings.Repeat
set_option linter.unusedSimpArgs false
set_option linter.unusedVariables false
set_option maxHeartbeats 4000000
set_option maxRecDepth 20000
namespace Go.Proofs
open Go.Shelf
def Tryd.lays105_ren : Go.Shelf.Ren := ⟨fun | 105 => 29 | 212 => 43 | 99 => 44 | 165 => 45 | 166 => 32 | 170 => 46 | 169 => 35 | 263 => 56 | 264 => 57 | 206 => 58 | 240 => 48 | 241 => 59 | 276 => 60 | 277 => 70 | n => n, fun | 9 => 9 | 3 => 3 | 4 => 4 | 20 => 20 | 0 => 0 | 46 => 66 | 109 => 67 | 5 => 5 | 72 => 54 | 76 => 57 | 51 => 79 | 146 => 80 | 53 => 82 | 148 => 83 | 70 => 52 | 37 => 36 | 75 => 56 | 127 => 71 | 164 => 85 | 80 => 61 | n => n, fun | n => n⟩
theorem Tryd.lays105 : Go.Proofs.Lays.n105 Tryd.prog Tryd.lays105_ren := {
  mixed := by kernel_rfl,
  f99 := Tryd.func44.trans (congrArg some (by kernel_rfl)),
  f105 := Tryd.func29.trans (congrArg some (by kernel_rfl)),
  f165 := Tryd.func45.trans (congrArg some (by kernel_rfl)),
  f166 := Tryd.func32.trans (congrArg some (by kernel_rfl)),
  f169 := Tryd.func35.trans (congrArg some (by kernel_rfl)),
  f170 := Tryd.func46.trans (congrArg some (by kernel_rfl)),
  f206 := Tryd.func58.trans (congrArg some (by kernel_rfl)),
  f212 := Tryd.func43.trans (congrArg some (by kernel_rfl)),
  f240 := Tryd.func48.trans (congrArg some (by kernel_rfl)),
  f241 := Tryd.func59.trans (congrArg some (by kernel_rfl)),
  f263 := Tryd.func56.trans (congrArg some (by kernel_rfl)),
  f264 := Tryd.func57.trans (congrArg some (by kernel_rfl)),
  f276 := Tryd.func60.trans (congrArg some (by kernel_rfl)),
  f277 := Tryd.func70.trans (congrArg some (by kernel_rfl)),
  t0 := Tryd.underlying0,
  a0 := Tryd.isAgg0,
  z0 := Tryd.sizeOf0,
  v0 := Tryd.zeroValue0,
  t3 := Tryd.underlying3,
  a3 := Tryd.isAgg3,
  z3 := Tryd.sizeOf3,
  v3 := Tryd.zeroValue3,
  t4 := Tryd.underlying4,
  a4 := Tryd.isAgg4,
  z4 := Tryd.sizeOf4,
  v4 := Tryd.zeroValue4,
  t5 := Tryd.underlying5,
  a5 := Tryd.isAgg5,
  z5 := Tryd.sizeOf5,
  v5 := Tryd.zeroValue5,
  t9 := Tryd.underlying9,
  a9 := Tryd.isAgg9,
  z9 := Tryd.sizeOf9,
  v9 := Tryd.zeroValue9,
  t20 := Tryd.underlying20,
  a20 := Tryd.isAgg20,
  z20 := Tryd.sizeOf20,
  v20 := Tryd.zeroValue20,
  t37 := Tryd.underlying36,
  a37 := Tryd.isAgg36,
  z37 := Tryd.sizeOf36,
  v37 := Tryd.zeroValue36,
  t46 := Tryd.underlying66,
  a46 := Tryd.isAgg66,
  z46 := Tryd.sizeOf66,
  v46 := Tryd.zeroValue66,
  t51 := Tryd.underlying79,
  a51 := Tryd.isAgg79,
  z51 := Tryd.sizeOf79,
  v51 := Tryd.zeroValue79,
  t53 := Tryd.underlying82,
  a53 := Tryd.isAgg82,
  z53 := Tryd.sizeOf82,
  v53 := Tryd.zeroValue82,
  t70 := Tryd.underlying52,
  a70 := Tryd.isAgg52,
  z70 := Tryd.sizeOf52,
  v70 := Tryd.zeroValue52,
  t72 := Tryd.underlying54,
  a72 := Tryd.isAgg54,
  z72 := Tryd.sizeOf54,
  v72 := Tryd.zeroValue54,
  t75 := Tryd.underlying56,
  a75 := Tryd.isAgg56,
  z75 := Tryd.sizeOf56,
  v75 := Tryd.zeroValue56,
  t76 := Tryd.underlying57,
  a76 := Tryd.isAgg57,
  z76 := Tryd.sizeOf57,
  v76 := Tryd.zeroValue57,
  t109 := Tryd.underlying67,
  a109 := Tryd.isAgg67,
  z109 := Tryd.sizeOf67,
  v109 := Tryd.zeroValue67,
  t127 := Tryd.underlying71,
  a127 := Tryd.isAgg71,
  z127 := Tryd.sizeOf71,
  v127 := Tryd.zeroValue71,
  t146 := Tryd.underlying80,
  a146 := Tryd.isAgg80,
  z146 := Tryd.sizeOf80,
  v146 := Tryd.zeroValue80,
  t148 := Tryd.underlying83,
  a148 := Tryd.isAgg83,
  z148 := Tryd.sizeOf83,
  v148 := Tryd.zeroValue83,
  t164 := Tryd.underlying85,
  a164 := Tryd.isAgg85,
  z164 := Tryd.sizeOf85,
  v164 := Tryd.zeroValue85 }

theorem Tryd.extra105 : Builder.Extra Tryd.prog Tryd.lays105_ren := { sizeBuilder := by kernel_rfl, liesBuilder := by kernel_rfl, t5 := Tryd.underlying5, a5 := Tryd.isAgg5, z5 := Tryd.sizeOf5, v5 := Tryd.zeroValue5, infoByte := by kernel_rfl, cellsByte := by kernel_rfl, sizeByte := by kernel_rfl, neB5 := by decide }
end Go.Proofs
namespace Go.X.Lz
open Go Go.X Go.RowKit Go.X.Pl

theorem rep (s : List UInt8) (c : Nat) (M : Mem) (hc : c ≤ 9223372036854775807) (hl : s.length * c ≤ 140737488355328) :
    Meets Proofs.Tryd.prog 29 [.v (.string ⟨s.toArray⟩), .v (.int .i64 (c : Int))] M fun r _ _ => r = .v (.string ⟨(Lib.repeatL s c).toArray⟩) := by
  refine St.Meets.ofCalls ⟨_, Proofs.Tryd.func29, by kernel_rfl, by kernel_rfl⟩ fun w => ?_
  exact Proofs.Any.strings_Repeat Proofs.Tryd.lays105 Proofs.Tryd.extra105 ⟨s.toArray⟩ c w hc (by simpa [ByteArray.size] using hl)
theorem rep_at (s : List UInt8) (h0 : s ≠ []) : ∀ (c j : Nat), j < c * s.length → (Lib.repeatL s c)[j]? = s[j % s.length]?
  | 0, j, h => by omega
  | c + 1, j, h => by
    have hl : 0 < s.length := List.length_pos_iff.2 h0
    rw [Lib.repeatL, List.getElem?_append]
    by_cases hj : j < s.length
    · rw [if_pos hj, Nat.mod_eq_of_lt hj]
    · rw [if_neg hj, rep_at s h0 c (j - s.length) (by rw [Nat.succ_mul] at h; omega), Nat.mod_eq_sub_mod (a := j) (by omega)]
/-- the bytes that a copy brings are its source, again and again -/
theorem cpy_rep (o : List UInt8) (d c : Nat) (h1 : 1 ≤ d) (hd : d ≤ o.length) : ∀ (n k : Nat), k + n ≤ c * d →
    cpy n d (o ++ (Lib.repeatL (o.drop (o.length - d)) c).take k) = o ++ (Lib.repeatL (o.drop (o.length - d)) c).take (k + n)
  | 0, k, _ => rfl
  | n + 1, k, h => by
    have hsl : (o.drop (o.length - d)).length = d := by rw [List.length_drop]; omega
    have hne : o.drop (o.length - d) ≠ [] := fun e => by rw [e, List.length_nil] at hsl; omega
    have hrl := Lib.repeatL_length (o.drop (o.length - d)) c
    rw [hsl] at hrl
    have hat := rep_at (o.drop (o.length - d)) hne c
    rw [hsl] at hat
    have hfr : ∀ j, j < d → (o.drop (o.length - d))[j]? = o[o.length - d + j]? := fun j _ => List.getElem?_drop
    have ih := cpy_rep o d c h1 hd n (k + 1) (by omega)
    generalize Lib.repeatL (o.drop (o.length - d)) c = rp at *
    have hkl : (rp.take k).length = k := by rw [List.length_take]; omega
    have hmd : k % d < d := Nat.mod_lt _ (by omega)
    have hk : rp[k]? = o[o.length - d + k % d]? := by rw [hat k (by omega), hfr _ hmd]
    obtain ⟨b, hb⟩ : ∃ b, rp[k]? = some b := ⟨_, List.getElem?_eq_getElem (by omega)⟩
    have hg : (o ++ rp.take k).getD ((o ++ rp.take k).length - d) 0 = b := by
      rw [List.getD_eq_getElem?_getD, List.length_append, hkl]
      have : (o ++ rp.take k)[o.length + k - d]? = some b := by
        rw [List.getElem?_append]
        by_cases hkd : k < d
        · rw [if_pos (by omega), show o.length + k - d = o.length - d + k by omega, ← hb, hk, Nat.mod_eq_of_lt hkd]
        · rw [if_neg (by omega), List.getElem?_take, if_pos (by omega), show o.length + k - d - o.length = k - d by omega, hat (k - d) (by omega), ← hb, hat k (by omega), Nat.mod_eq_sub_mod (a := k) (by omega)]
      rw [this]
      rfl
    rw [cpy, hg, List.append_assoc]
    have e : rp.take k ++ [b] = rp.take (k + 1) := by rw [List.take_add_one, hb]; rfl
    rw [e, ih, show k + (n + 1) = k + 1 + n by omega]
theorem rexpand (y : Value) (l : List Tk) (M : Mem) (hy : RowM M y 3 (l.map encT)) :
    Meets Proofs.Tryd.prog 15 [.v y] M fun r _ _ => r = .tup [.v (.string ⟨(exp l []).1.toArray⟩), .v (.int .i64 (exp l []).2)] := by
  refine Meets.of_body [0,2,3,4,6,7,8,9,10,11,34,38,44,56] Proofs.Tryd.func15 rfl (by kernel_rfl) rfl fun w => ?_
  generalize hc : exp l [] = c
  have hyl := hy.len_le
  rw [List.length_map] at hyl
  simp only [Proofs.Tryd.f15, shs, zts, sos, sls, zss, eqs, sx, sb1, sb2, sb3, sb4, sb5, sb6, sb7, ↓reduceIte, Nat.reduceAdd, Nat.reduceMul, Nat.reduceDiv, Nat.reduceEqDiff, Nat.reduceLT, Nat.reduceLeDiff, reduceCtorEq, Int.reduceEq, Int.reduceNe, Int.reduceLT, Int.reduceLE, Int.reduceAdd, Int.reduceSub, Int.reduceMul, Int.reduceNeg, Int.reduceToNat, Int.cast_ofNat_Int, Int.natCast_zero, Int.natCast_one, Int.toNat_natCast, Nat.reduceBEq, nzs, hy.len, hy.sl, List.length_map]
  refine LoopK.go (X := Nat × Nat × List UInt8) (fun x => ([(0, true, .v y), (4, true, .v (.string ⟨x.2.2.toArray⟩)), (8, true, .v y), (9, true, .v (.int .i64 l.length)), (10, true, .v (.int .i64 (x.2.1 : Int)))], [], M))
    (fun x => (x.1 + x.2.1 = l.length ∧ x.2.2.length ≤ 600) ∧ exp (l.drop x.2.1) x.2.2 = c) (fun x => x.1) (l.length, 0, []) ⟨⟨rfl, Nat.zero_le _⟩, hc⟩ (Ent.of ?_) ?_
  · simp only [sx, sb1, sb2, sb3, sb4, sb5, sb6, sb7, ↓reduceIte, Nat.reduceAdd, Nat.reduceMul, Nat.reduceDiv, Nat.reduceEqDiff, Nat.reduceLT, Nat.reduceLeDiff, reduceCtorEq, Int.reduceEq, Int.reduceNe, Int.reduceLT, Int.reduceLE, Int.reduceAdd, Int.reduceSub, Int.reduceMul, Int.reduceNeg, Int.reduceToNat, Int.cast_ofNat_Int, Int.natCast_zero, Int.natCast_one, Int.toNat_natCast, Nat.reduceBEq, Int.natCast_zero]
  rintro ⟨f, i, o⟩ ⟨⟨h1, ho⟩, h2⟩
  simp only at h1 h2 ho
  by_cases hil : i < l.length
  rotate_left
  · have d1 : ((i : Int) < (l.length : Int)) = False := eq_false (by omega)
    rw [List.drop_eq_nil_of_le (by omega)] at h2
    simp only [exp] at h2
    subst h2
    simp only [shs, zts, sos, sls, zss, eqs, sx, sb1, sb2, sb3, sb4, sb5, sb6, sb7, ↓reduceIte, Nat.reduceAdd, Nat.reduceMul, Nat.reduceDiv, Nat.reduceEqDiff, Nat.reduceLT, Nat.reduceLeDiff, reduceCtorEq, Int.reduceEq, Int.reduceNe, Int.reduceLT, Int.reduceLE, Int.reduceAdd, Int.reduceSub, Int.reduceMul, Int.reduceNeg, Int.reduceToNat, Int.cast_ofNat_Int, Int.natCast_zero, Int.natCast_one, Int.toNat_natCast, Nat.reduceBEq, nzs, d1]
  have d1 : ((i : Int) < (l.length : Int)) = True := eq_true (by omega)
  obtain ⟨t, hx, hd⟩ := l_drop_at (l := l) (i := i) hil
  obtain ⟨⟨g0, g1⟩, g2, i0⟩ := tk_at hy hx
  rw [hd] at h2
  simp only [exp] at h2
  simp only [shs, zts, sos, sls, zss, eqs, sx, sb1, sb2, sb3, sb4, sb5, sb6, sb7, ↓reduceIte, Nat.reduceAdd, Nat.reduceMul, Nat.reduceDiv, Nat.reduceEqDiff, Nat.reduceLT, Nat.reduceLeDiff, reduceCtorEq, Int.reduceEq, Int.reduceNe, Int.reduceLT, Int.reduceLE, Int.reduceAdd, Int.reduceSub, Int.reduceMul, Int.reduceNeg, Int.reduceToNat, Int.cast_ofNat_Int, Int.natCast_zero, Int.natCast_one, Int.toNat_natCast, Nat.reduceBEq, nzs, d1, i0, i0.2, g0.1, g0.2, g1.1, g1.2, g2.1, g2.2]
  refine CallK.pure ⟨rfl, rfl⟩ rfl (rtok t M) ?_
  cases hB : tkB t with
  | false =>
    rw [if_pos hB] at h2
    subst h2
    simp only [shs, zts, sos, sls, zss, eqs, sx, sb1, sb2, sb3, sb4, sb5, sb6, sb7, ↓reduceIte, Nat.reduceAdd, Nat.reduceMul, Nat.reduceDiv, Nat.reduceEqDiff, Nat.reduceLT, Nat.reduceLeDiff, reduceCtorEq, Int.reduceEq, Int.reduceNe, Int.reduceLT, Int.reduceLE, Int.reduceAdd, Int.reduceSub, Int.reduceMul, Int.reduceNeg, Int.reduceToNat, Int.cast_ofNat_Int, Int.natCast_zero, Int.natCast_one, Int.toNat_natCast, Nat.reduceBEq, nzs]
  | true =>
  rw [if_neg (by rw [hB]; decide)] at h2
  by_cases k1 : (o.length : Int) < t.1
  · rw [if_pos k1] at h2
    subst h2
    have c1 := eq_true k1
    simp only [shs, zts, sos, sls, zss, eqs, sx, sb1, sb2, sb3, sb4, sb5, sb6, sb7, ↓reduceIte, Nat.reduceAdd, Nat.reduceMul, Nat.reduceDiv, Nat.reduceEqDiff, Nat.reduceLT, Nat.reduceLeDiff, reduceCtorEq, Int.reduceEq, Int.reduceNe, Int.reduceLT, Int.reduceLE, Int.reduceAdd, Int.reduceSub, Int.reduceMul, Int.reduceNeg, Int.reduceToNat, Int.cast_ofNat_Int, Int.natCast_zero, Int.natCast_one, Int.toNat_natCast, Nat.reduceBEq, nzs, c1]
  rw [if_neg k1] at h2
  have c1 := eq_false k1
  have hr : 0 ≤ t.2.1 ∧ t.2.1 ≤ 64 ∧ 0 ≤ t.1 := by
    unfold tkB at hB
    split at hB
    · simp only [decide_eq_true_eq] at hB; omega
    · simp only [decide_eq_true_eq] at hB; omega
  obtain ⟨td, tn, tb⟩ := t
  simp only at g0 g1 g2 h2 c1 k1 hr
  by_cases hn : tn = 0
  · subst hn
    have hb : td = 0 ∧ 0 ≤ tb ∧ tb < 256 := by
      unfold tkB at hB
      simp only [if_true, decide_eq_true_eq] at hB
      omega
    have hm : max (1 : Int) 0 = 1 := rfl
    have ca : (600 < (o.length : Int)) = False := eq_false (by omega)
    rw [hm] at h2
    by_cases k2 : 600 < (o.length : Int) + 1
    · rw [if_pos k2] at h2
      subst h2
      have cb : ((o.length : Int) = 600) = True := eq_true (by omega)
      simp only [shs, zts, sos, sls, zss, eqs, sx, sb1, sb2, sb3, sb4, sb5, sb6, sb7, ↓reduceIte, Nat.reduceAdd, Nat.reduceMul, Nat.reduceDiv, Nat.reduceEqDiff, Nat.reduceLT, Nat.reduceLeDiff, reduceCtorEq, Int.reduceEq, Int.reduceNe, Int.reduceLT, Int.reduceLE, Int.reduceAdd, Int.reduceSub, Int.reduceMul, Int.reduceNeg, Int.reduceToNat, Int.cast_ofNat_Int, Int.natCast_zero, Int.natCast_one, Int.toNat_natCast, Nat.reduceBEq, nzs, c1, ca, cb, Int.add_zero, inK, lo, hi]
      omega
    rw [if_neg k2] at h2
    have cb : ((o.length : Int) = 600) = False := eq_false (by omega)
    have w8 : IntKind.u8.wrap tb = tb := wrap_in (k := .u8) ⟨by simp only [lo]; omega, by simp only [hi]; omega⟩
    have hby : byteOf [.int .u8 tb] = UInt8.ofNat tb.toNat := rfl
    simp only [shs, zts, sos, sls, zss, eqs, sx, sb1, sb2, sb3, sb4, sb5, sb6, sb7, ↓reduceIte, Nat.reduceAdd, Nat.reduceMul, Nat.reduceDiv, Nat.reduceEqDiff, Nat.reduceLT, Nat.reduceLeDiff, reduceCtorEq, Int.reduceEq, Int.reduceNe, Int.reduceLT, Int.reduceLE, Int.reduceAdd, Int.reduceSub, Int.reduceMul, Int.reduceNeg, Int.reduceToNat, Int.cast_ofNat_Int, Int.natCast_zero, Int.natCast_one, Int.toNat_natCast, Nat.reduceBEq, nzs, c1, ca, cb, w8, hby, Int.add_zero, inK, lo, hi, List.length_singleton]
    refine ⟨by omega, by omega, by omega, (f - 1, i + 1, o ++ [UInt8.ofNat tb.toNat]), ⟨⟨⟨by simp only; omega, by simp only [List.length_append, List.length_singleton]; omega⟩, h2⟩, by simp only; omega⟩, Ent.of ?_⟩
    simp only [sx, sb1, sb2, sb3, sb4, sb5, sb6, sb7, ↓reduceIte, Nat.reduceAdd, Nat.reduceMul, Nat.reduceDiv, Nat.reduceEqDiff, Nat.reduceLT, Nat.reduceLeDiff, reduceCtorEq, Int.reduceEq, Int.reduceNe, Int.reduceLT, Int.reduceLE, Int.reduceAdd, Int.reduceSub, Int.reduceMul, Int.reduceNeg, Int.reduceToNat, Int.cast_ofNat_Int, Int.natCast_zero, Int.natCast_one, Int.toNat_natCast, Nat.reduceBEq, Int.natCast_add]
  obtain ⟨n, rfl⟩ : ∃ n : Nat, tn = n := ⟨tn.toNat, by omega⟩
  obtain ⟨d, rfl⟩ : ∃ d : Nat, td = d := ⟨td.toNat, by omega⟩
  have hn1 : n ≠ 0 := by omega
  have hd1 : 1 ≤ d := by
    unfold tkB at hB
    rw [if_neg (by simp only; omega), decide_eq_true_eq] at hB
    omega
  have hm : max (1 : Int) (n : Int) = (n : Int) := by omega
  rw [hm, if_neg (show ¬ ((d : Int), (n : Int), tb).2.1 = 0 from hn)] at h2
  have c0 := eq_false hn
  by_cases k2 : 600 < (o.length : Int) + (n : Int)
  · rw [if_pos k2] at h2
    subst h2
    have c2 := eq_true k2
    simp only [shs, zts, sos, sls, zss, eqs, sx, sb1, sb2, sb3, sb4, sb5, sb6, sb7, ↓reduceIte, Nat.reduceAdd, Nat.reduceMul, Nat.reduceDiv, Nat.reduceEqDiff, Nat.reduceLT, Nat.reduceLeDiff, reduceCtorEq, Int.reduceEq, Int.reduceNe, Int.reduceLT, Int.reduceLE, Int.reduceAdd, Int.reduceSub, Int.reduceMul, Int.reduceNeg, Int.reduceToNat, Int.cast_ofNat_Int, Int.natCast_zero, Int.natCast_one, Int.toNat_natCast, Nat.reduceBEq, nzs, c1, c2, c0, inK, lo, hi]
    omega
  rw [if_neg k2] at h2
  have c2 := eq_false k2
  have cb : ((o.length : Int) = 600) = False := eq_false (by omega)
  have e1 : (o.length : Int) - (d : Int) = ((o.length - d : Nat) : Int) := by omega
  simp only [shs, zts, sos, sls, zss, eqs, sx, sb1, sb2, sb3, sb4, sb5, sb6, sb7, ↓reduceIte, Nat.reduceAdd, Nat.reduceMul, Nat.reduceDiv, Nat.reduceEqDiff, Nat.reduceLT, Nat.reduceLeDiff, reduceCtorEq, Int.reduceEq, Int.reduceNe, Int.reduceLT, Int.reduceLE, Int.reduceAdd, Int.reduceSub, Int.reduceMul, Int.reduceNeg, Int.reduceToNat, Int.cast_ofNat_Int, Int.natCast_zero, Int.natCast_one, Int.toNat_natCast, Nat.reduceBEq, nzs, c1, c2, c0, cb, e1, inK, lo, hi, Int.toNat_natCast] at h2 ⊢
  refine ⟨by omega, by omega, by omega, ?_⟩
  have hfr : (o.drop (o.length - d)).take (o.length - (o.length - d)) = o.drop (o.length - d) := List.take_of_length_le (by rw [List.length_drop]; omega)
  have hsl : (o.drop (o.length - d)).length = d := by rw [List.length_drop]; omega
  have hdv : (n : Int).tdiv (d : Int) = ((n / d : Nat) : Int) := (Int.ofNat_tdiv n d).symm
  have hle : n / d ≤ n := Nat.div_le_self n d
  have hdm := Nat.div_add_mod n d
  have hml := Nat.mod_lt n (show 0 < d by omega)
  have hmul : d * (n / d + 1) = d * (n / d) + d := by rw [Nat.mul_succ]
  have hmul2 : (n / d + 1) * d = d * (n / d) + d := by rw [Nat.mul_comm, hmul]
  generalize n / d = q at *
  rw [hfr]
  have e2 : ((q : Nat) : Int) + 1 = ((q + 1 : Nat) : Int) := by omega
  have hne0 : ((d : Int) = 0) = False := eq_false (by omega)
  refine DrawK.quiet (by kernel_rfl) (by kernel_rfl) ?_
  simp only [shs, zts, sos, sls, zss, eqs, sx, sb1, sb2, sb3, sb4, sb5, sb6, sb7, ↓reduceIte, Nat.reduceAdd, Nat.reduceMul, Nat.reduceDiv, Nat.reduceEqDiff, Nat.reduceLT, Nat.reduceLeDiff, reduceCtorEq, Int.reduceEq, Int.reduceNe, Int.reduceLT, Int.reduceLE, Int.reduceAdd, Int.reduceSub, Int.reduceMul, Int.reduceNeg, Int.reduceToNat, Int.cast_ofNat_Int, Int.natCast_zero, Int.natCast_one, Int.toNat_natCast, Nat.reduceBEq, nzs, hdv, e2, hne0, inK, lo, hi]
  have hrl := Lib.repeatL_length (o.drop (o.length - d)) (q + 1)
  rw [hsl] at hrl
  refine ⟨⟨by omega, by omega, by omega⟩, by omega, _, ⟨⟨rfl, rfl⟩, rep (o.drop (o.length - d)) (q + 1) M (by omega) (by rw [hsl]; omega)⟩, ?_⟩
  have hcp := cpy_rep o d (q + 1) hd1 (by omega) n 0 (by omega)
  rw [List.take_zero, List.append_nil, Nat.zero_add] at hcp
  rw [hcp] at h2
  have htk : ((Lib.repeatL (o.drop (o.length - d)) (q + 1)).take n).length = n := by rw [List.length_take]; omega
  simp only [shs, zts, sos, sls, zss, eqs, sx, sb1, sb2, sb3, sb4, sb5, sb6, sb7, ↓reduceIte, Nat.reduceAdd, Nat.reduceMul, Nat.reduceDiv, Nat.reduceEqDiff, Nat.reduceLT, Nat.reduceLeDiff, reduceCtorEq, Int.reduceEq, Int.reduceNe, Int.reduceLT, Int.reduceLE, Int.reduceAdd, Int.reduceSub, Int.reduceMul, Int.reduceNeg, Int.reduceToNat, Int.cast_ofNat_Int, Int.natCast_zero, Int.natCast_one, Int.toNat_natCast, Nat.reduceBEq, nzs, inK, lo, hi, Nat.sub_zero, htk]
  refine ⟨by omega, by omega, by omega, (f - 1, i + 1, o ++ (Lib.repeatL (o.drop (o.length - d)) (q + 1)).take n), ⟨⟨⟨by simp only; omega, by simp only [List.length_append, htk]; omega⟩, h2⟩, by simp only; omega⟩, Ent.of ?_⟩
  simp only [sx, sb1, sb2, sb3, sb4, sb5, sb6, sb7, ↓reduceIte, Nat.reduceAdd, Nat.reduceMul, Nat.reduceDiv, Nat.reduceEqDiff, Nat.reduceLT, Nat.reduceLeDiff, reduceCtorEq, Int.reduceEq, Int.reduceNe, Int.reduceLT, Int.reduceLE, Int.reduceAdd, Int.reduceSub, Int.reduceMul, Int.reduceNeg, Int.reduceToNat, Int.cast_ofNat_Int, Int.natCast_zero, Int.natCast_one, Int.toNat_natCast, Nat.reduceBEq, Int.natCast_add]
end Go.X.Lz
