/- Tokens: what woolref.Expand returns; strings.Repeat by the kit's contract. Conditions: none. -/
import Derived.Test.YtbnbimncladflaaLzE
import Derived.Test.YtbnbimncladflaaStrC
import Derived.Shelf.Strings.Repeat
set_option linter.unusedSimpArgs false
set_option linter.unusedVariables false
set_option maxHeartbeats 4000000
set_option maxRecDepth 20000
namespace Go.Proofs
open Go.Shelf
def Try.lays105_ren : Go.Shelf.Ren := ⟨fun | 105 => 56 | 212 => 89 | 99 => 90 | 165 => 91 | 166 => 92 | 170 => 93 | 169 => 94 | 263 => 111 | 264 => 112 | 206 => 113 | 240 => 114 | 241 => 115 | 276 => 140 | 277 => 141 | n => n, fun | 9 => 9 | 3 => 3 | 4 => 4 | 20 => 20 | 0 => 0 | 46 => 135 | 109 => 136 | 5 => 5 | 72 => 140 | 76 => 144 | 51 => 167 | 146 => 168 | 53 => 86 | 148 => 148 | 70 => 138 | 37 => 104 | 75 => 143 | 127 => 171 | 164 => 152 | 80 => 147 | n => n, fun | n => n⟩
theorem Try.lays105 : Go.Proofs.Lays.n105 Try.prog Try.lays105_ren := {
  mixed := by kernel_rfl,
  f99 := Try.func90.trans (congrArg some (by kernel_rfl)),
  f105 := Try.func56.trans (congrArg some (by kernel_rfl)),
  f165 := Try.func91.trans (congrArg some (by kernel_rfl)),
  f166 := Try.func92.trans (congrArg some (by kernel_rfl)),
  f169 := Try.func94.trans (congrArg some (by kernel_rfl)),
  f170 := Try.func93.trans (congrArg some (by kernel_rfl)),
  f206 := Try.func113.trans (congrArg some (by kernel_rfl)),
  f212 := Try.func89.trans (congrArg some (by kernel_rfl)),
  f240 := Try.func114.trans (congrArg some (by kernel_rfl)),
  f241 := Try.func115.trans (congrArg some (by kernel_rfl)),
  f263 := Try.func111.trans (congrArg some (by kernel_rfl)),
  f264 := Try.func112.trans (congrArg some (by kernel_rfl)),
  f276 := Try.func140.trans (congrArg some (by kernel_rfl)),
  f277 := Try.func141.trans (congrArg some (by kernel_rfl)),
  t0 := Try.underlying0,
  a0 := Try.isAgg0,
  z0 := Try.sizeOf0,
  v0 := Try.zeroValue0,
  t3 := Try.underlying3,
  a3 := Try.isAgg3,
  z3 := Try.sizeOf3,
  v3 := Try.zeroValue3,
  t4 := Try.underlying4,
  a4 := Try.isAgg4,
  z4 := Try.sizeOf4,
  v4 := Try.zeroValue4,
  t5 := Try.underlying5,
  a5 := Try.isAgg5,
  z5 := Try.sizeOf5,
  v5 := Try.zeroValue5,
  t9 := Try.underlying9,
  a9 := Try.isAgg9,
  z9 := Try.sizeOf9,
  v9 := Try.zeroValue9,
  t20 := Try.underlying20,
  a20 := Try.isAgg20,
  z20 := Try.sizeOf20,
  v20 := Try.zeroValue20,
  t37 := Try.underlying104,
  a37 := Try.isAgg104,
  z37 := Try.sizeOf104,
  v37 := Try.zeroValue104,
  t46 := Try.underlying135,
  a46 := Try.isAgg135,
  z46 := Try.sizeOf135,
  v46 := Try.zeroValue135,
  t51 := Try.underlying167,
  a51 := Try.isAgg167,
  z51 := Try.sizeOf167,
  v51 := Try.zeroValue167,
  t53 := Try.underlying86,
  a53 := Try.isAgg86,
  z53 := Try.sizeOf86,
  v53 := Try.zeroValue86,
  t70 := Try.underlying138,
  a70 := Try.isAgg138,
  z70 := Try.sizeOf138,
  v70 := Try.zeroValue138,
  t72 := Try.underlying140,
  a72 := Try.isAgg140,
  z72 := Try.sizeOf140,
  v72 := Try.zeroValue140,
  t75 := Try.underlying143,
  a75 := Try.isAgg143,
  z75 := Try.sizeOf143,
  v75 := Try.zeroValue143,
  t76 := Try.underlying144,
  a76 := Try.isAgg144,
  z76 := Try.sizeOf144,
  v76 := Try.zeroValue144,
  t109 := Try.underlying136,
  a109 := Try.isAgg136,
  z109 := Try.sizeOf136,
  v109 := Try.zeroValue136,
  t127 := Try.underlying171,
  a127 := Try.isAgg171,
  z127 := Try.sizeOf171,
  v127 := Try.zeroValue171,
  t146 := Try.underlying168,
  a146 := Try.isAgg168,
  z146 := Try.sizeOf168,
  v146 := Try.zeroValue168,
  t148 := Try.underlying148,
  a148 := Try.isAgg148,
  z148 := Try.sizeOf148,
  v148 := Try.zeroValue148,
  t164 := Try.underlying152,
  a164 := Try.isAgg152,
  z164 := Try.sizeOf152,
  v164 := Try.zeroValue152 }

theorem Try.extra105 : Builder.Extra Try.prog Try.lays105_ren := { sizeBuilder := by kernel_rfl, liesBuilder := by kernel_rfl, t5 := Try.underlying5, a5 := Try.isAgg5, z5 := Try.sizeOf5, v5 := Try.zeroValue5, infoByte := by kernel_rfl, cellsByte := by kernel_rfl, sizeByte := by kernel_rfl, neB5 := by decide }
end Go.Proofs
namespace Go.X.Lz
open Go Go.X Go.RowKit Go.X.Pl

theorem rep (s : List UInt8) (c : Nat) (M : Mem) (hc : c ≤ 9223372036854775807) (hl : s.length * c ≤ 140737488355328) :
    Meets Proofs.Try.prog 56 [.v (.string ⟨s.toArray⟩), .v (.int .i64 (c : Int))] M fun r _ _ => r = .v (.string ⟨(Lib.repeatL s c).toArray⟩) := by
  refine St.Meets.ofCalls ⟨_, Proofs.Try.func56, by kernel_rfl, by kernel_rfl⟩ fun w => ?_
  exact Proofs.Any.strings_Repeat Proofs.Try.lays105 Proofs.Try.extra105 ⟨s.toArray⟩ c w hc (by simpa [ByteArray.size] using hl)
theorem rep_at (s : List UInt8) (h0 : s ≠ []) : ∀ (c j : Nat), j < c * s.length → (Lib.repeatL s c)[j]? = s[j % s.length]?
  | 0, j, h => by omega
  | c + 1, j, h => by
    have hl : 0 < s.length := List.length_pos_iff.2 h0
    rw [Lib.repeatL, List.getElem?_append]
    by_cases hj : j < s.length
    · rw [if_pos hj, Nat.mod_eq_of_lt hj]
    · rw [if_neg hj, rep_at s h0 c (j - s.length) (by rw [Nat.succ_mul] at h; omega), Nat.mod_eq_sub_mod (a := j) (by omega)]
/-- the bytes that a copy brings are its source, again and again -/
theorem cpy_rep (o : List UInt8) (d c : Nat) (h1 : 1 ≤ d) (hd : d ≤ o.length) : ∀ (n k : Nat), k + n ≤ c * d →
    cpy n d (o ++ (Lib.repeatL (o.drop (o.length - d)) c).take k) = o ++ (Lib.repeatL (o.drop (o.length - d)) c).take (k + n)
  | 0, k, _ => rfl
  | n + 1, k, h => by
    have hsl : (o.drop (o.length - d)).length = d := by rw [List.length_drop]; omega
    have hne : o.drop (o.length - d) ≠ [] := fun e => by rw [e, List.length_nil] at hsl; omega
    have hrl := Lib.repeatL_length (o.drop (o.length - d)) c
    rw [hsl] at hrl
    have hat := rep_at (o.drop (o.length - d)) hne c
    rw [hsl] at hat
    have hfr : ∀ j, j < d → (o.drop (o.length - d))[j]? = o[o.length - d + j]? := fun j _ => List.getElem?_drop
    have ih := cpy_rep o d c h1 hd n (k + 1) (by omega)
    generalize Lib.repeatL (o.drop (o.length - d)) c = rp at *
    have hkl : (rp.take k).length = k := by rw [List.length_take]; omega
    have hmd : k % d < d := Nat.mod_lt _ (by omega)
    have hk : rp[k]? = o[o.length - d + k % d]? := by rw [hat k (by omega), hfr _ hmd]
    obtain ⟨b, hb⟩ : ∃ b, rp[k]? = some b := ⟨_, List.getElem?_eq_getElem (by omega)⟩
    have hg : (o ++ rp.take k).getD ((o ++ rp.take k).length - d) 0 = b := by
      rw [List.getD_eq_getElem?_getD, List.length_append, hkl]
      have : (o ++ rp.take k)[o.length + k - d]? = some b := by
        rw [List.getElem?_append]
        by_cases hkd : k < d
        · rw [if_pos (by omega), show o.length + k - d = o.length - d + k by omega, ← hb, hk, Nat.mod_eq_of_lt hkd]
        · rw [if_neg (by omega), List.getElem?_take, if_pos (by omega), show o.length + k - d - o.length = k - d by omega, hat (k - d) (by omega), ← hb, hat k (by omega), Nat.mod_eq_sub_mod (a := k) (by omega)]
      rw [this]
      rfl
    rw [cpy, hg, List.append_assoc]
    have e : rp.take k ++ [b] = rp.take (k + 1) := by rw [List.take_add_one, hb]; rfl
    rw [e, ih, show k + (n + 1) = k + 1 + n by omega]
theorem rexpand (y : Value) (l : List Tk) (M : Mem) (hy : RowM M y 3 (l.map encT)) :
    Meets Proofs.Try.prog 23 [.v y] M fun r _ _ => r = .tup [.v (.string ⟨(exp l []).1.toArray⟩), .v (.int .i64 (exp l []).2)] := by
  refine Meets.of_body [0,2,3,4,6,7,8,9,10,11,34,38,44,56] Proofs.Try.func23 rfl (by kernel_rfl) rfl fun w => ?_
  generalize hc : exp l [] = c
  have hyl := hy.len_le
  rw [List.length_map] at hyl
  simp only [Proofs.Try.f23, shs, zts, sos, sls, zss, eqs, sx, sb1, sb2, sb3, sb4, sb5, sb6, sb7, ↓reduceIte, Nat.reduceAdd, Nat.reduceMul, Nat.reduceDiv, Nat.reduceEqDiff, Nat.reduceLT, Nat.reduceLeDiff, reduceCtorEq, Int.reduceEq, Int.reduceNe, Int.reduceLT, Int.reduceLE, Int.reduceAdd, Int.reduceSub, Int.reduceMul, Int.reduceNeg, Int.reduceToNat, Int.cast_ofNat_Int, Int.natCast_zero, Int.natCast_one, Int.toNat_natCast, Nat.reduceBEq, nzs, hy.len, hy.sl, List.length_map]
  refine LoopK.go (X := Nat × Nat × List UInt8) (fun x => ([(0, true, .v y), (4, true, .v (.string ⟨x.2.2.toArray⟩)), (8, true, .v y), (9, true, .v (.int .i64 l.length)), (10, true, .v (.int .i64 (x.2.1 : Int)))], [], M))
    (fun x => (x.1 + x.2.1 = l.length ∧ x.2.2.length ≤ 600) ∧ exp (l.drop x.2.1) x.2.2 = c) (fun x => x.1) (l.length, 0, []) ⟨⟨rfl, Nat.zero_le _⟩, hc⟩ (Ent.of ?_) ?_
  · simp only [sx, sb1, sb2, sb3, sb4, sb5, sb6, sb7, ↓reduceIte, Nat.reduceAdd, Nat.reduceMul, Nat.reduceDiv, Nat.reduceEqDiff, Nat.reduceLT, Nat.reduceLeDiff, reduceCtorEq, Int.reduceEq, Int.reduceNe, Int.reduceLT, Int.reduceLE, Int.reduceAdd, Int.reduceSub, Int.reduceMul, Int.reduceNeg, Int.reduceToNat, Int.cast_ofNat_Int, Int.natCast_zero, Int.natCast_one, Int.toNat_natCast, Nat.reduceBEq, Int.natCast_zero]
  rintro ⟨f, i, o⟩ ⟨⟨h1, ho⟩, h2⟩
  simp only at h1 h2 ho
  by_cases hil : i < l.length
  rotate_left
  · have d1 : ((i : Int) < (l.length : Int)) = False := eq_false (by omega)
    rw [List.drop_eq_nil_of_le (by omega)] at h2
    simp only [exp] at h2
    subst h2
    simp only [shs, zts, sos, sls, zss, eqs, sx, sb1, sb2, sb3, sb4, sb5, sb6, sb7, ↓reduceIte, Nat.reduceAdd, Nat.reduceMul, Nat.reduceDiv, Nat.reduceEqDiff, Nat.reduceLT, Nat.reduceLeDiff, reduceCtorEq, Int.reduceEq, Int.reduceNe, Int.reduceLT, Int.reduceLE, Int.reduceAdd, Int.reduceSub, Int.reduceMul, Int.reduceNeg, Int.reduceToNat, Int.cast_ofNat_Int, Int.natCast_zero, Int.natCast_one, Int.toNat_natCast, Nat.reduceBEq, nzs, d1]
  have d1 : ((i : Int) < (l.length : Int)) = True := eq_true (by omega)
  obtain ⟨t, hx, hd⟩ := l_drop_at (l := l) (i := i) hil
  obtain ⟨⟨g0, g1⟩, g2, i0⟩ := tk_at hy hx
  rw [hd] at h2
  simp only [exp] at h2
  simp only [shs, zts, sos, sls, zss, eqs, sx, sb1, sb2, sb3, sb4, sb5, sb6, sb7, ↓reduceIte, Nat.reduceAdd, Nat.reduceMul, Nat.reduceDiv, Nat.reduceEqDiff, Nat.reduceLT, Nat.reduceLeDiff, reduceCtorEq, Int.reduceEq, Int.reduceNe, Int.reduceLT, Int.reduceLE, Int.reduceAdd, Int.reduceSub, Int.reduceMul, Int.reduceNeg, Int.reduceToNat, Int.cast_ofNat_Int, Int.natCast_zero, Int.natCast_one, Int.toNat_natCast, Nat.reduceBEq, nzs, d1, i0, i0.2, g0.1, g0.2, g1.1, g1.2, g2.1, g2.2]
  refine CallK.pure ⟨rfl, rfl⟩ rfl (rtok t M) ?_
  cases hB : tkB t with
  | false =>
    rw [if_pos hB] at h2
    subst h2
    simp only [shs, zts, sos, sls, zss, eqs, sx, sb1, sb2, sb3, sb4, sb5, sb6, sb7, ↓reduceIte, Nat.reduceAdd, Nat.reduceMul, Nat.reduceDiv, Nat.reduceEqDiff, Nat.reduceLT, Nat.reduceLeDiff, reduceCtorEq, Int.reduceEq, Int.reduceNe, Int.reduceLT, Int.reduceLE, Int.reduceAdd, Int.reduceSub, Int.reduceMul, Int.reduceNeg, Int.reduceToNat, Int.cast_ofNat_Int, Int.natCast_zero, Int.natCast_one, Int.toNat_natCast, Nat.reduceBEq, nzs]
  | true =>
  rw [if_neg (by rw [hB]; decide)] at h2
  by_cases k1 : (o.length : Int) < t.1
  · rw [if_pos k1] at h2
    subst h2
    have c1 := eq_true k1
    simp only [shs, zts, sos, sls, zss, eqs, sx, sb1, sb2, sb3, sb4, sb5, sb6, sb7, ↓reduceIte, Nat.reduceAdd, Nat.reduceMul, Nat.reduceDiv, Nat.reduceEqDiff, Nat.reduceLT, Nat.reduceLeDiff, reduceCtorEq, Int.reduceEq, Int.reduceNe, Int.reduceLT, Int.reduceLE, Int.reduceAdd, Int.reduceSub, Int.reduceMul, Int.reduceNeg, Int.reduceToNat, Int.cast_ofNat_Int, Int.natCast_zero, Int.natCast_one, Int.toNat_natCast, Nat.reduceBEq, nzs, c1]
  rw [if_neg k1] at h2
  have c1 := eq_false k1
  have hr : 0 ≤ t.2.1 ∧ t.2.1 ≤ 64 ∧ 0 ≤ t.1 := by
    unfold tkB at hB
    split at hB
    · simp only [decide_eq_true_eq] at hB; omega
    · simp only [decide_eq_true_eq] at hB; omega
  obtain ⟨td, tn, tb⟩ := t
  simp only at g0 g1 g2 h2 c1 k1 hr
  by_cases hn : tn = 0
  · subst hn
    have hb : td = 0 ∧ 0 ≤ tb ∧ tb < 256 := by
      unfold tkB at hB
      simp only [if_true, decide_eq_true_eq] at hB
      omega
    have hm : max (1 : Int) 0 = 1 := rfl
    have ca : (600 < (o.length : Int)) = False := eq_false (by omega)
    rw [hm] at h2
    by_cases k2 : 600 < (o.length : Int) + 1
    · rw [if_pos k2] at h2
      subst h2
      have cb : ((o.length : Int) = 600) = True := eq_true (by omega)
      simp only [shs, zts, sos, sls, zss, eqs, sx, sb1, sb2, sb3, sb4, sb5, sb6, sb7, ↓reduceIte, Nat.reduceAdd, Nat.reduceMul, Nat.reduceDiv, Nat.reduceEqDiff, Nat.reduceLT, Nat.reduceLeDiff, reduceCtorEq, Int.reduceEq, Int.reduceNe, Int.reduceLT, Int.reduceLE, Int.reduceAdd, Int.reduceSub, Int.reduceMul, Int.reduceNeg, Int.reduceToNat, Int.cast_ofNat_Int, Int.natCast_zero, Int.natCast_one, Int.toNat_natCast, Nat.reduceBEq, nzs, c1, ca, cb, Int.add_zero, inK, lo, hi]
      omega
    rw [if_neg k2] at h2
    have cb : ((o.length : Int) = 600) = False := eq_false (by omega)
    have w8 : IntKind.u8.wrap tb = tb := wrap_in (k := .u8) ⟨by simp only [lo]; omega, by simp only [hi]; omega⟩
    have hby : byteOf [.int .u8 tb] = UInt8.ofNat tb.toNat := rfl
    simp only [shs, zts, sos, sls, zss, eqs, sx, sb1, sb2, sb3, sb4, sb5, sb6, sb7, ↓reduceIte, Nat.reduceAdd, Nat.reduceMul, Nat.reduceDiv, Nat.reduceEqDiff, Nat.reduceLT, Nat.reduceLeDiff, reduceCtorEq, Int.reduceEq, Int.reduceNe, Int.reduceLT, Int.reduceLE, Int.reduceAdd, Int.reduceSub, Int.reduceMul, Int.reduceNeg, Int.reduceToNat, Int.cast_ofNat_Int, Int.natCast_zero, Int.natCast_one, Int.toNat_natCast, Nat.reduceBEq, nzs, c1, ca, cb, w8, hby, Int.add_zero, inK, lo, hi, List.length_singleton]
    refine ⟨by omega, by omega, by omega, (f - 1, i + 1, o ++ [UInt8.ofNat tb.toNat]), ⟨⟨⟨by simp only; omega, by simp only [List.length_append, List.length_singleton]; omega⟩, h2⟩, by simp only; omega⟩, Ent.of ?_⟩
    simp only [sx, sb1, sb2, sb3, sb4, sb5, sb6, sb7, ↓reduceIte, Nat.reduceAdd, Nat.reduceMul, Nat.reduceDiv, Nat.reduceEqDiff, Nat.reduceLT, Nat.reduceLeDiff, reduceCtorEq, Int.reduceEq, Int.reduceNe, Int.reduceLT, Int.reduceLE, Int.reduceAdd, Int.reduceSub, Int.reduceMul, Int.reduceNeg, Int.reduceToNat, Int.cast_ofNat_Int, Int.natCast_zero, Int.natCast_one, Int.toNat_natCast, Nat.reduceBEq, Int.natCast_add]
  obtain ⟨n, rfl⟩ : ∃ n : Nat, tn = n := ⟨tn.toNat, by omega⟩
  obtain ⟨d, rfl⟩ : ∃ d : Nat, td = d := ⟨td.toNat, by omega⟩
  have hn1 : n ≠ 0 := by omega
  have hd1 : 1 ≤ d := by
    unfold tkB at hB
    rw [if_neg (by simp only; omega), decide_eq_true_eq] at hB
    omega
  have hm : max (1 : Int) (n : Int) = (n : Int) := by omega
  rw [hm, if_neg (show ¬ ((d : Int), (n : Int), tb).2.1 = 0 from hn)] at h2
  have c0 := eq_false hn
  by_cases k2 : 600 < (o.length : Int) + (n : Int)
  · rw [if_pos k2] at h2
    subst h2
    have c2 := eq_true k2
    simp only [shs, zts, sos, sls, zss, eqs, sx, sb1, sb2, sb3, sb4, sb5, sb6, sb7, ↓reduceIte, Nat.reduceAdd, Nat.reduceMul, Nat.reduceDiv, Nat.reduceEqDiff, Nat.reduceLT, Nat.reduceLeDiff, reduceCtorEq, Int.reduceEq, Int.reduceNe, Int.reduceLT, Int.reduceLE, Int.reduceAdd, Int.reduceSub, Int.reduceMul, Int.reduceNeg, Int.reduceToNat, Int.cast_ofNat_Int, Int.natCast_zero, Int.natCast_one, Int.toNat_natCast, Nat.reduceBEq, nzs, c1, c2, c0, inK, lo, hi]
    omega
  rw [if_neg k2] at h2
  have c2 := eq_false k2
  have cb : ((o.length : Int) = 600) = False := eq_false (by omega)
  have e1 : (o.length : Int) - (d : Int) = ((o.length - d : Nat) : Int) := by omega
  simp only [shs, zts, sos, sls, zss, eqs, sx, sb1, sb2, sb3, sb4, sb5, sb6, sb7, ↓reduceIte, Nat.reduceAdd, Nat.reduceMul, Nat.reduceDiv, Nat.reduceEqDiff, Nat.reduceLT, Nat.reduceLeDiff, reduceCtorEq, Int.reduceEq, Int.reduceNe, Int.reduceLT, Int.reduceLE, Int.reduceAdd, Int.reduceSub, Int.reduceMul, Int.reduceNeg, Int.reduceToNat, Int.cast_ofNat_Int, Int.natCast_zero, Int.natCast_one, Int.toNat_natCast, Nat.reduceBEq, nzs, c1, c2, c0, cb, e1, inK, lo, hi, Int.toNat_natCast] at h2 ⊢
  refine ⟨by omega, by omega, by omega, ?_⟩
  have hfr : (o.drop (o.length - d)).take (o.length - (o.length - d)) = o.drop (o.length - d) := List.take_of_length_le (by rw [List.length_drop]; omega)
  have hsl : (o.drop (o.length - d)).length = d := by rw [List.length_drop]; omega
  have hdv : (n : Int).tdiv (d : Int) = ((n / d : Nat) : Int) := (Int.ofNat_tdiv n d).symm
  have hle : n / d ≤ n := Nat.div_le_self n d
  have hdm := Nat.div_add_mod n d
  have hml := Nat.mod_lt n (show 0 < d by omega)
  have hmul : d * (n / d + 1) = d * (n / d) + d := by rw [Nat.mul_succ]
  have hmul2 : (n / d + 1) * d = d * (n / d) + d := by rw [Nat.mul_comm, hmul]
  generalize n / d = q at *
  rw [hfr]
  have e2 : ((q : Nat) : Int) + 1 = ((q + 1 : Nat) : Int) := by omega
  have hne0 : ((d : Int) = 0) = False := eq_false (by omega)
  refine DrawK.quiet (by kernel_rfl) (by kernel_rfl) ?_
  simp only [shs, zts, sos, sls, zss, eqs, sx, sb1, sb2, sb3, sb4, sb5, sb6, sb7, ↓reduceIte, Nat.reduceAdd, Nat.reduceMul, Nat.reduceDiv, Nat.reduceEqDiff, Nat.reduceLT, Nat.reduceLeDiff, reduceCtorEq, Int.reduceEq, Int.reduceNe, Int.reduceLT, Int.reduceLE, Int.reduceAdd, Int.reduceSub, Int.reduceMul, Int.reduceNeg, Int.reduceToNat, Int.cast_ofNat_Int, Int.natCast_zero, Int.natCast_one, Int.toNat_natCast, Nat.reduceBEq, nzs, hdv, e2, hne0, inK, lo, hi]
  have hrl := Lib.repeatL_length (o.drop (o.length - d)) (q + 1)
  rw [hsl] at hrl
  refine ⟨⟨by omega, by omega, by omega⟩, by omega, _, ⟨⟨rfl, rfl⟩, rep (o.drop (o.length - d)) (q + 1) M (by omega) (by rw [hsl]; omega)⟩, ?_⟩
  have hcp := cpy_rep o d (q + 1) hd1 (by omega) n 0 (by omega)
  rw [List.take_zero, List.append_nil, Nat.zero_add] at hcp
  rw [hcp] at h2
  have htk : ((Lib.repeatL (o.drop (o.length - d)) (q + 1)).take n).length = n := by rw [List.length_take]; omega
  simp only [shs, zts, sos, sls, zss, eqs, sx, sb1, sb2, sb3, sb4, sb5, sb6, sb7, ↓reduceIte, Nat.reduceAdd, Nat.reduceMul, Nat.reduceDiv, Nat.reduceEqDiff, Nat.reduceLT, Nat.reduceLeDiff, reduceCtorEq, Int.reduceEq, Int.reduceNe, Int.reduceLT, Int.reduceLE, Int.reduceAdd, Int.reduceSub, Int.reduceMul, Int.reduceNeg, Int.reduceToNat, Int.cast_ofNat_Int, Int.natCast_zero, Int.natCast_one, Int.toNat_natCast, Nat.reduceBEq, nzs, inK, lo, hi, Nat.sub_zero, htk]
  refine ⟨by omega, by omega, by omega, (f - 1, i + 1, o ++ (Lib.repeatL (o.drop (o.length - d)) (q + 1)).take n), ⟨⟨⟨by simp only; omega, by simp only [List.length_append, htk]; omega⟩, h2⟩, by simp only; omega⟩, Ent.of ?_⟩
  simp only [sx, sb1, sb2, sb3, sb4, sb5, sb6, sb7, ↓reduceIte, Nat.reduceAdd, Nat.reduceMul, Nat.reduceDiv, Nat.reduceEqDiff, Nat.reduceLT, Nat.reduceLeDiff, reduceCtorEq, Int.reduceEq, Int.reduceNe, Int.reduceLT, Int.reduceLE, Int.reduceAdd, Int.reduceSub, Int.reduceMul, Int.reduceNeg, Int.reduceToNat, Int.cast_ofNat_Int, Int.natCast_zero, Int.natCast_one, Int.toNat_natCast, Nat.reduceBEq, Int.natCast_add]
end Go.X.Lz
