/- What woolref says of Preempt. Conditions: none. -/
import Derived.Test.YtolifffhoahioaaResvZ
set_option linter.unusedSimpArgs false
set_option linter.unusedVariables false
set_option maxHeartbeats 4000000
set_option maxRecDepth 20000
namespace Go.X.Rv
open Go Go.X Go.X.Rp Go.X.Sl

/-- the hands that have a key, of a table of keys -/
def hl (f : Int → Int) (b : Int) : Nat → Int → List Int
  | 0, _ => []
  | n + 1, a => if f a = b then a :: hl f b n (a + 1) else hl f b n (a + 1)
theorem hl_snoc (f : Int → Int) (b : Int) : ∀ (n : Nat) (a : Int), hl f b (n + 1) a = hl f b n a ++ if f (a + n) = b then [a + n] else []
  | 0, a => by simp only [hl, List.nil_append, Int.natCast_zero, Int.add_zero]
  | n + 1, a => by
    rw [hl, hl_snoc f b n (a + 1), hl]
    have e : a + 1 + (n : Int) = a + ((n + 1 : Nat) : Int) := by omega
    rw [e]
    split <;> rfl
theorem hl_len (f : Int → Int) (b : Int) : ∀ (n : Nat) (a : Int), (hl f b n a).length ≤ n
  | 0, _ => Nat.le_refl _
  | n + 1, a => by
    have := hl_len f b n (a + 1)
    rw [hl]
    split
    · simp; omega
    · omega
theorem hl_gen (f : Int → Int) (b : Int) (hb : 1 ≤ b) : ∀ (n : Nat) (a : Int), hl f b n a = ((gen f n a).filter fun x => decide (x.2 = b)).map (·.1)
  | 0, _ => rfl
  | n + 1, a => by
    rw [hl, gen, hl_gen f b hb n (a + 1)]
    by_cases h : f a = b
    · rw [if_pos h, if_pos (by omega), List.filter_cons_of_pos (by simp [h])]
      rfl
    · rw [if_neg h]
      split
      · rw [List.filter_cons_of_neg (by simp [h])]
      · rfl
theorem hl_hands {l : List (Int × Int)} (b : Int) (hb : 1 ≤ b) (hs : srt 0 l) : hl (fun h => ky h l) b 8 0 = hands l b := by
  rw [hl_gen _ b hb, gen_srt rfl hs]
  rfl
theorem ix_any (k : Int) : ∀ (l : List Int) (i : Nat), decide (0 ≤ ix k l i) = l.any fun q => decide (k = q)
  | [], i => by simp [ix]
  | x :: l, i => by
    rw [ix, List.any_cons]
    by_cases h : k = x
    · simp [h]
    · rw [if_neg h, ix_any k l (i + 1)]
      simp [h]
def okS (s : ST) : Prop := srt 0 s.1 ∧ (allB s.2.1 = true → s.1 ≠ []) ∧ 0 ≤ s.2.1
theorem okS_out {s : ST} (h : okS s) (q : Int) : okS (outS s q) := by
  obtain ⟨h1, h2, h3⟩ := h
  refine ⟨srt_filter h1, ?_, ?_⟩
  · unfold outS
    simp only
    by_cases hf : outF s.1 s.2.1 s.2.2 q = true
    · rw [if_pos hf]
      intro hA
      exact absurd hA (by decide)
    · rw [if_neg hf]
      intro hA hE
      have := flag_eq (h := s.2.2) q h1 h2
      apply hf
      rw [← this]
      unfold kF
      rw [hA, kr_del q h1]
      have : (s.1.filter fun x => !decide (x.1 = q)) = [] := hE
      rw [this]
      simp
  · unfold outS
    simp only
    split
    · omega
    · exact h3
theorem outS_key {s : ST} (h : okS s) (q : Int) : outS s q = (kr s.1 q 0, if kF s.1 s.2.1 s.2.2 q 0 = true then 0 else s.2.1, if kF s.1 s.2.1 s.2.2 q 0 = true then 0 else s.2.2) := by
  rw [kr_del q h.1, flag_eq q h.1 h.2.1]
  rfl
theorem right5 (g : Int) (y : Value) (kd hd wh ke b c : Int) (l : List (Int × Int)) (M : Mem) (hy : RowM M y 2 (l.map encR)) (he : resvE g l kd hd = 0) :
    Meets Proofs.Try.prog 91 [rsv g (.v y) kd hd, .v (.int .i64 5), .v (.int .i64 wh), .v (.int .i64 ke), .v (.int .i64 b), .v (.int .i64 c)] M (resR (preS g l kd hd wh ke b c)) := by
  refine Meets.of_body [0,1,2,3,4,5,6,12,13,14,15,16,17,18,19,21,24,30,33,37,41,58,60,61,65,81,87,91,97,101,106,110,123,125,126,132,140,144,148,149,150,151,156,175] Proofs.Try.func91 rfl (by kernel_rfl) rfl fun w => ?_
  obtain ⟨hg, hs, hkk, hAl, hk0, hh0⟩ := resvE_ok he
  have hl8 := len8 hs
  generalize hc : preS g l kd hd wh ke b c = r
  unfold preS at hc
  simp only [Proofs.Try.f91, rsv, shs, zts, sos, sls, zss, eqs, sx, sb1, sb2, sb3, sb4, sb5, sb6, ↓reduceIte, Nat.reduceAdd, Nat.reduceMul, Nat.reduceDiv, Nat.reduceEqDiff, Nat.reduceLT, Nat.reduceLeDiff, reduceCtorEq, Int.reduceEq, Int.reduceNe, Int.reduceLT, Int.reduceLE, Int.reduceAdd, Int.reduceSub, Int.reduceMul, Int.reduceNeg, Int.reduceToNat, Int.cast_ofNat_Int, Int.natCast_zero, Int.natCast_one, Int.toNat_natCast, Nat.reduceBEq, nzs]
  refine CallK.pure ⟨rfl, rfl⟩ rfl (within wh 0 7 M) ?_
  rw [whoB_dec]
  cases hw : whoB wh with
  | false =>
    have hke : keyE g l kd hd wh ke = 1 := by rw [keyE_val he, if_pos hw]
    rw [hke, if_pos (by decide)] at hc
    subst hc
    simp only [shs, zts, sos, sls, zss, eqs, sx, sb1, sb2, sb3, sb4, sb5, sb6, ↓reduceIte, Nat.reduceAdd, Nat.reduceMul, Nat.reduceDiv, Nat.reduceEqDiff, Nat.reduceLT, Nat.reduceLeDiff, reduceCtorEq, Int.reduceEq, Int.reduceNe, Int.reduceLT, Int.reduceLE, Int.reduceAdd, Int.reduceSub, Int.reduceMul, Int.reduceNeg, Int.reduceToNat, Int.cast_ofNat_Int, Int.natCast_zero, Int.natCast_one, Int.toNat_natCast, Nat.reduceBEq, nzs]
    exact ⟨_, rfl, RowM.nil _ _⟩
  | true =>
  simp only [shs, zts, sos, sls, zss, eqs, sx, sb1, sb2, sb3, sb4, sb5, sb6, ↓reduceIte, Nat.reduceAdd, Nat.reduceMul, Nat.reduceDiv, Nat.reduceEqDiff, Nat.reduceLT, Nat.reduceLeDiff, reduceCtorEq, Int.reduceEq, Int.reduceNe, Int.reduceLT, Int.reduceLE, Int.reduceAdd, Int.reduceSub, Int.reduceMul, Int.reduceNeg, Int.reduceToNat, Int.cast_ofNat_Int, Int.natCast_zero, Int.natCast_one, Int.toNat_natCast, Nat.reduceBEq, nzs]
  refine CallK.pure ⟨rfl, rfl⟩ rfl (key g y kd hd wh l M hy) ?_
  by_cases hz : ky wh l = 0
  · have c1 : (ky wh l = 0) = True := eq_true hz
    have hke : keyE g l kd hd wh ke = 9 := by rw [keyE_val he, if_neg (by simp [hw]), if_pos (.inl hz)]
    rw [hke, if_pos (by decide)] at hc
    subst hc
    simp only [shs, zts, sos, sls, zss, eqs, sx, sb1, sb2, sb3, sb4, sb5, sb6, ↓reduceIte, Nat.reduceAdd, Nat.reduceMul, Nat.reduceDiv, Nat.reduceEqDiff, Nat.reduceLT, Nat.reduceLeDiff, reduceCtorEq, Int.reduceEq, Int.reduceNe, Int.reduceLT, Int.reduceLE, Int.reduceAdd, Int.reduceSub, Int.reduceMul, Int.reduceNeg, Int.reduceToNat, Int.cast_ofNat_Int, Int.natCast_zero, Int.natCast_one, Int.toNat_natCast, Nat.reduceBEq, nzs, c1]
    exact ⟨_, rfl, RowM.nil _ _⟩
  have c1 : (ky wh l = 0) = False := eq_false hz
  by_cases ho : ky wh l = ke
  rotate_left
  · have c2 : (ky wh l = ke) = False := eq_false ho
    have hke : keyE g l kd hd wh ke = 9 := by rw [keyE_val he, if_neg (by simp [hw]), if_pos (.inr ho)]
    rw [hke, if_pos (by decide)] at hc
    subst hc
    simp only [shs, zts, sos, sls, zss, eqs, sx, sb1, sb2, sb3, sb4, sb5, sb6, ↓reduceIte, Nat.reduceAdd, Nat.reduceMul, Nat.reduceDiv, Nat.reduceEqDiff, Nat.reduceLT, Nat.reduceLeDiff, reduceCtorEq, Int.reduceEq, Int.reduceNe, Int.reduceLT, Int.reduceLE, Int.reduceAdd, Int.reduceSub, Int.reduceMul, Int.reduceNeg, Int.reduceToNat, Int.cast_ofNat_Int, Int.natCast_zero, Int.natCast_one, Int.toNat_natCast, Nat.reduceBEq, nzs, c1, c2]
    exact ⟨_, rfl, RowM.nil _ _⟩
  have c2 : (ky wh l = ke) = True := eq_true ho
  have hke : keyE g l kd hd wh ke = 0 := by rw [keyE_val he, if_neg (by simp [hw]), if_neg (by rintro (h | h); exact hz h; exact h ho)]
  rw [hke, if_neg (by decide)] at hc
  simp only [shs, zts, sos, sls, zss, eqs, sx, sb1, sb2, sb3, sb4, sb5, sb6, ↓reduceIte, Nat.reduceAdd, Nat.reduceMul, Nat.reduceDiv, Nat.reduceEqDiff, Nat.reduceLT, Nat.reduceLeDiff, reduceCtorEq, Int.reduceEq, Int.reduceNe, Int.reduceLT, Int.reduceLE, Int.reduceAdd, Int.reduceSub, Int.reduceMul, Int.reduceNeg, Int.reduceToNat, Int.cast_ofNat_Int, Int.natCast_zero, Int.natCast_one, Int.toNat_natCast, Nat.reduceBEq, nzs, c1, c2]
  refine CallK.pure ⟨rfl, rfl⟩ rfl (rkind c M) ?_
  cases hK : kindB c with
  | false =>
    rw [if_pos (.inl hK)] at hc
    subst hc
    simp only [shs, zts, sos, sls, zss, eqs, sx, sb1, sb2, sb3, sb4, sb5, sb6, ↓reduceIte, Nat.reduceAdd, Nat.reduceMul, Nat.reduceDiv, Nat.reduceEqDiff, Nat.reduceLT, Nat.reduceLeDiff, reduceCtorEq, Int.reduceEq, Int.reduceNe, Int.reduceLT, Int.reduceLE, Int.reduceAdd, Int.reduceSub, Int.reduceMul, Int.reduceNeg, Int.reduceToNat, Int.cast_ofNat_Int, Int.natCast_zero, Int.natCast_one, Int.toNat_natCast, Nat.reduceBEq, nzs]
    exact ⟨_, rfl, RowM.nil _ _⟩
  | true =>
  simp only [shs, zts, sos, sls, zss, eqs, sx, sb1, sb2, sb3, sb4, sb5, sb6, ↓reduceIte, Nat.reduceAdd, Nat.reduceMul, Nat.reduceDiv, Nat.reduceEqDiff, Nat.reduceLT, Nat.reduceLeDiff, reduceCtorEq, Int.reduceEq, Int.reduceNe, Int.reduceLT, Int.reduceLE, Int.reduceAdd, Int.reduceSub, Int.reduceMul, Int.reduceNeg, Int.reduceToNat, Int.cast_ofNat_Int, Int.natCast_zero, Int.natCast_one, Int.toNat_natCast, Nat.reduceBEq, nzs]
  refine CallK.pure ⟨rfl, rfl⟩ rfl (within b 1 1000 M) ?_
  by_cases hbr : b < 1 ∨ 1000 < b
  · rw [if_pos (.inr hbr)] at hc
    subst hc
    rw [decide_eq_false (show ¬ (1 ≤ b ∧ b ≤ 1000) by omega)]
    simp only [shs, zts, sos, sls, zss, eqs, sx, sb1, sb2, sb3, sb4, sb5, sb6, ↓reduceIte, Nat.reduceAdd, Nat.reduceMul, Nat.reduceDiv, Nat.reduceEqDiff, Nat.reduceLT, Nat.reduceLeDiff, reduceCtorEq, Int.reduceEq, Int.reduceNe, Int.reduceLT, Int.reduceLE, Int.reduceAdd, Int.reduceSub, Int.reduceMul, Int.reduceNeg, Int.reduceToNat, Int.cast_ofNat_Int, Int.natCast_zero, Int.natCast_one, Int.toNat_natCast, Nat.reduceBEq, nzs]
    exact ⟨_, rfl, RowM.nil _ _⟩
  rw [if_neg (by simp [hK]; omega)] at hc
  rw [decide_eq_true (show (1 ≤ b ∧ b ≤ 1000) by omega)]
  simp only [shs, zts, sos, sls, zss, eqs, sx, sb1, sb2, sb3, sb4, sb5, sb6, ↓reduceIte, Nat.reduceAdd, Nat.reduceMul, Nat.reduceDiv, Nat.reduceEqDiff, Nat.reduceLT, Nat.reduceLeDiff, reduceCtorEq, Int.reduceEq, Int.reduceNe, Int.reduceLT, Int.reduceLE, Int.reduceAdd, Int.reduceSub, Int.reduceMul, Int.reduceNeg, Int.reduceToNat, Int.cast_ofNat_Int, Int.natCast_zero, Int.natCast_one, Int.toNat_natCast, Nat.reduceBEq, nzs]
  refine LoopK.nilRow 17 136 1 rfl rfl rfl ?_
  have hhl := hl_hands b (by omega) hs
  refine LoopK.go (X := Nat × Nat) (fun x => ([(2, true, .v (.int .i64 wh)), (4, true, .v (.int .i64 b)), (5, true, .v (.int .i64 c)), (6, true, .ptr 48 0 0 0), (12, true, .ptr 96 0 0 0), (13, true, .v (.int .i64 0)), (17, true, .own 1088), (125, true, .v (.int .i64 x.2))],
      [(1088, .row 1 ((hl (fun h => ky h l) b x.2 0).map encI)), (48, .box [.v (.int .i64 g), .v y, .v (.int .i64 kd), .v (.int .i64 hd)] none), (96, .box [.v (.int .i64 0), .v (.slice none 0 0), .v (.int .i64 0), .v (.int .i64 0)] none)], M))
    (fun x => x.1 + x.2 = 8) (fun x => x.1) (8, 0) rfl (Ent.of ?_) ?_
  · simp only [sx, sb1, sb2, sb3, sb4, sb5, sb6, ↓reduceIte, Nat.reduceAdd, Nat.reduceMul, Nat.reduceDiv, Nat.reduceEqDiff, Nat.reduceLT, Nat.reduceLeDiff, reduceCtorEq, Int.reduceEq, Int.reduceNe, Int.reduceLT, Int.reduceLE, Int.reduceAdd, Int.reduceSub, Int.reduceMul, Int.reduceNeg, Int.reduceToNat, Int.cast_ofNat_Int, Int.natCast_zero, Int.natCast_one, Int.toNat_natCast, Nat.reduceBEq, hl, List.map_nil]
  rintro ⟨f, j⟩ h1
  simp only at h1
  by_cases hj : j < 8
  · have d1 : ((j : Int) < 8) = True := eq_true (by omega)
    have hgs := hl_snoc (fun h => ky h l) b j 0
    have hgl := hl_len (fun h => ky h l) b j 0
    simp only [Int.zero_add] at hgs
    simp only [shs, zts, sos, sls, zss, eqs, sx, sb1, sb2, sb3, sb4, sb5, sb6, ↓reduceIte, Nat.reduceAdd, Nat.reduceMul, Nat.reduceDiv, Nat.reduceEqDiff, Nat.reduceLT, Nat.reduceLeDiff, reduceCtorEq, Int.reduceEq, Int.reduceNe, Int.reduceLT, Int.reduceLE, Int.reduceAdd, Int.reduceSub, Int.reduceMul, Int.reduceNeg, Int.reduceToNat, Int.cast_ofNat_Int, Int.natCast_zero, Int.natCast_one, Int.toNat_natCast, Nat.reduceBEq, nzs, d1]
    refine CallK.pure ⟨rfl, rfl⟩ rfl (key g y kd hd j l M hy) ?_
    by_cases hw2 : ky (j : Int) l = b
    · have d2 : (ky (j : Int) l = b) = True := eq_true hw2
      rw [if_pos hw2] at hgs
      simp only [shs, zts, sos, sls, zss, eqs, sx, sb1, sb2, sb3, sb4, sb5, sb6, ↓reduceIte, Nat.reduceAdd, Nat.reduceMul, Nat.reduceDiv, Nat.reduceEqDiff, Nat.reduceLT, Nat.reduceLeDiff, reduceCtorEq, Int.reduceEq, Int.reduceNe, Int.reduceLT, Int.reduceLE, Int.reduceAdd, Int.reduceSub, Int.reduceMul, Int.reduceNeg, Int.reduceToNat, Int.cast_ofNat_Int, Int.natCast_zero, Int.natCast_one, Int.toNat_natCast, Nat.reduceBEq, nzs, d2, inK, lo, hi, List.length_map]
      refine ⟨⟨by omega, by omega⟩, by omega, (f - 1, j + 1), ⟨by simp only; omega, by simp only; omega⟩, Ent.of ?_⟩
      simp only [sx, sb1, sb2, sb3, sb4, sb5, sb6, ↓reduceIte, Nat.reduceAdd, Nat.reduceMul, Nat.reduceDiv, Nat.reduceEqDiff, Nat.reduceLT, Nat.reduceLeDiff, reduceCtorEq, Int.reduceEq, Int.reduceNe, Int.reduceLT, Int.reduceLE, Int.reduceAdd, Int.reduceSub, Int.reduceMul, Int.reduceNeg, Int.reduceToNat, Int.cast_ofNat_Int, Int.natCast_zero, Int.natCast_one, Int.toNat_natCast, Nat.reduceBEq, hgs, List.map_append, List.map_cons, List.map_nil, encI, Int.natCast_add]
    · have d2 : (ky (j : Int) l = b) = False := eq_false hw2
      rw [if_neg hw2, List.append_nil] at hgs
      simp only [shs, zts, sos, sls, zss, eqs, sx, sb1, sb2, sb3, sb4, sb5, sb6, ↓reduceIte, Nat.reduceAdd, Nat.reduceMul, Nat.reduceDiv, Nat.reduceEqDiff, Nat.reduceLT, Nat.reduceLeDiff, reduceCtorEq, Int.reduceEq, Int.reduceNe, Int.reduceLT, Int.reduceLE, Int.reduceAdd, Int.reduceSub, Int.reduceMul, Int.reduceNeg, Int.reduceToNat, Int.cast_ofNat_Int, Int.natCast_zero, Int.natCast_one, Int.toNat_natCast, Nat.reduceBEq, nzs, d2, inK, lo, hi]
      refine ⟨by omega, (f - 1, j + 1), ⟨by simp only; omega, by simp only; omega⟩, Ent.of ?_⟩
      simp only [sx, sb1, sb2, sb3, sb4, sb5, sb6, ↓reduceIte, Nat.reduceAdd, Nat.reduceMul, Nat.reduceDiv, Nat.reduceEqDiff, Nat.reduceLT, Nat.reduceLeDiff, reduceCtorEq, Int.reduceEq, Int.reduceNe, Int.reduceLT, Int.reduceLE, Int.reduceAdd, Int.reduceSub, Int.reduceMul, Int.reduceNeg, Int.reduceToNat, Int.cast_ofNat_Int, Int.natCast_zero, Int.natCast_one, Int.toNat_natCast, Nat.reduceBEq, hgs, Int.natCast_add]
  have d1 : ((j : Int) < 8) = False := eq_false (by omega)
  have ej : j = 8 := by omega
  subst ej
  rw [hhl]
  have hln : (hands l b).length ≤ 8 := by rw [← hhl]; exact hl_len _ _ 8 0
  have hlen : (((hands l b).length : Int) = 0) = (hands l b = []) := by
    apply propext
    rw [← List.length_eq_zero_iff]
    omega
  by_cases hh : hands l b = []
  · have d2 := hlen.trans (eq_true hh)
    rw [if_pos hh] at hc
    subst hc
    simp only [shs, zts, sos, sls, zss, eqs, sx, sb1, sb2, sb3, sb4, sb5, sb6, ↓reduceIte, Nat.reduceAdd, Nat.reduceMul, Nat.reduceDiv, Nat.reduceEqDiff, Nat.reduceLT, Nat.reduceLeDiff, reduceCtorEq, Int.reduceEq, Int.reduceNe, Int.reduceLT, Int.reduceLE, Int.reduceAdd, Int.reduceSub, Int.reduceMul, Int.reduceNeg, Int.reduceToNat, Int.cast_ofNat_Int, Int.natCast_zero, Int.natCast_one, Int.toNat_natCast, Nat.reduceBEq, nzs, d1, d2, List.length_map]
    exact ⟨_, rfl, RowM.nil _ _⟩
  have d2 := hlen.trans (eq_false hh)
  rw [if_neg hh] at hc
  by_cases hm : g = 2147483647
  · have c5 : (g = 2147483647) = True := eq_true hm
    rw [if_pos hm] at hc
    subst hc
    simp only [shs, zts, sos, sls, zss, eqs, sx, sb1, sb2, sb3, sb4, sb5, sb6, ↓reduceIte, Nat.reduceAdd, Nat.reduceMul, Nat.reduceDiv, Nat.reduceEqDiff, Nat.reduceLT, Nat.reduceLeDiff, reduceCtorEq, Int.reduceEq, Int.reduceNe, Int.reduceLT, Int.reduceLE, Int.reduceAdd, Int.reduceSub, Int.reduceMul, Int.reduceNeg, Int.reduceToNat, Int.cast_ofNat_Int, Int.natCast_zero, Int.natCast_one, Int.toNat_natCast, Nat.reduceBEq, nzs, d1, d2, c5, List.length_map]
    exact ⟨_, rfl, RowM.nil _ _⟩
  have c5 : (g = 2147483647) = False := eq_false hm
  rw [if_neg hm] at hc
  simp only [shs, zts, sos, sls, zss, eqs, sx, sb1, sb2, sb3, sb4, sb5, sb6, ↓reduceIte, Nat.reduceAdd, Nat.reduceMul, Nat.reduceDiv, Nat.reduceEqDiff, Nat.reduceLT, Nat.reduceLeDiff, reduceCtorEq, Int.reduceEq, Int.reduceNe, Int.reduceLT, Int.reduceLE, Int.reduceAdd, Int.reduceSub, Int.reduceMul, Int.reduceNeg, Int.reduceToNat, Int.cast_ofNat_Int, Int.natCast_zero, Int.natCast_one, Int.toNat_natCast, Nat.reduceBEq, nzs, d1, d2, c5, List.length_map]
  refine CallK.own (ctxR g _ _) rfl rfl (rkeyed g y kd hd (-1) 0 l M hy (srt_keys hs) hkk.1) rfl fun M2 hM2 => ?_
  rw [kr_same hs, kF_m1 hs (fun hA => (hAl hA).2) hh0]
  simp only [rsv, shs, zts, sos, sls, zss, eqs, sx, sb1, sb2, sb3, sb4, sb5, sb6, ↓reduceIte, Nat.reduceAdd, Nat.reduceMul, Nat.reduceDiv, Nat.reduceEqDiff, Nat.reduceLT, Nat.reduceLeDiff, reduceCtorEq, Int.reduceEq, Int.reduceNe, Int.reduceLT, Int.reduceLE, Int.reduceAdd, Int.reduceSub, Int.reduceMul, Int.reduceNeg, Int.reduceToNat, Int.cast_ofNat_Int, Int.natCast_zero, Int.natCast_one, Int.toNat_natCast, Nat.reduceBEq, nzs, Bool.false_eq_true, if_false, List.length_map]
  generalize hfin : strS wh (l, kd, hd) (hands l b) = fin at hc
  refine LoopK.go (X := Nat × Nat × ST × Mem) (fun x => ([(2, true, .v (.int .i64 wh)), (4, true, .v (.int .i64 b)), (5, true, .v (.int .i64 c)), (6, true, .ptr 48 0 0 0), (12, true, .ptr 96 0 0 0), (13, true, .v (.int .i64 0)), (17, true, .own 1088), (19, true, .ptr 152 0 0 0), (148, true, .own 1088), (149, true, .v (.int .i64 (hands l b).length)), (150, true, .v (.int .i64 x.2.1))],
      [(1088, .row 1 ((hands l b).map encI)), (48, .box [.v (.int .i64 g), .v y, .v (.int .i64 kd), .v (.int .i64 hd)] none), (96, .box [.v (.int .i64 0), .v (.slice none 0 0), .v (.int .i64 0), .v (.int .i64 0)] none), (152, .box [.v (.int .i64 g), .own 1600, .v (.int .i64 x.2.2.1.2.1), .v (.int .i64 x.2.2.1.2.2)] none), (1600, .row 2 (x.2.2.1.1.map encR))], x.2.2.2))
    (fun x => (x.1 + x.2.1 = (hands l b).length ∧ M2.le x.2.2.2) ∧ okS x.2.2.1 ∧ strS wh x.2.2.1 ((hands l b).drop x.2.1) = fin) (fun x => x.1) ((hands l b).length, 0, (l, kd, hd), M2) ⟨⟨rfl, Mem.le.refl M2⟩, ⟨hs, fun hA => (hAl hA).2, hkk.1⟩, hfin⟩ (Ent.rekeyB 152 1 1176 200 2 _ rfl rfl rfl rfl rfl (Ent.of ?_)) ?_
  · simp only [shs, zts, sos, sls, zss, eqs, sx, sb1, sb2, sb3, sb4, sb5, sb6, ↓reduceIte, Nat.reduceAdd, Nat.reduceMul, Nat.reduceDiv, Nat.reduceEqDiff, Nat.reduceLT, Nat.reduceLeDiff, reduceCtorEq, Int.reduceEq, Int.reduceNe, Int.reduceLT, Int.reduceLE, Int.reduceAdd, Int.reduceSub, Int.reduceMul, Int.reduceNeg, Int.reduceToNat, Int.cast_ofNat_Int, Int.natCast_zero, Int.natCast_one, Int.toNat_natCast, Nat.reduceBEq, nzs]
  rintro ⟨f, i, s, N⟩ ⟨⟨h1, hN⟩, hok, h2⟩
  simp only at h1 h2 hN hok
  have hyN := (hy.le hM2).le hN
  by_cases hil : i < (hands l b).length
  · have e1 : ((i : Int) < ((hands l b).length : Int)) = True := eq_true (by omega)
    obtain ⟨q, hx, hd'⟩ := l_drop_at (l := hands l b) (i := i) hil
    rw [hd', strS] at h2
    have hgi : ((hands l b).map encI).getD i [] = [.int .i64 q] := by rw [List.getD_eq_getElem?_getD, List.getElem?_map, hx]; rfl
    by_cases hqw : q = wh
    · have e2 : (q = wh) = True := eq_true hqw
      rw [if_pos hqw] at h2
      simp only [shs, zts, sos, sls, zss, eqs, sx, sb1, sb2, sb3, sb4, sb5, sb6, ↓reduceIte, Nat.reduceAdd, Nat.reduceMul, Nat.reduceDiv, Nat.reduceEqDiff, Nat.reduceLT, Nat.reduceLeDiff, reduceCtorEq, Int.reduceEq, Int.reduceNe, Int.reduceLT, Int.reduceLE, Int.reduceAdd, Int.reduceSub, Int.reduceMul, Int.reduceNeg, Int.reduceToNat, Int.cast_ofNat_Int, Int.natCast_zero, Int.natCast_one, Int.toNat_natCast, Nat.reduceBEq, nzs, e1, e2, hgi, List.length_map, List.getD_cons_zero, inK, lo, hi]
      refine ⟨by omega, hil, by omega, (f - 1, i + 1, s, N), ⟨⟨⟨by simp only; omega, hN⟩, hok, h2⟩, by simp only; omega⟩, Ent.of ?_⟩
      simp only [sx, sb1, sb2, sb3, sb4, sb5, sb6, ↓reduceIte, Nat.reduceAdd, Nat.reduceMul, Nat.reduceDiv, Nat.reduceEqDiff, Nat.reduceLT, Nat.reduceLeDiff, reduceCtorEq, Int.reduceEq, Int.reduceNe, Int.reduceLT, Int.reduceLE, Int.reduceAdd, Int.reduceSub, Int.reduceMul, Int.reduceNeg, Int.reduceToNat, Int.cast_ofNat_Int, Int.natCast_zero, Int.natCast_one, Int.toNat_natCast, Nat.reduceBEq, Int.natCast_add]
    · have e2 : (q = wh) = False := eq_false hqw
      rw [if_neg hqw] at h2
      simp only [shs, zts, sos, sls, zss, eqs, sx, sb1, sb2, sb3, sb4, sb5, sb6, ↓reduceIte, Nat.reduceAdd, Nat.reduceMul, Nat.reduceDiv, Nat.reduceEqDiff, Nat.reduceLT, Nat.reduceLeDiff, reduceCtorEq, Int.reduceEq, Int.reduceNe, Int.reduceLT, Int.reduceLE, Int.reduceAdd, Int.reduceSub, Int.reduceMul, Int.reduceNeg, Int.reduceToNat, Int.cast_ofNat_Int, Int.natCast_zero, Int.natCast_one, Int.toNat_natCast, Nat.reduceBEq, nzs, e1, e2, hgi, List.length_map, List.getD_cons_zero, inK, lo, hi]
      refine ⟨by omega, hil, CallK.pub (k := 1600) rfl fun v N3 hN3 hv => ?_⟩
      simp only [shs, zts, sos, sls, zss, eqs, sx, sb1, sb2, sb3, sb4, sb5, sb6, ↓reduceIte, Nat.reduceAdd, Nat.reduceMul, Nat.reduceDiv, Nat.reduceEqDiff, Nat.reduceLT, Nat.reduceLeDiff, reduceCtorEq, Int.reduceEq, Int.reduceNe, Int.reduceLT, Int.reduceLE, Int.reduceAdd, Int.reduceSub, Int.reduceMul, Int.reduceNeg, Int.reduceToNat, Int.cast_ofNat_Int, Int.natCast_zero, Int.natCast_one, Int.toNat_natCast, Nat.reduceBEq, sp1, sp2, sp3, nzs]
      refine CallK.own (ctxR g _ _) rfl rfl (rkeyed g v s.2.1 s.2.2 q 0 s.1 N3 hv (srt_keys hok.1) hok.2.2) rfl fun N4 hN4 => ?_
      simp only [rsv, shs, zts, sos, sls, zss, eqs, sx, sb1, sb2, sb3, sb4, sb5, sb6, ↓reduceIte, Nat.reduceAdd, Nat.reduceMul, Nat.reduceDiv, Nat.reduceEqDiff, Nat.reduceLT, Nat.reduceLeDiff, reduceCtorEq, Int.reduceEq, Int.reduceNe, Int.reduceLT, Int.reduceLE, Int.reduceAdd, Int.reduceSub, Int.reduceMul, Int.reduceNeg, Int.reduceToNat, Int.cast_ofNat_Int, Int.natCast_zero, Int.natCast_one, Int.toNat_natCast, Nat.reduceBEq, sp1, sp2, sp3, nzs, inK, lo, hi]
      have hk := outS_key hok q
      refine ⟨by omega, (f - 1, i + 1, outS s q, N4), ⟨⟨⟨by simp only; omega, (hN.trans hN3).trans hN4⟩, okS_out hok q, h2⟩, by simp only; omega⟩, Ent.rekeyB 152 1 1272 200 2 _ rfl rfl rfl rfl rfl (Ent.of ?_)⟩
      simp only [shs, zts, sos, sls, zss, eqs, sx, sb1, sb2, sb3, sb4, sb5, sb6, ↓reduceIte, Nat.reduceAdd, Nat.reduceMul, Nat.reduceDiv, Nat.reduceEqDiff, Nat.reduceLT, Nat.reduceLeDiff, reduceCtorEq, Int.reduceEq, Int.reduceNe, Int.reduceLT, Int.reduceLE, Int.reduceAdd, Int.reduceSub, Int.reduceMul, Int.reduceNeg, Int.reduceToNat, Int.cast_ofNat_Int, Int.natCast_zero, Int.natCast_one, Int.toNat_natCast, Nat.reduceBEq, nzs, hk, Int.natCast_add]
  have e1 : ((i : Int) < ((hands l b).length : Int)) = False := eq_false (by omega)
  rw [List.drop_eq_nil_of_le (by omega), strS] at h2
  subst h2
  by_cases hkz : kd = 0
  · have c3 : (0 < kd) = False := eq_false (by omega)
    have ht : tookB kd hd (hands l b) = false := by unfold tookB; rw [hkz]; simp
    rw [ht, if_neg (by decide)] at hc
    subst hc
    simp only [shs, zts, sos, sls, zss, eqs, sx, sb1, sb2, sb3, sb4, sb5, sb6, ↓reduceIte, Nat.reduceAdd, Nat.reduceMul, Nat.reduceDiv, Nat.reduceEqDiff, Nat.reduceLT, Nat.reduceLeDiff, reduceCtorEq, Int.reduceEq, Int.reduceNe, Int.reduceLT, Int.reduceLE, Int.reduceAdd, Int.reduceSub, Int.reduceMul, Int.reduceNeg, Int.reduceToNat, Int.cast_ofNat_Int, Int.natCast_zero, Int.natCast_one, Int.toNat_natCast, Nat.reduceBEq, nzs, e1, c3, inK, lo, hi]
    exact ⟨by omega, .own 1600, rfl, rfl⟩
  have c3 : (0 < kd) = True := eq_true (by omega)
  simp only [shs, zts, sos, sls, zss, eqs, sx, sb1, sb2, sb3, sb4, sb5, sb6, ↓reduceIte, Nat.reduceAdd, Nat.reduceMul, Nat.reduceDiv, Nat.reduceEqDiff, Nat.reduceLT, Nat.reduceLeDiff, reduceCtorEq, Int.reduceEq, Int.reduceNe, Int.reduceLT, Int.reduceLE, Int.reduceAdd, Int.reduceSub, Int.reduceMul, Int.reduceNeg, Int.reduceToNat, Int.cast_ofNat_Int, Int.natCast_zero, Int.natCast_one, Int.toNat_natCast, Nat.reduceBEq, nzs, e1, c3]
  refine CallK.pure ⟨rfl, rfl⟩ rfl (shared kd N) ?_
  cases hA : allB kd with
  | true =>
    have ht : tookB kd hd (hands l b) = false := by unfold tookB; rw [hA]; rfl
    rw [ht, if_neg (by decide)] at hc
    subst hc
    simp only [shs, zts, sos, sls, zss, eqs, sx, sb1, sb2, sb3, sb4, sb5, sb6, ↓reduceIte, Nat.reduceAdd, Nat.reduceMul, Nat.reduceDiv, Nat.reduceEqDiff, Nat.reduceLT, Nat.reduceLeDiff, reduceCtorEq, Int.reduceEq, Int.reduceNe, Int.reduceLT, Int.reduceLE, Int.reduceAdd, Int.reduceSub, Int.reduceMul, Int.reduceNeg, Int.reduceToNat, Int.cast_ofNat_Int, Int.natCast_zero, Int.natCast_one, Int.toNat_natCast, Nat.reduceBEq, nzs, inK, lo, hi]
    exact ⟨by omega, .own 1600, rfl, rfl⟩
  | false =>
  simp only [shs, zts, sos, sls, zss, eqs, sx, sb1, sb2, sb3, sb4, sb5, sb6, ↓reduceIte, Nat.reduceAdd, Nat.reduceMul, Nat.reduceDiv, Nat.reduceEqDiff, Nat.reduceLT, Nat.reduceLeDiff, reduceCtorEq, Int.reduceEq, Int.reduceNe, Int.reduceLT, Int.reduceLE, Int.reduceAdd, Int.reduceSub, Int.reduceMul, Int.reduceNeg, Int.reduceToNat, Int.cast_ofNat_Int, Int.natCast_zero, Int.natCast_one, Int.toNat_natCast, Nat.reduceBEq, nzs]
  refine CallK.lend (k := 1088) rfl rfl rfl (fun _ => rfl) (fun v2 N2 hN2 hv2 => contains v2 (hands l b) hd N2 hv2) ?_
  rw [ix_any]
  have ht : tookB kd hd (hands l b) = (hands l b).any fun q => decide (hd = q) := by unfold tookB; rw [hA, decide_eq_true hkz]; rfl
  rw [ht] at hc
  cases hin : (hands l b).any fun q => decide (hd = q) with
  | false =>
    rw [hin, if_neg (by decide)] at hc
    subst hc
    simp only [shs, zts, sos, sls, zss, eqs, sx, sb1, sb2, sb3, sb4, sb5, sb6, ↓reduceIte, Nat.reduceAdd, Nat.reduceMul, Nat.reduceDiv, Nat.reduceEqDiff, Nat.reduceLT, Nat.reduceLeDiff, reduceCtorEq, Int.reduceEq, Int.reduceNe, Int.reduceLT, Int.reduceLE, Int.reduceAdd, Int.reduceSub, Int.reduceMul, Int.reduceNeg, Int.reduceToNat, Int.cast_ofNat_Int, Int.natCast_zero, Int.natCast_one, Int.toNat_natCast, Nat.reduceBEq, nzs, inK, lo, hi]
    exact ⟨by omega, .own 1600, rfl, rfl⟩
  | true =>
    rw [hin, if_pos rfl] at hc
    subst hc
    simp only [shs, zts, sos, sls, zss, eqs, sx, sb1, sb2, sb3, sb4, sb5, sb6, ↓reduceIte, Nat.reduceAdd, Nat.reduceMul, Nat.reduceDiv, Nat.reduceEqDiff, Nat.reduceLT, Nat.reduceLeDiff, reduceCtorEq, Int.reduceEq, Int.reduceNe, Int.reduceLT, Int.reduceLE, Int.reduceAdd, Int.reduceSub, Int.reduceMul, Int.reduceNeg, Int.reduceToNat, Int.cast_ofNat_Int, Int.natCast_zero, Int.natCast_one, Int.toNat_natCast, Nat.reduceBEq, nzs]
    refine CallK.pub (k := 1600) rfl fun v N3 hN3 hv => ?_
    simp only [shs, zts, sos, sls, zss, eqs, sx, sb1, sb2, sb3, sb4, sb5, sb6, ↓reduceIte, Nat.reduceAdd, Nat.reduceMul, Nat.reduceDiv, Nat.reduceEqDiff, Nat.reduceLT, Nat.reduceLeDiff, reduceCtorEq, Int.reduceEq, Int.reduceNe, Int.reduceLT, Int.reduceLE, Int.reduceAdd, Int.reduceSub, Int.reduceMul, Int.reduceNeg, Int.reduceToNat, Int.cast_ofNat_Int, Int.natCast_zero, Int.natCast_one, Int.toNat_natCast, Nat.reduceBEq, sp1, sp2, sp3, nzs]
    refine CallK.own (ctxR g _ _) rfl rfl (rheld g v s.2.1 s.2.2 wh c s.1 N3 hv hok.1 hok.2.2) rfl fun N4 hN4 => ?_
    simp only [rsv, shs, zts, sos, sls, zss, eqs, sx, sb1, sb2, sb3, sb4, sb5, sb6, ↓reduceIte, Nat.reduceAdd, Nat.reduceMul, Nat.reduceDiv, Nat.reduceEqDiff, Nat.reduceLT, Nat.reduceLeDiff, reduceCtorEq, Int.reduceEq, Int.reduceNe, Int.reduceLT, Int.reduceLE, Int.reduceAdd, Int.reduceSub, Int.reduceMul, Int.reduceNeg, Int.reduceToNat, Int.cast_ofNat_Int, Int.natCast_zero, Int.natCast_one, Int.toNat_natCast, Nat.reduceBEq, sp1, sp2, sp3, nzs, inK, lo, hi]
    exact ⟨by omega, .own 1432, rfl, rfl⟩
end Go.X.Rv
