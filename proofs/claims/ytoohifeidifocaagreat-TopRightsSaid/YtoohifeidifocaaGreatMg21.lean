/- Contracts of functions and the logic that they are proved in (4 texts in one). Conditions: none. -/
import Derived.Test.YtoohifeidifocaaGreatMg20
import Derived.Test.YtoohifeidifocaaGreatMg6
import Derived.Test.YtoohifeidifocaaGreatMg13
open Nat renaming reduceAdd → zqa, reduceMul → zqb, reduceDiv → zqc, reduceEqDiff → zqd, reduceLT → zqe, reduceLeDiff → zqf, reduceBEq → zqg
open Int renaming reduceEq → zra, reduceNe → zrb, reduceLT → zrc, reduceLE → zrd, reduceAdd → zre, reduceSub → zrf, reduceMul → zrg, reduceNeg → zrh, reduceToNat → zri, cast_ofNat_Int → zrj, natCast_zero → zrk, natCast_one → zrl, toNat_natCast → zrm
namespace Go.X.Rp
end Go.X.Rp
namespace Go.X.Sl
end Go.X.Sl
namespace Go.X.Bg
end Go.X.Bg
namespace Go.X.Nm
end Go.X.Nm
namespace Go.X.Bp
end Go.X.Bp
namespace Go.X.Sb
end Go.X.Sb
set_option linter.unusedSimpArgs false
set_option linter.unusedVariables false
set_option maxHeartbeats 4000000
set_option maxRecDepth 20000
namespace Go.X.Rv
open Go Go.X Go.X.Rp Go.X.Sl

theorem ctsR {α : Type} (q0 q1 : α → Value) (p : α → Bool) (f : Nat) (caps : List SV) (hcaps : SV.concs caps = true) (y : Value) (l : List α) (M : Mem) (hy : RowM M y 2 (l.map (fun x => [q0 x, q1 x])))
    (hf : ∀ x ∈ l, Meets Proofs.Tryz.prog f (.agg [.v (q0 x), .v (q1 x)] :: caps) M fun r _ _ => r = .v (.bool (p x))) :
    Meets Proofs.Tryz.prog 50 [.v y, .fn f caps] M fun r _ _ => r = .v (.bool (l.any p)) := by
  refine Meets.of_body [0,1,4] Proofs.Tryz.func50 rfl (by kernel_rfl) (by simp only [SV.concs, SV.conc, hcaps, Bool.and_self]) fun w => ?_
  simp only [Proofs.Tryz.f50, shs, zts, sos, sls, zss, eqs, sx, sb1, sb2, sb3, sb4, sb5, sb6, sb7, ↓reduceIte, zqa, zqb, zqc, zqd, zqe, zqf, reduceCtorEq, zra, zrb, zrc, zrd, zre, zrf, zrg, zrh, zri, zrj, zrk, zrl, zrm, zqg]
  refine CallK.pure ⟨by simp only [SV.concs, SV.conc, hcaps, Bool.and_self], rfl⟩ rfl (idxR q0 q1 p f caps hcaps y l M hy hf) ?_
  rw [← fidx_any p l 0]
  simp only [shs, zts, sos, sls, zss, eqs, sx, sb1, sb2, sb3, sb4, sb5, sb6, sb7, ↓reduceIte, zqa, zqb, zqc, zqd, zqe, zqf, reduceCtorEq, zra, zrb, zrc, zrd, zre, zrf, zrg, zrh, zri, zrj, zrk, zrl, zrm, zqg]


abbrev ST := List (Int × Int) × Int × Int
def outS (s : ST) (q : Int) : ST := (outL s.1 q, if outF s.1 s.2.1 s.2.2 q = true then 0 else s.2.1, if outF s.1 s.2.1 s.2.2 q = true then 0 else s.2.2)
def strS (w : Int) (s : ST) : List Int → ST
  | [] => s
  | q :: r => strS w (if q = w then s else outS s q) r
def hands (l : List (Int × Int)) (b : Int) : List Int := (l.filter fun x => decide (x.2 = b)).map (·.1)
def tookB (k h : Int) (hs : List Int) : Bool := !allB k && (decide (k ≠ 0) && hs.any fun q => decide (h = q))
def preS (g : Int) (l : List (Int × Int)) (k h w key b c : Int) : RS :=
  if keyE g l k h w key ≠ 0 then zr (keyE g l k h w key) else if kindB c = false ∨ (b < 1 ∨ 1000 < b) then zr 1 else if hands l b = [] then zr 4 else if g = 2147483647 then zr 8 else
    if tookB k h (hands l b) = true then (0, g + 1, (strS w (l, k, h) (hands l b)).1, c, if allB c = true then 0 else w) else (0, g + 1, strS w (l, k, h) (hands l b))
theorem outS_len (s : ST) (q : Int) : (outS s q).1.length ≤ s.1.length := List.length_filter_le _ _
theorem preempt (g : Int) (y : Value) (kd hd wh ke b c : Int) (l : List (Int × Int)) (M : Mem) (hy : RowM M y 2 (l.map encR)) :
    Meets Proofs.Tryz.prog 24 [rsv g (.v y) kd hd, .v (.int .i64 wh), .v (.int .i64 ke), .v (.int .i64 b), .v (.int .i64 c)] M (resR (preS g l kd hd wh ke b c)) := by
  refine Meets.of_body [0,1,2,3,4,5,8,10,11,12,13,14,16,22,35,41,45,50,51,52,53,59,76,82,89] Proofs.Tryz.func24 rfl (by kernel_rfl) rfl fun w => ?_
  simp only [Proofs.Tryz.f24, rsv, shs, zts, sos, sls, zss, eqs, sx, sb1, sb2, sb3, sb4, sb5, sb6, sb7, ↓reduceIte, zqa, zqb, zqc, zqd, zqe, zqf, reduceCtorEq, zra, zrb, zrc, zrd, zre, zrf, zrg, zrh, zri, zrj, zrk, zrl, zrm, zqg, nzs]
  refine CallK.pure ⟨rfl, rfl⟩ rfl (keyed g y kd hd wh ke l M hy) ?_
  generalize hc : preS g l kd hd wh ke b c = r
  unfold preS at hc
  by_cases he : keyE g l kd hd wh ke = 0
  rotate_left
  · have c1 : (keyE g l kd hd wh ke = 0) = False := eq_false he
    rw [if_pos he] at hc
    subst hc
    simp only [shs, zts, sos, sls, zss, eqs, sx, sb1, sb2, sb3, sb4, sb5, sb6, sb7, ↓reduceIte, zqa, zqb, zqc, zqd, zqe, zqf, reduceCtorEq, zra, zrb, zrc, zrd, zre, zrf, zrg, zrh, zri, zrj, zrk, zrl, zrm, zqg, nzs, c1]
    exact ⟨_, rfl, RowM.nil _ _⟩
  rw [if_neg (by simp [he])] at hc
  obtain ⟨he1, hw, hfi, hky⟩ := keyE_ok he
  obtain ⟨hg, hs, hkk, hAl, hk0, hh0⟩ := resvE_ok he1
  have hl8 := len8 hs
  simp only [shs, zts, sos, sls, zss, eqs, sx, sb1, sb2, sb3, sb4, sb5, sb6, sb7, ↓reduceIte, zqa, zqb, zqc, zqd, zqe, zqf, reduceCtorEq, zra, zrb, zrc, zrd, zre, zrf, zrg, zrh, zri, zrj, zrk, zrl, zrm, zqg, nzs, he]
  refine CallK.pure ⟨rfl, rfl⟩ rfl (kind c M) ?_
  cases hK : kindB c with
  | false =>
    rw [if_pos (.inl hK)] at hc
    subst hc
    simp only [shs, zts, sos, sls, zss, eqs, sx, sb1, sb2, sb3, sb4, sb5, sb6, sb7, ↓reduceIte, zqa, zqb, zqc, zqd, zqe, zqf, reduceCtorEq, zra, zrb, zrc, zrd, zre, zrf, zrg, zrh, zri, zrj, zrk, zrl, zrm, zqg, nzs]
    exact ⟨_, rfl, RowM.nil _ _⟩
  | true =>
  by_cases hbr : b < 1 ∨ 1000 < b
  · rw [if_pos (.inr hbr)] at hc
    subst hc
    by_cases hk1 : b < 1
    · have c2 : (b < 1) = True := eq_true hk1
      simp only [shs, zts, sos, sls, zss, eqs, sx, sb1, sb2, sb3, sb4, sb5, sb6, sb7, ↓reduceIte, zqa, zqb, zqc, zqd, zqe, zqf, reduceCtorEq, zra, zrb, zrc, zrd, zre, zrf, zrg, zrh, zri, zrj, zrk, zrl, zrm, zqg, nzs, c2]
      exact ⟨_, rfl, RowM.nil _ _⟩
    · have c2 : (b < 1) = False := eq_false hk1
      have c3 : (1000 < b) = True := eq_true (by omega)
      simp only [shs, zts, sos, sls, zss, eqs, sx, sb1, sb2, sb3, sb4, sb5, sb6, sb7, ↓reduceIte, zqa, zqb, zqc, zqd, zqe, zqf, reduceCtorEq, zra, zrb, zrc, zrd, zre, zrf, zrg, zrh, zri, zrj, zrk, zrl, zrm, zqg, nzs, c2, c3]
      exact ⟨_, rfl, RowM.nil _ _⟩
  rw [if_neg (by simp [hK]; omega)] at hc
  have c2 : (b < 1) = False := eq_false (by omega)
  have c3 : (1000 < b) = False := eq_false (by omega)
  simp only [shs, zts, sos, sls, zss, eqs, sx, sb1, sb2, sb3, sb4, sb5, sb6, sb7, ↓reduceIte, zqa, zqb, zqc, zqd, zqe, zqf, reduceCtorEq, zra, zrb, zrc, zrd, zre, zrf, zrg, zrh, zri, zrj, zrk, zrl, zrm, zqg, nzs, c2, c3]
  refine stepK.mkFn rfl rfl ?_
  simp only [shs, zts, sos, sls, zss, eqs, sx, sb1, sb2, sb3, sb4, sb5, sb6, sb7, ↓reduceIte, zqa, zqb, zqc, zqd, zqe, zqf, reduceCtorEq, zra, zrb, zrc, zrd, zre, zrf, zrg, zrh, zri, zrj, zrk, zrl, zrm, zqg, nzs]
  refine CallK.pubB (k := 64) rfl rfl fun bb M2 hM2 hb2 => ?_
  have hy2 := hy.le hM2
  simp only [shA1, shA2, shs, zts, sos, sls, zss, eqs, sx, sb1, sb2, sb3, sb4, sb5, sb6, sb7, ↓reduceIte, zqa, zqb, zqc, zqd, zqe, zqf, reduceCtorEq, zra, zrb, zrc, zrd, zre, zrf, zrg, zrh, zri, zrj, zrk, zrl, zrm, zqg]
  refine CallK.pure ⟨rfl, rfl⟩ rfl (ctsR (α := Int × Int) (fun x => .int .i64 x.1) (fun x => .int .i64 x.2) (fun u => decide (u.2 = b)) _ _ rfl y l M2 hy2 (fun x _ => preC bb b x M2 hb2)) ?_
  have hany : (l.any fun u => decide (u.2 = b)) = !decide (hands l b = []) := by
    unfold hands
    rw [Bool.eq_iff_iff]
    simp [List.filter_eq_nil_iff]
  rw [hany]
  by_cases hh : hands l b = []
  · rw [if_pos hh] at hc
    subst hc
    rw [decide_eq_true hh]
    simp only [shs, zts, sos, sls, zss, eqs, sx, sb1, sb2, sb3, sb4, sb5, sb6, sb7, ↓reduceIte, zqa, zqb, zqc, zqd, zqe, zqf, reduceCtorEq, zra, zrb, zrc, zrd, zre, zrf, zrg, zrh, zri, zrj, zrk, zrl, zrm, zqg, nzs]
    exact ⟨_, rfl, RowM.nil _ _⟩
  rw [if_neg hh] at hc
  rw [decide_eq_false hh]
  by_cases hm : g = 2147483647
  · have c4 : (g = 2147483647) = True := eq_true hm
    rw [if_pos hm] at hc
    subst hc
    simp only [shs, zts, sos, sls, zss, eqs, sx, sb1, sb2, sb3, sb4, sb5, sb6, sb7, ↓reduceIte, zqa, zqb, zqc, zqd, zqe, zqf, reduceCtorEq, zra, zrb, zrc, zrd, zre, zrf, zrg, zrh, zri, zrj, zrk, zrl, zrm, zqg, nzs, c4]
    exact ⟨_, rfl, RowM.nil _ _⟩
  have c4 : (g = 2147483647) = False := eq_false hm
  rw [if_neg hm] at hc
  simp only [shs, zts, sos, sls, zss, eqs, sx, sb1, sb2, sb3, sb4, sb5, sb6, sb7, ↓reduceIte, zqa, zqb, zqc, zqd, zqe, zqf, reduceCtorEq, zra, zrb, zrc, zrd, zre, zrf, zrg, zrh, zri, zrj, zrk, zrl, zrm, zqg, nzs, c4]
  refine CallK.own (ctxR (g + 1) kd hd) rfl rfl (next g y kd hd 1 l M2 hy2 (by omega) ⟨by simp only [lo]; omega, by simp only [hi]; omega⟩) rfl fun M3 hM3 => ?_
  have hy3 := hy2.le hM3
  have b0 := (hb2.le hM3).at (j := 0) rfl
  simp only [SV.val] at b0
  simp only [rsv, shs, zts, sos, sls, zss, eqs, sx, sb1, sb2, sb3, sb4, sb5, sb6, sb7, ↓reduceIte, zqa, zqb, zqc, zqd, zqe, zqf, reduceCtorEq, zra, zrb, zrc, zrd, zre, zrf, zrg, zrh, zri, zrj, zrk, zrl, zrm, zqg, nzs, hy3.len, hy3.sl, List.length_map]
  generalize hfin : strS wh (l, kd, hd) (hands l b) = fin at hc
  generalize htk : tookB kd hd (hands l b) = tk at hc
  refine LoopK.go (X := Nat × Nat × Bool × ST) (fun x => ([(1, true, .v (.int .i64 wh)), (4, true, .v (.int .i64 c)), (5, true, .ptr 40 0 0 0), (8, true, .v (ptrV bb)), (10, true, .ptr 80 0 0 0), (11, true, .v (.int .i64 0)), (13, true, .ptr 104 0 0 0), (14, true, .v (.bool x.2.2.1)), (50, true, .v y), (51, true, .v (.int .i64 l.length)), (52, true, .v (.int .i64 x.2.1))],
      [(40, .box [.v (.int .i64 g), .v y, .v (.int .i64 kd), .v (.int .i64 hd)] none), (80, .box [.v (.int .i64 0), .v (.slice none 0 0), .v (.int .i64 0), .v (.int .i64 0)] none), (104, .box [.v (.int .i64 (g + 1)), .own 800, .v (.int .i64 x.2.2.2.2.1), .v (.int .i64 x.2.2.2.2.2)] none), (800, .row 2 (x.2.2.2.1.map encR))], M3))
    (fun x => (x.1 + x.2.1 = l.length ∧ x.2.2.2.1.length ≤ 8) ∧ strS wh x.2.2.2 (hands (l.drop x.2.1) b) = fin ∧ (x.2.2.1 || tookB kd hd (hands (l.drop x.2.1) b)) = tk) (fun x => x.1) (l.length, 0, false, l, kd, hd) ⟨⟨rfl, by simp only; omega⟩, hfin, by simpa using htk⟩ (Ent.rekeyB 104 1 384 100 2 _ rfl rfl rfl rfl rfl (Ent.of ?_)) ?_
  · simp only [shs, zts, sos, sls, zss, eqs, sx, sb1, sb2, sb3, sb4, sb5, sb6, sb7, ↓reduceIte, zqa, zqb, zqc, zqd, zqe, zqf, reduceCtorEq, zra, zrb, zrc, zrd, zre, zrf, zrg, zrh, zri, zrj, zrk, zrl, zrm, zqg, nzs]
  rintro ⟨f, i, tk1, s⟩ ⟨⟨h1, hsl⟩, h2, h3⟩
  simp only at h1 h2 h3 hsl
  by_cases hil : i < l.length
  · have d1 : ((i : Int) < (l.length : Int)) = True := eq_true (by omega)
    obtain ⟨⟨a, q⟩, hx, hd'⟩ := l_drop_at (l := l) (i := i) hil
    have g0 := hy3.cell (i := i) (e := [.int .i64 a, .int .i64 q]) (by rw [List.getElem?_map, hx]; rfl) (off := 0) (by omega)
    have g1 := hy3.cell (i := i) (e := [.int .i64 a, .int .i64 q]) (by rw [List.getElem?_map, hx]; rfl) (off := 1) (by omega)
    have i0 := hy3.ix (i := (i : Int)) (by omega) (by rw [List.length_map]; omega)
    simp only [List.getD_cons_zero, List.getD_cons_succ] at g0 g1
    by_cases hqb : q = b
    rotate_left
    · have c5 : (q = b) = False := eq_false hqb
      have hh' : hands (l.drop i) b = hands (l.drop (i + 1)) b := by
        rw [hd']; unfold hands; rw [List.filter_cons_of_neg (by simp [hqb])]
      rw [hh'] at h2 h3
      simp only [shs, zts, sos, sls, zss, eqs, sx, sb1, sb2, sb3, sb4, sb5, sb6, sb7, ↓reduceIte, zqa, zqb, zqc, zqd, zqe, zqf, reduceCtorEq, zra, zrb, zrc, zrd, zre, zrf, zrg, zrh, zri, zrj, zrk, zrl, zrm, zqg, nzs, d1, i0, i0.2, g0.1, g0.2.1, g1.1, g1.2.1, b0.1, b0.2, c5, inK, lo, hi]
      refine ⟨by omega, (f - 1, i + 1, tk1, s), ⟨⟨⟨by simp only; omega, hsl⟩, h2, h3⟩, by simp only; omega⟩, Ent.of ?_⟩
      simp only [sx, sb1, sb2, sb3, sb4, sb5, sb6, sb7, ↓reduceIte, zqa, zqb, zqc, zqd, zqe, zqf, reduceCtorEq, zra, zrb, zrc, zrd, zre, zrf, zrg, zrh, zri, zrj, zrk, zrl, zrm, zqg, Int.natCast_add]
    · have c5 : (q = b) = True := eq_true hqb
      have hh' : hands (l.drop i) b = a :: hands (l.drop (i + 1)) b := by
        rw [hd']; unfold hands; rw [List.filter_cons_of_pos (by simp [hqb])]; rfl
      rw [hh'] at h2 h3
      rw [strS] at h2
      have hcons : tookB kd hd (a :: hands (l.drop (i + 1)) b) = ((!allB kd && (decide (kd ≠ 0) && decide (hd = a))) || tookB kd hd (hands (l.drop (i + 1)) b)) := by
        unfold tookB
        rw [List.any_cons]
        cases allB kd <;> cases decide (kd ≠ 0) <;> cases decide (hd = a) <;> rfl
      rw [hcons] at h3
      have hy3' := hy3
      cases tk1 with
      | true =>
        simp only [shs, zts, sos, sls, zss, eqs, sx, sb1, sb2, sb3, sb4, sb5, sb6, sb7, ↓reduceIte, zqa, zqb, zqc, zqd, zqe, zqf, reduceCtorEq, zra, zrb, zrc, zrd, zre, zrf, zrg, zrh, zri, zrj, zrk, zrl, zrm, zqg, nzs, d1, i0, i0.2, g0.1, g0.2.1, g1.1, g1.2.1, b0.1, b0.2, c5, inK, lo, hi]
        by_cases haw : a = wh
        · have c6 : (a = wh) = True := eq_true haw
          rw [if_pos haw] at h2
          simp only [shs, zts, sos, sls, zss, eqs, sx, sb1, sb2, sb3, sb4, sb5, sb6, sb7, ↓reduceIte, zqa, zqb, zqc, zqd, zqe, zqf, reduceCtorEq, zra, zrb, zrc, zrd, zre, zrf, zrg, zrh, zri, zrj, zrk, zrl, zrm, zqg, nzs, c6, inK, lo, hi]
          refine ⟨by omega, (f - 1, i + 1, true, s), ⟨⟨⟨by simp only; omega, hsl⟩, h2, (by simpa using h3)⟩, by simp only; omega⟩, Ent.of ?_⟩
          simp only [sx, sb1, sb2, sb3, sb4, sb5, sb6, sb7, ↓reduceIte, zqa, zqb, zqc, zqd, zqe, zqf, reduceCtorEq, zra, zrb, zrc, zrd, zre, zrf, zrg, zrh, zri, zrj, zrk, zrl, zrm, zqg, Int.natCast_add]
        · have c6 : (a = wh) = False := eq_false haw
          rw [if_neg haw] at h2
          simp only [shs, zts, sos, sls, zss, eqs, sx, sb1, sb2, sb3, sb4, sb5, sb6, sb7, ↓reduceIte, zqa, zqb, zqc, zqd, zqe, zqf, reduceCtorEq, zra, zrb, zrc, zrd, zre, zrf, zrg, zrh, zri, zrj, zrk, zrl, zrm, zqg, nzs, c6, inK, lo, hi]
          refine CallK.lendR (A := fun t => [.agg [.v (.int .i64 (g + 1)), t, .v (.int .i64 s.2.1), .v (.int .i64 s.2.2)], .v (.int .i64 a)]) 800 (fun t t' ν ν' e => by simp only [SV.vals, SV.val, e]) (ctxR (g + 1) (outS s a).2.1 (outS s a).2.2) rfl rfl rfl (fun M6 h6 => out (g + 1) s.2.1 s.2.2 a s.1 M6 (by omega)) rfl ?_
          simp only [rsv, shs, zts, sos, sls, zss, eqs, sx, sb1, sb2, sb3, sb4, sb5, sb6, sb7, ↓reduceIte, zqa, zqb, zqc, zqd, zqe, zqf, reduceCtorEq, zra, zrb, zrc, zrd, zre, zrf, zrg, zrh, zri, zrj, zrk, zrl, zrm, zqg, nzs, inK, lo, hi]
          refine ⟨by omega, (f - 1, i + 1, true, outS s a), ⟨⟨⟨by simp only; omega, by have := outS_len s a; simp only; omega⟩, h2, (by simpa using h3)⟩, by simp only; omega⟩, Ent.rekeyB 104 1 640 100 2 _ rfl rfl rfl rfl rfl (Ent.of ?_)⟩
          simp only [shs, zts, sos, sls, zss, eqs, sx, sb1, sb2, sb3, sb4, sb5, sb6, sb7, ↓reduceIte, zqa, zqb, zqc, zqd, zqe, zqf, reduceCtorEq, zra, zrb, zrc, zrd, zre, zrf, zrg, zrh, zri, zrj, zrk, zrl, zrm, zqg, nzs, outS, Int.natCast_add]
      | false =>
      simp only [shs, zts, sos, sls, zss, eqs, sx, sb1, sb2, sb3, sb4, sb5, sb6, sb7, ↓reduceIte, zqa, zqb, zqc, zqd, zqe, zqf, reduceCtorEq, zra, zrb, zrc, zrd, zre, zrf, zrg, zrh, zri, zrj, zrk, zrl, zrm, zqg, nzs, d1, i0, i0.2, g0.1, g0.2.1, g1.1, g1.2.1, b0.1, b0.2, c5, inK, lo, hi]
      refine CallK.pure ⟨rfl, rfl⟩ rfl (all kd M3) ?_
      cases hA : allB kd with
      | true =>
        rw [hA] at h3
        simp only [shs, zts, sos, sls, zss, eqs, sx, sb1, sb2, sb3, sb4, sb5, sb6, sb7, ↓reduceIte, zqa, zqb, zqc, zqd, zqe, zqf, reduceCtorEq, zra, zrb, zrc, zrd, zre, zrf, zrg, zrh, zri, zrj, zrk, zrl, zrm, zqg, nzs]
        by_cases haw : a = wh
        · have c6 : (a = wh) = True := eq_true haw
          rw [if_pos haw] at h2
          simp only [shs, zts, sos, sls, zss, eqs, sx, sb1, sb2, sb3, sb4, sb5, sb6, sb7, ↓reduceIte, zqa, zqb, zqc, zqd, zqe, zqf, reduceCtorEq, zra, zrb, zrc, zrd, zre, zrf, zrg, zrh, zri, zrj, zrk, zrl, zrm, zqg, nzs, c6, inK, lo, hi]
          refine ⟨by omega, (f - 1, i + 1, false, s), ⟨⟨⟨by simp only; omega, hsl⟩, h2, (by simpa using h3)⟩, by simp only; omega⟩, Ent.of ?_⟩
          simp only [sx, sb1, sb2, sb3, sb4, sb5, sb6, sb7, ↓reduceIte, zqa, zqb, zqc, zqd, zqe, zqf, reduceCtorEq, zra, zrb, zrc, zrd, zre, zrf, zrg, zrh, zri, zrj, zrk, zrl, zrm, zqg, Int.natCast_add]
        · have c6 : (a = wh) = False := eq_false haw
          rw [if_neg haw] at h2
          simp only [shs, zts, sos, sls, zss, eqs, sx, sb1, sb2, sb3, sb4, sb5, sb6, sb7, ↓reduceIte, zqa, zqb, zqc, zqd, zqe, zqf, reduceCtorEq, zra, zrb, zrc, zrd, zre, zrf, zrg, zrh, zri, zrj, zrk, zrl, zrm, zqg, nzs, c6, inK, lo, hi]
          refine CallK.lendR (A := fun t => [.agg [.v (.int .i64 (g + 1)), t, .v (.int .i64 s.2.1), .v (.int .i64 s.2.2)], .v (.int .i64 a)]) 800 (fun t t' ν ν' e => by simp only [SV.vals, SV.val, e]) (ctxR (g + 1) (outS s a).2.1 (outS s a).2.2) rfl rfl rfl (fun M6 h6 => out (g + 1) s.2.1 s.2.2 a s.1 M6 (by omega)) rfl ?_
          simp only [rsv, shs, zts, sos, sls, zss, eqs, sx, sb1, sb2, sb3, sb4, sb5, sb6, sb7, ↓reduceIte, zqa, zqb, zqc, zqd, zqe, zqf, reduceCtorEq, zra, zrb, zrc, zrd, zre, zrf, zrg, zrh, zri, zrj, zrk, zrl, zrm, zqg, nzs, inK, lo, hi]
          refine ⟨by omega, (f - 1, i + 1, false, outS s a), ⟨⟨⟨by simp only; omega, by have := outS_len s a; simp only; omega⟩, h2, (by simpa using h3)⟩, by simp only; omega⟩, Ent.rekeyB 104 1 640 100 2 _ rfl rfl rfl rfl rfl (Ent.of ?_)⟩
          simp only [shs, zts, sos, sls, zss, eqs, sx, sb1, sb2, sb3, sb4, sb5, sb6, sb7, ↓reduceIte, zqa, zqb, zqc, zqd, zqe, zqf, reduceCtorEq, zra, zrb, zrc, zrd, zre, zrf, zrg, zrh, zri, zrj, zrk, zrl, zrm, zqg, nzs, outS, Int.natCast_add]
      | false =>
      rw [hA] at h3
      simp only [shs, zts, sos, sls, zss, eqs, sx, sb1, sb2, sb3, sb4, sb5, sb6, sb7, ↓reduceIte, zqa, zqb, zqc, zqd, zqe, zqf, reduceCtorEq, zra, zrb, zrc, zrd, zre, zrf, zrg, zrh, zri, zrj, zrk, zrl, zrm, zqg, nzs]
      refine CallK.pure ⟨rfl, rfl⟩ rfl (has g y kd hd a l M3 hy3) ?_
      have hHe : hasB l kd hd a = (decide (kd ≠ 0) && decide (hd = a)) := by unfold hasB; rw [if_neg (by simp [hA])]
      rw [← hHe] at h3
      cases hH : hasB l kd hd a with
      | true =>
        rw [hH] at h3
        simp only [shs, zts, sos, sls, zss, eqs, sx, sb1, sb2, sb3, sb4, sb5, sb6, sb7, ↓reduceIte, zqa, zqb, zqc, zqd, zqe, zqf, reduceCtorEq, zra, zrb, zrc, zrd, zre, zrf, zrg, zrh, zri, zrj, zrk, zrl, zrm, zqg, nzs]
        by_cases haw : a = wh
        · have c6 : (a = wh) = True := eq_true haw
          rw [if_pos haw] at h2
          simp only [shs, zts, sos, sls, zss, eqs, sx, sb1, sb2, sb3, sb4, sb5, sb6, sb7, ↓reduceIte, zqa, zqb, zqc, zqd, zqe, zqf, reduceCtorEq, zra, zrb, zrc, zrd, zre, zrf, zrg, zrh, zri, zrj, zrk, zrl, zrm, zqg, nzs, c6, inK, lo, hi]
          refine ⟨by omega, (f - 1, i + 1, true, s), ⟨⟨⟨by simp only; omega, hsl⟩, h2, (by simpa using h3)⟩, by simp only; omega⟩, Ent.of ?_⟩
          simp only [sx, sb1, sb2, sb3, sb4, sb5, sb6, sb7, ↓reduceIte, zqa, zqb, zqc, zqd, zqe, zqf, reduceCtorEq, zra, zrb, zrc, zrd, zre, zrf, zrg, zrh, zri, zrj, zrk, zrl, zrm, zqg, Int.natCast_add]
        · have c6 : (a = wh) = False := eq_false haw
          rw [if_neg haw] at h2
          simp only [shs, zts, sos, sls, zss, eqs, sx, sb1, sb2, sb3, sb4, sb5, sb6, sb7, ↓reduceIte, zqa, zqb, zqc, zqd, zqe, zqf, reduceCtorEq, zra, zrb, zrc, zrd, zre, zrf, zrg, zrh, zri, zrj, zrk, zrl, zrm, zqg, nzs, c6, inK, lo, hi]
          refine CallK.lendR (A := fun t => [.agg [.v (.int .i64 (g + 1)), t, .v (.int .i64 s.2.1), .v (.int .i64 s.2.2)], .v (.int .i64 a)]) 800 (fun t t' ν ν' e => by simp only [SV.vals, SV.val, e]) (ctxR (g + 1) (outS s a).2.1 (outS s a).2.2) rfl rfl rfl (fun M6 h6 => out (g + 1) s.2.1 s.2.2 a s.1 M6 (by omega)) rfl ?_
          simp only [rsv, shs, zts, sos, sls, zss, eqs, sx, sb1, sb2, sb3, sb4, sb5, sb6, sb7, ↓reduceIte, zqa, zqb, zqc, zqd, zqe, zqf, reduceCtorEq, zra, zrb, zrc, zrd, zre, zrf, zrg, zrh, zri, zrj, zrk, zrl, zrm, zqg, nzs, inK, lo, hi]
          refine ⟨by omega, (f - 1, i + 1, true, outS s a), ⟨⟨⟨by simp only; omega, by have := outS_len s a; simp only; omega⟩, h2, (by simpa using h3)⟩, by simp only; omega⟩, Ent.rekeyB 104 1 640 100 2 _ rfl rfl rfl rfl rfl (Ent.of ?_)⟩
          simp only [shs, zts, sos, sls, zss, eqs, sx, sb1, sb2, sb3, sb4, sb5, sb6, sb7, ↓reduceIte, zqa, zqb, zqc, zqd, zqe, zqf, reduceCtorEq, zra, zrb, zrc, zrd, zre, zrf, zrg, zrh, zri, zrj, zrk, zrl, zrm, zqg, nzs, outS, Int.natCast_add]
      | false =>
        rw [hH] at h3
        simp only [shs, zts, sos, sls, zss, eqs, sx, sb1, sb2, sb3, sb4, sb5, sb6, sb7, ↓reduceIte, zqa, zqb, zqc, zqd, zqe, zqf, reduceCtorEq, zra, zrb, zrc, zrd, zre, zrf, zrg, zrh, zri, zrj, zrk, zrl, zrm, zqg, nzs]
        by_cases haw : a = wh
        · have c6 : (a = wh) = True := eq_true haw
          rw [if_pos haw] at h2
          simp only [shs, zts, sos, sls, zss, eqs, sx, sb1, sb2, sb3, sb4, sb5, sb6, sb7, ↓reduceIte, zqa, zqb, zqc, zqd, zqe, zqf, reduceCtorEq, zra, zrb, zrc, zrd, zre, zrf, zrg, zrh, zri, zrj, zrk, zrl, zrm, zqg, nzs, c6, inK, lo, hi]
          refine ⟨by omega, (f - 1, i + 1, false, s), ⟨⟨⟨by simp only; omega, hsl⟩, h2, (by simpa using h3)⟩, by simp only; omega⟩, Ent.of ?_⟩
          simp only [sx, sb1, sb2, sb3, sb4, sb5, sb6, sb7, ↓reduceIte, zqa, zqb, zqc, zqd, zqe, zqf, reduceCtorEq, zra, zrb, zrc, zrd, zre, zrf, zrg, zrh, zri, zrj, zrk, zrl, zrm, zqg, Int.natCast_add]
        · have c6 : (a = wh) = False := eq_false haw
          rw [if_neg haw] at h2
          simp only [shs, zts, sos, sls, zss, eqs, sx, sb1, sb2, sb3, sb4, sb5, sb6, sb7, ↓reduceIte, zqa, zqb, zqc, zqd, zqe, zqf, reduceCtorEq, zra, zrb, zrc, zrd, zre, zrf, zrg, zrh, zri, zrj, zrk, zrl, zrm, zqg, nzs, c6, inK, lo, hi]
          refine CallK.lendR (A := fun t => [.agg [.v (.int .i64 (g + 1)), t, .v (.int .i64 s.2.1), .v (.int .i64 s.2.2)], .v (.int .i64 a)]) 800 (fun t t' ν ν' e => by simp only [SV.vals, SV.val, e]) (ctxR (g + 1) (outS s a).2.1 (outS s a).2.2) rfl rfl rfl (fun M6 h6 => out (g + 1) s.2.1 s.2.2 a s.1 M6 (by omega)) rfl ?_
          simp only [rsv, shs, zts, sos, sls, zss, eqs, sx, sb1, sb2, sb3, sb4, sb5, sb6, sb7, ↓reduceIte, zqa, zqb, zqc, zqd, zqe, zqf, reduceCtorEq, zra, zrb, zrc, zrd, zre, zrf, zrg, zrh, zri, zrj, zrk, zrl, zrm, zqg, nzs, inK, lo, hi]
          refine ⟨by omega, (f - 1, i + 1, false, outS s a), ⟨⟨⟨by simp only; omega, by have := outS_len s a; simp only; omega⟩, h2, (by simpa using h3)⟩, by simp only; omega⟩, Ent.rekeyB 104 1 640 100 2 _ rfl rfl rfl rfl rfl (Ent.of ?_)⟩
          simp only [shs, zts, sos, sls, zss, eqs, sx, sb1, sb2, sb3, sb4, sb5, sb6, sb7, ↓reduceIte, zqa, zqb, zqc, zqd, zqe, zqf, reduceCtorEq, zra, zrb, zrc, zrd, zre, zrf, zrg, zrh, zri, zrj, zrk, zrl, zrm, zqg, nzs, outS, Int.natCast_add]
  · have d1 : ((i : Int) < (l.length : Int)) = False := eq_false (by omega)
    rw [List.drop_eq_nil_of_le (by omega)] at h2 h3
    simp only [hands, List.filter_nil, List.map_nil, strS, tookB, List.any_nil, Bool.and_false, Bool.or_false] at h2 h3
    subst h2 h3
    cases tk1 with
    | false =>
      rw [if_neg (by decide)] at hc
      subst hc
      simp only [shs, zts, sos, sls, zss, eqs, sx, sb1, sb2, sb3, sb4, sb5, sb6, sb7, ↓reduceIte, zqa, zqb, zqc, zqd, zqe, zqf, reduceCtorEq, zra, zrb, zrc, zrd, zre, zrf, zrg, zrh, zri, zrj, zrk, zrl, zrm, zqg, nzs, d1]
      exact ⟨.own 800, rfl, rfl⟩
    | true =>
      rw [if_pos rfl] at hc
      subst hc
      simp only [shs, zts, sos, sls, zss, eqs, sx, sb1, sb2, sb3, sb4, sb5, sb6, sb7, ↓reduceIte, zqa, zqb, zqc, zqd, zqe, zqf, reduceCtorEq, zra, zrb, zrc, zrd, zre, zrf, zrg, zrh, zri, zrj, zrk, zrl, zrm, zqg, nzs, d1]
      refine CallK.lendR (A := fun t => [.agg [.v (.int .i64 (g + 1)), t, .v (.int .i64 s.2.1), .v (.int .i64 s.2.2)]]) 800 (fun t t' ν ν' e => by simp only [SV.vals, SV.val, e]) (ctxR (g + 1) 0 0) rfl rfl rfl (fun M6 h6 => free (g + 1) s.2.1 s.2.2 _ M6) rfl ?_
      simp only [rsv, shs, zts, sos, sls, zss, eqs, sx, sb1, sb2, sb3, sb4, sb5, sb6, sb7, ↓reduceIte, zqa, zqb, zqc, zqd, zqe, zqf, reduceCtorEq, zra, zrb, zrc, zrd, zre, zrf, zrg, zrh, zri, zrj, zrk, zrl, zrm, zqg, nzs]
      refine CallK.pure ⟨rfl, rfl⟩ rfl (all c M3) ?_
      cases hA : allB c with
      | true =>
        simp only [shs, zts, sos, sls, zss, eqs, sx, sb1, sb2, sb3, sb4, sb5, sb6, sb7, ↓reduceIte, zqa, zqb, zqc, zqd, zqe, zqf, reduceCtorEq, zra, zrb, zrc, zrd, zre, zrf, zrg, zrh, zri, zrj, zrk, zrl, zrm, zqg, nzs]
        exact ⟨.own 672, rfl, rfl⟩
      | false =>
        simp only [shs, zts, sos, sls, zss, eqs, sx, sb1, sb2, sb3, sb4, sb5, sb6, sb7, ↓reduceIte, zqa, zqb, zqc, zqd, zqe, zqf, reduceCtorEq, zra, zrb, zrc, zrd, zre, zrf, zrg, zrh, zri, zrj, zrk, zrl, zrm, zqg, nzs]
        exact ⟨.own 672, rfl, rfl⟩
end Go.X.Rv

namespace Go.X.Rv
open Go Go.X Go.X.Rp Go.X.Sl

/-- the hands that have a key, of a table of keys -/
def hl (f : Int → Int) (b : Int) : Nat → Int → List Int
  | 0, _ => []
  | n + 1, a => if f a = b then a :: hl f b n (a + 1) else hl f b n (a + 1)
end Go.X.Rv

namespace Go.X
open Go Go.RowKit
section
variable {E : Env} {σ : Sig} {H : HS} {M : Mem} {a : Act} {w : World} {ν : Nat → Value} {K : KP} {o : Oper}
/-- a contract that hands back a pointer to a new box -/
def NewB (cs : List SV) : RP := fun r H _ => ∃ k, r = .ptr k 0 0 0 ∧ hget H k = some (.box cs none)
theorem CallK.newBox {f d : Nat} {l cs : List SV} (hl : SV.concs l = true) (hd : decide (d < E.N) = true) (h : Meets E.P f l M (NewB cs)) (hc : SV.concs cs = true) (hn : hNoKey d (hdel d H) = true)
    (hk : ∀ M', M.le M' → K ((d, true, .ptr (8 * d) 0 0 0) :: sigDrop d σ) ((8 * d, .box cs none) :: hdel d H) M') : CallK E f l d K σ H M := by
  intro ν a w hs hh
  refine .inl ⟨h.1, ?_⟩
  rw [SV.concs_vals (ν := ν0) (ν' := ν) l hl]
  refine (h.2 w hh.mem).mono ?_
  rintro e w' ⟨s, H', M', ν', rfl, hh', k, rfl, hR⟩
  let ν2 : Nat → Value := fun j => if j / 8 = d then ν' k else ν j
  have hν : ∀ j, j / 8 ≠ d → ν2 j = ν j := fun j hj => by simp [ν2, hj]
  have hν8 : ν2 (8 * d) = ν' k := by simp [ν2, show (8 * d) / 8 = d by omega]
  refine ⟨_, rfl, _, _, _, ⟨ν2, (hs.drop hν).put (of_decide_eq_true hd) (by simp only [cond_true, SV.val, hν8]), ?_⟩, hk M' hh'.le0⟩
  refine ((hh.call hh').sublist (hdel_sub d H)).add hn hν (fun j => ?_) ?_ (fun b hb => ?_)
  · by_cases hj : j / 8 = d
    · simp only [ν2, hj, if_true]; exact hh'.one k
    · simp only [ν2, hj, if_false]; exact hh.one j
  · rw [hν8]
    obtain ⟨⟨b, T, e1, e2⟩, _⟩ := hh'.holds _ (hget_mem hR)
    exact ⟨⟨b, T, e1, by rw [SV.concs_vals (ν := ν') (ν' := ν2) cs hc]; exact e2⟩, fun _ h => by cases h⟩
  · rw [hν8] at hb
    have hbm : b ∈ fp ν' H' := List.mem_filterMap.2 ⟨(k, _), hget_mem hR, hb⟩
    obtain ⟨h1, h2⟩ := hh'.apart b hbm
    refine ⟨fun hm => ?_, h1, Nat.le_trans hh.below.size h2⟩
    have := hh.fp_lt (((hdel_sub d H).filterMap _).subset hm)
    simp only at h2
    omega
/-- what ties say -/
def tieEq (ys : Nat → Value) : HS → Prop
  | [] => True
  | (k, .box _ (some t)) :: H => ys k = t ∧ tieEq ys H
  | (_, .box _ none) :: H => tieEq ys H
  | (_, .row _ _) :: H => tieEq ys H
  | (_, .tab _ _) :: H => tieEq ys H
  | (_, .mp _) :: H => tieEq ys H
theorem tieEq_of : ∀ {H : HS}, (∀ p ∈ H, p.2.holds ν w (ν p.1)) → tieEq ν H
  | [], _ => trivial
  | (k, .box cs (some t)) :: H, h => ⟨(h (k, .box cs (some t)) (by simp)).2 t rfl, tieEq_of fun p hp => h p (by simp [hp])⟩
  | (k, .box cs none) :: H, h => tieEq_of (H := H) fun p hp => h p (by simp [hp])
  | (k, .row _ _) :: H, h => tieEq_of (H := H) fun p hp => h p (by simp [hp])
  | (k, .tab _ _) :: H, h => tieEq_of (H := H) fun p hp => h p (by simp [hp])
  | (k, .mp _) :: H, h => tieEq_of (H := H) fun p hp => h p (by simp [hp])
/-- as DrawK.held, where boxes that were tied stay what they were -/
theorem DrawK.heldE {id : Nat} {ops : Array Oper} (sel : List Nat) (sch : Sch) (hm : E.P.follows .mixedOrders = true) (hB : (Region.noSelect ops && schB .any ops sch ops.size (Array.replicate ops.size false)) = true)
    (h : ∀ xs : Nat → Value, tieEq xs H → stayH (pickH sel (tieH xs H)) (tieH xs H) ∧ wpH E ops.toList (pickH sel (tieH xs H)) M K sch σ (tieH xs H) M) : DrawK E id ops K σ H M := by
  rintro a w ⟨ν, hs, hh⟩
  simp only [Bool.and_eq_true] at hB
  have ht := tieEq_of hh.holds
  have h1 := tieH_heap (hh.grow ((Below.refl _ _).drew) : Heap E ν H M { w with drawn := w.drawn + 1 })
  exact wp_region_held hm (wpH_sound hB.1 (h1.sublist (pickH_sub sel _)) (pickH_tieds sel H) sch _ _ σ _ M a _ hB.2 ⟨ν, hs, h1⟩ ⟨(h ν ht).1, Mem.le.refl M⟩ (h ν ht).2)
/-- as CallK.lendB, where a row of the callee's own is handed back: it is published -/
theorem CallK.lendBR (B : Nat) {f d : Nat} {fn : Func} {c : Code} {l : List SV} (T : SV → SV) (hT : Ctx T) (live : List Nat) (hf : E.P.funcs[f]? = some fn) (hb : fn.body = some c) (hn : okFn fn l.length = true) (hd : decide (d < E.N) = true) (hH : lentB H = true)
    (h : ∀ xs : Nat → Value, wpC ⟨E.P, fn.ntmps, E.w0, E.M0⟩ live c (RetK E.P fn.results.toList (fun s H' M' => ∃ k sz es, s = T (.own k) ∧ hget H' k = some (.row sz es) ∧ ∀ v M'', M'.le M'' → RowM M'' v sz es → ((T (.v v)).conc = true ∧ (backH B xs (hpub k v H') H).2) ∧ K ((d, true, T (.v v)) :: σ) (backH B xs (hpub k v H') H).1 M'')) (params fn.ntmps 0 (SV.shs B l)) (lentH B xs H) M) :
    CallK E f l d K σ H M := by
  intro ν a w hs hh
  simp only [okFn, Bool.and_eq_true, Bool.not_eq_true', decide_eq_true_eq] at hn
  refine .inl ⟨⟨fn, hf, hn.1.1, hn.1.2⟩, ?_⟩
  refine calls_of_wp hf hb ?_
  rw [← SV.shs_vals (B := B) (ν := ν) l]
  have hlen : (SV.vals (shN B ν) (SV.shs B l)).length = l.length := by rw [SV.vals_map, List.length_map, SV.shs_len]
  have hheap : Heap ⟨E.P, fn.ntmps, E.w0, E.M0⟩ (shN B ν) (lentH B ν H) M w := by
    refine ⟨fun q hq => ?_, by rw [lentH_fp B ν ν H hH]; exact hh.nodup, by rw [lentH_fp B ν ν H hH]; exact hh.apart, hh.mem, hh.below, hh.le0, hh.fresh, fun j => ?_⟩
    · obtain ⟨k, cs, t, h1, rfl, hc⟩ := lentH_mem hH hq
      obtain ⟨⟨b, T, e1, e2⟩, _⟩ := hh.holds _ h1
      refine ⟨⟨b, T, by rw [shN_at]; exact e1, by rw [SV.concs_vals (ν := ν) (ν' := shN B ν) cs hc]; exact e2⟩, fun v hv => ?_⟩
      cases hv
      exact shN_at B ν k
    · unfold shN
      split
      · exact hh.one _
      · exact hh.one _
  refine Code.wp_mono ?_ (wpC_sound c _ _ _ _ (h ν) _ w ⟨shN B ν, ⟨?_, rfl, ?_⟩, hheap⟩)
  · rintro e a' w' ⟨σ', H', M', ⟨ν', hs', hh'⟩, hq⟩
    have key : (match rsvs E.P σ' H' M' fn.results.toList with | some (ss, C) => C ∧ (fun s H' M' => ∃ k sz es, s = T (.own k) ∧ hget H' k = some (.row sz es) ∧ ∀ v M'', M'.le M'' → RowM M'' v sz es → ((T (.v v)).conc = true ∧ (backH B ν (hpub k v H') H).2) ∧ K ((d, true, T (.v v)) :: σ) (backH B ν (hpub k v H') H).1 M'') (one? ss) H' M' | none => False) →
        a'.defers = [] ∧ ∃ v, (results fn a'.tmps).run E.P w' = .ok v w' ∧ ∃ v', Ending.returned v = .returned v' ∧ ∃ σ'' H'' M'', Rep E σ'' H'' M'' (a.put (some d) v') w' ∧ K σ'' H'' M'' := by
      intro hq
      split at hq
      · rename_i ss C hr
        obtain ⟨hC, k, sz, es, hk1, hk2, hk3⟩ := hq
        obtain ⟨M'', p1, p2, p3⟩ := pub_heap hh' hk2
        obtain ⟨⟨hc, ht⟩, hK⟩ := hk3 (ν' k) M'' p1 p2
        refine ⟨hs'.2.1, _, results_sound hs' hh' hr hC, _, rfl, _, _, _, ⟨ν, ?_, ?_⟩, hK⟩
        · refine hs.put (of_decide_eq_true hd) ?_
          rw [cond_true, hk1, hT (.own k) (.v (ν' k)) ν' ν' rfl]
          exact SV.conc_val (ν := ν) (ν' := ν') _ hc
        · refine ⟨fun q hq => ?_, by rw [backH_fp ν ht]; exact hh.nodup, fun b hb => ?_, p3.mem, p3.below, p3.le0, p3.fresh, hh.one⟩
          · obtain ⟨cs, t, h1, h2, h3, cs0, h4⟩ := backH_mem ht hq
            obtain ⟨⟨b, T, e1, e2⟩, e3⟩ := p3.holds _ h2
            have e4 := e3 _ rfl
            rw [h1]
            refine ⟨⟨b, T, ?_, ?_⟩, (hh.holds _ h4).2⟩
            · rw [← e4]; exact e1
            · rw [SV.concs_vals (ν := ν') (ν' := ν) cs h3]; exact e2
          · obtain ⟨q, hq, hqb⟩ := List.mem_filterMap.1 hb
            obtain ⟨cs, t, h1, h2, h3, cs0, h4⟩ := backH_mem ht hq
            obtain ⟨_, e3⟩ := p3.holds _ h2
            have e4 := e3 _ rfl
            exact p3.apart b (List.mem_filterMap.2 ⟨_, h2, by rw [e4]; exact hqb⟩)
      · exact hq.elim
    cases e with
    | normal => exact key hq
    | ret => exact key hq
    | _ => exact hq.elim
  · simp only [Array.size_append, List.size_toArray, Array.size_replicate, hlen]; omega
  · intro k g s hk
    obtain ⟨i, rfl, hg, hi⟩ := lk_params hk
    simp only at hg hi
    subst hg
    have hlt : i < (SV.shs B l).length := (List.getElem?_eq_some_iff.1 hi).1
    rw [Array.getElem?_append_left (by simp only [List.size_toArray, hlen]; rw [SV.shs_len] at hlt; omega), List.getElem?_toArray, SV.vals_map, List.getElem?_map, Nat.zero_add, hi]
    rfl
end
end Go.X

namespace Go.X.Vo
open Go Go.X Go.RowKit Go.X.Bg Go.X.Nm Go.X.Bp Go.X.Sb

abbrev Txt := List UInt8
/-- what stands in a block: nothing, or a text -/
def obs (bag : List It) (id : Id3) : Option Txt := if id.1 = true then some (txtId bag id) else none
/-- the blocks of a volume of a name -/
def lookV (A : St) (n : Txt) : Option (List (Option Txt)) := if volIx A.2 n < 0 then none else some ((blks A.2 n).map (obs A.1))
theorem txt_it {bag : List It} (h : Dk bag) {id : Id3} (h1 : id.1 = true) {x : It} (hx : itK bag id.2 = some x) : txtId bag id = x.2.2.1 := by
  unfold txtId
  rcases idIx_cases h id h1 with ⟨_, k2⟩ | ⟨j, y, k1, k2, _, k4⟩
  · rw [k2] at hx; cases hx
  · rw [k4] at hx
    cases hx
    rw [show fidx (isId id) bag 0 = (j : Int) from k1, zrm, k2]
    rfl
theorem obs_hole (bag : List It) : obs bag hole = none := rfl
theorem txt_less {bag : List It} (h : bagE bag = 0) {y id : Id3} (h1 : id.1 = true) (h2 : itK (lessId bag y) id.2 ≠ none) : txtId (lessId bag y) id = txtId bag id := by
  cases hy1 : y.1 with
  | false => rw [less_hole hy1]
  | true =>
    have hd := dk_of h
    have hd' := dk_of (bagE_lessId h y)
    cases hy : itK bag y.2 with
    | none =>
      have : lessG bag y = ([], 4) := by
        unfold lessG
        rcases idIx_cases hd y hy1 with ⟨k1, _⟩ | ⟨j, x, _, _, _, k4⟩
        · rw [if_pos k1]
        · rw [k4] at hy; cases hy
      have e : lessId bag y = [] := by unfold lessId; rw [if_pos hy1, this]
      rw [e] at h2
      exact absurd rfl h2
    | some z =>
      have hi := itK_less hd hy1 hy id.2
      by_cases hk : id.2 = y.2
      · rw [if_pos hk] at hi
        by_cases h0 : z.2.2.2 - 1 = 0
        · rw [if_pos h0] at hi; exact absurd hi h2
        · rw [if_neg h0] at hi
          rw [txt_it hd' h1 hi, txt_it hd h1 (by rw [hk]; exact hy)]
      · rw [if_neg hk] at hi
        cases hx : itK bag id.2 with
        | none => rw [hi] at h2; exact absurd hx h2
        | some x =>
          rw [hx] at hi
          rw [txt_it hd' h1 hi, txt_it hd h1 hx]
theorem txt_put {bag bag' : List It} {s : Txt} {i id : Id3} (h : bagE bag = 0) (hp : PutR bag s bag' i) (h1 : id.1 = true) (h2 : itK bag id.2 ≠ none) : txtId bag' id = txtId bag id := by
  have hd := dk_of h
  have hd' := dk_of hp.ok
  have hi := hp.itk id.2
  cases hx : itK bag id.2 with
  | none => exact absurd hx h2
  | some x =>
    by_cases hk : id.2 = i.2
    · rw [if_pos hk] at hi
      rw [txt_it hd' h1 hi, txt_it hd h1 hx]
      exact (hp.txt x (by rw [← hk]; exact hx)).symm
    · rw [if_neg hk, hx] at hi
      rw [txt_it hd' h1 hi, txt_it hd h1 hx]
theorem txt_new {bag bag' : List It} {s : Txt} {i : Id3} (hp : PutR bag s bag' i) : txtId bag' i = s := by
  have hi := hp.itk i.2
  rw [if_pos rfl] at hi
  exact txt_it (dk_of hp.ok) hp.is hi
/-! ### volumes by names -/
theorem names_ne {l : List Vol} (hs : l.Pairwise fun a b => Op.bytesLess a.1 b.1 = true) {i j : Nat} {x y : Vol} (hi : l[i]? = some x) (hj : l[j]? = some y) (e : x.1 = y.1) : i = j := by
  have hil := (List.getElem?_eq_some_iff.1 hi).1
  have hjl := (List.getElem?_eq_some_iff.1 hj).1
  have ex : l[i] = x := (List.getElem?_eq_some_iff.1 hi).2
  have ey : l[j] = y := (List.getElem?_eq_some_iff.1 hj).2
  rcases Nat.lt_trichotomy i j with hlt | heq | hlt
  · have := List.pairwise_iff_getElem.1 hs i j hil hjl hlt
    rw [ex, ey, e, less_irr] at this
    cases this
  · exact heq
  · have := List.pairwise_iff_getElem.1 hs j i hjl hil hlt
    rw [ex, ey, e, less_irr] at this
    cases this
/-- what is looked up, by membership -/
theorem look_mem {bag : List It} {l : List Vol} (hs : l.Pairwise fun a b => Op.bytesLess a.1 b.1 = true) {x : Vol} (hx : x ∈ l) : lookV (bag, l) x.1 = some (x.2.map (obs bag)) := by
  obtain ⟨j, hj⟩ := List.mem_iff_getElem?.1 hx
  unfold lookV
  rcases volIx_sp l x.1 with ⟨_, k2⟩ | ⟨i, y, k1, k2, k3⟩
  · exact absurd rfl (k2 x hx)
  · rw [if_neg (by rw [k1]; omega), blks_at k1 k2]
    have := names_ne hs k2 hj k3
    subst this
    rw [hj] at k2
    cases k2
    rfl
theorem look_none {bag : List It} {l : List Vol} {n : Txt} (h : ∀ x ∈ l, x.1 ≠ n) : lookV (bag, l) n = none := by
  unfold lookV
  rcases volIx_sp l n with ⟨k1, _⟩ | ⟨i, y, _, k2, k3⟩
  · simp only [k1]
    rfl
  · exact absurd k3 (h y (List.mem_of_getElem? k2))
theorem look_some {A : St} {n : Txt} {X : List (Option Txt)} (h : lookV A n = some X) : ∃ (i : Nat) (x : Vol), volIx A.2 n = (i : Int) ∧ A.2[i]? = some x ∧ x.1 = n ∧ x.2.map (obs A.1) = X := by
  unfold lookV at h
  split at h
  · cases h
  · rename_i h1
    obtain ⟨j, x, e, hx, hn⟩ := volIx_get h1
    rw [blks_at e hx] at h
    exact ⟨j, x, e, hx, hn, Option.some.inj h⟩
theorem look_get {A : St} {n : Txt} {i : Nat} {x : Vol} (e : volIx A.2 n = (i : Int)) (hx : A.2[i]? = some x) : lookV A n = some (x.2.map (obs A.1)) := by
  unfold lookV
  rw [if_neg (by rw [e]; omega), blks_at e hx]
/-- .. of two states with the volumes of names alike -/
theorem look_ext {bag bag' : List It} {l l' : List Vol} (hs : l.Pairwise fun a b => Op.bytesLess a.1 b.1 = true) (hs' : l'.Pairwise fun a b => Op.bytesLess a.1 b.1 = true) {m : Txt}
    (h1 : ∀ x ∈ l, x.1 = m → ∃ y ∈ l', y.1 = m ∧ y.2.map (obs bag') = x.2.map (obs bag)) (h2 : ∀ y ∈ l', y.1 = m → ∃ x ∈ l, x.1 = m) : lookV (bag', l') m = lookV (bag, l) m := by
  by_cases h : ∃ x ∈ l, x.1 = m
  · obtain ⟨x, hx, e⟩ := h
    obtain ⟨y, hy, e2, e3⟩ := h1 x hx e
    subst e
    rw [look_mem hs hx, ← e2, look_mem hs' hy, e3]
  · rw [look_none (fun x hx e => h ⟨x, hx, e⟩), look_none (fun y hy e => h (h2 y hy e))]
theorem look_setV {bag bag' : List It} {l : List Vol} (hs : l.Pairwise fun a b => Op.bytesLess a.1 b.1 = true) {i a : Nat} {x : Vol} (hx : l[i]? = some x) (ha : a < x.2.length) (id : Id3)
    (hc : ∀ v ∈ setV l i a id, ∀ q ∈ v.2, q = id ∨ q.1 = true → q = id ∨ txtId bag' q = txtId bag q) (hid : ∀ v ∈ l, id ∈ v.2 → obs bag' id = obs bag id) (m : Txt) :
    lookV (bag', setV l i a id) m = if m = x.1 then some ((x.2.map (obs bag)).set a (obs bag' id)) else lookV (bag, l) m := by
  have hs' := srt_names (setV_names hx (a := a) (id := id)) hs
  have hil := (List.getElem?_eq_some_iff.1 hx).1
  have hmem : (x.1, x.2.set a id) ∈ setV l i a id := by
    rw [setV_at hx]
    exact List.mem_of_getElem? (List.getElem?_set_self hil)
  have hob : ∀ v ∈ setV l i a id, ∀ q ∈ v.2, q ≠ id → obs bag' q = obs bag q := fun v hv q hq hne => by
    unfold obs
    by_cases h1 : q.1 = true
    · rw [if_pos h1, if_pos h1, (hc v hv q hq (.inr h1)).resolve_left hne]
    · rw [if_neg h1, if_neg h1]
  by_cases hm : m = x.1
  · rw [if_pos hm, hm, show x.1 = ((x.1, x.2.set a id) : Vol).1 from rfl, look_mem hs' hmem]
    congr 1
    apply List.ext_getElem?
    intro j
    rw [List.getElem?_map, List.getElem?_set, List.getElem?_set, List.length_map, List.getElem?_map]
    by_cases hj : a = j
    · subst hj
      rw [if_pos rfl, if_pos rfl, if_pos ha, if_pos ha]
      rfl
    · rw [if_neg hj, if_neg hj]
      cases hy : x.2[j]? with
      | none => rfl
      | some y =>
        simp only [Option.map_some, Option.some.injEq]
        by_cases he : y = id
        · rw [he]
          exact hid x (List.mem_of_getElem? hx) (by rw [← he]; exact List.mem_of_getElem? hy)
        · refine hob _ hmem y ?_ he
          show y ∈ x.2.set a id
          exact List.mem_of_getElem? (by rw [List.getElem?_set_ne hj]; exact hy)
  · rw [if_neg hm]
    refine look_ext hs hs' (fun v hv e => ?_) (fun y hy e => ?_)
    · obtain ⟨j, hj⟩ := List.mem_iff_getElem?.1 hv
      have hji : j ≠ i := fun e2 => by
        subst e2
        rw [hx] at hj
        cases hj
        exact hm e.symm
      have hv' : v ∈ setV l i a id := by
        rw [setV_at hx]
        exact List.mem_of_getElem? (i := j) (by rw [List.getElem?_set_ne (fun e => hji e.symm)]; exact hj)
      refine ⟨v, hv', e, List.map_congr_left fun q hq => ?_⟩
      by_cases he : q = id
      · rw [he]; exact hid v hv (by rw [← he]; exact hq)
      · exact hob v hv' q hq he
    · obtain ⟨u, hu, e1, _⟩ := setV_vol hx hy
      exact ⟨u, hu, by rw [← e1]; exact e⟩
theorem look_trim {bag : List It} {l : List Vol} (h : Rt bag l) {i a : Nat} {x : Vol} {y : Id3} (hx : l[i]? = some x) (hy : x.2[a]? = some y) (m : Txt) :
    lookV (lessId bag y, setV l i a hole) m = if m = x.1 then some ((x.2.map (obs bag)).set a none) else lookV (bag, l) m := by
  have ht := rt_trim h hx hy
  have := look_setV (bag := bag) (bag' := lessId bag y) h.srt hx (List.getElem?_eq_some_iff.1 hy).1 hole (fun v hv q hq hc => ?_) (fun v hv hq => rfl) m
  · rw [obs_hole] at this; exact this
  · rcases hc with hc | hc
    · exact .inl hc
    · exact .inr (txt_less h.ok hc (ht.it (mem_ids.2 ⟨v, hv, hq⟩) hc))
theorem look_put {bag bag' : List It} {l : List Vol} (h : Rt bag l) {i a : Nat} {x : Vol} {s : Txt} {id : Id3} (hx : l[i]? = some x) (hy : x.2[a]? = some hole) (hp : PutR bag s bag' id) (m : Txt) :
    lookV (bag', setV l i a id) m = if m = x.1 then some ((x.2.map (obs bag)).set a (some s)) else lookV (bag, l) m := by
  have := look_setV (bag := bag) (bag' := bag') h.srt hx (List.getElem?_eq_some_iff.1 hy).1 id (fun v hv q hq hc => ?_) (fun v hv hq => ?_) m
  · have e : obs bag' id = some s := by unfold obs; rw [if_pos hp.is, txt_new hp]
    rw [e] at this
    exact this
  · rcases mem_setV hx (mem_ids.2 ⟨v, hv, hq⟩) with he | hm
    · exact .inl he
    · rcases hc with hc | hc
      · exact .inl hc
      · exact .inr (txt_put h.ok hp hc (h.it hm hc))
  · unfold obs
    rw [if_pos hp.is, if_pos hp.is, txt_put h.ok hp hp.is (h.it (mem_ids.2 ⟨v, hv, hq⟩) hp.is)]
/-! ### the answers -/
theorem pl_look {bag : List It} {l : List Vol} {n : Txt} {X : List (Option Txt)} {j : Nat} (hs : stE bag l = 0) (h : lookV (bag, l) n = some X) (hj : j < X.length) : plE bag l n (j : Int) = 0 := by
  obtain ⟨i, x, e, hx, _, hX⟩ := look_some h
  have hl : x.2.length = X.length := by rw [← hX, List.length_map]
  unfold plE
  rw [if_neg (fun h => h hs), if_neg (by rw [show volIx l n = (i : Int) from e]; omega), blks_at e hx, if_neg (by omega)]
theorem rd_look {bag : List It} {l : List Vol} {n : Txt} {X : List (Option Txt)} {j : Nat} {o : Option Txt} (hs : stE bag l = 0) (h : lookV (bag, l) n = some X) (hj : X[j]? = some o) : rdS bag l n (j : Int) = o.getD [] := by
  have hp := pl_look hs h (List.getElem?_eq_some_iff.1 hj).1
  obtain ⟨i, x, e, hx, _, hX⟩ := look_some h
  rw [← hX, List.getElem?_map, Option.map_eq_some_iff] at hj
  obtain ⟨y, hy, ho⟩ := hj
  have hr : rdId l n (j : Int) = y := by unfold rdId; rw [blks_at e hx, zrm, hy]; rfl
  unfold rdS
  rw [if_pos hp, hr, ← ho]
  show _ = (obs bag y).getD []
  unfold obs
  split <;> rfl
theorem look_trimA {bag : List It} {l : List Vol} {n : Txt} {j : Nat} (h : (trimA bag l n (j : Int)).2 = 0) :
    ∃ X, lookV (bag, l) n = some X ∧ j < X.length ∧ ∀ m, lookV (trimA bag l n (j : Int)).1 m = if m = n then some (X.set j none) else lookV (bag, l) m := by
  unfold trimA at h ⊢
  by_cases h1 : plE bag l n (j : Int) = 0
  · rw [if_neg (fun h => h h1)] at h ⊢
    obtain ⟨h2, i, x, m, y, e, hx, hn, ha, hy⟩ := pl_get h1
    obtain rfl : j = m := by omega
    refine ⟨_, look_get (A := (bag, l)) e hx, by rw [List.length_map]; exact (List.getElem?_eq_some_iff.1 hy).1, fun m => ?_⟩
    rw [e, zrm, zrm]
    simp only [trimS, idAt_at hx hy]
    rw [look_trim (rt_of h2) hx hy, hn]
  · rw [if_pos h1] at h
    exact absurd h h1
theorem trimA_ok {bag : List It} {l : List Vol} {n : Txt} {X : List (Option Txt)} {j : Nat} (hs : stE bag l = 0) (h : lookV (bag, l) n = some X) (hj : j < X.length) : (trimA bag l n (j : Int)).2 = 0 := by
  unfold trimA
  rw [if_neg (fun h' => h' (pl_look hs h hj))]
theorem look_writeA {bag : List It} {l : List Vol} {n s : Txt} {j : Nat} (h : (writeA bag l n (j : Int) s).2 = 0) :
    ∃ X, lookV (bag, l) n = some X ∧ j < X.length ∧ ∀ m, lookV (writeA bag l n (j : Int) s).1 m = if m = n then some (X.set j (some s)) else lookV (bag, l) m := by
  unfold writeA at h ⊢
  by_cases h1 : plE bag l n (j : Int) = 0
  · rw [if_neg (fun h => h h1)] at h ⊢
    obtain ⟨h2, i, x, m, y, e, hx, hn, ha, hy⟩ := pl_get h1
    obtain rfl : j = m := by omega
    rw [e, zrm, zrm] at h ⊢
    unfold writeS at h ⊢
    rw [idAt_at hx hy] at h ⊢
    by_cases h3 : (putG (lessId bag y) s).2.2 = 0
    · rw [if_neg (fun h => h h3)] at h ⊢
      refine ⟨_, look_get (A := (bag, l)) e hx, by rw [List.length_map]; exact (List.getElem?_eq_some_iff.1 hy).1, fun m => ?_⟩
      have ht := rt_trim (rt_of h2) hx hy
      obtain ⟨g1, g2⟩ := setV_two hx hy hole
      have := look_put ht g1 g2 (putR ht.ok h3) m
      rw [setV_setV (List.getElem?_eq_some_iff.1 hx).1] at this
      show lookV ((putG (lessId bag y) s).1, setV l i j (putG (lessId bag y) s).2.1) m = _
      rw [this, look_trim (rt_of h2) hx hy, hn]
      have hc : ((x.1, x.2.set j hole) : Vol).2.map (obs (lessId bag y)) = (x.2.map (obs bag)).set j none := by
        have h5 := look_mem (bag := lessId bag y) ht.srt (List.mem_of_getElem? g1)
        have h6 := look_trim (rt_of h2) hx hy x.1
        rw [if_pos rfl] at h6
        have h7 : lookV (lessId bag y, setV l i j hole) ((x.1, x.2.set j hole) : Vol).1 = some ((x.2.map (obs bag)).set j none) := h6
        rw [h7] at h5
        exact (Option.some.inj h5).symm
      simp only at hc
      simp only [hc, List.set_set, hn]
      split <;> rfl
    · rw [if_pos h3] at h
      exact absurd h h3
  · rw [if_pos h1] at h
    exact absurd h h1
end Go.X.Vo

