/- Contracts of functions and the logic that they are proved in (2 texts in one). Conditions: none. -/
import Derived.Test.YtoohifeidifocaaGreatMg5
open Nat renaming reduceAdd → zqa, reduceMul → zqb, reduceDiv → zqc, reduceEqDiff → zqd, reduceLT → zqe, reduceLeDiff → zqf, reduceBEq → zqg
open Int renaming reduceEq → zra, reduceNe → zrb, reduceLT → zrc, reduceLE → zrd, reduceAdd → zre, reduceSub → zrf, reduceMul → zrg, reduceNeg → zrh, reduceToNat → zri, cast_ofNat_Int → zrj, natCast_zero → zrk, natCast_one → zrl, toNat_natCast → zrm
namespace Go.X.Rp
end Go.X.Rp
set_option linter.unusedSimpArgs false
set_option linter.unusedVariables false
set_option maxHeartbeats 4000000
set_option maxRecDepth 20000
namespace Go.X.Rv
open Go Go.X Go.X.Rp

def encR (x : Int × Int) : List Value := [.int .i64 x.1, .int .i64 x.2]
/-- where a hand stands, or -1 -/
def fi (w : Int) : List (Int × Int) → Nat → Int
  | [], _ => -1
  | x :: l, i => if x.1 = w then (i : Int) else fi w l (i + 1)
def resvV (g : Int) (y : Value) (k h : Int) : SV := .agg [.v (.int .i64 g), .v y, .v (.int .i64 k), .v (.int .i64 h)]

theorem nz : (((1 : Nat) ≠ 0) = True) ∧ (((2 : Nat) ≠ 0) = True) ∧ (((3 : Nat) ≠ 0) = True) ∧ (((4 : Nat) ≠ 0) = True) := by simp

theorem find (g : Int) (y : Value) (kd hd w : Int) (l : List (Int × Int)) (M : Mem) (hy : RowM M y 2 (l.map encR)) :
    Meets Proofs.Tryz.prog 28 [resvV g y kd hd, .v (.int .i64 w)] M fun r _ _ => r = .v (.int .i64 (fi w l 0)) := by
  refine Meets.of_body [0,1,2,3,4] Proofs.Tryz.func28 rfl (by kernel_rfl) rfl fun w0 => ?_
  generalize hc : fi w l 0 = c
  have hyl := hy.len_le
  rw [List.length_map] at hyl
  simp only [Proofs.Tryz.f28, resvV, shs, zts, sos, sls, zss, eqs, sx, sb1, sb2, sb3, sb4, sb5, sb6, sb7, ↓reduceIte, zqa, zqb, zqc, zqd, zqe, zqf, reduceCtorEq, zra, zrb, zrc, zrd, zre, zrf, zrg, zrh, zri, zrj, zrk, zrl, zrm, zqg, nz]
  refine stepK.mkFn rfl rfl ?_
  simp only [shs, zts, sos, sls, zss, eqs, sx, sb1, sb2, sb3, sb4, sb5, sb6, sb7, ↓reduceIte, zqa, zqb, zqc, zqd, zqe, zqf, reduceCtorEq, zra, zrb, zrc, zrd, zre, zrf, zrg, zrh, zri, zrj, zrk, zrl, zrm, zqg]
  refine CallK.lendB 8000 [0,1,4,5,7,8,9,16] Proofs.Tryz.func52 rfl (by kernel_rfl) rfl rfl fun xs => ?_
  simp only [Proofs.Tryz.f52, sd2, sd3, shs, zts, sos, sls, zss, eqs, sx, sb1, sb2, sb3, sb4, sb5, sb6, sb7, ↓reduceIte, zqa, zqb, zqc, zqd, zqe, zqf, reduceCtorEq, zra, zrb, zrc, zrd, zre, zrf, zrg, zrh, zri, zrj, zrk, zrl, zrm, zqg, hy.len, hy.sl, List.length_map]
  refine LoopK.go (X := Nat × Nat) (fun x => ([(0, true, .v y), (1, true, .fn 53 [.ptr 8024 0 0 0]), (7, true, .v (.int .i64 l.length)), (8, true, .v (.int .i64 x.2))],
      [(8024, .box [.v (.int .i64 w)] (some (xs 24))), (8016, .box [.v (.int .i64 g), .v y, .v (.int .i64 kd), .v (.int .i64 hd)] (some (xs 16)))], M))
    (fun x => x.1 + x.2 = l.length ∧ fi w (l.drop x.2) x.2 = c) (fun x => x.1) (l.length, 0) ⟨rfl, hc⟩ (Ent.of ?_) ?_
  · simp only [sx, sb1, sb2, sb3, sb4, sb5, sb6, sb7, ↓reduceIte, zqa, zqb, zqc, zqd, zqe, zqf, reduceCtorEq, zra, zrb, zrc, zrd, zre, zrf, zrg, zrh, zri, zrj, zrk, zrl, zrm, zqg]
  rintro ⟨f, i⟩ ⟨h1, h2⟩
  simp only at h1 h2
  by_cases hil : i < l.length
  · have c1 : ((i : Int) < (l.length : Int)) = True := eq_true (by omega)
    obtain ⟨⟨a, b⟩, hx, hd'⟩ := drop_at (l := l) (i := i) hil
    rw [hd'] at h2
    simp only [fi] at h2
    have g0 := hy.cell (i := i) (e := [.int .i64 a, .int .i64 b]) (by rw [List.getElem?_map, hx]; rfl) (off := 0) (by omega)
    have g1 := hy.cell (i := i) (e := [.int .i64 a, .int .i64 b]) (by rw [List.getElem?_map, hx]; rfl) (off := 1) (by omega)
    have i0 := hy.ix (i := (i : Int)) (by omega) (by rw [List.length_map]; omega)
    simp only [List.getD_cons_zero, List.getD_cons_succ] at g0 g1
    simp only [shs, zts, sos, sls, zss, eqs, sx, sb1, sb2, sb3, sb4, sb5, sb6, sb7, ↓reduceIte, zqa, zqb, zqc, zqd, zqe, zqf, reduceCtorEq, zra, zrb, zrc, zrd, zre, zrf, zrg, zrh, zri, zrj, zrk, zrl, zrm, zqg, c1, hy.len, hy.sl, List.length_map, i0, g0.1, g1.1, g0.2.1, g1.2.1, i0.2, nz]
    refine CallK.lendB 8000 [0,1,2,3] Proofs.Tryz.func53 rfl (by kernel_rfl) rfl rfl fun ys => ?_
    simp only [Proofs.Tryz.f53, sd2, sd3, shs, zts, sos, sls, zss, eqs, sx, sb1, sb2, sb3, sb4, sb5, sb6, sb7, ↓reduceIte, zqa, zqb, zqc, zqd, zqe, zqf, reduceCtorEq, zra, zrb, zrc, zrd, zre, zrf, zrg, zrh, zri, zrj, zrk, zrl, zrm, zqg, nz, inK, lo, hi]
    refine ⟨fun h => ?_, fun h => ?_⟩
    · rw [if_pos h] at h2
      rw [h2]
    · rw [if_neg h] at h2
      refine ⟨by omega, (f - 1, i + 1), ⟨⟨by simp only; omega, h2⟩, by simp only; omega⟩, Ent.of ?_⟩
      simp only [sx, sb1, sb2, sb3, sb4, sb5, sb6, sb7, ↓reduceIte, zqa, zqb, zqc, zqd, zqe, zqf, reduceCtorEq, zra, zrb, zrc, zrd, zre, zrf, zrg, zrh, zri, zrj, zrk, zrl, zrm, zqg, Int.natCast_add]
  · have c1 : ((i : Int) < (l.length : Int)) = False := eq_false (by omega)
    have hd' : l.drop i = [] := List.drop_eq_nil_of_le (by omega)
    rw [hd'] at h2
    simp only [fi] at h2
    subst h2
    simp only [sd2, sd3, shs, zts, sos, sls, zss, eqs, sx, sb1, sb2, sb3, sb4, sb5, sb6, sb7, ↓reduceIte, zqa, zqb, zqc, zqd, zqe, zqf, reduceCtorEq, zra, zrb, zrc, zrd, zre, zrf, zrg, zrh, zri, zrj, zrk, zrl, zrm, zqg, c1]

def whoB (n : Int) : Bool := decide (0 ≤ n) && decide (n ≤ 7)
def allB (k : Int) : Bool := decide (k = 7) || decide (k = 8)
def kindB (k : Int) : Bool := decide (k = 1) || decide (k = 3) || (decide (5 ≤ k) && decide (k ≤ 8))
theorem who (n : Int) (M : Mem) : Meets Proofs.Tryz.prog 26 [.v (.int .i64 n)] M fun r _ _ => r = .v (.bool (whoB n)) := by
  refine Meets.of_body [0,2] Proofs.Tryz.func26 rfl (by kernel_rfl) rfl fun w => ?_
  simp only [Proofs.Tryz.f26, shs, zts, sos, sls, zss, eqs, sx, sb1, sb2, sb3, sb4, sb5, sb6, sb7, ↓reduceIte, zqa, zqb, zqc, zqd, zqe, zqf, reduceCtorEq, zra, zrb, zrc, zrd, zre, zrf, zrg, zrh, zri, zrj, zrk, zrl, zrm, zqg, whoB]
theorem all (k : Int) (M : Mem) : Meets Proofs.Tryz.prog 46 [.v (.int .i64 k)] M fun r _ _ => r = .v (.bool (allB k)) := by
  refine Meets.of_body [0,2] Proofs.Tryz.func46 rfl (by kernel_rfl) rfl fun w => ?_
  simp only [Proofs.Tryz.f46, shs, zts, sos, sls, zss, eqs, sx, sb1, sb2, sb3, sb4, sb5, sb6, sb7, ↓reduceIte, zqa, zqb, zqc, zqd, zqe, zqf, reduceCtorEq, zra, zrb, zrc, zrd, zre, zrf, zrg, zrh, zri, zrj, zrk, zrl, zrm, zqg, allB]
theorem kind (k : Int) (M : Mem) : Meets Proofs.Tryz.prog 45 [.v (.int .i64 k)] M fun r _ _ => r = .v (.bool (kindB k)) := by
  refine Meets.of_body [0,2] Proofs.Tryz.func45 rfl (by kernel_rfl) rfl fun w => ?_
  simp only [Proofs.Tryz.f45, shs, zts, sos, sls, zss, eqs, sx, sb1, sb2, sb3, sb4, sb5, sb6, sb7, ↓reduceIte, zqa, zqb, zqc, zqd, zqe, zqf, reduceCtorEq, zra, zrb, zrc, zrd, zre, zrf, zrg, zrh, zri, zrj, zrk, zrl, zrm, zqg, kindB]
  exact fun h => ⟨h, fun h5 => ⟨h, h5⟩⟩

/-- a hand's key, or 0 -/
def ky (w : Int) : List (Int × Int) → Int
  | [] => 0
  | x :: l => if x.1 = w then x.2 else ky w l
/-- what is wrong with those who are registered -/
def ck : List (Int × Int) → Int → Int
  | [], _ => 0
  | x :: l, last => if ¬ (0 ≤ x.1 ∧ x.1 ≤ 7) ∨ (x.2 < 1 ∨ 1000 < x.2) then 1 else if x.1 ≤ last then 3 else ck l x.1
def kE (l : List (Int × Int)) (k h : Int) : Int :=
  if k = 0 ∨ allB k = true then (if h ≠ 0 ∨ (allB k = true ∧ l = []) then 3 else 0) else if kindB k = false then 1 else if fi h l 0 < 0 then 3 else 0
def resvE (g : Int) (l : List (Int × Int)) (k h : Int) : Int := if g < 0 ∨ 2147483647 < g then 1 else if ck l (-1) ≠ 0 then ck l (-1) else kE l k h
theorem allB0 : allB 0 = false := rfl

theorem check (g : Int) (y : Value) (kd hd : Int) (l : List (Int × Int)) (M : Mem) (hy : RowM M y 2 (l.map encR)) :
    Meets Proofs.Tryz.prog 25 [resvV g y kd hd] M fun r _ _ => r = .v (.int .i64 (resvE g l kd hd)) := by
  refine Meets.of_body [0,1,2,3,4,12,14,15,16,17,34,48,50,72,73,78] Proofs.Tryz.func25 rfl (by kernel_rfl) rfl fun w0 => ?_
  generalize hc : resvE g l kd hd = c
  have hyl := hy.len_le
  rw [List.length_map] at hyl
  by_cases hg : g < 0 ∨ 2147483647 < g
  · rw [resvE, if_pos hg] at hc
    subst hc
    simp only [Proofs.Tryz.f25, resvV, shs, zts, sos, sls, zss, eqs, sx, sb1, sb2, sb3, sb4, sb5, sb6, sb7, ↓reduceIte, zqa, zqb, zqc, zqd, zqe, zqf, reduceCtorEq, zra, zrb, zrc, zrd, zre, zrf, zrg, zrh, zri, zrj, zrk, zrl, zrm, zqg, nz, hy.len, hy.sl, List.length_map]
    exact fun h => by omega
  rw [resvE, if_neg hg] at hc
  have c1 : (g < 0) = False := eq_false (by omega)
  have c2 : (2147483647 < g) = False := eq_false (by omega)
  simp only [Proofs.Tryz.f25, resvV, shs, zts, sos, sls, zss, eqs, sx, sb1, sb2, sb3, sb4, sb5, sb6, sb7, ↓reduceIte, zqa, zqb, zqc, zqd, zqe, zqf, reduceCtorEq, zra, zrb, zrc, zrd, zre, zrf, zrg, zrh, zri, zrj, zrk, zrl, zrm, zqg, nz, hy.len, hy.sl, List.length_map, c1, c2]
  generalize hck : ck l (-1) = e0 at hc
  refine LoopK.go (X := Nat × Nat × Int) (fun x => ([(1, true, .ptr 8 0 0 0), (14, true, .v y), (15, true, .v (.int .i64 l.length)), (16, true, .v (.int .i64 x.2.1))], [(8, .box [.v (.int .i64 g), .v y, .v (.int .i64 kd), .v (.int .i64 hd)] none)], M))
    (fun x => (x.1 + x.2.1 = l.length ∧ ((x.2.1 = 0 ∧ x.2.2 = -1) ∨ (0 < x.2.1 ∧ ∃ b, l[x.2.1 - 1]? = some (x.2.2, b)))) ∧ ck (l.drop x.2.1) x.2.2 = e0) (fun x => x.1) (l.length, 0, -1) ⟨⟨rfl, .inl ⟨rfl, rfl⟩⟩, hck⟩ (Ent.of ?_) ?_
  · simp only [sx, sb1, sb2, sb3, sb4, sb5, sb6, sb7, ↓reduceIte, zqa, zqb, zqc, zqd, zqe, zqf, reduceCtorEq, zra, zrb, zrc, zrd, zre, zrf, zrg, zrh, zri, zrj, zrk, zrl, zrm, zqg]
  rintro ⟨f, i, last⟩ ⟨⟨h1, h3⟩, h2⟩
  simp only at h1 h2 h3
  by_cases hil : i < l.length
  · have d1 : ((i : Int) < (l.length : Int)) = True := eq_true (by omega)
    obtain ⟨⟨a, b⟩, hx, hd'⟩ := drop_at (l := l) (i := i) hil
    rw [hd'] at h2
    simp only [ck] at h2
    have g0 := hy.cell (i := i) (e := [.int .i64 a, .int .i64 b]) (by rw [List.getElem?_map, hx]; rfl) (off := 0) (by omega)
    have g1 := hy.cell (i := i) (e := [.int .i64 a, .int .i64 b]) (by rw [List.getElem?_map, hx]; rfl) (off := 1) (by omega)
    have i0 := hy.ix (i := (i : Int)) (by omega) (by rw [List.length_map]; omega)
    simp only [List.getD_cons_zero, List.getD_cons_succ] at g0 g1
    simp only [shs, zts, sos, sls, zss, eqs, sx, sb1, sb2, sb3, sb4, sb5, sb6, sb7, ↓reduceIte, zqa, zqb, zqc, zqd, zqe, zqf, reduceCtorEq, zra, zrb, zrc, zrd, zre, zrf, zrg, zrh, zri, zrj, zrk, zrl, zrm, zqg, d1, hy.len, hy.sl, List.length_map, i0, g0.1, g1.1, g0.2.1, g1.2.1, i0.2, nz, inK, lo, hi]
    refine ⟨fun _ => trivial, CallK.pure ⟨rfl, rfl⟩ rfl (who a M) ?_⟩
    by_cases hw : ¬ (0 ≤ a ∧ a ≤ 7) ∨ (b < 1 ∨ 1000 < b)
    · rw [if_pos hw] at h2
      subst h2
      rw [if_pos (by decide)] at hc
      subst hc
      simp only [shs, zts, sos, sls, zss, eqs, sx, sb1, sb2, sb3, sb4, sb5, sb6, sb7, ↓reduceIte, zqa, zqb, zqc, zqd, zqe, zqf, reduceCtorEq, zra, zrb, zrc, zrd, zre, zrf, zrg, zrh, zri, zrj, zrk, zrl, zrm, zqg, nz, whoB]
      exact fun h => by omega
    · rw [if_neg hw] at h2
      have hwB : whoB a = true := by unfold whoB; rw [decide_eq_true (by omega), decide_eq_true (by omega)]; rfl
      have d2 : (b < 1) = False := eq_false (by omega)
      have d3 : (1000 < b) = False := eq_false (by omega)
      simp only [shs, zts, sos, sls, zss, eqs, sx, sb1, sb2, sb3, sb4, sb5, sb6, sb7, ↓reduceIte, zqa, zqb, zqc, zqd, zqe, zqf, reduceCtorEq, zra, zrb, zrc, zrd, zre, zrf, zrg, zrh, zri, zrj, zrk, zrl, zrm, zqg, nz, hwB, d2, d3]
      refine DrawK.quiet (by kernel_rfl) (by kernel_rfl) ?_
      rcases h3 with ⟨rfl, rfl⟩ | ⟨h3, b', h4⟩
      · rw [if_neg (by omega)] at h2
        simp only [shs, zts, sos, sls, zss, eqs, sx, sb1, sb2, sb3, sb4, sb5, sb6, sb7, ↓reduceIte, zqa, zqb, zqc, zqd, zqe, zqf, reduceCtorEq, zra, zrb, zrc, zrd, zre, zrf, zrg, zrh, zri, zrj, zrk, zrl, zrm, zqg, nz, hy.len, hy.sl, List.length_map, inK, lo, hi]
        refine ⟨(f - 1, 1, a), ⟨⟨⟨by simp only; omega, .inr ⟨by simp, b, by simpa using hx⟩⟩, h2⟩, by simp only; omega⟩, Ent.of ?_⟩
        simp only [sx, sb1, sb2, sb3, sb4, sb5, sb6, sb7, ↓reduceIte, zqa, zqb, zqc, zqd, zqe, zqf, reduceCtorEq, zra, zrb, zrc, zrd, zre, zrf, zrg, zrh, zri, zrj, zrk, zrl, zrm, zqg]
      · have d4 : (0 < (i : Int)) = True := eq_true (by omega)
        have e1 : (i : Int) - 1 = ((i - 1 : Nat) : Int) := by omega
        have p0 := hy.cell (i := i - 1) (e := [.int .i64 last, .int .i64 b']) (by rw [List.getElem?_map, h4]; rfl) (off := 0) (by omega)
        have q0 := hy.ix (i := ((i - 1 : Nat) : Int)) (by omega) (by rw [List.length_map]; omega)
        simp only [List.getD_cons_zero, List.getD_cons_succ] at p0
        simp only [shs, zts, sos, sls, zss, eqs, sx, sb1, sb2, sb3, sb4, sb5, sb6, sb7, ↓reduceIte, zqa, zqb, zqc, zqd, zqe, zqf, reduceCtorEq, zra, zrb, zrc, zrd, zre, zrf, zrg, zrh, zri, zrj, zrk, zrl, zrm, zqg, nz, d4, e1, hy.len, hy.sl, List.length_map, p0.1, p0.2.1, q0, q0.2, inK, lo, hi]
        refine ⟨by omega, fun h => ?_, fun h => ⟨by omega, (f - 1, i + 1, a), ⟨⟨⟨by simp only; omega, .inr ⟨by simp, b, by simpa using hx⟩⟩, by simp only; rw [if_neg (by omega)] at h2; exact h2⟩, by simp only; omega⟩, Ent.of ?_⟩⟩
        · rw [if_pos h] at h2
          subst h2
          rw [if_pos (by decide)] at hc
          rw [hc]
        · simp only [sx, sb1, sb2, sb3, sb4, sb5, sb6, sb7, ↓reduceIte, zqa, zqb, zqc, zqd, zqe, zqf, reduceCtorEq, zra, zrb, zrc, zrd, zre, zrf, zrg, zrh, zri, zrj, zrk, zrl, zrm, zqg, Int.natCast_add]
  · have d1 : ((i : Int) < (l.length : Int)) = False := eq_false (by omega)
    have hd' : l.drop i = [] := List.drop_eq_nil_of_le (by omega)
    rw [hd'] at h2
    simp only [ck] at h2
    subst h2
    rw [if_neg (by decide)] at hc
    have hl0 : ((l.length : Int) = 0) = (l = []) := by
      apply propext
      rw [← List.length_eq_zero_iff]
      omega
    unfold kE at hc
    by_cases hk0 : kd = 0
    · subst hk0
      rw [if_pos (.inl rfl)] at hc
      by_cases hh : hd = 0
      · have d2 : (hd = 0) = True := eq_true hh
        rw [if_neg (by simp [hh, allB0])] at hc
        subst hc
        simp only [shs, zts, sos, sls, zss, eqs, sx, sb1, sb2, sb3, sb4, sb5, sb6, sb7, ↓reduceIte, zqa, zqb, zqc, zqd, zqe, zqf, reduceCtorEq, zra, zrb, zrc, zrd, zre, zrf, zrg, zrh, zri, zrj, zrk, zrl, zrm, zqg, nz, d1, d2]
        refine CallK.pure ⟨rfl, rfl⟩ rfl (all 0 M) ?_
        simp only [shs, zts, sos, sls, zss, eqs, sx, sb1, sb2, sb3, sb4, sb5, sb6, sb7, ↓reduceIte, zqa, zqb, zqc, zqd, zqe, zqf, reduceCtorEq, zra, zrb, zrc, zrd, zre, zrf, zrg, zrh, zri, zrj, zrk, zrl, zrm, zqg, nz, allB0]
      · have d2 : (hd = 0) = False := eq_false hh
        rw [if_pos (.inl hh)] at hc
        subst hc
        simp only [shs, zts, sos, sls, zss, eqs, sx, sb1, sb2, sb3, sb4, sb5, sb6, sb7, ↓reduceIte, zqa, zqb, zqc, zqd, zqe, zqf, reduceCtorEq, zra, zrb, zrc, zrd, zre, zrf, zrg, zrh, zri, zrj, zrk, zrl, zrm, zqg, nz, d1, d2]
    · have d0 : (kd = 0) = False := eq_false hk0
      simp only [shs, zts, sos, sls, zss, eqs, sx, sb1, sb2, sb3, sb4, sb5, sb6, sb7, ↓reduceIte, zqa, zqb, zqc, zqd, zqe, zqf, reduceCtorEq, zra, zrb, zrc, zrd, zre, zrf, zrg, zrh, zri, zrj, zrk, zrl, zrm, zqg, nz, d1, d0]
      refine CallK.pure ⟨rfl, rfl⟩ rfl (all kd M) ?_
      cases hA : allB kd with
      | true =>
        rw [if_pos (.inr hA)] at hc
        by_cases hh : hd = 0
        · have d2 : (hd = 0) = True := eq_true hh
          simp only [shs, zts, sos, sls, zss, eqs, sx, sb1, sb2, sb3, sb4, sb5, sb6, sb7, ↓reduceIte, zqa, zqb, zqc, zqd, zqe, zqf, reduceCtorEq, zra, zrb, zrc, zrd, zre, zrf, zrg, zrh, zri, zrj, zrk, zrl, zrm, zqg, nz, d2]
          refine CallK.pure ⟨rfl, rfl⟩ rfl (all kd M) ?_
          simp only [shs, zts, sos, sls, zss, eqs, sx, sb1, sb2, sb3, sb4, sb5, sb6, sb7, ↓reduceIte, zqa, zqb, zqc, zqd, zqe, zqf, reduceCtorEq, zra, zrb, zrc, zrd, zre, zrf, zrg, zrh, zri, zrj, zrk, zrl, zrm, zqg, nz, hA, hy.len, hy.sl, List.length_map, hl0]
          exact ⟨fun h => by rw [if_pos (.inr ⟨hA, h⟩)] at hc; rw [hc], fun h => by rw [if_neg (by simp [hh, h])] at hc; rw [hc]⟩
        · have d2 : (hd = 0) = False := eq_false hh
          rw [if_pos (.inl hh)] at hc
          subst hc
          simp only [shs, zts, sos, sls, zss, eqs, sx, sb1, sb2, sb3, sb4, sb5, sb6, sb7, ↓reduceIte, zqa, zqb, zqc, zqd, zqe, zqf, reduceCtorEq, zra, zrb, zrc, zrd, zre, zrf, zrg, zrh, zri, zrj, zrk, zrl, zrm, zqg, nz, d2]
      | false =>
        rw [if_neg (by simp [hk0, hA])] at hc
        simp only [shs, zts, sos, sls, zss, eqs, sx, sb1, sb2, sb3, sb4, sb5, sb6, sb7, ↓reduceIte, zqa, zqb, zqc, zqd, zqe, zqf, reduceCtorEq, zra, zrb, zrc, zrd, zre, zrf, zrg, zrh, zri, zrj, zrk, zrl, zrm, zqg, nz]
        refine CallK.pure ⟨rfl, rfl⟩ rfl (kind kd M) ?_
        cases hK : kindB kd with
        | false =>
          rw [if_pos hK] at hc
          subst hc
          simp only [shs, zts, sos, sls, zss, eqs, sx, sb1, sb2, sb3, sb4, sb5, sb6, sb7, ↓reduceIte, zqa, zqb, zqc, zqd, zqe, zqf, reduceCtorEq, zra, zrb, zrc, zrd, zre, zrf, zrg, zrh, zri, zrj, zrk, zrl, zrm, zqg, nz]
        | true =>
          rw [if_neg (by simp [hK])] at hc
          simp only [shs, zts, sos, sls, zss, eqs, sx, sb1, sb2, sb3, sb4, sb5, sb6, sb7, ↓reduceIte, zqa, zqb, zqc, zqd, zqe, zqf, reduceCtorEq, zra, zrb, zrc, zrd, zre, zrf, zrg, zrh, zri, zrj, zrk, zrl, zrm, zqg, nz]
          refine CallK.pure ⟨rfl, rfl⟩ rfl (find g y kd hd hd l M hy) ?_
          simp only [shs, zts, sos, sls, zss, eqs, sx, sb1, sb2, sb3, sb4, sb5, sb6, sb7, ↓reduceIte, zqa, zqb, zqc, zqd, zqe, zqf, reduceCtorEq, zra, zrb, zrc, zrd, zre, zrf, zrg, zrh, zri, zrj, zrk, zrl, zrm, zqg, nz]
          refine ⟨fun h => ?_, fun h => ?_⟩
          · rw [if_pos h] at hc
            rw [hc]
          · rw [if_neg (by omega)] at hc
            rw [hc]
end Go.X.Rv

namespace Go.X.Rv
open Go Go.X Go.X.Rp

theorem ky_fi (w : Int) : ∀ (l : List (Int × Int)) (i : Nat), (∀ x ∈ l, 1 ≤ x.2) → ((0 < ky w l) ↔ 0 ≤ fi w l i)
  | [], i, _ => by simp [ky, fi]
  | x :: l, i, h => by
    simp only [ky, fi]
    split
    · have := h x List.mem_cons_self
      constructor <;> intro _ <;> omega
    · exact ky_fi w l (i + 1) (fun y hy => h y (List.mem_cons_of_mem _ hy))
/-- is the reservation a hand's? -/
def hasB (l : List (Int × Int)) (k h w : Int) : Bool := if allB k = true then decide (0 ≤ fi w l 0) else (decide (k ≠ 0) && decide (h = w))
theorem has (g : Int) (y : Value) (kd hd w : Int) (l : List (Int × Int)) (M : Mem) (hy : RowM M y 2 (l.map encR)) :
    Meets Proofs.Tryz.prog 27 [resvV g y kd hd, .v (.int .i64 w)] M fun r _ _ => r = .v (.bool (hasB l kd hd w)) := by
  refine Meets.of_body [0,1,2,4] Proofs.Tryz.func27 rfl (by kernel_rfl) rfl fun w0 => ?_
  simp only [Proofs.Tryz.f27, resvV, shs, zts, sos, sls, zss, eqs, sx, sb1, sb2, sb3, sb4, sb5, sb6, sb7, ↓reduceIte, zqa, zqb, zqc, zqd, zqe, zqf, reduceCtorEq, zra, zrb, zrc, zrd, zre, zrf, zrg, zrh, zri, zrj, zrk, zrl, zrm, zqg, nz]
  by_cases hk0 : kd = 0
  · subst hk0
    simp only [shs, zts, sos, sls, zss, eqs, sx, sb1, sb2, sb3, sb4, sb5, sb6, sb7, ↓reduceIte, zqa, zqb, zqc, zqd, zqe, zqf, reduceCtorEq, zra, zrb, zrc, zrd, zre, zrf, zrg, zrh, zri, zrj, zrk, zrl, zrm, zqg, nz, hasB, allB0]
  · have d0 : (kd = 0) = False := eq_false hk0
    simp only [shs, zts, sos, sls, zss, eqs, sx, sb1, sb2, sb3, sb4, sb5, sb6, sb7, ↓reduceIte, zqa, zqb, zqc, zqd, zqe, zqf, reduceCtorEq, zra, zrb, zrc, zrd, zre, zrf, zrg, zrh, zri, zrj, zrk, zrl, zrm, zqg, nz, d0]
    refine CallK.pure ⟨rfl, rfl⟩ rfl (all kd M) ?_
    cases hA : allB kd with
    | true =>
      simp only [shs, zts, sos, sls, zss, eqs, sx, sb1, sb2, sb3, sb4, sb5, sb6, sb7, ↓reduceIte, zqa, zqb, zqc, zqd, zqe, zqf, reduceCtorEq, zra, zrb, zrc, zrd, zre, zrf, zrg, zrh, zri, zrj, zrk, zrl, zrm, zqg, nz]
      refine CallK.pure ⟨rfl, rfl⟩ rfl (find g y kd hd w l M hy) ?_
      by_cases hf : 0 ≤ fi w l 0
      · have d1 : (0 ≤ fi w l 0) = True := eq_true hf
        have d2 : (fi w l 0 < 0) = False := eq_false (by omega)
        simp only [shs, zts, sos, sls, zss, eqs, sx, sb1, sb2, sb3, sb4, sb5, sb6, sb7, ↓reduceIte, zqa, zqb, zqc, zqd, zqe, zqf, reduceCtorEq, zra, zrb, zrc, zrd, zre, zrf, zrg, zrh, zri, zrj, zrk, zrl, zrm, zqg, nz, d1, d2, hasB, hA]
      · have d1 : (0 ≤ fi w l 0) = False := eq_false hf
        have d2 : (fi w l 0 < 0) = True := eq_true (by omega)
        simp only [shs, zts, sos, sls, zss, eqs, sx, sb1, sb2, sb3, sb4, sb5, sb6, sb7, ↓reduceIte, zqa, zqb, zqc, zqd, zqe, zqf, reduceCtorEq, zra, zrb, zrc, zrd, zre, zrf, zrg, zrh, zri, zrj, zrk, zrl, zrm, zqg, nz, d1, d2, hasB, hA]
        refine CallK.pure ⟨rfl, rfl⟩ rfl (all kd M) ?_
        simp only [shs, zts, sos, sls, zss, eqs, sx, sb1, sb2, sb3, sb4, sb5, sb6, sb7, ↓reduceIte, zqa, zqb, zqc, zqd, zqe, zqf, reduceCtorEq, zra, zrb, zrc, zrd, zre, zrf, zrg, zrh, zri, zrj, zrk, zrl, zrm, zqg, nz, hA]
    | false =>
      simp only [shs, zts, sos, sls, zss, eqs, sx, sb1, sb2, sb3, sb4, sb5, sb6, sb7, ↓reduceIte, zqa, zqb, zqc, zqd, zqe, zqf, reduceCtorEq, zra, zrb, zrc, zrd, zre, zrf, zrg, zrh, zri, zrj, zrk, zrl, zrm, zqg, nz]
      refine CallK.pure ⟨rfl, rfl⟩ rfl (all kd M) ?_
      have d3 : decide (kd ≠ 0) = true := decide_eq_true hk0
      simp only [shs, zts, sos, sls, zss, eqs, sx, sb1, sb2, sb3, sb4, sb5, sb6, sb7, ↓reduceIte, zqa, zqb, zqc, zqd, zqe, zqf, reduceCtorEq, zra, zrb, zrc, zrd, zre, zrf, zrg, zrh, zri, zrj, zrk, zrl, zrm, zqg, nz, hA, hasB, d3]
/-- may it be done? -/
def mayB (l : List (Int × Int)) (k h w : Int) (wr : Bool) : Bool :=
  if k = 0 then true else if k = 1 then (!wr || hasB l k h w) else if k = 3 then hasB l k h w else if k = 5 ∨ k = 7 then (!wr || decide (0 ≤ fi w l 0)) else decide (0 ≤ fi w l 0)
def mayE (g : Int) (l : List (Int × Int)) (k h w : Int) : Int := if resvE g l k h ≠ 0 then resvE g l k h else if whoB w = true then 0 else 1
theorem may (g : Int) (y : Value) (kd hd w : Int) (wr : Bool) (l : List (Int × Int)) (M : Mem) (hy : RowM M y 2 (l.map encR)) :
    Meets Proofs.Tryz.prog 13 [resvV g y kd hd, .v (.int .i64 w), .v (.bool wr)] M fun r _ _ => r = .tup [.v (.bool (decide (mayE g l kd hd w = 0) && mayB l kd hd w wr)), .v (.int .i64 (mayE g l kd hd w))] := by
  refine Meets.of_body [0,1,2,3,6,7,8,12,16,18,19,21,30,35] Proofs.Tryz.func13 rfl (by kernel_rfl) rfl fun w0 => ?_
  simp only [Proofs.Tryz.f13, resvV, shs, zts, sos, sls, zss, eqs, sx, sb1, sb2, sb3, sb4, sb5, sb6, sb7, ↓reduceIte, zqa, zqb, zqc, zqd, zqe, zqf, reduceCtorEq, zra, zrb, zrc, zrd, zre, zrf, zrg, zrh, zri, zrj, zrk, zrl, zrm, zqg, nz]
  refine CallK.pure ⟨rfl, rfl⟩ rfl (check g y kd hd l M hy) ?_
  unfold mayE
  generalize resvE g l kd hd = e
  by_cases he : e = 0
  · subst he
    rw [if_neg (by simp)]
    simp only [shs, zts, sos, sls, zss, eqs, sx, sb1, sb2, sb3, sb4, sb5, sb6, sb7, ↓reduceIte, zqa, zqb, zqc, zqd, zqe, zqf, reduceCtorEq, zra, zrb, zrc, zrd, zre, zrf, zrg, zrh, zri, zrj, zrk, zrl, zrm, zqg, nz]
    refine CallK.pure ⟨rfl, rfl⟩ rfl (who w M) ?_
    cases hw : whoB w with
    | false => simp only [shs, zts, sos, sls, zss, eqs, sx, sb1, sb2, sb3, sb4, sb5, sb6, sb7, ↓reduceIte, zqa, zqb, zqc, zqd, zqe, zqf, reduceCtorEq, zra, zrb, zrc, zrd, zre, zrf, zrg, zrh, zri, zrj, zrk, zrl, zrm, zqg, nz]
    | true =>
      rw [if_pos rfl]
      by_cases h0 : kd = 0
      · subst h0
        simp only [shs, zts, sos, sls, zss, eqs, sx, sb1, sb2, sb3, sb4, sb5, sb6, sb7, ↓reduceIte, zqa, zqb, zqc, zqd, zqe, zqf, reduceCtorEq, zra, zrb, zrc, zrd, zre, zrf, zrg, zrh, zri, zrj, zrk, zrl, zrm, zqg, nz, mayB]
      have d0 : (kd = 0) = False := eq_false h0
      by_cases h1 : kd = 1
      · subst h1
        cases wr with
        | false => simp only [shs, zts, sos, sls, zss, eqs, sx, sb1, sb2, sb3, sb4, sb5, sb6, sb7, ↓reduceIte, zqa, zqb, zqc, zqd, zqe, zqf, reduceCtorEq, zra, zrb, zrc, zrd, zre, zrf, zrg, zrh, zri, zrj, zrk, zrl, zrm, zqg, nz, mayB]
        | true =>
          simp only [shs, zts, sos, sls, zss, eqs, sx, sb1, sb2, sb3, sb4, sb5, sb6, sb7, ↓reduceIte, zqa, zqb, zqc, zqd, zqe, zqf, reduceCtorEq, zra, zrb, zrc, zrd, zre, zrf, zrg, zrh, zri, zrj, zrk, zrl, zrm, zqg, nz]
          refine CallK.pure ⟨rfl, rfl⟩ rfl (has g y 1 hd w l M hy) ?_
          simp only [shs, zts, sos, sls, zss, eqs, sx, sb1, sb2, sb3, sb4, sb5, sb6, sb7, ↓reduceIte, zqa, zqb, zqc, zqd, zqe, zqf, reduceCtorEq, zra, zrb, zrc, zrd, zre, zrf, zrg, zrh, zri, zrj, zrk, zrl, zrm, zqg, nz, mayB]
      have d1 : (kd = 1) = False := eq_false h1
      by_cases h3 : kd = 3
      · subst h3
        simp only [shs, zts, sos, sls, zss, eqs, sx, sb1, sb2, sb3, sb4, sb5, sb6, sb7, ↓reduceIte, zqa, zqb, zqc, zqd, zqe, zqf, reduceCtorEq, zra, zrb, zrc, zrd, zre, zrf, zrg, zrh, zri, zrj, zrk, zrl, zrm, zqg, nz]
        refine CallK.pure ⟨rfl, rfl⟩ rfl (has g y 3 hd w l M hy) ?_
        simp only [shs, zts, sos, sls, zss, eqs, sx, sb1, sb2, sb3, sb4, sb5, sb6, sb7, ↓reduceIte, zqa, zqb, zqc, zqd, zqe, zqf, reduceCtorEq, zra, zrb, zrc, zrd, zre, zrf, zrg, zrh, zri, zrj, zrk, zrl, zrm, zqg, nz, mayB]
      have d3 : (kd = 3) = False := eq_false h3
      by_cases h5 : kd = 5 ∨ kd = 7
      · have hm : mayB l kd hd w wr = (!wr || decide (0 ≤ fi w l 0)) := by unfold mayB; rw [if_neg h0, if_neg h1, if_neg h3, if_pos h5]
        rw [hm]
        rcases h5 with rfl | rfl
        · cases wr with
          | false => simp only [shs, zts, sos, sls, zss, eqs, sx, sb1, sb2, sb3, sb4, sb5, sb6, sb7, ↓reduceIte, zqa, zqb, zqc, zqd, zqe, zqf, reduceCtorEq, zra, zrb, zrc, zrd, zre, zrf, zrg, zrh, zri, zrj, zrk, zrl, zrm, zqg, nz]
          | true =>
            simp only [shs, zts, sos, sls, zss, eqs, sx, sb1, sb2, sb3, sb4, sb5, sb6, sb7, ↓reduceIte, zqa, zqb, zqc, zqd, zqe, zqf, reduceCtorEq, zra, zrb, zrc, zrd, zre, zrf, zrg, zrh, zri, zrj, zrk, zrl, zrm, zqg, nz]
            refine CallK.pure ⟨rfl, rfl⟩ rfl (find g y 5 hd w l M hy) ?_
            simp only [shs, zts, sos, sls, zss, eqs, sx, sb1, sb2, sb3, sb4, sb5, sb6, sb7, ↓reduceIte, zqa, zqb, zqc, zqd, zqe, zqf, reduceCtorEq, zra, zrb, zrc, zrd, zre, zrf, zrg, zrh, zri, zrj, zrk, zrl, zrm, zqg, nz]
        · cases wr with
          | false => simp only [shs, zts, sos, sls, zss, eqs, sx, sb1, sb2, sb3, sb4, sb5, sb6, sb7, ↓reduceIte, zqa, zqb, zqc, zqd, zqe, zqf, reduceCtorEq, zra, zrb, zrc, zrd, zre, zrf, zrg, zrh, zri, zrj, zrk, zrl, zrm, zqg, nz]
          | true =>
            simp only [shs, zts, sos, sls, zss, eqs, sx, sb1, sb2, sb3, sb4, sb5, sb6, sb7, ↓reduceIte, zqa, zqb, zqc, zqd, zqe, zqf, reduceCtorEq, zra, zrb, zrc, zrd, zre, zrf, zrg, zrh, zri, zrj, zrk, zrl, zrm, zqg, nz]
            refine CallK.pure ⟨rfl, rfl⟩ rfl (find g y 7 hd w l M hy) ?_
            simp only [shs, zts, sos, sls, zss, eqs, sx, sb1, sb2, sb3, sb4, sb5, sb6, sb7, ↓reduceIte, zqa, zqb, zqc, zqd, zqe, zqf, reduceCtorEq, zra, zrb, zrc, zrd, zre, zrf, zrg, zrh, zri, zrj, zrk, zrl, zrm, zqg, nz]
      · have d5 : (kd = 5) = False := eq_false (fun h => h5 (.inl h))
        have d7 : (kd = 7) = False := eq_false (fun h => h5 (.inr h))
        have hm : mayB l kd hd w wr = decide (0 ≤ fi w l 0) := by unfold mayB; rw [if_neg h0, if_neg h1, if_neg h3, if_neg h5]
        rw [hm]
        simp only [shs, zts, sos, sls, zss, eqs, sx, sb1, sb2, sb3, sb4, sb5, sb6, sb7, ↓reduceIte, zqa, zqb, zqc, zqd, zqe, zqf, reduceCtorEq, zra, zrb, zrc, zrd, zre, zrf, zrg, zrh, zri, zrj, zrk, zrl, zrm, zqg, nz, d0, d1, d3, d5, d7]
        refine CallK.pure ⟨rfl, rfl⟩ rfl (find g y kd hd w l M hy) ?_
        simp only [shs, zts, sos, sls, zss, eqs, sx, sb1, sb2, sb3, sb4, sb5, sb6, sb7, ↓reduceIte, zqa, zqb, zqc, zqd, zqe, zqf, reduceCtorEq, zra, zrb, zrc, zrd, zre, zrf, zrg, zrh, zri, zrj, zrk, zrl, zrm, zqg, nz]
  · have de : (e = 0) = False := eq_false he
    rw [if_pos he]
    simp only [shs, zts, sos, sls, zss, eqs, sx, sb1, sb2, sb3, sb4, sb5, sb6, sb7, ↓reduceIte, zqa, zqb, zqc, zqd, zqe, zqf, reduceCtorEq, zra, zrb, zrc, zrd, zre, zrf, zrg, zrh, zri, zrj, zrk, zrl, zrm, zqg, nz, de]

end Go.X.Rv

