/- Contracts of functions and the logic that they are proved in (5 texts in one). Conditions: none. -/
import Derived.Test.YtoohifeidifocaaGreatMg9
import Derived.Test.YtoohifeidifocaaGreatMg16
import Derived.Test.YtoohifeidifocaaGreatMg15
import Derived.Test.YtoohifeidifocaaGreatMg10
import Derived.Test.YtoohifeidifocaaGreatMg6
open Nat renaming reduceAdd → zqa, reduceMul → zqb, reduceDiv → zqc, reduceEqDiff → zqd, reduceLT → zqe, reduceLeDiff → zqf, reduceBEq → zqg
open Int renaming reduceEq → zra, reduceNe → zrb, reduceLT → zrc, reduceLE → zrd, reduceAdd → zre, reduceSub → zrf, reduceMul → zrg, reduceNeg → zrh, reduceToNat → zri, cast_ofNat_Int → zrj, natCast_zero → zrk, natCast_one → zrl, toNat_natCast → zrm
namespace Go.X.Pl
end Go.X.Pl
namespace Go.X.Nm
end Go.X.Nm
namespace Go.X.Tv
end Go.X.Tv
namespace Go.X.Bg
end Go.X.Bg
namespace Go.X.Bp
end Go.X.Bp
namespace Go.X.Sb
end Go.X.Sb
namespace Go.X.Pol
end Go.X.Pol
namespace Go.X.Rp
end Go.X.Rp
namespace Go.X.Pd
end Go.X.Pd
namespace Go.X.Md
end Go.X.Md
namespace Go.X.Mv
end Go.X.Mv
namespace Go.X.Pt
end Go.X.Pt
set_option linter.unusedSimpArgs false
set_option linter.unusedVariables false
set_option maxHeartbeats 4000000
set_option maxRecDepth 20000
namespace Go.X.Lg
open Go Go.X Go.RowKit Go.X.Pl Go.X.Nm Go.X.Tv

/-- kind, name, to, at, text -/
abbrev Op := Int × List UInt8 × List UInt8 × Int × List UInt8
def opV (o : Op) : SV := .agg [.v (.int .i64 o.1), .v (.string ⟨o.2.1.toArray⟩), .v (.string ⟨o.2.2.1.toArray⟩), .v (.int .i64 o.2.2.2.1), .v (.string ⟨o.2.2.2.2.toArray⟩)]
/-- the error of a deed -/
def opE (o : Op) : Int :=
  if o.1 < 1 ∨ 5 < o.1 then 1 else if nmB o.2.1 = false ∨ (o.1 = 5 ∧ nmB o.2.2.1 = false) then 3 else if o.2.2.2.1 < 0 ∨ 32 < o.2.2.2.1 then 1 else
  if 64 < o.2.2.2.2.length then 2 else if o.1 ≠ 5 ∧ o.2.2.1 ≠ [] then 3 else if o.1 ≠ 3 ∧ o.2.2.2.2 ≠ [] then 3 else if (o.1 = 2 ∨ o.1 = 5) ∧ o.2.2.2.1 ≠ 0 then 3 else 0
theorem checkW (o : Op) (M : Mem) :
    Meets Proofs.Tryz.prog 31 [opV o] M fun r _ _ => r = .v (.int .i64 (opE o)) := by
  refine Meets.of_body [0,1,2,10,25,33,37,70] Proofs.Tryz.func31 rfl (by kernel_rfl) rfl fun w => ?_
  generalize hc : opE o = c
  obtain ⟨k, n, t, a, x⟩ := o
  unfold opE at hc
  simp only at hc
  by_cases hk : k < 1
  · have c1 := eq_true hk
    rw [if_pos (.inl hk)] at hc
    subst hc
    simp only [Proofs.Tryz.f31, opV, shs, zts, sos, sls, zss, eqs, sx, sb1, sb2, sb3, sb4, sb5, sb6, sb7, ↓reduceIte, zqa, zqb, zqc, zqd, zqe, zqf, reduceCtorEq, zra, zrb, zrc, zrd, zre, zrf, zrg, zrh, zri, zrj, zrk, zrl, zrm, zqg, nzs, c1]
  have c1 := eq_false hk
  by_cases hk2 : 5 < k
  · have c2 := eq_true hk2
    rw [if_pos (.inr hk2)] at hc
    subst hc
    simp only [Proofs.Tryz.f31, opV, shs, zts, sos, sls, zss, eqs, sx, sb1, sb2, sb3, sb4, sb5, sb6, sb7, ↓reduceIte, zqa, zqb, zqc, zqd, zqe, zqf, reduceCtorEq, zra, zrb, zrc, zrd, zre, zrf, zrg, zrh, zri, zrj, zrk, zrl, zrm, zqg, nzs, c1, c2]
  have c2 := eq_false hk2
  rw [if_neg (by omega)] at hc
  simp only [Proofs.Tryz.f31, opV, shs, zts, sos, sls, zss, eqs, sx, sb1, sb2, sb3, sb4, sb5, sb6, sb7, ↓reduceIte, zqa, zqb, zqc, zqd, zqe, zqf, reduceCtorEq, zra, zrb, zrc, zrd, zre, zrf, zrg, zrh, zri, zrj, zrk, zrl, zrm, zqg, nzs, c1, c2]
  refine CallK.pure ⟨rfl, rfl⟩ rfl (nameW n M) ?_
  cases hN : nmB n with
  | false =>
    rw [hN, if_pos (by simp)] at hc
    subst hc
    simp only [shs, zts, sos, sls, zss, eqs, sx, sb1, sb2, sb3, sb4, sb5, sb6, sb7, ↓reduceIte, zqa, zqb, zqc, zqd, zqe, zqf, reduceCtorEq, zra, zrb, zrc, zrd, zre, zrf, zrg, zrh, zri, zrj, zrk, zrl, zrm, zqg, nzs]
  | true =>
  rw [hN] at hc
  have hk' : k = 1 ∨ k = 2 ∨ k = 3 ∨ k = 4 ∨ k = 5 := by omega
  rcases hk' with rfl | rfl | rfl | rfl | rfl
  · simp only [shs, zts, sos, sls, zss, eqs, sx, sb1, sb2, sb3, sb4, sb5, sb6, sb7, ↓reduceIte, zqa, zqb, zqc, zqd, zqe, zqf, reduceCtorEq, zra, zrb, zrc, zrd, zre, zrf, zrg, zrh, zri, zrj, zrk, zrl, zrm, zqg, nzs]
    rw [if_neg (by simp)] at hc
    by_cases ha : a < 0
    · have d1 := eq_true ha
      rw [if_pos (.inl ha)] at hc
      subst hc
      simp only [shs, zts, sos, sls, zss, eqs, sx, sb1, sb2, sb3, sb4, sb5, sb6, sb7, ↓reduceIte, zqa, zqb, zqc, zqd, zqe, zqf, reduceCtorEq, zra, zrb, zrc, zrd, zre, zrf, zrg, zrh, zri, zrj, zrk, zrl, zrm, zqg, nzs, d1]
      intro hh
      omega
    have d1 := eq_false ha
    by_cases hb : 32 < a
    · have d2 := eq_true hb
      rw [if_pos (.inr hb)] at hc
      subst hc
      simp only [shs, zts, sos, sls, zss, eqs, sx, sb1, sb2, sb3, sb4, sb5, sb6, sb7, ↓reduceIte, zqa, zqb, zqc, zqd, zqe, zqf, reduceCtorEq, zra, zrb, zrc, zrd, zre, zrf, zrg, zrh, zri, zrj, zrk, zrl, zrm, zqg, nzs, d1, d2]
      intro hh
      omega
    have d2 := eq_false hb
    rw [if_neg (by omega)] at hc
    by_cases hx : 64 < x.length
    · have d3 : ((64 : Int) < (x.length : Int)) = True := eq_true (by omega)
      rw [if_pos hx] at hc
      subst hc
      simp only [shs, zts, sos, sls, zss, eqs, sx, sb1, sb2, sb3, sb4, sb5, sb6, sb7, ↓reduceIte, zqa, zqb, zqc, zqd, zqe, zqf, reduceCtorEq, zra, zrb, zrc, zrd, zre, zrf, zrg, zrh, zri, zrj, zrk, zrl, zrm, zqg, nzs, d1, d2, d3]
      intro hh hh2
      omega
    have d3 : ((64 : Int) < (x.length : Int)) = False := eq_false (by omega)
    rw [if_neg hx] at hc
    by_cases ht0 : t = []
    rotate_left
    · have d4 := eq_false ht0
      rw [if_pos ⟨by decide, ht0⟩] at hc
      subst hc
      simp only [shs, zts, sos, sls, zss, eqs, sx, sb1, sb2, sb3, sb4, sb5, sb6, sb7, ↓reduceIte, zqa, zqb, zqc, zqd, zqe, zqf, reduceCtorEq, zra, zrb, zrc, zrd, zre, zrf, zrg, zrh, zri, zrj, zrk, zrl, zrm, zqg, nzs, d1, d2, d3, d4]
    have d4 := eq_true ht0
    rw [if_neg (fun h => h.2 ht0)] at hc
    by_cases hx0 : x = []
    rotate_left
    · have d5 := eq_false hx0
      rw [if_pos ⟨by decide, hx0⟩] at hc
      subst hc
      simp only [shs, zts, sos, sls, zss, eqs, sx, sb1, sb2, sb3, sb4, sb5, sb6, sb7, ↓reduceIte, zqa, zqb, zqc, zqd, zqe, zqf, reduceCtorEq, zra, zrb, zrc, zrd, zre, zrf, zrg, zrh, zri, zrj, zrk, zrl, zrm, zqg, nzs, d1, d2, d3, d4, d5]
    have d5 := eq_true hx0
    rw [if_neg (fun h => h.2 hx0)] at hc
    rw [if_neg (fun h => absurd h.1 (by decide))] at hc
    subst hc
    simp only [shs, zts, sos, sls, zss, eqs, sx, sb1, sb2, sb3, sb4, sb5, sb6, sb7, ↓reduceIte, zqa, zqb, zqc, zqd, zqe, zqf, reduceCtorEq, zra, zrb, zrc, zrd, zre, zrf, zrg, zrh, zri, zrj, zrk, zrl, zrm, zqg, nzs, d1, d2, d3, d4, d5]
  · simp only [shs, zts, sos, sls, zss, eqs, sx, sb1, sb2, sb3, sb4, sb5, sb6, sb7, ↓reduceIte, zqa, zqb, zqc, zqd, zqe, zqf, reduceCtorEq, zra, zrb, zrc, zrd, zre, zrf, zrg, zrh, zri, zrj, zrk, zrl, zrm, zqg, nzs]
    rw [if_neg (by simp)] at hc
    by_cases ha : a < 0
    · have d1 := eq_true ha
      rw [if_pos (.inl ha)] at hc
      subst hc
      simp only [shs, zts, sos, sls, zss, eqs, sx, sb1, sb2, sb3, sb4, sb5, sb6, sb7, ↓reduceIte, zqa, zqb, zqc, zqd, zqe, zqf, reduceCtorEq, zra, zrb, zrc, zrd, zre, zrf, zrg, zrh, zri, zrj, zrk, zrl, zrm, zqg, nzs, d1]
      intro hh
      omega
    have d1 := eq_false ha
    by_cases hb : 32 < a
    · have d2 := eq_true hb
      rw [if_pos (.inr hb)] at hc
      subst hc
      simp only [shs, zts, sos, sls, zss, eqs, sx, sb1, sb2, sb3, sb4, sb5, sb6, sb7, ↓reduceIte, zqa, zqb, zqc, zqd, zqe, zqf, reduceCtorEq, zra, zrb, zrc, zrd, zre, zrf, zrg, zrh, zri, zrj, zrk, zrl, zrm, zqg, nzs, d1, d2]
      intro hh
      omega
    have d2 := eq_false hb
    rw [if_neg (by omega)] at hc
    by_cases hx : 64 < x.length
    · have d3 : ((64 : Int) < (x.length : Int)) = True := eq_true (by omega)
      rw [if_pos hx] at hc
      subst hc
      simp only [shs, zts, sos, sls, zss, eqs, sx, sb1, sb2, sb3, sb4, sb5, sb6, sb7, ↓reduceIte, zqa, zqb, zqc, zqd, zqe, zqf, reduceCtorEq, zra, zrb, zrc, zrd, zre, zrf, zrg, zrh, zri, zrj, zrk, zrl, zrm, zqg, nzs, d1, d2, d3]
      intro hh hh2
      omega
    have d3 : ((64 : Int) < (x.length : Int)) = False := eq_false (by omega)
    rw [if_neg hx] at hc
    by_cases ht0 : t = []
    rotate_left
    · have d4 := eq_false ht0
      rw [if_pos ⟨by decide, ht0⟩] at hc
      subst hc
      simp only [shs, zts, sos, sls, zss, eqs, sx, sb1, sb2, sb3, sb4, sb5, sb6, sb7, ↓reduceIte, zqa, zqb, zqc, zqd, zqe, zqf, reduceCtorEq, zra, zrb, zrc, zrd, zre, zrf, zrg, zrh, zri, zrj, zrk, zrl, zrm, zqg, nzs, d1, d2, d3, d4]
    have d4 := eq_true ht0
    rw [if_neg (fun h => h.2 ht0)] at hc
    by_cases hx0 : x = []
    rotate_left
    · have d5 := eq_false hx0
      rw [if_pos ⟨by decide, hx0⟩] at hc
      subst hc
      simp only [shs, zts, sos, sls, zss, eqs, sx, sb1, sb2, sb3, sb4, sb5, sb6, sb7, ↓reduceIte, zqa, zqb, zqc, zqd, zqe, zqf, reduceCtorEq, zra, zrb, zrc, zrd, zre, zrf, zrg, zrh, zri, zrj, zrk, zrl, zrm, zqg, nzs, d1, d2, d3, d4, d5]
    have d5 := eq_true hx0
    rw [if_neg (fun h => h.2 hx0)] at hc
    by_cases ha0 : a = 0
    rotate_left
    · have d6 := eq_false ha0
      rw [if_pos ⟨by decide, ha0⟩] at hc
      subst hc
      simp only [shs, zts, sos, sls, zss, eqs, sx, sb1, sb2, sb3, sb4, sb5, sb6, sb7, ↓reduceIte, zqa, zqb, zqc, zqd, zqe, zqf, reduceCtorEq, zra, zrb, zrc, zrd, zre, zrf, zrg, zrh, zri, zrj, zrk, zrl, zrm, zqg, nzs, d1, d2, d3, d4, d5, d6]
    have d6 := eq_true ha0
    rw [if_neg (fun h => h.2 ha0)] at hc
    subst hc
    simp only [shs, zts, sos, sls, zss, eqs, sx, sb1, sb2, sb3, sb4, sb5, sb6, sb7, ↓reduceIte, zqa, zqb, zqc, zqd, zqe, zqf, reduceCtorEq, zra, zrb, zrc, zrd, zre, zrf, zrg, zrh, zri, zrj, zrk, zrl, zrm, zqg, nzs, d1, d2, d3, d4, d5, d6]
  · simp only [shs, zts, sos, sls, zss, eqs, sx, sb1, sb2, sb3, sb4, sb5, sb6, sb7, ↓reduceIte, zqa, zqb, zqc, zqd, zqe, zqf, reduceCtorEq, zra, zrb, zrc, zrd, zre, zrf, zrg, zrh, zri, zrj, zrk, zrl, zrm, zqg, nzs]
    rw [if_neg (by simp)] at hc
    by_cases ha : a < 0
    · have d1 := eq_true ha
      rw [if_pos (.inl ha)] at hc
      subst hc
      simp only [shs, zts, sos, sls, zss, eqs, sx, sb1, sb2, sb3, sb4, sb5, sb6, sb7, ↓reduceIte, zqa, zqb, zqc, zqd, zqe, zqf, reduceCtorEq, zra, zrb, zrc, zrd, zre, zrf, zrg, zrh, zri, zrj, zrk, zrl, zrm, zqg, nzs, d1]
      intro hh
      omega
    have d1 := eq_false ha
    by_cases hb : 32 < a
    · have d2 := eq_true hb
      rw [if_pos (.inr hb)] at hc
      subst hc
      simp only [shs, zts, sos, sls, zss, eqs, sx, sb1, sb2, sb3, sb4, sb5, sb6, sb7, ↓reduceIte, zqa, zqb, zqc, zqd, zqe, zqf, reduceCtorEq, zra, zrb, zrc, zrd, zre, zrf, zrg, zrh, zri, zrj, zrk, zrl, zrm, zqg, nzs, d1, d2]
      intro hh
      omega
    have d2 := eq_false hb
    rw [if_neg (by omega)] at hc
    by_cases hx : 64 < x.length
    · have d3 : ((64 : Int) < (x.length : Int)) = True := eq_true (by omega)
      rw [if_pos hx] at hc
      subst hc
      simp only [shs, zts, sos, sls, zss, eqs, sx, sb1, sb2, sb3, sb4, sb5, sb6, sb7, ↓reduceIte, zqa, zqb, zqc, zqd, zqe, zqf, reduceCtorEq, zra, zrb, zrc, zrd, zre, zrf, zrg, zrh, zri, zrj, zrk, zrl, zrm, zqg, nzs, d1, d2, d3]
      intro hh hh2
      omega
    have d3 : ((64 : Int) < (x.length : Int)) = False := eq_false (by omega)
    rw [if_neg hx] at hc
    by_cases ht0 : t = []
    rotate_left
    · have d4 := eq_false ht0
      rw [if_pos ⟨by decide, ht0⟩] at hc
      subst hc
      simp only [shs, zts, sos, sls, zss, eqs, sx, sb1, sb2, sb3, sb4, sb5, sb6, sb7, ↓reduceIte, zqa, zqb, zqc, zqd, zqe, zqf, reduceCtorEq, zra, zrb, zrc, zrd, zre, zrf, zrg, zrh, zri, zrj, zrk, zrl, zrm, zqg, nzs, d1, d2, d3, d4]
    have d4 := eq_true ht0
    rw [if_neg (fun h => h.2 ht0)] at hc
    rw [if_neg (fun h => h.1 rfl)] at hc
    rw [if_neg (fun h => absurd h.1 (by decide))] at hc
    subst hc
    simp only [shs, zts, sos, sls, zss, eqs, sx, sb1, sb2, sb3, sb4, sb5, sb6, sb7, ↓reduceIte, zqa, zqb, zqc, zqd, zqe, zqf, reduceCtorEq, zra, zrb, zrc, zrd, zre, zrf, zrg, zrh, zri, zrj, zrk, zrl, zrm, zqg, nzs, d1, d2, d3, d4]
  · simp only [shs, zts, sos, sls, zss, eqs, sx, sb1, sb2, sb3, sb4, sb5, sb6, sb7, ↓reduceIte, zqa, zqb, zqc, zqd, zqe, zqf, reduceCtorEq, zra, zrb, zrc, zrd, zre, zrf, zrg, zrh, zri, zrj, zrk, zrl, zrm, zqg, nzs]
    rw [if_neg (by simp)] at hc
    by_cases ha : a < 0
    · have d1 := eq_true ha
      rw [if_pos (.inl ha)] at hc
      subst hc
      simp only [shs, zts, sos, sls, zss, eqs, sx, sb1, sb2, sb3, sb4, sb5, sb6, sb7, ↓reduceIte, zqa, zqb, zqc, zqd, zqe, zqf, reduceCtorEq, zra, zrb, zrc, zrd, zre, zrf, zrg, zrh, zri, zrj, zrk, zrl, zrm, zqg, nzs, d1]
      intro hh
      omega
    have d1 := eq_false ha
    by_cases hb : 32 < a
    · have d2 := eq_true hb
      rw [if_pos (.inr hb)] at hc
      subst hc
      simp only [shs, zts, sos, sls, zss, eqs, sx, sb1, sb2, sb3, sb4, sb5, sb6, sb7, ↓reduceIte, zqa, zqb, zqc, zqd, zqe, zqf, reduceCtorEq, zra, zrb, zrc, zrd, zre, zrf, zrg, zrh, zri, zrj, zrk, zrl, zrm, zqg, nzs, d1, d2]
      intro hh
      omega
    have d2 := eq_false hb
    rw [if_neg (by omega)] at hc
    by_cases hx : 64 < x.length
    · have d3 : ((64 : Int) < (x.length : Int)) = True := eq_true (by omega)
      rw [if_pos hx] at hc
      subst hc
      simp only [shs, zts, sos, sls, zss, eqs, sx, sb1, sb2, sb3, sb4, sb5, sb6, sb7, ↓reduceIte, zqa, zqb, zqc, zqd, zqe, zqf, reduceCtorEq, zra, zrb, zrc, zrd, zre, zrf, zrg, zrh, zri, zrj, zrk, zrl, zrm, zqg, nzs, d1, d2, d3]
      intro hh hh2
      omega
    have d3 : ((64 : Int) < (x.length : Int)) = False := eq_false (by omega)
    rw [if_neg hx] at hc
    by_cases ht0 : t = []
    rotate_left
    · have d4 := eq_false ht0
      rw [if_pos ⟨by decide, ht0⟩] at hc
      subst hc
      simp only [shs, zts, sos, sls, zss, eqs, sx, sb1, sb2, sb3, sb4, sb5, sb6, sb7, ↓reduceIte, zqa, zqb, zqc, zqd, zqe, zqf, reduceCtorEq, zra, zrb, zrc, zrd, zre, zrf, zrg, zrh, zri, zrj, zrk, zrl, zrm, zqg, nzs, d1, d2, d3, d4]
    have d4 := eq_true ht0
    rw [if_neg (fun h => h.2 ht0)] at hc
    by_cases hx0 : x = []
    rotate_left
    · have d5 := eq_false hx0
      rw [if_pos ⟨by decide, hx0⟩] at hc
      subst hc
      simp only [shs, zts, sos, sls, zss, eqs, sx, sb1, sb2, sb3, sb4, sb5, sb6, sb7, ↓reduceIte, zqa, zqb, zqc, zqd, zqe, zqf, reduceCtorEq, zra, zrb, zrc, zrd, zre, zrf, zrg, zrh, zri, zrj, zrk, zrl, zrm, zqg, nzs, d1, d2, d3, d4, d5]
    have d5 := eq_true hx0
    rw [if_neg (fun h => h.2 hx0)] at hc
    rw [if_neg (fun h => absurd h.1 (by decide))] at hc
    subst hc
    simp only [shs, zts, sos, sls, zss, eqs, sx, sb1, sb2, sb3, sb4, sb5, sb6, sb7, ↓reduceIte, zqa, zqb, zqc, zqd, zqe, zqf, reduceCtorEq, zra, zrb, zrc, zrd, zre, zrf, zrg, zrh, zri, zrj, zrk, zrl, zrm, zqg, nzs, d1, d2, d3, d4, d5]
  · simp only [shs, zts, sos, sls, zss, eqs, sx, sb1, sb2, sb3, sb4, sb5, sb6, sb7, ↓reduceIte, zqa, zqb, zqc, zqd, zqe, zqf, reduceCtorEq, zra, zrb, zrc, zrd, zre, zrf, zrg, zrh, zri, zrj, zrk, zrl, zrm, zqg, nzs]
    refine CallK.pure ⟨rfl, rfl⟩ rfl (nameW t M) ?_
    cases hT : nmB t with
    | false =>
      rw [hT, if_pos (by simp)] at hc
      subst hc
      simp only [shs, zts, sos, sls, zss, eqs, sx, sb1, sb2, sb3, sb4, sb5, sb6, sb7, ↓reduceIte, zqa, zqb, zqc, zqd, zqe, zqf, reduceCtorEq, zra, zrb, zrc, zrd, zre, zrf, zrg, zrh, zri, zrj, zrk, zrl, zrm, zqg, nzs]
    | true =>
    rw [hT, if_neg (by simp)] at hc
    simp only [shs, zts, sos, sls, zss, eqs, sx, sb1, sb2, sb3, sb4, sb5, sb6, sb7, ↓reduceIte, zqa, zqb, zqc, zqd, zqe, zqf, reduceCtorEq, zra, zrb, zrc, zrd, zre, zrf, zrg, zrh, zri, zrj, zrk, zrl, zrm, zqg, nzs]
    by_cases ha : a < 0
    · have d1 := eq_true ha
      rw [if_pos (.inl ha)] at hc
      subst hc
      simp only [shs, zts, sos, sls, zss, eqs, sx, sb1, sb2, sb3, sb4, sb5, sb6, sb7, ↓reduceIte, zqa, zqb, zqc, zqd, zqe, zqf, reduceCtorEq, zra, zrb, zrc, zrd, zre, zrf, zrg, zrh, zri, zrj, zrk, zrl, zrm, zqg, nzs, d1]
      intro hh
      omega
    have d1 := eq_false ha
    by_cases hb : 32 < a
    · have d2 := eq_true hb
      rw [if_pos (.inr hb)] at hc
      subst hc
      simp only [shs, zts, sos, sls, zss, eqs, sx, sb1, sb2, sb3, sb4, sb5, sb6, sb7, ↓reduceIte, zqa, zqb, zqc, zqd, zqe, zqf, reduceCtorEq, zra, zrb, zrc, zrd, zre, zrf, zrg, zrh, zri, zrj, zrk, zrl, zrm, zqg, nzs, d1, d2]
      intro hh
      omega
    have d2 := eq_false hb
    rw [if_neg (by omega)] at hc
    by_cases hx : 64 < x.length
    · have d3 : ((64 : Int) < (x.length : Int)) = True := eq_true (by omega)
      rw [if_pos hx] at hc
      subst hc
      simp only [shs, zts, sos, sls, zss, eqs, sx, sb1, sb2, sb3, sb4, sb5, sb6, sb7, ↓reduceIte, zqa, zqb, zqc, zqd, zqe, zqf, reduceCtorEq, zra, zrb, zrc, zrd, zre, zrf, zrg, zrh, zri, zrj, zrk, zrl, zrm, zqg, nzs, d1, d2, d3]
      intro hh hh2
      omega
    have d3 : ((64 : Int) < (x.length : Int)) = False := eq_false (by omega)
    rw [if_neg hx] at hc
    rw [if_neg (fun h => h.1 rfl)] at hc
    by_cases hx0 : x = []
    rotate_left
    · have d5 := eq_false hx0
      rw [if_pos ⟨by decide, hx0⟩] at hc
      subst hc
      simp only [shs, zts, sos, sls, zss, eqs, sx, sb1, sb2, sb3, sb4, sb5, sb6, sb7, ↓reduceIte, zqa, zqb, zqc, zqd, zqe, zqf, reduceCtorEq, zra, zrb, zrc, zrd, zre, zrf, zrg, zrh, zri, zrj, zrk, zrl, zrm, zqg, nzs, d1, d2, d3, d5]
    have d5 := eq_true hx0
    rw [if_neg (fun h => h.2 hx0)] at hc
    by_cases ha0 : a = 0
    rotate_left
    · have d6 := eq_false ha0
      rw [if_pos ⟨by decide, ha0⟩] at hc
      subst hc
      simp only [shs, zts, sos, sls, zss, eqs, sx, sb1, sb2, sb3, sb4, sb5, sb6, sb7, ↓reduceIte, zqa, zqb, zqc, zqd, zqe, zqf, reduceCtorEq, zra, zrb, zrc, zrd, zre, zrf, zrg, zrh, zri, zrj, zrk, zrl, zrm, zqg, nzs, d1, d2, d3, d5, d6]
    have d6 := eq_true ha0
    rw [if_neg (fun h => h.2 ha0)] at hc
    subst hc
    simp only [shs, zts, sos, sls, zss, eqs, sx, sb1, sb2, sb3, sb4, sb5, sb6, sb7, ↓reduceIte, zqa, zqb, zqc, zqd, zqe, zqf, reduceCtorEq, zra, zrb, zrc, zrd, zre, zrf, zrg, zrh, zri, zrj, zrk, zrl, zrm, zqg, nzs, d1, d2, d3, d5, d6]
end Go.X.Lg

namespace Go.X.Vo
open Go Go.X Go.RowKit Go.X.Bg Go.X.Nm Go.X.Bp Go.X.Sb

def doL (bag : List It) (l : List Vol) (o : OpT) : St × Int := if Lg.opE o ≠ 0 then (zSt, Lg.opE o) else doA bag l o
theorem opE_kind {o : OpT} (h : Lg.opE o = 0) : 1 ≤ o.1 ∧ o.1 ≤ 5 := by
  unfold Lg.opE at h
  split at h
  · cases h
  · omega
theorem ldo (b v : Value) (bag : List It) (ws : List WV) (o : OpT) (M : Mem) (hb : RowM M b 4 (bag.map Bg.encT)) (hv : VolsM M v ws) :
    Meets Proofs.Tryz.prog 16 [stV b v, opT o] M (StM (fun s => .tup [s, .v (.int .i64 (doL bag (ws.map (·.2)) o).2)]) (doL bag (ws.map (·.2)) o).1) := by
  refine Meets.of_body [0,1,2,3,4,5,6,10,14,15,25,33,45] Proofs.Tryz.func16 rfl (by kernel_rfl) rfl fun w => ?_
  have hC := Lg.checkW o M
  simp only [Lg.opV] at hC
  generalize hc : doL bag (ws.map (·.2)) o = c
  unfold doL at hc
  simp only [Proofs.Tryz.f16, stV, opT, shs, zts, sos, sls, zss, eqs, sx, sb1, sb2, sb3, sb4, sb5, sb6, sb7, ↓reduceIte, zqa, zqb, zqc, zqd, zqe, zqf, reduceCtorEq, zra, zrb, zrc, zrd, zre, zrf, zrg, zrh, zri, zrj, zrk, zrl, zrm, zqg, nzs, hb.one, hv.row.one]
  refine CallK.pure ⟨rfl, rfl⟩ rfl hC ?_
  by_cases h1 : Lg.opE o = 0
  rotate_left
  · have c1 := eq_false h1
    rw [if_pos h1] at hc
    subst hc
    simp only [shs, zts, sos, sls, zss, eqs, sx, sb1, sb2, sb3, sb4, sb5, sb6, sb7, ↓reduceIte, zqa, zqb, zqc, zqd, zqe, zqf, reduceCtorEq, zra, zrb, zrc, zrd, zre, zrf, zrg, zrh, zri, zrj, zrk, zrl, zrm, zqg, nzs, c1]
    exact ⟨_, _, [], rfl, rfl, RowM.nil _ _, zero_volsM _ |>.2⟩
  rw [if_neg (fun h => h h1)] at hc
  obtain ⟨hk1, hk2⟩ := opE_kind h1
  obtain ⟨k, n, to, a, s⟩ := o
  simp only at hk1 hk2
  simp only [shs, zts, sos, sls, zss, eqs, sx, sb1, sb2, sb3, sb4, sb5, sb6, sb7, ↓reduceIte, zqa, zqb, zqc, zqd, zqe, zqf, reduceCtorEq, zra, zrb, zrc, zrd, zre, zrf, zrg, zrh, zri, zrj, zrk, zrl, zrm, zqg, nzs, h1]
  by_cases e1 : k = 1
  · have c1 := eq_true e1
    have hM := make b v bag ws n a M hb hv
    rw [show doA bag (ws.map (·.2)) (k, n, to, a, s) = makeA bag (ws.map (·.2)) n a by unfold doA; rw [if_pos e1]] at hc
    rw [hc] at hM
    simp only [stV] at hM
    simp only [shs, zts, sos, sls, zss, eqs, sx, sb1, sb2, sb3, sb4, sb5, sb6, sb7, ↓reduceIte, zqa, zqb, zqc, zqd, zqe, zqf, reduceCtorEq, zra, zrb, zrc, zrd, zre, zrf, zrg, zrh, zri, zrj, zrk, zrl, zrm, zqg, nzs, c1]
    refine CallK.stM (T := fun s => .tup [s, .v (.int .i64 c.2)]) (fun _ _ => rfl) rfl rfl hM fun b1 v1 ws1 M1 hM1 hw1 hb1 hv1 => ?_
    simp only [shs, zts, sos, sls, zss, eqs, sx, sb1, sb2, sb3, sb4, sb5, sb6, sb7, ↓reduceIte, zqa, zqb, zqc, zqd, zqe, zqf, reduceCtorEq, zra, zrb, zrc, zrd, zre, zrf, zrg, zrh, zri, zrj, zrk, zrl, zrm, zqg, nzs, stV, hb1.one, hv1.row.one]
    exact ⟨b1, v1, ws1, rfl, hw1, hb1, hv1⟩
  have c1 := eq_false e1
  by_cases e2 : k = 2
  · have c2 := eq_true e2
    have hM := vdrop b v bag ws n M hb hv
    rw [show doA bag (ws.map (·.2)) (k, n, to, a, s) = dropA bag (ws.map (·.2)) n by unfold doA; rw [if_neg e1, if_pos e2]] at hc
    rw [hc] at hM
    simp only [stV] at hM
    simp only [shs, zts, sos, sls, zss, eqs, sx, sb1, sb2, sb3, sb4, sb5, sb6, sb7, ↓reduceIte, zqa, zqb, zqc, zqd, zqe, zqf, reduceCtorEq, zra, zrb, zrc, zrd, zre, zrf, zrg, zrh, zri, zrj, zrk, zrl, zrm, zqg, nzs, c1, c2]
    refine CallK.stM (T := fun s => .tup [s, .v (.int .i64 c.2)]) (fun _ _ => rfl) rfl rfl hM fun b1 v1 ws1 M1 hM1 hw1 hb1 hv1 => ?_
    simp only [shs, zts, sos, sls, zss, eqs, sx, sb1, sb2, sb3, sb4, sb5, sb6, sb7, ↓reduceIte, zqa, zqb, zqc, zqd, zqe, zqf, reduceCtorEq, zra, zrb, zrc, zrd, zre, zrf, zrg, zrh, zri, zrj, zrk, zrl, zrm, zqg, nzs, stV, hb1.one, hv1.row.one]
    exact ⟨b1, v1, ws1, rfl, hw1, hb1, hv1⟩
  have c2 := eq_false e2
  by_cases e3 : k = 3
  · have c3 := eq_true e3
    have hM := vwrite b v bag ws n a s M hb hv
    rw [show doA bag (ws.map (·.2)) (k, n, to, a, s) = writeA bag (ws.map (·.2)) n a s by unfold doA; rw [if_neg e1, if_neg e2, if_neg (by omega), if_neg (by omega)]] at hc
    rw [hc] at hM
    simp only [stV] at hM
    simp only [shs, zts, sos, sls, zss, eqs, sx, sb1, sb2, sb3, sb4, sb5, sb6, sb7, ↓reduceIte, zqa, zqb, zqc, zqd, zqe, zqf, reduceCtorEq, zra, zrb, zrc, zrd, zre, zrf, zrg, zrh, zri, zrj, zrk, zrl, zrm, zqg, nzs, c1, c2, c3]
    refine CallK.stM (T := fun s => .tup [s, .v (.int .i64 c.2)]) (fun _ _ => rfl) rfl rfl hM fun b1 v1 ws1 M1 hM1 hw1 hb1 hv1 => ?_
    simp only [shs, zts, sos, sls, zss, eqs, sx, sb1, sb2, sb3, sb4, sb5, sb6, sb7, ↓reduceIte, zqa, zqb, zqc, zqd, zqe, zqf, reduceCtorEq, zra, zrb, zrc, zrd, zre, zrf, zrg, zrh, zri, zrj, zrk, zrl, zrm, zqg, nzs, stV, hb1.one, hv1.row.one]
    exact ⟨b1, v1, ws1, rfl, hw1, hb1, hv1⟩
  have c3 := eq_false e3
  by_cases e4 : k = 4
  · have c4 := eq_true e4
    have hM := (vtrim b v bag ws n a M hb hv).mono (fun r H M' _ h => h.weak)
    rw [show doA bag (ws.map (·.2)) (k, n, to, a, s) = trimA bag (ws.map (·.2)) n a by unfold doA; rw [if_neg e1, if_neg e2, if_neg (by omega), if_pos e4]] at hc
    rw [hc] at hM
    simp only [stV] at hM
    simp only [shs, zts, sos, sls, zss, eqs, sx, sb1, sb2, sb3, sb4, sb5, sb6, sb7, ↓reduceIte, zqa, zqb, zqc, zqd, zqe, zqf, reduceCtorEq, zra, zrb, zrc, zrd, zre, zrf, zrg, zrh, zri, zrj, zrk, zrl, zrm, zqg, nzs, c1, c2, c3, c4]
    refine CallK.stM (T := fun s => .tup [s, .v (.int .i64 c.2)]) (fun _ _ => rfl) rfl rfl hM fun b1 v1 ws1 M1 hM1 hw1 hb1 hv1 => ?_
    simp only [shs, zts, sos, sls, zss, eqs, sx, sb1, sb2, sb3, sb4, sb5, sb6, sb7, ↓reduceIte, zqa, zqb, zqc, zqd, zqe, zqf, reduceCtorEq, zra, zrb, zrc, zrd, zre, zrf, zrg, zrh, zri, zrj, zrk, zrl, zrm, zqg, nzs, stV, hb1.one, hv1.row.one]
    exact ⟨b1, v1, ws1, rfl, hw1, hb1, hv1⟩
  have c4 := eq_false e4
  have hM := vclone b v bag ws n to M hb hv
  rw [show doA bag (ws.map (·.2)) (k, n, to, a, s) = cloneA bag (ws.map (·.2)) n to by unfold doA; rw [if_neg e1, if_neg e2, if_pos (by show k = 5; omega)]] at hc
  rw [hc] at hM
  simp only [stV] at hM
  simp only [shs, zts, sos, sls, zss, eqs, sx, sb1, sb2, sb3, sb4, sb5, sb6, sb7, ↓reduceIte, zqa, zqb, zqc, zqd, zqe, zqf, reduceCtorEq, zra, zrb, zrc, zrd, zre, zrf, zrg, zrh, zri, zrj, zrk, zrl, zrm, zqg, nzs, c1, c2, c3, c4]
  refine CallK.stM (T := fun s => .tup [s, .v (.int .i64 c.2)]) (fun _ _ => rfl) rfl rfl hM fun b1 v1 ws1 M1 hM1 hw1 hb1 hv1 => ?_
  simp only [shs, zts, sos, sls, zss, eqs, sx, sb1, sb2, sb3, sb4, sb5, sb6, sb7, ↓reduceIte, zqa, zqb, zqc, zqd, zqe, zqf, reduceCtorEq, zra, zrb, zrc, zrd, zre, zrf, zrg, zrh, zri, zrj, zrk, zrl, zrm, zqg, nzs, stV, hb1.one, hv1.row.one]
  exact ⟨b1, v1, ws1, rfl, hw1, hb1, hv1⟩
end Go.X.Vo

namespace Go.X.Lg
open Go Go.X Go.RowKit Go.X.Pl Go.X.Nm Go.X.Tv

def txt (s : List UInt8) : List UInt8 := UInt8.ofNat s.length :: s
def bodyS (o : Op) : List UInt8 := UInt8.ofNat o.1.toNat :: UInt8.ofNat o.2.2.2.1.toNat :: (txt o.2.1 ++ (txt o.2.2.1 ++ txt o.2.2.2.2))
theorem nmB_len {s : List UInt8} (h : nmB s = true) : 0 < s.length ∧ s.length ≤ 12 := by
  unfold nmB at h
  rw [Bool.and_eq_true, decide_eq_true_eq] at h
  exact h.1
theorem opE_ok {o : Op} (h : opE o = 0) : (1 ≤ o.1 ∧ o.1 ≤ 5) ∧ (0 ≤ o.2.2.2.1 ∧ o.2.2.2.1 ≤ 32) ∧ o.2.1.length ≤ 64 ∧ o.2.2.1.length ≤ 64 ∧ o.2.2.2.2.length ≤ 64 := by
  obtain ⟨k, n, t, a, x⟩ := o
  unfold opE at h
  simp only at h ⊢
  split at h
  · cases h
  rename_i h1
  split at h
  · cases h
  rename_i h2
  split at h
  · cases h
  rename_i h3
  split at h
  · cases h
  rename_i h4
  split at h
  · cases h
  rename_i h5
  rw [not_or, Bool.not_eq_false] at h2
  have hn := nmB_len h2.1
  refine ⟨by omega, by omega, by omega, ?_, by omega⟩
  by_cases hk : k = 5
  · have := nmB_len (s := t) (by cases ht : nmB t with | true => rfl | false => exact absurd ⟨hk, ht⟩ h2.2)
    omega
  · have : t = [] := Classical.byContradiction fun e => h5 ⟨hk, e⟩
    rw [this]
    exact Nat.zero_le _
theorem textW (s : List UInt8) (M : Mem) (h : s.length ≤ 64) :
    Meets Proofs.Tryz.prog 37 [.v (.string ⟨s.toArray⟩)] M fun r _ _ => r = .v (.string ⟨(txt s).toArray⟩) := by
  refine Meets.of_body [0,2] Proofs.Tryz.func37 rfl (by kernel_rfl) rfl fun w => ?_
  simp only [Proofs.Tryz.f37, shs, zts, sos, sls, zss, eqs, sx, sb1, sb2, sb3, sb4, sb5, sb6, sb7, ↓reduceIte, zqa, zqb, zqc, zqd, zqe, zqf, reduceCtorEq, zra, zrb, zrc, zrd, zre, zrf, zrg, zrh, zri, zrj, zrk, zrl, zrm, zqg, nzs, byteOf, byteW]
  refine ⟨by omega, rfl⟩
theorem encodeW (o : Op) (M : Mem) :
    Meets Proofs.Tryz.prog 17 [opV o] M fun r _ _ => r = .tup [.v (.string ⟨(if opE o = 0 then bodyS o else []).toArray⟩), .v (.int .i64 (opE o))] := by
  refine Meets.of_body [0,1,2,3,4,8] Proofs.Tryz.func17 rfl (by kernel_rfl) rfl fun w => ?_
  have hC := checkW o M
  by_cases he : opE o = 0
  rotate_left
  · have c0 := eq_false he
    simp only [Proofs.Tryz.f17, opV, shs, zts, sos, sls, zss, eqs, sx, sb1, sb2, sb3, sb4, sb5, sb6, sb7, ↓reduceIte, zqa, zqb, zqc, zqd, zqe, zqf, reduceCtorEq, zra, zrb, zrc, zrd, zre, zrf, zrg, zrh, zri, zrj, zrk, zrl, zrm, zqg, nzs]
    refine CallK.pure ⟨rfl, rfl⟩ rfl hC ?_
    simp only [shs, zts, sos, sls, zss, eqs, sx, sb1, sb2, sb3, sb4, sb5, sb6, sb7, ↓reduceIte, zqa, zqb, zqc, zqd, zqe, zqf, reduceCtorEq, zra, zrb, zrc, zrd, zre, zrf, zrg, zrh, zri, zrj, zrk, zrl, zrm, zqg, nzs, c0]
  obtain ⟨q1, q2, q3, q4, q5⟩ := opE_ok he
  rw [he] at hC
  rw [if_pos he, he]
  obtain ⟨k, n, t, a, x⟩ := o
  simp only at q1 q2 q3 q4 q5
  obtain ⟨k, rfl⟩ : ∃ m : Nat, k = m := ⟨k.toNat, by omega⟩
  obtain ⟨a, rfl⟩ : ∃ m : Nat, a = m := ⟨a.toNat, by omega⟩
  simp only [Proofs.Tryz.f17, opV, shs, zts, sos, sls, zss, eqs, sx, sb1, sb2, sb3, sb4, sb5, sb6, sb7, ↓reduceIte, zqa, zqb, zqc, zqd, zqe, zqf, reduceCtorEq, zra, zrb, zrc, zrd, zre, zrf, zrg, zrh, zri, zrj, zrk, zrl, zrm, zqg, nzs]
  refine CallK.pure ⟨rfl, rfl⟩ rfl hC ?_
  simp only [shs, zts, sos, sls, zss, eqs, sx, sb1, sb2, sb3, sb4, sb5, sb6, sb7, ↓reduceIte, zqa, zqb, zqc, zqd, zqe, zqf, reduceCtorEq, zra, zrb, zrc, zrd, zre, zrf, zrg, zrh, zri, zrj, zrk, zrl, zrm, zqg, nzs]
  have hb : bodyS ((k : Int), n, t, (a : Int), x) = [UInt8.ofNat k, UInt8.ofNat a] ++ txt n ++ txt t ++ txt x := by simp [bodyS]
  have l1 : (txt n).length = n.length + 1 := rfl
  have l2 : (txt t).length = t.length + 1 := rfl
  have l3 : (txt x).length = x.length + 1 := rfl
  rw [hb]
  refine DrawK.held [8] (tk [0, 3, 8, 12, 16, 1, 4, 9, 13, 17, 2, 5] (.two 6 (.two 7 (.one 10 (tk [11] (.one 14 (tk [15] (.one 18 (tk [19, 20, 21] .done)))))) 10 (.two 7 (tk [11] (.one 14 (tk [15] (.one 18 (tk [19, 20, 21] .done))))) 14 (.two 7 (tk [11, 15] (.one 18 (tk [19, 20, 21] .done))) 18 (.one 7 (tk [11, 15, 19, 20, 21] .done))))) 10 (.two 6 (.two 7 (tk [11] (.one 14 (tk [15] (.one 18 (tk [19, 20, 21] .done))))) 14 (.two 7 (tk [11, 15] (.one 18 (tk [19, 20, 21] .done))) 18 (.one 7 (tk [11, 15, 19, 20, 21] .done)))) 14 (.two 6 (.two 7 (tk [11, 15] (.one 18 (tk [19, 20, 21] .done))) 18 (.one 7 (tk [11, 15, 19, 20, 21] .done))) 18 (.one 6 (.one 7 (tk [11, 15, 19, 20, 21] .done))))))) (by kernel_rfl) (by kernel_rfl) fun xs => ?_
  simp only [shs, zts, sos, sls, zss, eqs, sx, sb1, sb2, sb3, sb4, sb5, sb6, sb7, ↓reduceIte, zqa, zqb, zqc, zqd, zqe, zqf, reduceCtorEq, zra, zrb, zrc, zrd, zre, zrf, zrg, zrh, zri, zrj, zrk, zrl, zrm, zqg, nzs, se1, se2, tks, byteOf, byteW]
  repeat' (first
    | (refine CallK.pure ⟨rfl, rfl⟩ rfl (textW _ M (by assumption)) ?_; simp only [shs, zts, sos, sls, zss, eqs, sx, sb1, sb2, sb3, sb4, sb5, sb6, sb7, ↓reduceIte, zqa, zqb, zqc, zqd, zqe, zqf, reduceCtorEq, zra, zrb, zrc, zrd, zre, zrf, zrg, zrh, zri, zrj, zrk, zrl, zrm, zqg, nzs, se1, se2, tks, byteOf, byteW, List.length_append, l1, l2, l3, List.length_cons, List.length_nil])
    | refine ⟨?_, ?_⟩
    | rfl
    | omega)
end Go.X.Lg

namespace Go.X.Fr
open Go Go.X Go.X.Pol Go.X.Pl Go.X.Rp Go.X.Pd Go.X.Md Go.X.Mv Go.X.Pt Go.X.Tv

theorem g0 : (2 : Nat) ≤ 1073741907 ∧ 1073741907 ≤ 2147483647 := by decide
def tl (s : List UInt8) : List UInt8 := be4 (prf 1073741907 s 1)
theorem tl_len (s : List UInt8) : (tl s).length = 4 := rfl
theorem prf31 (s : List UInt8) : prf 1073741907 s 1 ≤ 2147483647 := by
  have := prf_le 1073741907 (by decide) (by decide) s 1 (by decide)
  omega
theorem tail (s : List UInt8) (M : Mem) (hs : s.length ≤ maxLen) :
    Meets Proofs.Tryz.prog 38 [.v (.string ⟨s.toArray⟩)] M fun r _ _ => r = .v (.string ⟨(tl s).toArray⟩) := by
  refine Meets.of_body [0,2,3] Proofs.Tryz.func38 rfl (by kernel_rfl) rfl fun w => ?_
  simp only [Proofs.Tryz.f38, shs, zts, sos, sls, zss, eqs, sx, sb1, sb2, sb3, sb4, sb5, sb6, sb7, ↓reduceIte, zqa, zqb, zqc, zqd, zqe, zqf, reduceCtorEq, zra, zrb, zrc, zrd, zre, zrf, zrg, zrh, zri, zrj, zrk, zrl, zrm, zqg]
  refine CallK.pure ⟨rfl, rfl⟩ rfl (plain 1073741907 s M g0.1 g0.2 hs) ?_
  have hp := prf31 s
  generalize hq : prf 1073741907 s 1 = p at *
  have ht : tl s = be4 p := by unfold tl; rw [hq]
  rw [ht]
  simp only [shs, zts, sos, sls, zss, eqs, sx, sb1, sb2, sb3, sb4, sb5, sb6, sb7, ↓reduceIte, zqa, zqb, zqc, zqd, zqe, zqf, reduceCtorEq, zra, zrb, zrc, zrd, zre, zrf, zrg, zrh, zri, zrj, zrk, zrl, zrm, zqg, dw, b64, byteOf, byteW]
  exact ⟨(fun h => by cases h), (fun h => by cases h), (fun h => by cases h), (fun h => by cases h), rfl⟩

def hd (k : Nat) (b : List UInt8) : List UInt8 := UInt8.ofNat k :: UInt8.ofNat (b.length / 256) :: UInt8.ofNat b.length :: b
def fr (k : Nat) (b : List UInt8) : List UInt8 := hd k b ++ tl (hd k b)
def putE (k : Int) (b : List UInt8) : Int := if k < 1 ∨ 255 < k then 1 else if 700 < (b.length : Int) then 2 else 0
def putS (k : Int) (b : List UInt8) : List UInt8 := if putE k b = 0 then fr k.toNat b else []
def frV (k : Int) (b : List UInt8) : SV := .agg [.v (.int .i64 k), .v (.string ⟨b.toArray⟩)]

theorem put (k : Int) (b : List UInt8) (M : Mem) (hb : b.length ≤ maxLen) :
    Meets Proofs.Tryz.prog 18 [frV k b] M fun r _ _ => r = .tup [.v (.string ⟨(putS k b).toArray⟩), .v (.int .i64 (putE k b))] := by
  refine Meets.of_body [0,1,2,3,4,12,16] Proofs.Tryz.func18 rfl (by kernel_rfl) rfl fun w => ?_
  have hc : ∀ d : Nat, @IntKind.bits .i64 = 64 := fun _ => rfl
  by_cases h1 : k < 1 ∨ 255 < k
  · have he : putE k b = 1 := if_pos h1
    have hs : putS k b = [] := if_neg (by rw [he]; decide)
    rw [he, hs]
    rcases h1 with h1 | h1
    · have d1 : (k < 1) = True := eq_true h1
      simp only [Proofs.Tryz.f18, frV, shs, zts, sos, sls, zss, eqs, sx, sb1, sb2, sb3, sb4, sb5, sb6, sb7, ↓reduceIte, zqa, zqb, zqc, zqd, zqe, zqf, reduceCtorEq, zra, zrb, zrc, zrd, zre, zrf, zrg, zrh, zri, zrj, zrk, zrl, zrm, zqg, nzs, d1]
    · have d1 : (k < 1) = False := eq_false (by omega)
      have d2 : (255 < k) = True := eq_true h1
      simp only [Proofs.Tryz.f18, frV, shs, zts, sos, sls, zss, eqs, sx, sb1, sb2, sb3, sb4, sb5, sb6, sb7, ↓reduceIte, zqa, zqb, zqc, zqd, zqe, zqf, reduceCtorEq, zra, zrb, zrc, zrd, zre, zrf, zrg, zrh, zri, zrj, zrk, zrl, zrm, zqg, nzs, d1, d2]
  · by_cases h2 : 700 < (b.length : Int)
    · have he : putE k b = 2 := by unfold putE; rw [if_neg h1, if_pos h2]
      have hs : putS k b = [] := if_neg (by rw [he]; decide)
      rw [he, hs]
      have d1 : (k < 1) = False := eq_false (by omega)
      have d2 : (255 < k) = False := eq_false (by omega)
      have d3 : (700 < (b.length : Int)) = True := eq_true h2
      simp only [Proofs.Tryz.f18, frV, shs, zts, sos, sls, zss, eqs, sx, sb1, sb2, sb3, sb4, sb5, sb6, sb7, ↓reduceIte, zqa, zqb, zqc, zqd, zqe, zqf, reduceCtorEq, zra, zrb, zrc, zrd, zre, zrf, zrg, zrh, zri, zrj, zrk, zrl, zrm, zqg, nzs, d1, d2, d3]
    · have he : putE k b = 0 := by unfold putE; rw [if_neg h1, if_neg h2]
      have hs : putS k b = fr k.toNat b := if_pos he
      rw [he, hs]
      have d1 : (k < 1) = False := eq_false (by omega)
      have d2 : (255 < k) = False := eq_false (by omega)
      have d3 : (700 < (b.length : Int)) = False := eq_false h2
      have d4 : (((3 + b.length : Nat) : Int) ≤ 9223372036854775807) = True := eq_true (by omega)
      have e1 : ∀ x : Nat, (x : Int) / 2 ^ 8 = ((x / 256 : Nat) : Int) := fun x => by omega
      obtain ⟨n, rfl⟩ : ∃ n : Nat, k = n := ⟨k.toNat, by omega⟩
      simp only [Proofs.Tryz.f18, frV, shs, zts, sos, sls, zss, eqs, sx, sb1, sb2, sb3, sb4, sb5, sb6, sb7, ↓reduceIte, zqa, zqb, zqc, zqd, zqe, zqf, reduceCtorEq, zra, zrb, zrc, zrd, zre, zrf, zrg, zrh, zri, zrj, zrk, zrl, zrm, zqg, nzs, d1, d2, d3, d4, byteOf, e1, byteW, IntKind.bits]
      refine CallK.pure ⟨rfl, rfl⟩ rfl (tail _ M (by simp only [List.length_cons, maxLen]; omega)) ?_
      have d5 : (((3 + b.length + 4 : Nat) : Int) ≤ 9223372036854775807) = True := eq_true (by omega)
      simp only [shs, zts, sos, sls, zss, eqs, sx, sb1, sb2, sb3, sb4, sb5, sb6, sb7, ↓reduceIte, zqa, zqb, zqc, zqd, zqe, zqf, reduceCtorEq, zra, zrb, zrc, zrd, zre, zrf, zrg, zrh, zri, zrj, zrk, zrl, zrm, zqg, nzs, tl_len, d5, zrm]
      exact ⟨by omega, rfl⟩

end Go.X.Fr

namespace Go.X.Vo
open Go Go.X Go.RowKit Go.X.Bg Go.X.Nm Go.X.Bp Go.X.Sb

/-! ### what is written of deeds -/
def encO (o : OpT) : List Value := [.int .i64 o.1, .string ⟨o.2.1.toArray⟩, .string ⟨o.2.2.1.toArray⟩, .int .i64 o.2.2.2.1, .string ⟨o.2.2.2.2.toArray⟩]
theorem op_at {M : Mem} {v : Value} {l : List OpT} {i : Nat} {r : OpT} (h : RowM M v 5 (l.map encO)) (hx : l[i]? = some r) :
    ((elE M v 5 i 0 = .int .i64 r.1 ∧ okE M v 5 i 0) ∧ (elE M v 5 i 1 = .string ⟨r.2.1.toArray⟩ ∧ okE M v 5 i 1)) ∧ ((elE M v 5 i 2 = .string ⟨r.2.2.1.toArray⟩ ∧ okE M v 5 i 2) ∧ (elE M v 5 i 3 = .int .i64 r.2.2.2.1 ∧ okE M v 5 i 3)) ∧ (elE M v 5 i 4 = .string ⟨r.2.2.2.2.toArray⟩ ∧ okE M v 5 i 4) ∧ ixOk v i := by
  have he : (l.map encO)[i]? = some (encO r) := by rw [List.getElem?_map, hx]; rfl
  have hl : i < (l.map encO).length := (List.getElem?_eq_some_iff.1 he).1
  have c0 := h.cell he (off := 0) (by omega)
  have c1 := h.cell he (off := 1) (by omega)
  have c2 := h.cell he (off := 2) (by omega)
  have c3 := h.cell he (off := 3) (by omega)
  have c4 := h.cell he (off := 4) (by omega)
  exact ⟨⟨⟨c0.1, c0.2.1⟩, c1.1, c1.2.1⟩, ⟨⟨c2.1, c2.2.1⟩, c3.1, c3.2.1⟩, ⟨c4.1, c4.2.1⟩, h.ix (by omega) (by omega)⟩
def frO (o : OpT) : List UInt8 := Fr.fr 1 (Lg.bodyS o)
theorem body_len {o : OpT} (h : Lg.opE o = 0) : (Lg.bodyS o).length ≤ 700 := by
  obtain ⟨_, _, h1, h2, h3⟩ := Lg.opE_ok h
  unfold Lg.bodyS Lg.txt
  simp only [List.length_cons, List.length_append]
  omega
theorem put_body {o : OpT} (h : Lg.opE o = 0) : Fr.putE 1 (Lg.bodyS o) = 0 ∧ Fr.putS 1 (Lg.bodyS o) = frO o := by
  have h1 := body_len h
  have h0 : Fr.putE 1 (Lg.bodyS o) = 0 := by
    unfold Fr.putE
    rw [if_neg (by omega), if_neg (by omega)]
  exact ⟨h0, by unfold Fr.putS; rw [if_pos h0]; rfl⟩
theorem frO_len {o : OpT} (h : Lg.opE o = 0) : (frO o).length ≤ 707 := by
  have h1 := body_len h
  unfold frO Fr.fr Fr.hd
  simp only [List.length_append, List.length_cons, Fr.tl_len]
  omega
theorem body_max {o : OpT} (h : Lg.opE o = 0) : (Lg.bodyS o).length ≤ maxLen := Nat.le_trans (body_len h) (by decide)
/-! ### what is played again -/
end Go.X.Vo

