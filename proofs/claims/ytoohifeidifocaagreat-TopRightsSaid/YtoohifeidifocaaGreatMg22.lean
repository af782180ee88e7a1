/- Contracts of functions and the logic that they are proved in (4 texts in one). Conditions: none. -/
import Derived.Test.YtoohifeidifocaaGreatMg17
import Derived.Test.YtoohifeidifocaaGreatMg21
open Nat renaming reduceAdd → zqa, reduceMul → zqb, reduceDiv → zqc, reduceEqDiff → zqd, reduceLT → zqe, reduceLeDiff → zqf, reduceBEq → zqg
open Int renaming reduceEq → zra, reduceNe → zrb, reduceLT → zrc, reduceLE → zrd, reduceAdd → zre, reduceSub → zrf, reduceMul → zrg, reduceNeg → zrh, reduceToNat → zri, cast_ofNat_Int → zrj, natCast_zero → zrk, natCast_one → zrl, toNat_natCast → zrm
namespace Go.X.Bg
end Go.X.Bg
namespace Go.X.Nm
end Go.X.Nm
namespace Go.X.Bp
end Go.X.Bp
namespace Go.X.Sb
end Go.X.Sb
namespace Go.X.Vo
end Go.X.Vo
set_option linter.unusedSimpArgs false
set_option linter.unusedVariables false
set_option maxHeartbeats 4000000
set_option maxRecDepth 20000
namespace Go.X.Tg
open Go Go.X Go.RowKit Go.X.Bg Go.X.Nm Go.X.Bp Go.X.Sb Go.X.Vo

mutual
theorem conc_noKey (d : Nat) : ∀ s : SV, s.conc = true → s.noKey d = true
  | .v _, _ => rfl
  | .own _, h => by simp [SV.conc] at h
  | .ptr _ _ _ _, h => by simp [SV.conc] at h
  | .ea _ _ _ _, _ => rfl
  | .agg l, h => by simp only [SV.conc] at h; simp only [SV.noKey]; exact concs_noKeys d l h
  | .tup l, h => by simp only [SV.conc] at h; simp only [SV.noKey]; exact concs_noKeys d l h
  | .fn _ l, h => by simp only [SV.conc] at h; simp only [SV.noKey]; exact concs_noKeys d l h
theorem concs_noKeys (d : Nat) : ∀ l : List SV, SV.concs l = true → SV.noKeys d l = true
  | [], _ => rfl
  | s :: l, h => by
    simp only [SV.concs, Bool.and_eq_true] at h
    simp only [SV.noKeys, conc_noKey d s h.1, concs_noKeys d l h.2, Bool.and_self]
end
abbrev RQ := Int × List (Int × Int) × Int × Int
abbrev TG := St × RQ × Txt × Nat
structure TgM (M : Mem) (T : TG) (b v rg : Value) (ws : List WV) : Prop where
  bag : RowM M b 4 (T.1.1.map Bg.encT)
  vols : VolsM M v ws
  vw : ws.map (·.2) = T.1.2
  regs : RowM M rg 2 (T.2.1.2.1.map Rv.encR)
theorem TgM.le {M M' : Mem} {T : TG} {b v rg : Value} {ws : List WV} (h : TgM M T b v rg ws) (hl : M.le M') : TgM M' T b v rg ws := ⟨h.bag.le hl, h.vols.le hl, h.vw, h.regs.le hl⟩
def tgC (T : TG) (b v rg : Value) : List SV := [.v b, .v v, .v (.int .i64 T.2.1.1), .v rg, .v (.int .i64 T.2.1.2.2.1), .v (.int .i64 T.2.1.2.2.2), .v (.string ⟨T.2.2.1.toArray⟩), .v (.int .i64 T.2.2.2)]
/-- right targets -/
structure TgR (T : TG) : Prop where
  st : stE T.1.1 T.1.2 = 0
  rv : Rv.resvE T.2.1.1 T.2.1.2.1 T.2.1.2.2.1 T.2.1.2.2.2 = 0
  tx : T.2.2.1.length ≤ 707 * T.2.2.2
  many : T.2.2.2 ≤ 200
def hE (R : RQ) (w : Int) (wr : Bool) : Int := if Rv.whoB w = false then 1 else if Rv.mayB R.2.1 R.2.2.1 R.2.2.2 w wr = true then 0 else 9
def tdoS (T : TG) (w : Int) (o : OpT) : TG × Int :=
  if hE T.2.1 w true ≠ 0 then (T, hE T.2.1 w true) else if (doL T.1.1 T.1.2 o).2 ≠ 0 then (T, (doL T.1.1 T.1.2 o).2) else if T.2.2.2 = 200 then (T, 8) else
  (((doL T.1.1 T.1.2 o).1, T.2.1, T.2.2.1 ++ frO o, T.2.2.2 + 1), 0)
theorem tdo_right {T : TG} (h : TgR T) (w : Int) (o : OpT) : TgR (tdoS T w o).1 := by
  unfold tdoS
  split
  · exact h
  split
  · exact h
  rename_i h2
  split
  · exact h
  rename_i h3
  have hE : Lg.opE o = 0 := Decidable.of_not_not fun h1 => by
    have : doL T.1.1 T.1.2 o = (zSt, Lg.opE o) := if_pos h1
    rw [this] at h2
    exact h2 h1
  have hl := frO_len hE
  refine ⟨?_, h.rv, ?_, ?_⟩
  · have : doL T.1.1 T.1.2 o = doA T.1.1 T.1.2 o := if_neg (fun h => h hE)
    rw [this]
    exact doA_right _ _ _
  · have := h.tx
    simp only [List.length_append]
    omega
  · have := h.many
    simp only
    omega
/-- what a call of a target's method finds: the deed's box, the document's target, the target -/
abbrev H3 (qa qb qc : Option Value) (oc rc tc : List SV) : HS := [(104, .box oc qa), (264, .box rc qb), (248, .box tc qc)]
section
variable {N : Nat} {w0 : World} {M0 M : Mem} {σ : Sig} {K : KP} {d : Nat} {qa qb qc : Option Value} {oc rc tc : List SV} {T : TG} {b v rg : Value} {ws : List WV}
theorem tdoK (hd : decide (d < N) = true) (ho : SV.concs oc = true) (hr : SV.concs rc = true) (w : Int) (o : OpT) (hT : TgM M T b v rg ws) (hR : TgR T)
    (hk : ∀ b' v' ws' M', M.le M' → TgM M' (tdoS T w o).1 b' v' rg ws' → K ((d, true, .v (.int .i64 (tdoS T w o).2)) :: σ) (H3 qa qb qc oc rc (tgC (tdoS T w o).1 b' v' rg)) M') :
    CallK ⟨Proofs.Tryz.prog, N, w0, M0⟩ 6 [.ptr 248 0 0 0, .v (.int .i64 w), opT o] d K σ (H3 qa qb qc oc rc (tgC T b v rg)) M := by
  refine CallK.lendB 8000 [0,1,2,5,6,7,8,9,10,12,24,27,38,44] Proofs.Tryz.func6 rfl (by kernel_rfl) hd (by simp only [lentB, tgC, SV.concs, SV.conc, ho, hr, Bool.and_self]) fun xs => ?_
  have hM := Rv.may T.2.1.1 rg T.2.1.2.2.1 T.2.1.2.2.2 w true T.2.1.2.1 M hT.regs
  simp only [Rv.resvV] at hM
  obtain ⟨A, ⟨g, l, k, h⟩, tx, many⟩ := T
  have h2 := hR.rv
  have h4 := hR.many
  have h5 := hR.tx
  simp only at hM h2 h4 h5
  have o1 := fun d => concs_noKeys d oc ho
  have r1 := fun d => concs_noKeys d rc hr
  have hmE : Rv.mayE g l k h w = if Rv.whoB w = true then 0 else 1 := if_neg (fun h => h h2)
  generalize hS : tdoS (A, (g, l, k, h), tx, many) w o = S at *
  unfold tdoS at hS
  simp only at hS
  simp only [Proofs.Tryz.f6, tgC, opT, sd2, sd3, shs, zts, sos, sls, zss, eqs, sx, sb1, sb2, sb3, sb4, sb5, sb6, sb7, ↓reduceIte, zqa, zqb, zqc, zqd, zqe, zqf, reduceCtorEq, zra, zrb, zrc, zrd, zre, zrf, zrg, zrh, zri, zrj, zrk, zrl, zrm, zqg, nzs, hT.bag.one, hT.vols.row.one, hT.regs.one, o1, r1]
  refine CallK.pure ⟨rfl, rfl⟩ rfl hM ?_
  rw [hmE]
  have hkeep : ∀ (e : Int), S = ((A, (g, l, k, h), tx, many), e) → K ((d, true, .v (.int .i64 e)) :: σ) (H3 qa qb qc oc rc [.v b, .v v, .v (.int .i64 g), .v rg, .v (.int .i64 k), .v (.int .i64 h), .v (.string ⟨tx.toArray⟩), .v (.int .i64 many)]) M := fun e he => by
    subst he
    exact hk b v ws M (Mem.le.refl M) hT
  cases hw : Rv.whoB w with
  | false =>
    have e1 : hE (g, l, k, h) w true = 1 := if_pos hw
    rw [e1, if_pos (by decide)] at hS
    simp only [sd2, sd3, shs, zts, sos, sls, zss, eqs, sx, sb1, sb2, sb3, sb4, sb5, sb6, sb7, ↓reduceIte, zqa, zqb, zqc, zqd, zqe, zqf, reduceCtorEq, zra, zrb, zrc, zrd, zre, zrf, zrg, zrh, zri, zrj, zrk, zrl, zrm, zqg, nzs, ho, hr]
    exact hkeep 1 hS.symm
  | true =>
  have e1 : hE (g, l, k, h) w true = if Rv.mayB l k h w true = true then 0 else 9 := if_neg (by rw [hw]; decide)
  rw [e1] at hS
  cases hmb : Rv.mayB l k h w true with
  | false =>
    rw [hmb, if_pos (by decide), if_neg (by decide)] at hS
    simp only [sd2, sd3, shs, zts, sos, sls, zss, eqs, sx, sb1, sb2, sb3, sb4, sb5, sb6, sb7, ↓reduceIte, zqa, zqb, zqc, zqd, zqe, zqf, reduceCtorEq, zra, zrb, zrc, zrd, zre, zrf, zrg, zrh, zri, zrj, zrk, zrl, zrm, zqg, nzs, ho, hr, if_true, decide_true]
    exact hkeep 9 hS.symm
  | true =>
  rw [hmb, if_pos rfl, if_neg (fun h => h rfl)] at hS
  have hL := ldo b v A.1 ws o M hT.bag hT.vols
  rw [hT.vw] at hL
  simp only [stV, opT] at hL
  have hop : (doL A.1 A.2 o).2 = 0 → Lg.opE o = 0 := fun h => Decidable.of_not_not fun h1 => by
    have : doL A.1 A.2 o = (zSt, Lg.opE o) := if_pos h1
    rw [this] at h
    exact h1 h
  generalize doL A.1 A.2 o = D at *
  simp only [sd2, sd3, shs, zts, sos, sls, zss, eqs, sx, sb1, sb2, sb3, sb4, sb5, sb6, sb7, ↓reduceIte, zqa, zqb, zqc, zqd, zqe, zqf, reduceCtorEq, zra, zrb, zrc, zrd, zre, zrf, zrg, zrh, zri, zrj, zrk, zrl, zrm, zqg, nzs, if_true, decide_true]
  refine DrawK.ent (X := Value × Value × List WV × Mem) (fun z => (M.le z.2.2.2 ∧ z.2.2.1.map (·.2) = D.1.2) ∧ RowM z.2.2.2 z.1 4 (D.1.1.map Bg.encT) ∧ VolsM z.2.2.2 z.2.1 z.2.2.1) (fun z => ([(0, true, .ptr 8248 0 0 0), (5, true, .ptr 40 0 0 0), (8, true, .v (.int .i64 D.2)), (9, true, .ptr 72 0 0 0)],
    [(72, .box [.v z.1, .v z.2.1] none), (40, .box [.v (.int .i64 o.1), .v (.string ⟨o.2.1.toArray⟩), .v (.string ⟨o.2.2.1.toArray⟩), .v (.int .i64 o.2.2.2.1), .v (.string ⟨o.2.2.2.2.toArray⟩)] none), (8104, .box oc (some (xs 104))), (8264, .box rc (some (xs 264))), (8248, .box [.v b, .v v, .v (.int .i64 g), .v rg, .v (.int .i64 k), .v (.int .i64 h), .v (.string ⟨tx.toArray⟩), .v (.int .i64 many)] (some (xs 248)))], z.2.2.2)) ?_ ?_
  · refine DrawK.heldE [8248, 40] (tk [0, 4, 1, 2, 3] (.two 5 (tk [6, 7, 8] (.one 9 (.one 10 (tk [11] .done)))) 9 (.one 5 (tk [6, 7, 8] (.one 10 (tk [11] .done)))))) (by kernel_rfl) (by kernel_rfl) fun ys hy => ?_
    simp only [tieEq] at hy
    simp only [sd2, sd3, shs, zts, sos, sls, zss, eqs, sx, sb1, sb2, sb3, sb4, sb5, sb6, sb7, ↓reduceIte, zqa, zqb, zqc, zqd, zqe, zqf, reduceCtorEq, zra, zrb, zrc, zrd, zre, zrf, zrg, zrh, zri, zrj, zrk, zrl, zrm, zqg, nzs, se1, se2, tks, hT.bag.one, hT.vols.row.one, hy, o1, r1]
    refine ⟨?_, ?_⟩
    all_goals
      refine CallK.stM (T := fun s => .tup [s, .v (.int .i64 D.2)]) (fun _ _ => rfl) rfl rfl hL fun b5 v5 ws5 M5 hM5 hw5 hb5 hv5 => ?_
      simp only [shs, zts, sos, sls, zss, eqs, sx, sb1, sb2, sb3, sb4, sb5, sb6, sb7, ↓reduceIte, zqa, zqb, zqc, zqd, zqe, zqf, reduceCtorEq, zra, zrb, zrc, zrd, zre, zrf, zrg, zrh, zri, zrj, zrk, zrl, zrm, zqg, nzs, se1, se2, tks, stV, hb5.one, hv5.row.one, hM5, hy, o1, r1]
      exact ⟨(b5, v5, ws5, M5), ⟨⟨hM5, hw5⟩, hb5, hv5⟩, Ent.heap (HEnt.untie (k := 40) rfl) (Ent.of (by simp only [sx, sb1, sb2, sb3, sb4, sb5, sb6, sb7, ↓reduceIte, zqa, zqb, zqc, zqd, zqe, zqf, reduceCtorEq, zra, zrb, zrc, zrd, zre, zrf, zrg, zrh, zri, zrj, zrk, zrl, zrm, zqg, hset]))⟩
  rintro ⟨b2, v2, ws2, M2⟩ ⟨⟨hM2, hw2⟩, hb2, hv2⟩
  simp only at hM2 hw2 hb2 hv2
  have hkeep2 : ∀ (e : Int), S = ((A, (g, l, k, h), tx, many), e) → K ((d, true, .v (.int .i64 e)) :: σ) (H3 qa qb qc oc rc [.v b, .v v, .v (.int .i64 g), .v rg, .v (.int .i64 k), .v (.int .i64 h), .v (.string ⟨tx.toArray⟩), .v (.int .i64 many)]) M2 := fun e he => by
    subst he
    exact hk b v ws M2 hM2 (hT.le hM2)
  by_cases h6 : D.2 = 0
  rotate_left
  · have c6 := eq_false h6
    rw [if_pos h6] at hS
    simp only [sd2, sd3, shs, zts, sos, sls, zss, eqs, sx, sb1, sb2, sb3, sb4, sb5, sb6, sb7, ↓reduceIte, zqa, zqb, zqc, zqd, zqe, zqf, reduceCtorEq, zra, zrb, zrc, zrd, zre, zrf, zrg, zrh, zri, zrj, zrk, zrl, zrm, zqg, nzs, c6, ho, hr]
    exact hkeep2 _ hS.symm
  rw [if_neg (fun h => h h6)] at hS
  have hop2 := hop h6
  by_cases h7 : many = 200
  · have c7 : ((many : Int) = 200) = True := eq_true (by omega)
    rw [if_pos h7] at hS
    simp only [sd2, sd3, shs, zts, sos, sls, zss, eqs, sx, sb1, sb2, sb3, sb4, sb5, sb6, sb7, ↓reduceIte, zqa, zqb, zqc, zqd, zqe, zqf, reduceCtorEq, zra, zrb, zrc, zrd, zre, zrf, zrg, zrh, zri, zrj, zrk, zrl, zrm, zqg, nzs, h6, c7, ho, hr]
    exact hkeep2 _ hS.symm
  have c7 : ((many : Int) = 200) = False := eq_false (by omega)
  rw [if_neg h7] at hS
  subst hS
  have hEn := Lg.encodeW o M2
  rw [hop2, if_pos rfl] at hEn
  simp only [Lg.opV] at hEn
  obtain ⟨p1, p2⟩ := put_body hop2
  have hP := Fr.put 1 (Lg.bodyS o) M2 (body_max hop2)
  rw [p1, p2] at hP
  simp only [Fr.frV] at hP
  have hfl := frO_len hop2
  simp only [sd2, sd3, shs, zts, sos, sls, zss, eqs, sx, sb1, sb2, sb3, sb4, sb5, sb6, sb7, ↓reduceIte, zqa, zqb, zqc, zqd, zqe, zqf, reduceCtorEq, zra, zrb, zrc, zrd, zre, zrf, zrg, zrh, zri, zrj, zrk, zrl, zrm, zqg, nzs, h6, c7]
  refine CallK.pure ⟨rfl, rfl⟩ rfl hEn ?_
  simp only [sd2, sd3, shs, zts, sos, sls, zss, eqs, sx, sb1, sb2, sb3, sb4, sb5, sb6, sb7, ↓reduceIte, zqa, zqb, zqc, zqd, zqe, zqf, reduceCtorEq, zra, zrb, zrc, zrd, zre, zrf, zrg, zrh, zri, zrj, zrk, zrl, zrm, zqg, nzs]
  refine CallK.pure ⟨rfl, rfl⟩ rfl hP ?_
  simp only [sd2, sd3, shs, zts, sos, sls, zss, eqs, sx, sb1, sb2, sb3, sb4, sb5, sb6, sb7, ↓reduceIte, zqa, zqb, zqc, zqd, zqe, zqf, reduceCtorEq, zra, zrb, zrc, zrd, zre, zrf, zrg, zrh, zri, zrj, zrk, zrl, zrm, zqg, nzs]
  refine DrawK.heldE [72] (tk [0, 1, 2, 3, 4, 8, 10, 5, 11, 6, 12] (.two 7 (tk [9] (.one 13 (tk [14, 15, 16] (.one 17 (tk [18, 19] (.one 20 (tk [21, 22] (.one 23 .done)))))))) 13 (tk [14] (.one 7 (tk [9, 15, 16] (.one 17 (tk [18, 19] (.one 20 (tk [21, 22] (.one 23 .done)))))))))) (by kernel_rfl) (by kernel_rfl) fun ys hy => ?_
  simp only [tieEq] at hy
  simp only [sd2, sd3, shs, zts, sos, sls, zss, eqs, sx, sb1, sb2, sb3, sb4, sb5, sb6, sb7, ↓reduceIte, zqa, zqb, zqc, zqd, zqe, zqf, reduceCtorEq, zra, zrb, zrc, zrd, zre, zrf, zrg, zrh, zri, zrj, zrk, zrl, zrm, zqg, nzs, se1, se2, tks, hb2.one, hv2.row.one, hT.regs.one, hy, inK, lo, hi, ho, hr]
  have hK := hk b2 v2 ws2 M2 hM2 ⟨hb2, hv2, hw2, hT.regs.le hM2⟩
  simp only [tgC, Int.natCast_add, zrl] at hK
  exact ⟨⟨by omega, ⟨by omega, by omega⟩, hK⟩, ⟨by omega, by omega⟩, by omega, hK⟩
end
end Go.X.Tg

namespace Go.X.Tg
open Go Go.X Go.RowKit Go.X.Bg Go.X.Nm Go.X.Bp Go.X.Sb Go.X.Vo

def trdS (T : TG) (w : Int) (n : Txt) (a : Int) : Txt × Int := if hE T.2.1 w false ≠ 0 then ([], hE T.2.1 w false) else (rdS T.1.1 T.1.2 n a, plE T.1.1 T.1.2 n a)
section
variable {N : Nat} {w0 : World} {M0 M : Mem} {σ : Sig} {K : KP} {d : Nat} {qa qb qc : Option Value} {oc rc tc : List SV} {T : TG} {b v rg : Value} {ws : List WV}
theorem treadK (hd : decide (d < N) = true) (ho : SV.concs oc = true) (hr : SV.concs rc = true) (w : Int) (n : Txt) (a : Int) (hT : TgM M T b v rg ws) (hR : TgR T)
    (hk : K ((d, true, .tup [.v (.string ⟨(trdS T w n a).1.toArray⟩), .v (.int .i64 (trdS T w n a).2)]) :: σ) (H3 qa qb qc oc rc (tgC T b v rg)) M) :
    CallK ⟨Proofs.Tryz.prog, N, w0, M0⟩ 10 [.ptr 248 0 0 0, .v (.int .i64 w), .v (.string ⟨n.toArray⟩), .v (.int .i64 a)] d K σ (H3 qa qb qc oc rc (tgC T b v rg)) M := by
  refine CallK.lendB 8000 [0,1,2,3,8,9,10,11,22,25] Proofs.Tryz.func10 rfl (by kernel_rfl) hd (by simp only [lentB, tgC, SV.concs, SV.conc, ho, hr, Bool.and_self]) fun xs => ?_
  obtain ⟨A, ⟨g, l, k, h⟩, tx, many⟩ := T
  have hM := Rv.may g rg k h w false l M hT.regs
  simp only [Rv.resvV] at hM
  have h2 := hR.rv
  simp only at h2
  have o1 := fun d => concs_noKeys d oc ho
  have r1 := fun d => concs_noKeys d rc hr
  have hmE : Rv.mayE g l k h w = if Rv.whoB w = true then 0 else 1 := if_neg (fun h => h h2)
  generalize hS : trdS (A, (g, l, k, h), tx, many) w n a = S at *
  unfold trdS at hS
  simp only at hS
  simp only [tgC] at hk
  simp only [Proofs.Tryz.f10, tgC, sd2, sd3, shs, zts, sos, sls, zss, eqs, sx, sb1, sb2, sb3, sb4, sb5, sb6, sb7, ↓reduceIte, zqa, zqb, zqc, zqd, zqe, zqf, reduceCtorEq, zra, zrb, zrc, zrd, zre, zrf, zrg, zrh, zri, zrj, zrk, zrl, zrm, zqg, nzs, hT.bag.one, hT.vols.row.one, hT.regs.one, o1, r1]
  refine CallK.pure ⟨rfl, rfl⟩ rfl hM ?_
  rw [hmE]
  cases hw : Rv.whoB w with
  | false =>
    have e1 : hE (g, l, k, h) w false = 1 := if_pos hw
    rw [e1, if_pos (by decide)] at hS
    subst hS
    simp only [sd2, sd3, shs, zts, sos, sls, zss, eqs, sx, sb1, sb2, sb3, sb4, sb5, sb6, sb7, ↓reduceIte, zqa, zqb, zqc, zqd, zqe, zqf, reduceCtorEq, zra, zrb, zrc, zrd, zre, zrf, zrg, zrh, zri, zrj, zrk, zrl, zrm, zqg, nzs, ho, hr]
    exact hk
  | true =>
  have e1 : hE (g, l, k, h) w false = if Rv.mayB l k h w false = true then 0 else 9 := if_neg (by rw [hw]; decide)
  rw [e1] at hS
  cases hmb : Rv.mayB l k h w false with
  | false =>
    rw [hmb, if_pos (by decide), if_neg (by decide)] at hS
    subst hS
    simp only [sd2, sd3, shs, zts, sos, sls, zss, eqs, sx, sb1, sb2, sb3, sb4, sb5, sb6, sb7, ↓reduceIte, zqa, zqb, zqc, zqd, zqe, zqf, reduceCtorEq, zra, zrb, zrc, zrd, zre, zrf, zrg, zrh, zri, zrj, zrk, zrl, zrm, zqg, nzs, ho, hr, if_true, decide_true]
    exact hk
  | true =>
  rw [hmb, if_pos rfl, if_neg (fun h => h rfl)] at hS
  subst hS
  have hL := read b v A.1 ws n a M hT.bag hT.vols
  rw [hT.vw] at hL
  simp only [stV] at hL
  simp only [sd2, sd3, shs, zts, sos, sls, zss, eqs, sx, sb1, sb2, sb3, sb4, sb5, sb6, sb7, ↓reduceIte, zqa, zqb, zqc, zqd, zqe, zqf, reduceCtorEq, zra, zrb, zrc, zrd, zre, zrf, zrg, zrh, zri, zrj, zrk, zrl, zrm, zqg, nzs, if_true, decide_true, hT.bag.one, hT.vols.row.one]
  refine CallK.pure ⟨rfl, rfl⟩ rfl hL ?_
  simp only [sd2, sd3, shs, zts, sos, sls, zss, eqs, sx, sb1, sb2, sb3, sb4, sb5, sb6, sb7, ↓reduceIte, zqa, zqb, zqc, zqd, zqe, zqf, reduceCtorEq, zra, zrb, zrc, zrd, zre, zrf, zrg, zrh, zri, zrj, zrk, zrl, zrm, zqg, nzs, ho, hr]
  exact hk
end
end Go.X.Tg

namespace Go.X.Tg
open Go Go.X Go.RowKit Go.X.Bg Go.X.Nm Go.X.Bp Go.X.Sb Go.X.Vo

def trvS (T : TG) (S : Rv.RS) : TG := if S.1 = 0 then (T.1, S.2, T.2.2) else T
section
variable {N : Nat} {w0 : World} {M0 M : Mem} {σ : Sig} {K : KP} {d : Nat} {qa qb qc : Option Value} {oc rc tc : List SV} {T : TG} {b v rg : Value} {ws : List WV}
theorem tregisterK (hd : decide (d < N) = true) (ho : SV.concs oc = true) (hr : SV.concs rc = true) (w x y : Int) (hT : TgM M T b v rg ws)
    (hk : ∀ rg' M', M.le M' → TgM M' (trvS T (Rv.regS T.2.1.1 T.2.1.2.1 T.2.1.2.2.1 T.2.1.2.2.2 w x y)) b v rg' ws → K ((d, true, .v (.int .i64 (Rv.regS T.2.1.1 T.2.1.2.1 T.2.1.2.2.1 T.2.1.2.2.2 w x y).1)) :: σ) (H3 qa qb qc oc rc (tgC (trvS T (Rv.regS T.2.1.1 T.2.1.2.1 T.2.1.2.2.1 T.2.1.2.2.2 w x y)) b v rg')) M') :
    CallK ⟨Proofs.Tryz.prog, N, w0, M0⟩ 7 [.ptr 248 0 0 0, .v (.int .i64 w), .v (.int .i64 x), .v (.int .i64 y)] d K σ (H3 qa qb qc oc rc (tgC T b v rg)) M := by
  refine CallK.lendB 8000 [0,1,2,3,8] Proofs.Tryz.func7 rfl (by kernel_rfl) hd (by simp only [lentB, tgC, SV.concs, SV.conc, ho, hr, Bool.and_self]) fun xs => ?_
  obtain ⟨A, ⟨g, l, k, h⟩, tx, many⟩ := T
  have hM := Rv.register g rg k h w x y l M hT.regs
  simp only [Rv.rsv, Rv.resR] at hM
  have o1 := fun d => concs_noKeys d oc ho
  have r1 := fun d => concs_noKeys d rc hr
  generalize Rv.regS g l k h w x y = S at *
  simp only [Proofs.Tryz.f7, tgC, sd2, sd3, shs, zts, sos, sls, zss, eqs, sx, sb1, sb2, sb3, sb4, sb5, sb6, sb7, ↓reduceIte, zqa, zqb, zqc, zqd, zqe, zqf, reduceCtorEq, zra, zrb, zrc, zrd, zre, zrf, zrg, zrh, zri, zrj, zrk, zrl, zrm, zqg, nzs, hT.bag.one, hT.vols.row.one, hT.regs.one, o1, r1]
  refine CallK.row (Rv.ctxT S) rfl rfl hM fun rg' M1 hM1 hrg => ?_
  simp only [Rv.rsT, Rv.rsv, sd2, sd3, shs, zts, sos, sls, zss, eqs, sx, sb1, sb2, sb3, sb4, sb5, sb6, sb7, ↓reduceIte, zqa, zqb, zqc, zqd, zqe, zqf, reduceCtorEq, zra, zrb, zrc, zrd, zre, zrf, zrg, zrh, zri, zrj, zrk, zrl, zrm, zqg, nzs]
  refine CallK.lendB 8000 [0,1,2,4,6,8] Proofs.Tryz.func19 rfl (by kernel_rfl) rfl (by simp only [lentB, SV.concs, SV.conc, ho, hr, Bool.and_self]) fun ys => ?_
  by_cases h1 : S.1 = 0
  · have e1 : trvS (A, (g, l, k, h), tx, many) S = (A, S.2, tx, many) := if_pos h1
    rw [e1] at hk
    have hk1 := hk rg' M1 hM1 ⟨hT.bag.le hM1, hT.vols.le hM1, hT.vw, hrg⟩
    simp only [tgC] at hk1
    rw [h1] at hk1
    simp only [Proofs.Tryz.f19, sd2, sd3, shs, zts, sos, sls, zss, eqs, sx, sb1, sb2, sb3, sb4, sb5, sb6, sb7, ↓reduceIte, zqa, zqb, zqc, zqd, zqe, zqf, reduceCtorEq, zra, zrb, zrc, zrd, zre, zrf, zrg, zrh, zri, zrj, zrk, zrl, zrm, zqg, nzs, hrg.one, h1, o1, r1, ho, hr, oneVs hrg.sl]
    exact hk1
  · have c1 := eq_false h1
    have e1 : trvS (A, (g, l, k, h), tx, many) S = (A, (g, l, k, h), tx, many) := if_neg h1
    rw [e1] at hk
    have hk1 := hk rg M1 hM1 (hT.le hM1)
    simp only [tgC] at hk1
    simp only [Proofs.Tryz.f19, sd2, sd3, shs, zts, sos, sls, zss, eqs, sx, sb1, sb2, sb3, sb4, sb5, sb6, sb7, ↓reduceIte, zqa, zqb, zqc, zqd, zqe, zqf, reduceCtorEq, zra, zrb, zrc, zrd, zre, zrf, zrg, zrh, zri, zrj, zrk, zrl, zrm, zqg, nzs, hrg.one, c1, o1, r1, ho, hr]
    exact hk1
theorem treserveK (hd : decide (d < N) = true) (ho : SV.concs oc = true) (hr : SV.concs rc = true) (w x y : Int) (hT : TgM M T b v rg ws)
    (hk : ∀ rg' M', M.le M' → TgM M' (trvS T (Rv.rsvS T.2.1.1 T.2.1.2.1 T.2.1.2.2.1 T.2.1.2.2.2 w x y)) b v rg' ws → K ((d, true, .v (.int .i64 (Rv.rsvS T.2.1.1 T.2.1.2.1 T.2.1.2.2.1 T.2.1.2.2.2 w x y).1)) :: σ) (H3 qa qb qc oc rc (tgC (trvS T (Rv.rsvS T.2.1.1 T.2.1.2.1 T.2.1.2.2.1 T.2.1.2.2.2 w x y)) b v rg')) M') :
    CallK ⟨Proofs.Tryz.prog, N, w0, M0⟩ 8 [.ptr 248 0 0 0, .v (.int .i64 w), .v (.int .i64 x), .v (.int .i64 y)] d K σ (H3 qa qb qc oc rc (tgC T b v rg)) M := by
  refine CallK.lendB 8000 [0,1,2,3,8] Proofs.Tryz.func8 rfl (by kernel_rfl) hd (by simp only [lentB, tgC, SV.concs, SV.conc, ho, hr, Bool.and_self]) fun xs => ?_
  obtain ⟨A, ⟨g, l, k, h⟩, tx, many⟩ := T
  have hM := Rv.reserve g rg k h w x y l M hT.regs
  simp only [Rv.rsv, Rv.resR] at hM
  have o1 := fun d => concs_noKeys d oc ho
  have r1 := fun d => concs_noKeys d rc hr
  generalize Rv.rsvS g l k h w x y = S at *
  simp only [Proofs.Tryz.f8, tgC, sd2, sd3, shs, zts, sos, sls, zss, eqs, sx, sb1, sb2, sb3, sb4, sb5, sb6, sb7, ↓reduceIte, zqa, zqb, zqc, zqd, zqe, zqf, reduceCtorEq, zra, zrb, zrc, zrd, zre, zrf, zrg, zrh, zri, zrj, zrk, zrl, zrm, zqg, nzs, hT.bag.one, hT.vols.row.one, hT.regs.one, o1, r1]
  refine CallK.row (Rv.ctxT S) rfl rfl hM fun rg' M1 hM1 hrg => ?_
  simp only [Rv.rsT, Rv.rsv, sd2, sd3, shs, zts, sos, sls, zss, eqs, sx, sb1, sb2, sb3, sb4, sb5, sb6, sb7, ↓reduceIte, zqa, zqb, zqc, zqd, zqe, zqf, reduceCtorEq, zra, zrb, zrc, zrd, zre, zrf, zrg, zrh, zri, zrj, zrk, zrl, zrm, zqg, nzs]
  refine CallK.lendB 8000 [0,1,2,4,6,8] Proofs.Tryz.func19 rfl (by kernel_rfl) rfl (by simp only [lentB, SV.concs, SV.conc, ho, hr, Bool.and_self]) fun ys => ?_
  by_cases h1 : S.1 = 0
  · have e1 : trvS (A, (g, l, k, h), tx, many) S = (A, S.2, tx, many) := if_pos h1
    rw [e1] at hk
    have hk1 := hk rg' M1 hM1 ⟨hT.bag.le hM1, hT.vols.le hM1, hT.vw, hrg⟩
    simp only [tgC] at hk1
    rw [h1] at hk1
    simp only [Proofs.Tryz.f19, sd2, sd3, shs, zts, sos, sls, zss, eqs, sx, sb1, sb2, sb3, sb4, sb5, sb6, sb7, ↓reduceIte, zqa, zqb, zqc, zqd, zqe, zqf, reduceCtorEq, zra, zrb, zrc, zrd, zre, zrf, zrg, zrh, zri, zrj, zrk, zrl, zrm, zqg, nzs, hrg.one, h1, o1, r1, ho, hr, oneVs hrg.sl]
    exact hk1
  · have c1 := eq_false h1
    have e1 : trvS (A, (g, l, k, h), tx, many) S = (A, (g, l, k, h), tx, many) := if_neg h1
    rw [e1] at hk
    have hk1 := hk rg M1 hM1 (hT.le hM1)
    simp only [tgC] at hk1
    simp only [Proofs.Tryz.f19, sd2, sd3, shs, zts, sos, sls, zss, eqs, sx, sb1, sb2, sb3, sb4, sb5, sb6, sb7, ↓reduceIte, zqa, zqb, zqc, zqd, zqe, zqf, reduceCtorEq, zra, zrb, zrc, zrd, zre, zrf, zrg, zrh, zri, zrj, zrk, zrl, zrm, zqg, nzs, hrg.one, c1, o1, r1, ho, hr]
    exact hk1
theorem treleaseK (hd : decide (d < N) = true) (ho : SV.concs oc = true) (hr : SV.concs rc = true) (w x y : Int) (hT : TgM M T b v rg ws)
    (hk : ∀ rg' M', M.le M' → TgM M' (trvS T (Rv.relS T.2.1.1 T.2.1.2.1 T.2.1.2.2.1 T.2.1.2.2.2 w x y)) b v rg' ws → K ((d, true, .v (.int .i64 (Rv.relS T.2.1.1 T.2.1.2.1 T.2.1.2.2.1 T.2.1.2.2.2 w x y).1)) :: σ) (H3 qa qb qc oc rc (tgC (trvS T (Rv.relS T.2.1.1 T.2.1.2.1 T.2.1.2.2.1 T.2.1.2.2.2 w x y)) b v rg')) M') :
    CallK ⟨Proofs.Tryz.prog, N, w0, M0⟩ 11 [.ptr 248 0 0 0, .v (.int .i64 w), .v (.int .i64 x), .v (.int .i64 y)] d K σ (H3 qa qb qc oc rc (tgC T b v rg)) M := by
  refine CallK.lendB 8000 [0,1,2,3,8] Proofs.Tryz.func11 rfl (by kernel_rfl) hd (by simp only [lentB, tgC, SV.concs, SV.conc, ho, hr, Bool.and_self]) fun xs => ?_
  obtain ⟨A, ⟨g, l, k, h⟩, tx, many⟩ := T
  have hM := Rv.release g rg k h w x y l M hT.regs
  simp only [Rv.rsv, Rv.resR] at hM
  have o1 := fun d => concs_noKeys d oc ho
  have r1 := fun d => concs_noKeys d rc hr
  generalize Rv.relS g l k h w x y = S at *
  simp only [Proofs.Tryz.f11, tgC, sd2, sd3, shs, zts, sos, sls, zss, eqs, sx, sb1, sb2, sb3, sb4, sb5, sb6, sb7, ↓reduceIte, zqa, zqb, zqc, zqd, zqe, zqf, reduceCtorEq, zra, zrb, zrc, zrd, zre, zrf, zrg, zrh, zri, zrj, zrk, zrl, zrm, zqg, nzs, hT.bag.one, hT.vols.row.one, hT.regs.one, o1, r1]
  refine CallK.row (Rv.ctxT S) rfl rfl hM fun rg' M1 hM1 hrg => ?_
  simp only [Rv.rsT, Rv.rsv, sd2, sd3, shs, zts, sos, sls, zss, eqs, sx, sb1, sb2, sb3, sb4, sb5, sb6, sb7, ↓reduceIte, zqa, zqb, zqc, zqd, zqe, zqf, reduceCtorEq, zra, zrb, zrc, zrd, zre, zrf, zrg, zrh, zri, zrj, zrk, zrl, zrm, zqg, nzs]
  refine CallK.lendB 8000 [0,1,2,4,6,8] Proofs.Tryz.func19 rfl (by kernel_rfl) rfl (by simp only [lentB, SV.concs, SV.conc, ho, hr, Bool.and_self]) fun ys => ?_
  by_cases h1 : S.1 = 0
  · have e1 : trvS (A, (g, l, k, h), tx, many) S = (A, S.2, tx, many) := if_pos h1
    rw [e1] at hk
    have hk1 := hk rg' M1 hM1 ⟨hT.bag.le hM1, hT.vols.le hM1, hT.vw, hrg⟩
    simp only [tgC] at hk1
    rw [h1] at hk1
    simp only [Proofs.Tryz.f19, sd2, sd3, shs, zts, sos, sls, zss, eqs, sx, sb1, sb2, sb3, sb4, sb5, sb6, sb7, ↓reduceIte, zqa, zqb, zqc, zqd, zqe, zqf, reduceCtorEq, zra, zrb, zrc, zrd, zre, zrf, zrg, zrh, zri, zrj, zrk, zrl, zrm, zqg, nzs, hrg.one, h1, o1, r1, ho, hr, oneVs hrg.sl]
    exact hk1
  · have c1 := eq_false h1
    have e1 : trvS (A, (g, l, k, h), tx, many) S = (A, (g, l, k, h), tx, many) := if_neg h1
    rw [e1] at hk
    have hk1 := hk rg M1 hM1 (hT.le hM1)
    simp only [tgC] at hk1
    simp only [Proofs.Tryz.f19, sd2, sd3, shs, zts, sos, sls, zss, eqs, sx, sb1, sb2, sb3, sb4, sb5, sb6, sb7, ↓reduceIte, zqa, zqb, zqc, zqd, zqe, zqf, reduceCtorEq, zra, zrb, zrc, zrd, zre, zrf, zrg, zrh, zri, zrj, zrk, zrl, zrm, zqg, nzs, hrg.one, c1, o1, r1, ho, hr]
    exact hk1
theorem tpreemptK (hd : decide (d < N) = true) (ho : SV.concs oc = true) (hr : SV.concs rc = true) (w x y z : Int) (hT : TgM M T b v rg ws)
    (hk : ∀ rg' M', M.le M' → TgM M' (trvS T (Rv.preS T.2.1.1 T.2.1.2.1 T.2.1.2.2.1 T.2.1.2.2.2 w x y z)) b v rg' ws → K ((d, true, .v (.int .i64 (Rv.preS T.2.1.1 T.2.1.2.1 T.2.1.2.2.1 T.2.1.2.2.2 w x y z).1)) :: σ) (H3 qa qb qc oc rc (tgC (trvS T (Rv.preS T.2.1.1 T.2.1.2.1 T.2.1.2.2.1 T.2.1.2.2.2 w x y z)) b v rg')) M') :
    CallK ⟨Proofs.Tryz.prog, N, w0, M0⟩ 12 [.ptr 248 0 0 0, .v (.int .i64 w), .v (.int .i64 x), .v (.int .i64 y), .v (.int .i64 z)] d K σ (H3 qa qb qc oc rc (tgC T b v rg)) M := by
  refine CallK.lendB 8000 [0,1,2,3,4,10] Proofs.Tryz.func12 rfl (by kernel_rfl) hd (by simp only [lentB, tgC, SV.concs, SV.conc, ho, hr, Bool.and_self]) fun xs => ?_
  obtain ⟨A, ⟨g, l, k, h⟩, tx, many⟩ := T
  have hM := Rv.preempt g rg k h w x y z l M hT.regs
  simp only [Rv.rsv, Rv.resR] at hM
  have o1 := fun d => concs_noKeys d oc ho
  have r1 := fun d => concs_noKeys d rc hr
  generalize Rv.preS g l k h w x y z = S at *
  simp only [Proofs.Tryz.f12, tgC, sd2, sd3, shs, zts, sos, sls, zss, eqs, sx, sb1, sb2, sb3, sb4, sb5, sb6, sb7, ↓reduceIte, zqa, zqb, zqc, zqd, zqe, zqf, reduceCtorEq, zra, zrb, zrc, zrd, zre, zrf, zrg, zrh, zri, zrj, zrk, zrl, zrm, zqg, nzs, hT.bag.one, hT.vols.row.one, hT.regs.one, o1, r1]
  refine CallK.row (Rv.ctxT S) rfl rfl hM fun rg' M1 hM1 hrg => ?_
  simp only [Rv.rsT, Rv.rsv, sd2, sd3, shs, zts, sos, sls, zss, eqs, sx, sb1, sb2, sb3, sb4, sb5, sb6, sb7, ↓reduceIte, zqa, zqb, zqc, zqd, zqe, zqf, reduceCtorEq, zra, zrb, zrc, zrd, zre, zrf, zrg, zrh, zri, zrj, zrk, zrl, zrm, zqg, nzs]
  refine CallK.lendB 8000 [0,1,2,4,6,8] Proofs.Tryz.func19 rfl (by kernel_rfl) rfl (by simp only [lentB, SV.concs, SV.conc, ho, hr, Bool.and_self]) fun ys => ?_
  by_cases h1 : S.1 = 0
  · have e1 : trvS (A, (g, l, k, h), tx, many) S = (A, S.2, tx, many) := if_pos h1
    rw [e1] at hk
    have hk1 := hk rg' M1 hM1 ⟨hT.bag.le hM1, hT.vols.le hM1, hT.vw, hrg⟩
    simp only [tgC] at hk1
    rw [h1] at hk1
    simp only [Proofs.Tryz.f19, sd2, sd3, shs, zts, sos, sls, zss, eqs, sx, sb1, sb2, sb3, sb4, sb5, sb6, sb7, ↓reduceIte, zqa, zqb, zqc, zqd, zqe, zqf, reduceCtorEq, zra, zrb, zrc, zrd, zre, zrf, zrg, zrh, zri, zrj, zrk, zrl, zrm, zqg, nzs, hrg.one, h1, o1, r1, ho, hr, oneVs hrg.sl]
    exact hk1
  · have c1 := eq_false h1
    have e1 : trvS (A, (g, l, k, h), tx, many) S = (A, (g, l, k, h), tx, many) := if_neg h1
    rw [e1] at hk
    have hk1 := hk rg M1 hM1 (hT.le hM1)
    simp only [tgC] at hk1
    simp only [Proofs.Tryz.f19, sd2, sd3, shs, zts, sos, sls, zss, eqs, sx, sb1, sb2, sb3, sb4, sb5, sb6, sb7, ↓reduceIte, zqa, zqb, zqc, zqd, zqe, zqf, reduceCtorEq, zra, zrb, zrc, zrd, zre, zrf, zrg, zrh, zri, zrj, zrk, zrl, zrm, zqg, nzs, hrg.one, c1, o1, r1, ho, hr]
    exact hk1
end
end Go.X.Tg

namespace Go.X.Tg
open Go Go.X Go.RowKit Go.X.Bg Go.X.Nm Go.X.Bp Go.X.Sb Go.X.Vo

def okK (l : List (Int × Int)) (k h : Int) : Prop := (k = 0 ∧ h = 0) ∨ (Rv.allB k = true ∧ h = 0 ∧ l ≠ []) ∨ (k ≠ 0 ∧ Rv.allB k = false ∧ Rv.kindB k = true ∧ 0 < Rv.ky h l)
theorem ck_srt : ∀ {l : List (Int × Int)} {last : Int}, -1 ≤ last → Rv.srt (last + 1) l → Rv.ck l last = 0
  | [], _, _, _ => rfl
  | x :: l, last, h, ⟨h1, h2, h3⟩ => by
    rw [Rv.ck, if_neg (by omega), if_neg (by omega)]
    exact ck_srt (by omega) h3
theorem fi_ky {l : List (Int × Int)} {w : Int} (hs : Rv.srt 0 l) : (0 < Rv.ky w l) ↔ 0 ≤ Rv.fi w l 0 := Rv.ky_fi w l 0 (Rv.srt_keys hs)
theorem resvE_of {g : Int} {l : List (Int × Int)} {k h : Int} (hg : 0 ≤ g ∧ g ≤ 2147483647) (hs : Rv.srt 0 l) (hk : okK l k h) : Rv.resvE g l k h = 0 := by
  unfold Rv.resvE
  rw [if_neg (by omega), ck_srt (by omega) hs, if_neg (fun h => h rfl)]
  unfold Rv.kE
  rcases hk with ⟨h1, h2⟩ | ⟨h1, h2, h3⟩ | ⟨h1, h2, h3, h4⟩
  · rw [if_pos (.inl h1), if_neg]
    subst h1
    rintro (h | ⟨h, _⟩)
    · exact h h2
    · exact absurd h (by decide)
  · rw [if_pos (.inr h1), if_neg]
    rintro (h | ⟨_, h⟩)
    · exact h h2
    · exact h3 h
  · have h5 := (fi_ky hs).1 h4
    rw [if_neg (by rw [h2]; simp [h1]), if_neg (by rw [h3]; decide), if_neg (by omega)]
theorem okK_of {g : Int} {l : List (Int × Int)} {k h : Int} (he : Rv.resvE g l k h = 0) : (0 ≤ g ∧ g ≤ 2147483647) ∧ Rv.srt 0 l ∧ okK l k h := by
  obtain ⟨hg, hs, hk, hA, h0, hh⟩ := Rv.resvE_ok he
  refine ⟨hg, hs, ?_⟩
  by_cases h1 : k = 0
  · exact .inl ⟨h1, h0 h1⟩
  cases h2 : Rv.allB k with
  | true => exact .inr (.inl ⟨h2, hA h2⟩)
  | false =>
    unfold Rv.resvE at he
    rw [if_neg (by omega), ck_srt (by omega) hs, if_neg (fun h => h rfl)] at he
    unfold Rv.kE at he
    rw [if_neg (by rw [h2]; simp [h1])] at he
    split at he
    · cases he
    rename_i h3
    split at he
    · cases he
    rename_i h4
    exact .inr (.inr ⟨h1, h2, by simpa using h3, (fi_ky hs).2 (by omega)⟩)
theorem ky_range {l : List (Int × Int)} {w : Int} (hs : Rv.srt 0 l) (h : 0 < Rv.ky w l) : 0 ≤ w ∧ w ≤ 7 := by
  rcases Rv.fi_some (w := w) (l := l) (i := 0) with ⟨q1, _⟩ | ⟨j, x, _, q2, q3, _⟩
  · have := (fi_ky hs).1 h
    omega
  · have := Rv.srt_le hs x (List.mem_of_getElem? q2)
    omega
theorem ky_ne {l : List (Int × Int)} {w : Int} (h : 0 < Rv.ky w l) : l ≠ [] := fun e => by
  subst e
  exact absurd (show 0 < (0 : Int) from h) (by decide)
theorem gen_ok (f : Int → Int) : ∀ (n : Nat) (a : Int), a + n ≤ 8 → (∀ h, a ≤ h → h < a + n → f h ≤ 1000) → Rv.srt a (Rv.gen f n a) ∧ ∀ q, a ≤ q → q < a + n → 0 ≤ f q → Rv.ky q (Rv.gen f n a) = f q
  | 0, a, _, _ => ⟨trivial, fun q h1 h2 => by omega⟩
  | n + 1, a, ha, hf => by
    obtain ⟨i1, i2⟩ := gen_ok f n (a + 1) (by omega) (fun h h1 h2 => hf h (by omega) (by omega))
    rw [Rv.gen]
    by_cases h : 0 < f a
    · rw [if_pos h]
      refine ⟨⟨⟨Int.le_refl _, by simp only; omega⟩, ⟨by simp only; omega, hf a (by omega) (by omega)⟩, i1⟩, fun q h1 h2 h3 => ?_⟩
      rw [Rv.ky]
      by_cases hq : a = q
      · subst hq
        rw [if_pos rfl]
      · rw [if_neg hq]
        exact i2 q (by omega) (by omega) h3
    · rw [if_neg h]
      refine ⟨Rv.srt_mono (by omega) i1, fun q h1 h2 h3 => ?_⟩
      by_cases hq : a = q
      · subst hq
        rw [Rv.ky_lt i1 (by omega)]
        omega
      · exact i2 q (by omega) (by omega) h3
theorem kr_ok {l : List (Int × Int)} {w key : Int} (hs : Rv.srt 0 l) (hk : 0 ≤ key ∧ key ≤ 1000) : Rv.srt 0 (Rv.kr l w key) ∧ ∀ q, 0 ≤ q → q ≤ 7 → Rv.ky q (Rv.kr l w key) = if q = w then key else Rv.ky q l := by
  obtain ⟨h1, h2⟩ := gen_ok (fun h => if h = w then key else Rv.ky h l) 8 0 (by decide) (fun h _ _ => by
    have := Rv.ky_pos (w := h) hs
    split <;> omega)
  refine ⟨h1, fun q h3 h4 => h2 q h3 (by omega) ?_⟩
  have := Rv.ky_pos (w := q) hs
  split <;> omega
theorem reg_right {g : Int} {l : List (Int × Int)} {k h w old key : Int} (he : (Rv.regS g l k h w old key).1 = 0) :
    Rv.resvE (Rv.regS g l k h w old key).2.1 (Rv.regS g l k h w old key).2.2.1 (Rv.regS g l k h w old key).2.2.2.1 (Rv.regS g l k h w old key).2.2.2.2 = 0 := by
  unfold Rv.regS at he ⊢
  by_cases h1 : Rv.resvE g l k h ≠ 0
  · rw [if_pos h1] at he; exact absurd he h1
  rw [if_neg h1] at he ⊢
  by_cases h2 : Rv.whoB w = false ∨ (key < 0 ∨ 1000 < key)
  · rw [if_pos h2] at he; exact absurd he (by decide)
  rw [if_neg h2] at he ⊢
  by_cases h3 : Rv.ky w l ≠ old
  · rw [if_pos h3] at he; exact absurd he (by decide)
  rw [if_neg h3] at he ⊢
  by_cases h4 : g = 2147483647
  · rw [if_pos h4] at he; exact absurd he (by decide)
  rw [if_neg h4]
  obtain ⟨hg, hs, hk⟩ := okK_of (Classical.not_not.1 h1)
  have hkey : 0 ≤ key ∧ key ≤ 1000 := by omega
  obtain ⟨k1, k2⟩ := kr_ok (w := w) hs hkey
  refine resvE_of (by simp only; omega) k1 ?_
  simp only
  cases hF : Rv.kF l k h w key with
  | true => exact .inl ⟨rfl, rfl⟩
  | false =>
    simp only [Bool.false_eq_true, if_false]
    unfold Rv.kF at hF
    rcases hk with e | ⟨e1, e2, e3⟩ | ⟨e1, e2, e3, e4⟩
    · exact .inl e
    · refine .inr (.inl ⟨e1, e2, fun e => ?_⟩)
      rw [e1, e] at hF
      simp at hF
    · refine .inr (.inr ⟨e1, e2, e3, ?_⟩)
      obtain ⟨r1, r2⟩ := ky_range hs e4
      rw [k2 h r1 r2]
      by_cases hw : h = w
      · rw [if_pos hw]
        have hh : Rv.hasB l k h w = true := by
          unfold Rv.hasB
          rw [e2]
          simp [e1, hw]
        rw [e2, hh] at hF
        have : ¬ key = 0 := fun e => by rw [e] at hF; simp at hF
        omega
      · rw [if_neg hw]
        exact e4
theorem keyE_in {g : Int} {l : List (Int × Int)} {k h w key : Int} (he : Rv.keyE g l k h w key = 0) : (0 ≤ g ∧ g ≤ 2147483647) ∧ Rv.srt 0 l ∧ okK l k h ∧ 0 < Rv.ky w l := by
  obtain ⟨h1, _, h3, _⟩ := Rv.keyE_ok he
  obtain ⟨hg, hs, hk⟩ := okK_of h1
  exact ⟨hg, hs, hk, (fi_ky hs).2 h3⟩
theorem kind_ne {c : Int} (h : Rv.kindB c = true) : c ≠ 0 := fun e => by subst e; exact absurd h (by decide)
theorem okK_held {l : List (Int × Int)} {w c : Int} (h : 0 < Rv.ky w l) (hc : Rv.kindB c = true) : okK l c (if Rv.allB c = true then 0 else w) := by
  cases hA : Rv.allB c with
  | true => exact .inr (.inl ⟨hA, rfl, ky_ne h⟩)
  | false => exact .inr (.inr ⟨kind_ne hc, hA, hc, h⟩)
theorem rsv_right {g : Int} {l : List (Int × Int)} {k h w key k2 : Int} (he : (Rv.rsvS g l k h w key k2).1 = 0) :
    Rv.resvE (Rv.rsvS g l k h w key k2).2.1 (Rv.rsvS g l k h w key k2).2.2.1 (Rv.rsvS g l k h w key k2).2.2.2.1 (Rv.rsvS g l k h w key k2).2.2.2.2 = 0 := by
  unfold Rv.rsvS at he ⊢
  by_cases h1 : Rv.keyE g l k h w key ≠ 0
  · rw [if_pos h1] at he; exact absurd he h1
  rw [if_neg h1] at he ⊢
  by_cases h2 : Rv.kindB k2 = false
  · rw [if_pos h2] at he; exact absurd he (by decide)
  rw [if_neg h2] at he ⊢
  by_cases h3 : k ≠ 0 ∧ (Rv.hasB l k h w = false ∨ k ≠ k2)
  · rw [if_pos h3] at he; exact absurd he (by decide)
  rw [if_neg h3]
  obtain ⟨hg, hs, hk, hw⟩ := keyE_in (Classical.not_not.1 h1)
  exact resvE_of hg hs (okK_held hw (by simpa using h2))
theorem rel_right {g : Int} {l : List (Int × Int)} {k h w key k2 : Int} (he : (Rv.relS g l k h w key k2).1 = 0) :
    Rv.resvE (Rv.relS g l k h w key k2).2.1 (Rv.relS g l k h w key k2).2.2.1 (Rv.relS g l k h w key k2).2.2.2.1 (Rv.relS g l k h w key k2).2.2.2.2 = 0 := by
  unfold Rv.relS at he ⊢
  by_cases h1 : Rv.keyE g l k h w key ≠ 0
  · rw [if_pos h1] at he; exact absurd he h1
  rw [if_neg h1] at he ⊢
  by_cases h2 : Rv.kindB k2 = false
  · rw [if_pos h2] at he; exact absurd he (by decide)
  rw [if_neg h2] at he ⊢
  obtain ⟨hg, hs, hk, hw⟩ := keyE_in (Classical.not_not.1 h1)
  by_cases h3 : Rv.hasB l k h w = false
  · rw [if_pos h3]
    exact resvE_of hg hs hk
  rw [if_neg h3] at he ⊢
  by_cases h4 : k ≠ k2
  · rw [if_pos h4] at he; exact absurd he (by decide)
  rw [if_neg h4]
  exact resvE_of hg hs (.inl ⟨rfl, rfl⟩)
theorem outS_ok {s : Rv.ST} {q w : Int} (hs : Rv.srt 0 s.1) (hk : okK s.1 s.2.1 s.2.2) (hq : q ≠ w) :
    Rv.srt 0 (Rv.outS s q).1 ∧ okK (Rv.outS s q).1 (Rv.outS s q).2.1 (Rv.outS s q).2.2 ∧ Rv.ky w (Rv.outS s q).1 = Rv.ky w s.1 := by
  obtain ⟨l, k, h⟩ := s
  simp only at hs hk
  have hf : ∀ x, Rv.ky x (Rv.outL l q) = if x = q then 0 else Rv.ky x l := fun x => Rv.ky_filter hs
  refine ⟨Rv.srt_filter hs, ?_, by simp only [Rv.outS, hf, if_neg hq.symm]⟩
  simp only [Rv.outS]
  cases hF : Rv.outF l k h q with
  | true => exact .inl ⟨rfl, rfl⟩
  | false =>
    simp only [Bool.false_eq_true, if_false]
    unfold Rv.outF at hF
    rcases hk with e | ⟨e1, e2, e3⟩ | ⟨e1, e2, e3, e4⟩
    · exact .inl e
    · refine .inr (.inl ⟨e1, e2, fun e => ?_⟩)
      rw [e1, e] at hF
      have hb : Rv.hasB l k h q = false := by simpa using hF
      unfold Rv.hasB at hb
      rw [if_pos e1] at hb
      obtain ⟨x, r, hl⟩ : ∃ x r, l = x :: r := by cases l with
        | nil => exact absurd rfl e3
        | cons x r => exact ⟨x, r, rfl⟩
      have hx : x ∈ l := by rw [hl]; exact List.mem_cons_self
      have hxq : x.1 ≠ q := by
        rcases Rv.fi_some (w := q) (l := l) (i := 0) with ⟨_, q2⟩ | ⟨j, x, q1, _⟩
        · exact q2 x hx
        · simp only [decide_eq_false_iff_not] at hb
          omega
      have : x ∈ Rv.outL l q := List.mem_filter.2 ⟨hx, by simp [hxq]⟩
      rw [e] at this
      cases this
    · refine .inr (.inr ⟨e1, e2, e3, ?_⟩)
      rw [hf h]
      by_cases hw : h = q
      · have hh : Rv.hasB l k h q = true := by
          unfold Rv.hasB
          rw [e2]
          simp [e1, hw]
        rw [e2, hh] at hF
        exact absurd hF (by simp)
      · rw [if_neg hw]
        exact e4
theorem strS_ok {w : Int} : ∀ (hs : List Int) (s : Rv.ST), Rv.srt 0 s.1 → okK s.1 s.2.1 s.2.2 →
    Rv.srt 0 (Rv.strS w s hs).1 ∧ okK (Rv.strS w s hs).1 (Rv.strS w s hs).2.1 (Rv.strS w s hs).2.2 ∧ Rv.ky w (Rv.strS w s hs).1 = Rv.ky w s.1
  | [], s, h1, h2 => ⟨h1, h2, rfl⟩
  | q :: r, s, h1, h2 => by
    rw [Rv.strS]
    by_cases hq : q = w
    · rw [if_pos hq]
      exact strS_ok r s h1 h2
    · rw [if_neg hq]
      obtain ⟨a1, a2, a3⟩ := outS_ok h1 h2 hq
      obtain ⟨b1, b2, b3⟩ := strS_ok (w := w) r _ a1 a2
      exact ⟨b1, b2, b3.trans a3⟩
theorem pre_right {g : Int} {l : List (Int × Int)} {k h w key b c : Int} (he : (Rv.preS g l k h w key b c).1 = 0) :
    Rv.resvE (Rv.preS g l k h w key b c).2.1 (Rv.preS g l k h w key b c).2.2.1 (Rv.preS g l k h w key b c).2.2.2.1 (Rv.preS g l k h w key b c).2.2.2.2 = 0 := by
  unfold Rv.preS at he ⊢
  by_cases h1 : Rv.keyE g l k h w key ≠ 0
  · rw [if_pos h1] at he; exact absurd he h1
  rw [if_neg h1] at he ⊢
  by_cases h2 : Rv.kindB c = false ∨ (b < 1 ∨ 1000 < b)
  · rw [if_pos h2] at he; exact absurd he (by decide)
  rw [if_neg h2] at he ⊢
  by_cases h3 : Rv.hands l b = []
  · rw [if_pos h3] at he; exact absurd he (by decide)
  rw [if_neg h3] at he ⊢
  by_cases h4 : g = 2147483647
  · rw [if_pos h4] at he; exact absurd he (by decide)
  rw [if_neg h4]
  obtain ⟨hg, hs, hk, hw⟩ := keyE_in (Classical.not_not.1 h1)
  obtain ⟨a1, a2, a3⟩ := strS_ok (w := w) (Rv.hands l b) (l, k, h) hs hk
  have hc : Rv.kindB c = true := by
    cases hc : Rv.kindB c with
    | true => rfl
    | false => exact absurd (.inl hc) h2
  have hg2 : 0 ≤ g + 1 ∧ g + 1 ≤ 2147483647 := by omega
  by_cases h5 : Rv.tookB k h (Rv.hands l b) = true
  · rw [if_pos h5]
    exact resvE_of hg2 a1 (okK_held (by rw [a3]; exact hw) hc)
  · rw [if_neg h5]
    exact resvE_of hg2 a1 a2
end Go.X.Tg

