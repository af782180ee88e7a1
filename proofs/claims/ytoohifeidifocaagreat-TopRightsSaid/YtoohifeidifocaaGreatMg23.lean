/- Contracts of functions and the logic that they are proved in (8 texts in one). Conditions: none. -/
import Derived.Test.YtoohifeidifocaaGreatMg22
import Derived.Test.YtoohifeidifocaaGreatMg6
import Derived.Test.YtoohifeidifocaaGreatMg21
import Derived.Test.YtoohifeidifocaaGreatMg4
import Derived.Test.YtoohifeidifocaaGreatMg16
open Nat renaming reduceAdd → zqa, reduceMul → zqb, reduceDiv → zqc, reduceEqDiff → zqd, reduceLT → zqe, reduceLeDiff → zqf, reduceBEq → zqg
open Int renaming reduceEq → zra, reduceNe → zrb, reduceLT → zrc, reduceLE → zrd, reduceAdd → zre, reduceSub → zrf, reduceMul → zrg, reduceNeg → zrh, reduceToNat → zri, cast_ofNat_Int → zrj, natCast_zero → zrk, natCast_one → zrl, toNat_natCast → zrm
namespace Go.X.Bg
end Go.X.Bg
namespace Go.X.Nm
end Go.X.Nm
namespace Go.X.Bp
end Go.X.Bp
namespace Go.X.Sb
end Go.X.Sb
namespace Go.X.Vo
end Go.X.Vo
namespace Go.X.Tg
end Go.X.Tg
namespace Go.X.Pol
end Go.X.Pol
namespace Go.X.Pl
end Go.X.Pl
namespace Go.X.Rp
end Go.X.Rp
namespace Go.X.Pd
end Go.X.Pd
namespace Go.X.Md
end Go.X.Md
namespace Go.X.Mv
end Go.X.Mv
namespace Go.X.Pt
end Go.X.Pt
namespace Go.X.Tv
end Go.X.Tv
set_option linter.unusedSimpArgs false
set_option linter.unusedVariables false
set_option maxHeartbeats 4000000
set_option maxRecDepth 20000
namespace Go.X.Th
open Go Go.X Go.RowKit Go.X.Bg Go.X.Nm Go.X.Bp Go.X.Sb Go.X.Vo Go.X.Tg

abbrev H1 (qc : Option Value) (tc : List SV) : HS := [(248, .box tc qc)]
section
variable {N : Nat} {w0 : World} {M0 M : Mem} {σ : Sig} {K : KP} {d : Nat} {qc : Option Value} {T : TG} {b v rg : Value} {ws : List WV}
theorem tdoK1 (hd : decide (d < N) = true) (w : Int) (o : OpT) (hT : TgM M T b v rg ws) (hR : TgR T)
    (hk : ∀ b' v' ws' M', M.le M' → TgM M' (tdoS T w o).1 b' v' rg ws' → K ((d, true, .v (.int .i64 (tdoS T w o).2)) :: σ) (H1 qc (tgC (tdoS T w o).1 b' v' rg)) M') :
    CallK ⟨Proofs.Tryz.prog, N, w0, M0⟩ 6 [.ptr 248 0 0 0, .v (.int .i64 w), opT o] d K σ (H1 qc (tgC T b v rg)) M := by
  refine CallK.lendB 8000 [0,1,2,5,6,7,8,9,10,12,24,27,38,44] Proofs.Tryz.func6 rfl (by kernel_rfl) hd (by simp only [lentB, tgC, SV.concs, SV.conc, Bool.and_self]) fun xs => ?_
  have hM := Rv.may T.2.1.1 rg T.2.1.2.2.1 T.2.1.2.2.2 w true T.2.1.2.1 M hT.regs
  simp only [Rv.resvV] at hM
  obtain ⟨A, ⟨g, l, k, h⟩, tx, many⟩ := T
  have h2 := hR.rv
  have h4 := hR.many
  have h5 := hR.tx
  simp only at hM h2 h4 h5
  have hmE : Rv.mayE g l k h w = if Rv.whoB w = true then 0 else 1 := if_neg (fun h => h h2)
  generalize hS : tdoS (A, (g, l, k, h), tx, many) w o = S at *
  unfold tdoS at hS
  simp only at hS
  simp only [Proofs.Tryz.f6, tgC, opT, sd2, sd3, shs, zts, sos, sls, zss, eqs, sx, sb1, sb2, sb3, sb4, sb5, sb6, sb7, ↓reduceIte, zqa, zqb, zqc, zqd, zqe, zqf, reduceCtorEq, zra, zrb, zrc, zrd, zre, zrf, zrg, zrh, zri, zrj, zrk, zrl, zrm, zqg, nzs, hT.bag.one, hT.vols.row.one, hT.regs.one]
  refine CallK.pure ⟨rfl, rfl⟩ rfl hM ?_
  rw [hmE]
  have hkeep : ∀ (e : Int), S = ((A, (g, l, k, h), tx, many), e) → K ((d, true, .v (.int .i64 e)) :: σ) (H1 qc [.v b, .v v, .v (.int .i64 g), .v rg, .v (.int .i64 k), .v (.int .i64 h), .v (.string ⟨tx.toArray⟩), .v (.int .i64 many)]) M := fun e he => by
    subst he
    exact hk b v ws M (Mem.le.refl M) hT
  cases hw : Rv.whoB w with
  | false =>
    have e1 : hE (g, l, k, h) w true = 1 := if_pos hw
    rw [e1, if_pos (by decide)] at hS
    simp only [sd2, sd3, shs, zts, sos, sls, zss, eqs, sx, sb1, sb2, sb3, sb4, sb5, sb6, sb7, ↓reduceIte, zqa, zqb, zqc, zqd, zqe, zqf, reduceCtorEq, zra, zrb, zrc, zrd, zre, zrf, zrg, zrh, zri, zrj, zrk, zrl, zrm, zqg, nzs]
    exact hkeep 1 hS.symm
  | true =>
  have e1 : hE (g, l, k, h) w true = if Rv.mayB l k h w true = true then 0 else 9 := if_neg (by rw [hw]; decide)
  rw [e1] at hS
  cases hmb : Rv.mayB l k h w true with
  | false =>
    rw [hmb, if_pos (by decide), if_neg (by decide)] at hS
    simp only [sd2, sd3, shs, zts, sos, sls, zss, eqs, sx, sb1, sb2, sb3, sb4, sb5, sb6, sb7, ↓reduceIte, zqa, zqb, zqc, zqd, zqe, zqf, reduceCtorEq, zra, zrb, zrc, zrd, zre, zrf, zrg, zrh, zri, zrj, zrk, zrl, zrm, zqg, nzs, if_true, decide_true]
    exact hkeep 9 hS.symm
  | true =>
  rw [hmb, if_pos rfl, if_neg (fun h => h rfl)] at hS
  have hL := ldo b v A.1 ws o M hT.bag hT.vols
  rw [hT.vw] at hL
  simp only [stV, opT] at hL
  have hop : (doL A.1 A.2 o).2 = 0 → Lg.opE o = 0 := fun h => Decidable.of_not_not fun h1 => by
    have : doL A.1 A.2 o = (zSt, Lg.opE o) := if_pos h1
    rw [this] at h
    exact h1 h
  generalize doL A.1 A.2 o = D at *
  simp only [sd2, sd3, shs, zts, sos, sls, zss, eqs, sx, sb1, sb2, sb3, sb4, sb5, sb6, sb7, ↓reduceIte, zqa, zqb, zqc, zqd, zqe, zqf, reduceCtorEq, zra, zrb, zrc, zrd, zre, zrf, zrg, zrh, zri, zrj, zrk, zrl, zrm, zqg, nzs, if_true, decide_true]
  refine DrawK.ent (X := Value × Value × List WV × Mem) (fun z => (M.le z.2.2.2 ∧ z.2.2.1.map (·.2) = D.1.2) ∧ RowM z.2.2.2 z.1 4 (D.1.1.map Bg.encT) ∧ VolsM z.2.2.2 z.2.1 z.2.2.1) (fun z => ([(0, true, .ptr 8248 0 0 0), (5, true, .ptr 40 0 0 0), (8, true, .v (.int .i64 D.2)), (9, true, .ptr 72 0 0 0)],
    [(72, .box [.v z.1, .v z.2.1] none), (40, .box [.v (.int .i64 o.1), .v (.string ⟨o.2.1.toArray⟩), .v (.string ⟨o.2.2.1.toArray⟩), .v (.int .i64 o.2.2.2.1), .v (.string ⟨o.2.2.2.2.toArray⟩)] none), (8248, .box [.v b, .v v, .v (.int .i64 g), .v rg, .v (.int .i64 k), .v (.int .i64 h), .v (.string ⟨tx.toArray⟩), .v (.int .i64 many)] (some (xs 248)))], z.2.2.2)) ?_ ?_
  · refine DrawK.heldE [8248, 40] (tk [0, 4, 1, 2, 3] (.two 5 (tk [6, 7, 8] (.one 9 (.one 10 (tk [11] .done)))) 9 (.one 5 (tk [6, 7, 8] (.one 10 (tk [11] .done)))))) (by kernel_rfl) (by kernel_rfl) fun ys hy => ?_
    simp only [tieEq] at hy
    simp only [sd2, sd3, shs, zts, sos, sls, zss, eqs, sx, sb1, sb2, sb3, sb4, sb5, sb6, sb7, ↓reduceIte, zqa, zqb, zqc, zqd, zqe, zqf, reduceCtorEq, zra, zrb, zrc, zrd, zre, zrf, zrg, zrh, zri, zrj, zrk, zrl, zrm, zqg, nzs, se1, se2, tks, hT.bag.one, hT.vols.row.one, hy]
    refine ⟨?_, ?_⟩
    all_goals
      refine CallK.stM (T := fun s => .tup [s, .v (.int .i64 D.2)]) (fun _ _ => rfl) rfl rfl hL fun b5 v5 ws5 M5 hM5 hw5 hb5 hv5 => ?_
      simp only [shs, zts, sos, sls, zss, eqs, sx, sb1, sb2, sb3, sb4, sb5, sb6, sb7, ↓reduceIte, zqa, zqb, zqc, zqd, zqe, zqf, reduceCtorEq, zra, zrb, zrc, zrd, zre, zrf, zrg, zrh, zri, zrj, zrk, zrl, zrm, zqg, nzs, se1, se2, tks, stV, hb5.one, hv5.row.one, hM5, hy]
      exact ⟨(b5, v5, ws5, M5), ⟨⟨hM5, hw5⟩, hb5, hv5⟩, Ent.heap (HEnt.untie (k := 40) rfl) (Ent.of (by simp only [sx, sb1, sb2, sb3, sb4, sb5, sb6, sb7, ↓reduceIte, zqa, zqb, zqc, zqd, zqe, zqf, reduceCtorEq, zra, zrb, zrc, zrd, zre, zrf, zrg, zrh, zri, zrj, zrk, zrl, zrm, zqg, hset]))⟩
  rintro ⟨b2, v2, ws2, M2⟩ ⟨⟨hM2, hw2⟩, hb2, hv2⟩
  simp only at hM2 hw2 hb2 hv2
  have hkeep2 : ∀ (e : Int), S = ((A, (g, l, k, h), tx, many), e) → K ((d, true, .v (.int .i64 e)) :: σ) (H1 qc [.v b, .v v, .v (.int .i64 g), .v rg, .v (.int .i64 k), .v (.int .i64 h), .v (.string ⟨tx.toArray⟩), .v (.int .i64 many)]) M2 := fun e he => by
    subst he
    exact hk b v ws M2 hM2 (hT.le hM2)
  by_cases h6 : D.2 = 0
  rotate_left
  · have c6 := eq_false h6
    rw [if_pos h6] at hS
    simp only [sd2, sd3, shs, zts, sos, sls, zss, eqs, sx, sb1, sb2, sb3, sb4, sb5, sb6, sb7, ↓reduceIte, zqa, zqb, zqc, zqd, zqe, zqf, reduceCtorEq, zra, zrb, zrc, zrd, zre, zrf, zrg, zrh, zri, zrj, zrk, zrl, zrm, zqg, nzs, c6]
    exact hkeep2 _ hS.symm
  rw [if_neg (fun h => h h6)] at hS
  have hop2 := hop h6
  by_cases h7 : many = 200
  · have c7 : ((many : Int) = 200) = True := eq_true (by omega)
    rw [if_pos h7] at hS
    simp only [sd2, sd3, shs, zts, sos, sls, zss, eqs, sx, sb1, sb2, sb3, sb4, sb5, sb6, sb7, ↓reduceIte, zqa, zqb, zqc, zqd, zqe, zqf, reduceCtorEq, zra, zrb, zrc, zrd, zre, zrf, zrg, zrh, zri, zrj, zrk, zrl, zrm, zqg, nzs, h6, c7]
    exact hkeep2 _ hS.symm
  have c7 : ((many : Int) = 200) = False := eq_false (by omega)
  rw [if_neg h7] at hS
  subst hS
  have hEn := Lg.encodeW o M2
  rw [hop2, if_pos rfl] at hEn
  simp only [Lg.opV] at hEn
  obtain ⟨p1, p2⟩ := put_body hop2
  have hP := Fr.put 1 (Lg.bodyS o) M2 (body_max hop2)
  rw [p1, p2] at hP
  simp only [Fr.frV] at hP
  have hfl := frO_len hop2
  simp only [sd2, sd3, shs, zts, sos, sls, zss, eqs, sx, sb1, sb2, sb3, sb4, sb5, sb6, sb7, ↓reduceIte, zqa, zqb, zqc, zqd, zqe, zqf, reduceCtorEq, zra, zrb, zrc, zrd, zre, zrf, zrg, zrh, zri, zrj, zrk, zrl, zrm, zqg, nzs, h6, c7]
  refine CallK.pure ⟨rfl, rfl⟩ rfl hEn ?_
  simp only [sd2, sd3, shs, zts, sos, sls, zss, eqs, sx, sb1, sb2, sb3, sb4, sb5, sb6, sb7, ↓reduceIte, zqa, zqb, zqc, zqd, zqe, zqf, reduceCtorEq, zra, zrb, zrc, zrd, zre, zrf, zrg, zrh, zri, zrj, zrk, zrl, zrm, zqg, nzs]
  refine CallK.pure ⟨rfl, rfl⟩ rfl hP ?_
  simp only [sd2, sd3, shs, zts, sos, sls, zss, eqs, sx, sb1, sb2, sb3, sb4, sb5, sb6, sb7, ↓reduceIte, zqa, zqb, zqc, zqd, zqe, zqf, reduceCtorEq, zra, zrb, zrc, zrd, zre, zrf, zrg, zrh, zri, zrj, zrk, zrl, zrm, zqg, nzs]
  refine DrawK.heldE [72] (tk [0, 1, 2, 3, 4, 8, 10, 5, 11, 6, 12] (.two 7 (tk [9] (.one 13 (tk [14, 15, 16] (.one 17 (tk [18, 19] (.one 20 (tk [21, 22] (.one 23 .done)))))))) 13 (tk [14] (.one 7 (tk [9, 15, 16] (.one 17 (tk [18, 19] (.one 20 (tk [21, 22] (.one 23 .done)))))))))) (by kernel_rfl) (by kernel_rfl) fun ys hy => ?_
  simp only [tieEq] at hy
  simp only [sd2, sd3, shs, zts, sos, sls, zss, eqs, sx, sb1, sb2, sb3, sb4, sb5, sb6, sb7, ↓reduceIte, zqa, zqb, zqc, zqd, zqe, zqf, reduceCtorEq, zra, zrb, zrc, zrd, zre, zrf, zrg, zrh, zri, zrj, zrk, zrl, zrm, zqg, nzs, se1, se2, tks, hb2.one, hv2.row.one, hT.regs.one, hy, inK, lo, hi]
  have hK := hk b2 v2 ws2 M2 hM2 ⟨hb2, hv2, hw2, hT.regs.le hM2⟩
  simp only [tgC, Int.natCast_add, zrl] at hK
  exact ⟨⟨by omega, ⟨by omega, by omega⟩, hK⟩, ⟨by omega, by omega⟩, by omega, hK⟩
theorem tregisterK1 (hd : decide (d < N) = true) (w x y : Int) (hT : TgM M T b v rg ws)
    (hk : ∀ rg' M', M.le M' → TgM M' (trvS T (Rv.regS T.2.1.1 T.2.1.2.1 T.2.1.2.2.1 T.2.1.2.2.2 w x y)) b v rg' ws → K ((d, true, .v (.int .i64 (Rv.regS T.2.1.1 T.2.1.2.1 T.2.1.2.2.1 T.2.1.2.2.2 w x y).1)) :: σ) (H1 qc (tgC (trvS T (Rv.regS T.2.1.1 T.2.1.2.1 T.2.1.2.2.1 T.2.1.2.2.2 w x y)) b v rg')) M') :
    CallK ⟨Proofs.Tryz.prog, N, w0, M0⟩ 7 [.ptr 248 0 0 0, .v (.int .i64 w), .v (.int .i64 x), .v (.int .i64 y)] d K σ (H1 qc (tgC T b v rg)) M := by
  refine CallK.lendB 8000 [0,1,2,3,8] Proofs.Tryz.func7 rfl (by kernel_rfl) hd (by simp only [lentB, tgC, SV.concs, SV.conc, Bool.and_self]) fun xs => ?_
  obtain ⟨A, ⟨g, l, k, h⟩, tx, many⟩ := T
  have hM := Rv.register g rg k h w x y l M hT.regs
  simp only [Rv.rsv, Rv.resR] at hM
  generalize Rv.regS g l k h w x y = S at *
  simp only [Proofs.Tryz.f7, tgC, sd2, sd3, shs, zts, sos, sls, zss, eqs, sx, sb1, sb2, sb3, sb4, sb5, sb6, sb7, ↓reduceIte, zqa, zqb, zqc, zqd, zqe, zqf, reduceCtorEq, zra, zrb, zrc, zrd, zre, zrf, zrg, zrh, zri, zrj, zrk, zrl, zrm, zqg, nzs, hT.bag.one, hT.vols.row.one, hT.regs.one]
  refine CallK.row (Rv.ctxT S) rfl rfl hM fun rg' M1 hM1 hrg => ?_
  simp only [Rv.rsT, Rv.rsv, sd2, sd3, shs, zts, sos, sls, zss, eqs, sx, sb1, sb2, sb3, sb4, sb5, sb6, sb7, ↓reduceIte, zqa, zqb, zqc, zqd, zqe, zqf, reduceCtorEq, zra, zrb, zrc, zrd, zre, zrf, zrg, zrh, zri, zrj, zrk, zrl, zrm, zqg, nzs]
  refine CallK.lendB 8000 [0,1,2,4,6,8] Proofs.Tryz.func19 rfl (by kernel_rfl) rfl (by simp only [lentB, SV.concs, SV.conc, Bool.and_self]) fun ys => ?_
  by_cases h1 : S.1 = 0
  · have e1 : trvS (A, (g, l, k, h), tx, many) S = (A, S.2, tx, many) := if_pos h1
    rw [e1] at hk
    have hk1 := hk rg' M1 hM1 ⟨hT.bag.le hM1, hT.vols.le hM1, hT.vw, hrg⟩
    simp only [tgC] at hk1
    rw [h1] at hk1
    simp only [Proofs.Tryz.f19, sd2, sd3, shs, zts, sos, sls, zss, eqs, sx, sb1, sb2, sb3, sb4, sb5, sb6, sb7, ↓reduceIte, zqa, zqb, zqc, zqd, zqe, zqf, reduceCtorEq, zra, zrb, zrc, zrd, zre, zrf, zrg, zrh, zri, zrj, zrk, zrl, zrm, zqg, nzs, hrg.one, h1, oneVs hrg.sl]
    exact hk1
  · have c1 := eq_false h1
    have e1 : trvS (A, (g, l, k, h), tx, many) S = (A, (g, l, k, h), tx, many) := if_neg h1
    rw [e1] at hk
    have hk1 := hk rg M1 hM1 (hT.le hM1)
    simp only [tgC] at hk1
    simp only [Proofs.Tryz.f19, sd2, sd3, shs, zts, sos, sls, zss, eqs, sx, sb1, sb2, sb3, sb4, sb5, sb6, sb7, ↓reduceIte, zqa, zqb, zqc, zqd, zqe, zqf, reduceCtorEq, zra, zrb, zrc, zrd, zre, zrf, zrg, zrh, zri, zrj, zrk, zrl, zrm, zqg, nzs, hrg.one, c1]
    exact hk1
theorem treserveK1 (hd : decide (d < N) = true) (w x y : Int) (hT : TgM M T b v rg ws)
    (hk : ∀ rg' M', M.le M' → TgM M' (trvS T (Rv.rsvS T.2.1.1 T.2.1.2.1 T.2.1.2.2.1 T.2.1.2.2.2 w x y)) b v rg' ws → K ((d, true, .v (.int .i64 (Rv.rsvS T.2.1.1 T.2.1.2.1 T.2.1.2.2.1 T.2.1.2.2.2 w x y).1)) :: σ) (H1 qc (tgC (trvS T (Rv.rsvS T.2.1.1 T.2.1.2.1 T.2.1.2.2.1 T.2.1.2.2.2 w x y)) b v rg')) M') :
    CallK ⟨Proofs.Tryz.prog, N, w0, M0⟩ 8 [.ptr 248 0 0 0, .v (.int .i64 w), .v (.int .i64 x), .v (.int .i64 y)] d K σ (H1 qc (tgC T b v rg)) M := by
  refine CallK.lendB 8000 [0,1,2,3,8] Proofs.Tryz.func8 rfl (by kernel_rfl) hd (by simp only [lentB, tgC, SV.concs, SV.conc, Bool.and_self]) fun xs => ?_
  obtain ⟨A, ⟨g, l, k, h⟩, tx, many⟩ := T
  have hM := Rv.reserve g rg k h w x y l M hT.regs
  simp only [Rv.rsv, Rv.resR] at hM
  generalize Rv.rsvS g l k h w x y = S at *
  simp only [Proofs.Tryz.f8, tgC, sd2, sd3, shs, zts, sos, sls, zss, eqs, sx, sb1, sb2, sb3, sb4, sb5, sb6, sb7, ↓reduceIte, zqa, zqb, zqc, zqd, zqe, zqf, reduceCtorEq, zra, zrb, zrc, zrd, zre, zrf, zrg, zrh, zri, zrj, zrk, zrl, zrm, zqg, nzs, hT.bag.one, hT.vols.row.one, hT.regs.one]
  refine CallK.row (Rv.ctxT S) rfl rfl hM fun rg' M1 hM1 hrg => ?_
  simp only [Rv.rsT, Rv.rsv, sd2, sd3, shs, zts, sos, sls, zss, eqs, sx, sb1, sb2, sb3, sb4, sb5, sb6, sb7, ↓reduceIte, zqa, zqb, zqc, zqd, zqe, zqf, reduceCtorEq, zra, zrb, zrc, zrd, zre, zrf, zrg, zrh, zri, zrj, zrk, zrl, zrm, zqg, nzs]
  refine CallK.lendB 8000 [0,1,2,4,6,8] Proofs.Tryz.func19 rfl (by kernel_rfl) rfl (by simp only [lentB, SV.concs, SV.conc, Bool.and_self]) fun ys => ?_
  by_cases h1 : S.1 = 0
  · have e1 : trvS (A, (g, l, k, h), tx, many) S = (A, S.2, tx, many) := if_pos h1
    rw [e1] at hk
    have hk1 := hk rg' M1 hM1 ⟨hT.bag.le hM1, hT.vols.le hM1, hT.vw, hrg⟩
    simp only [tgC] at hk1
    rw [h1] at hk1
    simp only [Proofs.Tryz.f19, sd2, sd3, shs, zts, sos, sls, zss, eqs, sx, sb1, sb2, sb3, sb4, sb5, sb6, sb7, ↓reduceIte, zqa, zqb, zqc, zqd, zqe, zqf, reduceCtorEq, zra, zrb, zrc, zrd, zre, zrf, zrg, zrh, zri, zrj, zrk, zrl, zrm, zqg, nzs, hrg.one, h1, oneVs hrg.sl]
    exact hk1
  · have c1 := eq_false h1
    have e1 : trvS (A, (g, l, k, h), tx, many) S = (A, (g, l, k, h), tx, many) := if_neg h1
    rw [e1] at hk
    have hk1 := hk rg M1 hM1 (hT.le hM1)
    simp only [tgC] at hk1
    simp only [Proofs.Tryz.f19, sd2, sd3, shs, zts, sos, sls, zss, eqs, sx, sb1, sb2, sb3, sb4, sb5, sb6, sb7, ↓reduceIte, zqa, zqb, zqc, zqd, zqe, zqf, reduceCtorEq, zra, zrb, zrc, zrd, zre, zrf, zrg, zrh, zri, zrj, zrk, zrl, zrm, zqg, nzs, hrg.one, c1]
    exact hk1
theorem tresvK1 (hd : decide (d < N) = true) (hT : TgM M T b v rg ws) (hR : TgR T)
    (hk : ∀ y M', M.le M' → RowM M' y 2 (T.2.1.2.1.map Rv.encR) → K ((d, true, .agg [.v (.int .i64 T.2.1.1), .v y, .v (.int .i64 T.2.1.2.2.1), .v (.int .i64 T.2.1.2.2.2)]) :: σ) (H1 qc (tgC T b v rg)) M') :
    CallK ⟨Proofs.Tryz.prog, N, w0, M0⟩ 14 [.ptr 248 0 0 0] d K σ (H1 qc (tgC T b v rg)) M := by
  refine CallK.lendBR 8000 (fun s => .agg [.v (.int .i64 T.2.1.1), s, .v (.int .i64 T.2.1.2.2.1), .v (.int .i64 T.2.1.2.2.2)]) (fun s s' ν ν' h => by simp only [SV.val, SV.vals, h]) [0,2,3] Proofs.Tryz.func14 rfl (by kernel_rfl) hd (by simp only [lentB, tgC, SV.concs, SV.conc, Bool.and_self]) fun xs => ?_
  obtain ⟨A, ⟨g, l, k, h⟩, tx, many⟩ := T
  have hs := hR.rv
  simp only at hs
  have h8 := Rv.len8 (Rv.resvE_ok hs).2.1
  obtain ⟨q1, q2⟩ := hT.regs.rows (by omega)
  simp only at q1 q2
  simp only [tgC] at hk
  simp only [Proofs.Tryz.f14, tgC, sd2, sd3, shs, zts, sos, sls, zss, eqs, sx, sb1, sb2, sb3, sb4, sb5, sb6, sb7, ↓reduceIte, zqa, zqb, zqc, zqd, zqe, zqf, reduceCtorEq, zra, zrb, zrc, zrd, zre, zrf, zrg, zrh, zri, zrj, zrk, zrl, zrm, zqg, nzs, hT.regs.one, hT.regs.sl, q1, List.length_map]
  refine ⟨⟨⟨by omega, by omega⟩, q2⟩, 80, 2, _, rfl, rfl, fun y M'' hM'' hy => ?_⟩
  simp only [sp1, sp2, sp3, sd2, sd3, shs, zts, sos, sls, zss, eqs, sx, sb1, sb2, sb3, sb4, sb5, sb6, sb7, ↓reduceIte, zqa, zqb, zqc, zqd, zqe, zqf, reduceCtorEq, zra, zrb, zrc, zrd, zre, zrf, zrg, zrh, zri, zrj, zrk, zrl, zrm, zqg, nzs]
  exact hk y M'' hM'' hy
end
end Go.X.Th

namespace Go.X
open Go Go.RowKit
section
variable {E : Env} {σ : Sig} {H : HS} {M : Mem} {K : KP}
theorem Rep.back {d : Nat} {v : Value} {s : SV} {a : Act} {ν ν2 : Nat → Value} (hd : decide (d < E.N) = true) (hs : Slots E.N ν σ a) (hs2 : Slots E.N ν2 [(d, true, s)] (a.put (some d) v)) (hc : s.conc = true) : Slots E.N ν ((d, true, s) :: σ) (a.put (some d) v) := by
  have hv : v = s.val ν := by
    have h1 := hs2.2.2 d true s (by simp [lk])
    have h2 : d < a.tmps.size := by rw [hs.1]; exact of_decide_eq_true hd
    have h3 : (a.put (some d) v).tmps[d]? = some v := by simp [Act.put, h2]
    rw [h3, Option.some.injEq] at h1
    rw [h1, cond_true]
    exact SV.conc_val s hc
  exact hs.put (of_decide_eq_true hd) (by rw [cond_true]; exact hv)
theorem CallK.ren1 {f d : Nat} {A : SV → List SV} {tc : List SV} {t : Option Value} {R : SV → List SV → Mem → Prop} (k : Nat) (hA : Ctxs A) (hd : decide (d < E.N) = true) (htc : SV.concs tc = true)
    (L : ∀ (q : Option Value) (K0 : KP), (∀ s tc' M', R s tc' M' → K0 [(d, true, s)] [(248, .box tc' q)] M') → CallK E f (A (.ptr 248 0 0 0)) d K0 [] [(248, .box tc q)] M)
    (hR : ∀ s tc' M', R s tc' M' → s.conc = true ∧ SV.concs tc' = true)
    (hK : ∀ s tc' M', R s tc' M' → K ((d, true, s) :: σ) [(k, .box tc' t)] M') : CallK E f (A (.ptr k 0 0 0)) d K σ [(k, .box tc t)] M := by
  intro ν a w hs hh
  obtain ⟨⟨b, T, e1, e2⟩, e3⟩ := hh.holds (k, .box tc t) List.mem_cons_self
  let ν1 : Nat → Value := fun j => if j = 248 then ν k else .bool false
  have hν1 : ν1 248 = ν k := by simp [ν1]
  have hfp : fp ν1 [(248, PO.box tc (some (ν k)))] = fp ν [(k, PO.box tc t)] := by simp only [fp, List.filterMap_cons, List.filterMap_nil, hν1]
  have hh1 : Heap E ν1 [(248, .box tc (some (ν k)))] M w := by
    refine ⟨fun p hp => ?_, by rw [hfp]; exact hh.nodup, by rw [hfp]; exact hh.apart, hh.mem, hh.below, hh.le0, hh.fresh, fun j => ?_⟩
    · simp only [List.mem_singleton] at hp
      subst hp
      refine ⟨⟨b, T, by rw [hν1]; exact e1, ?_⟩, fun v hv => by cases hv; exact hν1⟩
      rw [e2, SV.concs_vals (ν := ν) (ν' := ν1) tc htc]
    · by_cases hj : j = 248
      · simp only [ν1, hj, if_true]; exact hh.one k
      · simp only [ν1, hj, if_false]; rfl
  have hl := L (some (ν k)) (fun σ' H' M' => ∃ s tc', σ' = [(d, true, s)] ∧ H' = [(248, .box tc' (some (ν k)))] ∧ R s tc' M') (fun s tc' M' h => ⟨s, tc', rfl, rfl, h⟩) ν1 a w ⟨hs.1, hs.2.1, fun j g s h => by simp [lk] at h⟩ hh1
  rw [hA (.ptr 248 0 0 0) (.ptr k 0 0 0) ν1 ν (by simp only [SV.val, hν1])] at hl
  have key : ∀ v w', (∃ σ' H' M', Rep E σ' H' M' (a.put (some d) v) w' ∧ ∃ s tc', σ' = [(d, true, s)] ∧ H' = [(248, .box tc' (some (ν k)))] ∧ R s tc' M') → ∃ σ' H' M', Rep E σ' H' M' (a.put (some d) v) w' ∧ K σ' H' M' := by
    rintro v w' ⟨_, _, M', ⟨ν2, hs2, hh2⟩, s, tc', rfl, rfl, hr⟩
    obtain ⟨c1, c2⟩ := hR s tc' M' hr
    refine ⟨_, _, M', ⟨ν, Rep.back hd hs hs2 c1, ?_⟩, hK s tc' M' hr⟩
    obtain ⟨⟨b2, T2, q1, q2⟩, q3⟩ := hh2.holds (248, .box tc' (some (ν k))) List.mem_cons_self
    have hν2 : ν2 248 = ν k := q3 _ rfl
    have hfp2 : fp ν [(k, PO.box tc' t)] = fp ν2 [(248, PO.box tc' (some (ν k)))] := by simp only [fp, List.filterMap_cons, List.filterMap_nil, hν2]
    refine ⟨fun p hp => ?_, by rw [hfp2]; exact hh2.nodup, by rw [hfp2]; exact hh2.apart, hh2.mem, hh2.below, hh2.le0, hh2.fresh, hh.one⟩
    simp only [List.mem_singleton] at hp
    subst hp
    refine ⟨⟨b2, T2, by rw [← hν2]; exact q1, ?_⟩, e3⟩
    rw [q2, SV.concs_vals (ν := ν2) (ν' := ν) tc' c2]
  rcases hl with ⟨h1, h2⟩ | ⟨v, w', h1, h2⟩
  · exact .inl ⟨h1, h2.mono fun e w' ⟨v, he, hx⟩ => ⟨v, he, key v w' hx⟩⟩
  · exact .inr ⟨v, w', h1, key v w' h2⟩
theorem CallK.ren3 {f d : Nat} {A : SV → List SV} {oc rc tc : List SV} {t1 t2 t3 : Option Value} {R : SV → List SV → Mem → Prop} (k1 k2 k3 : Nat) (hA : Ctxs A) (hd : decide (d < E.N) = true) (hcs : (SV.concs oc && (SV.concs rc && SV.concs tc)) = true)
    (L : ∀ (qa qb qc : Option Value) (K0 : KP), (∀ s tc' M', R s tc' M' → K0 [(d, true, s)] [(104, .box oc qa), (264, .box rc qb), (248, .box tc' qc)] M') → CallK E f (A (.ptr 248 0 0 0)) d K0 [] [(104, .box oc qa), (264, .box rc qb), (248, .box tc qc)] M)
    (hR : ∀ s tc' M', R s tc' M' → s.conc = true ∧ SV.concs tc' = true)
    (hK : ∀ s tc' M', R s tc' M' → K ((d, true, s) :: σ) [(k1, .box oc t1), (k2, .box rc t2), (k3, .box tc' t3)] M') : CallK E f (A (.ptr k3 0 0 0)) d K σ [(k1, .box oc t1), (k2, .box rc t2), (k3, .box tc t3)] M := by
  simp only [Bool.and_eq_true] at hcs
  obtain ⟨hoc, hrc, htc⟩ := hcs
  intro ν a w hs hh
  have p1 := hh.holds (k1, .box oc t1) (by simp)
  have p2 := hh.holds (k2, .box rc t2) (by simp)
  have p3 := hh.holds (k3, .box tc t3) (by simp)
  let ν1 : Nat → Value := fun j => if j = 104 then ν k1 else if j = 264 then ν k2 else if j = 248 then ν k3 else .bool false
  have n1 : ν1 104 = ν k1 := by simp [ν1]
  have n2 : ν1 264 = ν k2 := by simp [ν1]
  have n3 : ν1 248 = ν k3 := by simp [ν1]
  have hfp : ∀ (t1' t2' t3' : Option Value) (tc' : List SV), fp ν1 [(104, PO.box oc t1'), (264, PO.box rc t2'), (248, PO.box tc' t3')] = fp ν [(k1, PO.box oc t1), (k2, PO.box rc t2), (k3, PO.box tc t3)] := fun _ _ _ _ => by simp only [fp, List.filterMap_cons, List.filterMap_nil, n1, n2, n3]
  have tr : ∀ {x y : Value} {cs : List SV} {t : Option Value} {ν ν' : Nat → Value} {w : World}, SV.concs cs = true → x = y → (PO.box cs t).holds ν w x → (PO.box cs (some y)).holds ν' w y := fun {x y cs t ν ν' w} hc hxy h => by
    subst hxy
    obtain ⟨⟨b, T, e1, e2⟩, _⟩ := h
    exact ⟨⟨b, T, e1, by rw [e2, SV.concs_vals (ν := ν) (ν' := ν') cs hc]⟩, fun v hv => by cases hv; rfl⟩
  have hh1 : Heap E ν1 [(104, .box oc (some (ν k1))), (264, .box rc (some (ν k2))), (248, .box tc (some (ν k3)))] M w := by
    refine ⟨fun p hp => ?_, by rw [hfp]; exact hh.nodup, by rw [hfp]; exact hh.apart, hh.mem, hh.below, hh.le0, hh.fresh, fun j => ?_⟩
    · simp only [List.mem_cons, List.not_mem_nil, or_false] at hp
      rcases hp with rfl | rfl | rfl
      · rw [n1]; exact tr hoc rfl p1
      · rw [n2]; exact tr hrc rfl p2
      · rw [n3]; exact tr htc rfl p3
    · simp only [ν1]
      split
      · exact hh.one k1
      · split
        · exact hh.one k2
        · split
          · exact hh.one k3
          · rfl
  have hl := L (some (ν k1)) (some (ν k2)) (some (ν k3)) (fun σ' H' M' => ∃ s tc', σ' = [(d, true, s)] ∧ H' = [(104, .box oc (some (ν k1))), (264, .box rc (some (ν k2))), (248, .box tc' (some (ν k3)))] ∧ R s tc' M') (fun s tc' M' h => ⟨s, tc', rfl, rfl, h⟩) ν1 a w ⟨hs.1, hs.2.1, fun j g s h => by simp [lk] at h⟩ hh1
  rw [hA (.ptr 248 0 0 0) (.ptr k3 0 0 0) ν1 ν (by simp only [SV.val, n3])] at hl
  have key : ∀ v w', (∃ σ' H' M', Rep E σ' H' M' (a.put (some d) v) w' ∧ ∃ s tc', σ' = [(d, true, s)] ∧ H' = [(104, .box oc (some (ν k1))), (264, .box rc (some (ν k2))), (248, .box tc' (some (ν k3)))] ∧ R s tc' M') → ∃ σ' H' M', Rep E σ' H' M' (a.put (some d) v) w' ∧ K σ' H' M' := by
    rintro v w' ⟨_, _, M', ⟨ν2, hs2, hh2⟩, s, tc', rfl, rfl, hr⟩
    obtain ⟨c1, c2⟩ := hR s tc' M' hr
    refine ⟨_, _, M', ⟨ν, Rep.back hd hs hs2 c1, ?_⟩, hK s tc' M' hr⟩
    have q1 := hh2.holds (104, .box oc (some (ν k1))) (by simp)
    have q2 := hh2.holds (264, .box rc (some (ν k2))) (by simp)
    have q3 := hh2.holds (248, .box tc' (some (ν k3))) (by simp)
    have m1 : ν2 104 = ν k1 := q1.2 _ rfl
    have m2 : ν2 264 = ν k2 := q2.2 _ rfl
    have m3 : ν2 248 = ν k3 := q3.2 _ rfl
    have hfp2 : fp ν [(k1, PO.box oc t1), (k2, PO.box rc t2), (k3, PO.box tc' t3)] = fp ν2 [(104, PO.box oc (some (ν k1))), (264, PO.box rc (some (ν k2))), (248, PO.box tc' (some (ν k3)))] := by simp only [fp, List.filterMap_cons, List.filterMap_nil, m1, m2, m3]
    have tb : ∀ {x y : Value} {cs : List SV} {t t' : Option Value} {ν ν' : Nat → Value} {w : World}, SV.concs cs = true → x = y → tieB t' y → (PO.box cs t).holds ν w x → (PO.box cs t').holds ν' w y := fun {x y cs t t' ν ν' w} hc hxy ht h => by
      subst hxy
      obtain ⟨⟨b, T, e1, e2⟩, _⟩ := h
      exact ⟨⟨b, T, e1, by rw [e2, SV.concs_vals (ν := ν) (ν' := ν') cs hc]⟩, ht⟩
    refine ⟨fun p hp => ?_, by rw [hfp2]; exact hh2.nodup, by rw [hfp2]; exact hh2.apart, hh2.mem, hh2.below, hh2.le0, hh2.fresh, hh.one⟩
    simp only [List.mem_cons, List.not_mem_nil, or_false] at hp
    rcases hp with rfl | rfl | rfl
    · exact tb hoc m1 p1.2 q1
    · exact tb hrc m2 p2.2 q2
    · exact tb c2 m3 p3.2 q3
  rcases hl with ⟨h1, h2⟩ | ⟨v, w', h1, h2⟩
  · exact .inl ⟨h1, h2.mono fun e w' ⟨v, he, hx⟩ => ⟨v, he, key v w' hx⟩⟩
  · exact .inr ⟨v, w', h1, key v w' h2⟩
end
end Go.X

namespace Go.X.Th
open Go Go.X Go.RowKit Go.X.Bg Go.X.Nm Go.X.Bp Go.X.Sb Go.X.Vo Go.X.Tg

section
variable {N : Nat} {w0 : World} {M0 M : Mem} {σ : Sig} {K : KP} {d : Nat} {t1 t2 t3 : Option Value} {oc rc : List SV} {T : TG} {b v rg : Value} {ws : List WV}
theorem do1 (k3 : Nat) (hd : decide (d < N) = true) (w : Int) (o : OpT) (hT : TgM M T b v rg ws) (hR : TgR T)
    (hk : ∀ b' v' ws' M', M.le M' → TgM M' (tdoS T w o).1 b' v' rg ws' → K ((d, true, .v (.int .i64 (tdoS T w o).2)) :: σ) [(k3, .box (tgC (tdoS T w o).1 b' v' rg) t3)] M') :
    CallK ⟨Proofs.Tryz.prog, N, w0, M0⟩ 6 [.ptr k3 0 0 0, .v (.int .i64 w), opT o] d K σ [(k3, .box (tgC T b v rg) t3)] M := by
  exact CallK.ren1 (A := fun s => [s, .v (.int .i64 w), opT o]) (tc := tgC T b v rg) (R := fun s tc' M' => ∃ b' v' ws', (M.le M' ∧ TgM M' (tdoS T w o).1 b' v' rg ws') ∧ s = .v (.int .i64 (tdoS T w o).2) ∧ tc' = tgC (tdoS T w o).1 b' v' rg) k3 (fun s s' ν ν' h => by simp only [opT, SV.vals, SV.val, h]) hd rfl
    (fun q K0 h => tdoK1 hd w o hT hR (fun b' v' ws' M' h1 h2 => h _ _ _ ⟨b', v', ws', ⟨h1, h2⟩, rfl, rfl⟩))
    (fun s tc' M' ⟨b', v', ws', _, h1, h2⟩ => by subst h1 h2; exact ⟨rfl, rfl⟩) (fun s tc' M' ⟨b', v', ws', ⟨h3, h4⟩, h1, h2⟩ => by subst h1 h2; exact hk b' v' ws' M' h3 h4)
theorem do3 (k1 k2 k3 : Nat) (hd : decide (d < N) = true) (hc : (SV.concs oc && SV.concs rc) = true) (w : Int) (o : OpT) (hT : TgM M T b v rg ws) (hR : TgR T)
    (hk : ∀ b' v' ws' M', M.le M' → TgM M' (tdoS T w o).1 b' v' rg ws' → K ((d, true, .v (.int .i64 (tdoS T w o).2)) :: σ) [(k1, .box oc t1), (k2, .box rc t2), (k3, .box (tgC (tdoS T w o).1 b' v' rg) t3)] M') :
    CallK ⟨Proofs.Tryz.prog, N, w0, M0⟩ 6 [.ptr k3 0 0 0, .v (.int .i64 w), opT o] d K σ [(k1, .box oc t1), (k2, .box rc t2), (k3, .box (tgC T b v rg) t3)] M := by
  simp only [Bool.and_eq_true] at hc
  exact CallK.ren3 (A := fun s => [s, .v (.int .i64 w), opT o]) (oc := oc) (rc := rc) (tc := tgC T b v rg) (R := fun s tc' M' => ∃ b' v' ws', (M.le M' ∧ TgM M' (tdoS T w o).1 b' v' rg ws') ∧ s = .v (.int .i64 (tdoS T w o).2) ∧ tc' = tgC (tdoS T w o).1 b' v' rg) k1 k2 k3 (fun s s' ν ν' h => by simp only [opT, SV.vals, SV.val, h]) hd (by rw [hc.1, hc.2]; rfl)
    (fun qa qb qc K0 h => tdoK hd hc.1 hc.2 w o hT hR (fun b' v' ws' M' h1 h2 => h _ _ _ ⟨b', v', ws', ⟨h1, h2⟩, rfl, rfl⟩))
    (fun s tc' M' ⟨b', v', ws', _, h1, h2⟩ => by subst h1 h2; exact ⟨rfl, rfl⟩) (fun s tc' M' ⟨b', v', ws', ⟨h3, h4⟩, h1, h2⟩ => by subst h1 h2; exact hk b' v' ws' M' h3 h4)
theorem read3 (k1 k2 k3 : Nat) (hd : decide (d < N) = true) (hc : (SV.concs oc && SV.concs rc) = true) (w : Int) (n : Txt) (a : Int) (hT : TgM M T b v rg ws) (hR : TgR T)
    (hk : K ((d, true, .tup [.v (.string ⟨(trdS T w n a).1.toArray⟩), .v (.int .i64 (trdS T w n a).2)]) :: σ) [(k1, .box oc t1), (k2, .box rc t2), (k3, .box (tgC T b v rg) t3)] M) :
    CallK ⟨Proofs.Tryz.prog, N, w0, M0⟩ 10 [.ptr k3 0 0 0, .v (.int .i64 w), .v (.string ⟨n.toArray⟩), .v (.int .i64 a)] d K σ [(k1, .box oc t1), (k2, .box rc t2), (k3, .box (tgC T b v rg) t3)] M := by
  simp only [Bool.and_eq_true] at hc
  exact CallK.ren3 (A := fun s => [s, .v (.int .i64 w), .v (.string ⟨n.toArray⟩), .v (.int .i64 a)]) (oc := oc) (rc := rc) (tc := tgC T b v rg) (R := fun s tc' M' => (M' = M ∧ s = .tup [.v (.string ⟨(trdS T w n a).1.toArray⟩), .v (.int .i64 (trdS T w n a).2)]) ∧ tc' = tgC T b v rg) k1 k2 k3 (fun s s' ν ν' h => by simp only [SV.vals, SV.val, h]) hd (by rw [hc.1, hc.2]; rfl)
    (fun qa qb qc K0 h => treadK hd hc.1 hc.2 w n a hT hR (h _ _ _ ⟨⟨rfl, rfl⟩, rfl⟩))
    (fun s tc' M' ⟨⟨_, h1⟩, h2⟩ => by subst h1 h2; exact ⟨rfl, rfl⟩) (fun s tc' M' ⟨⟨h0, h1⟩, h2⟩ => by subst h0 h1 h2; exact hk)
theorem register1 (k3 : Nat) (hd : decide (d < N) = true) (w x y : Int) (hT : TgM M T b v rg ws)
    (hk : ∀ rg' M', M.le M' → TgM M' (trvS T (Rv.regS T.2.1.1 T.2.1.2.1 T.2.1.2.2.1 T.2.1.2.2.2 w x y)) b v rg' ws → K ((d, true, .v (.int .i64 (Rv.regS T.2.1.1 T.2.1.2.1 T.2.1.2.2.1 T.2.1.2.2.2 w x y).1)) :: σ) [(k3, .box (tgC (trvS T (Rv.regS T.2.1.1 T.2.1.2.1 T.2.1.2.2.1 T.2.1.2.2.2 w x y)) b v rg') t3)] M') :
    CallK ⟨Proofs.Tryz.prog, N, w0, M0⟩ 7 [.ptr k3 0 0 0, .v (.int .i64 w), .v (.int .i64 x), .v (.int .i64 y)] d K σ [(k3, .box (tgC T b v rg) t3)] M := by
  exact CallK.ren1 (A := fun s => [s, .v (.int .i64 w), .v (.int .i64 x), .v (.int .i64 y)]) (tc := tgC T b v rg) (R := fun s tc' M' => ∃ rg', (M.le M' ∧ TgM M' (trvS T (Rv.regS T.2.1.1 T.2.1.2.1 T.2.1.2.2.1 T.2.1.2.2.2 w x y)) b v rg' ws) ∧ s = .v (.int .i64 (Rv.regS T.2.1.1 T.2.1.2.1 T.2.1.2.2.1 T.2.1.2.2.2 w x y).1) ∧ tc' = tgC (trvS T (Rv.regS T.2.1.1 T.2.1.2.1 T.2.1.2.2.1 T.2.1.2.2.2 w x y)) b v rg') k3 (fun s s' ν ν' h => by simp only [SV.vals, SV.val, h]) hd rfl
    (fun q K0 h => tregisterK1 hd w x y hT (fun rg' M' h1 h2 => h _ _ _ ⟨rg', ⟨h1, h2⟩, rfl, rfl⟩))
    (fun s tc' M' ⟨rg', _, h1, h2⟩ => by subst h1 h2; exact ⟨rfl, rfl⟩) (fun s tc' M' ⟨rg', ⟨h3, h4⟩, h1, h2⟩ => by subst h1 h2; exact hk rg' M' h3 h4)
theorem register3 (k1 k2 k3 : Nat) (hd : decide (d < N) = true) (hc : (SV.concs oc && SV.concs rc) = true) (w x y : Int) (hT : TgM M T b v rg ws)
    (hk : ∀ rg' M', M.le M' → TgM M' (trvS T (Rv.regS T.2.1.1 T.2.1.2.1 T.2.1.2.2.1 T.2.1.2.2.2 w x y)) b v rg' ws → K ((d, true, .v (.int .i64 (Rv.regS T.2.1.1 T.2.1.2.1 T.2.1.2.2.1 T.2.1.2.2.2 w x y).1)) :: σ) [(k1, .box oc t1), (k2, .box rc t2), (k3, .box (tgC (trvS T (Rv.regS T.2.1.1 T.2.1.2.1 T.2.1.2.2.1 T.2.1.2.2.2 w x y)) b v rg') t3)] M') :
    CallK ⟨Proofs.Tryz.prog, N, w0, M0⟩ 7 [.ptr k3 0 0 0, .v (.int .i64 w), .v (.int .i64 x), .v (.int .i64 y)] d K σ [(k1, .box oc t1), (k2, .box rc t2), (k3, .box (tgC T b v rg) t3)] M := by
  simp only [Bool.and_eq_true] at hc
  exact CallK.ren3 (A := fun s => [s, .v (.int .i64 w), .v (.int .i64 x), .v (.int .i64 y)]) (oc := oc) (rc := rc) (tc := tgC T b v rg) (R := fun s tc' M' => ∃ rg', (M.le M' ∧ TgM M' (trvS T (Rv.regS T.2.1.1 T.2.1.2.1 T.2.1.2.2.1 T.2.1.2.2.2 w x y)) b v rg' ws) ∧ s = .v (.int .i64 (Rv.regS T.2.1.1 T.2.1.2.1 T.2.1.2.2.1 T.2.1.2.2.2 w x y).1) ∧ tc' = tgC (trvS T (Rv.regS T.2.1.1 T.2.1.2.1 T.2.1.2.2.1 T.2.1.2.2.2 w x y)) b v rg') k1 k2 k3 (fun s s' ν ν' h => by simp only [SV.vals, SV.val, h]) hd (by rw [hc.1, hc.2]; rfl)
    (fun qa qb qc K0 h => tregisterK hd hc.1 hc.2 w x y hT (fun rg' M' h1 h2 => h _ _ _ ⟨rg', ⟨h1, h2⟩, rfl, rfl⟩))
    (fun s tc' M' ⟨rg', _, h1, h2⟩ => by subst h1 h2; exact ⟨rfl, rfl⟩) (fun s tc' M' ⟨rg', ⟨h3, h4⟩, h1, h2⟩ => by subst h1 h2; exact hk rg' M' h3 h4)
theorem reserve1 (k3 : Nat) (hd : decide (d < N) = true) (w x y : Int) (hT : TgM M T b v rg ws)
    (hk : ∀ rg' M', M.le M' → TgM M' (trvS T (Rv.rsvS T.2.1.1 T.2.1.2.1 T.2.1.2.2.1 T.2.1.2.2.2 w x y)) b v rg' ws → K ((d, true, .v (.int .i64 (Rv.rsvS T.2.1.1 T.2.1.2.1 T.2.1.2.2.1 T.2.1.2.2.2 w x y).1)) :: σ) [(k3, .box (tgC (trvS T (Rv.rsvS T.2.1.1 T.2.1.2.1 T.2.1.2.2.1 T.2.1.2.2.2 w x y)) b v rg') t3)] M') :
    CallK ⟨Proofs.Tryz.prog, N, w0, M0⟩ 8 [.ptr k3 0 0 0, .v (.int .i64 w), .v (.int .i64 x), .v (.int .i64 y)] d K σ [(k3, .box (tgC T b v rg) t3)] M := by
  exact CallK.ren1 (A := fun s => [s, .v (.int .i64 w), .v (.int .i64 x), .v (.int .i64 y)]) (tc := tgC T b v rg) (R := fun s tc' M' => ∃ rg', (M.le M' ∧ TgM M' (trvS T (Rv.rsvS T.2.1.1 T.2.1.2.1 T.2.1.2.2.1 T.2.1.2.2.2 w x y)) b v rg' ws) ∧ s = .v (.int .i64 (Rv.rsvS T.2.1.1 T.2.1.2.1 T.2.1.2.2.1 T.2.1.2.2.2 w x y).1) ∧ tc' = tgC (trvS T (Rv.rsvS T.2.1.1 T.2.1.2.1 T.2.1.2.2.1 T.2.1.2.2.2 w x y)) b v rg') k3 (fun s s' ν ν' h => by simp only [SV.vals, SV.val, h]) hd rfl
    (fun q K0 h => treserveK1 hd w x y hT (fun rg' M' h1 h2 => h _ _ _ ⟨rg', ⟨h1, h2⟩, rfl, rfl⟩))
    (fun s tc' M' ⟨rg', _, h1, h2⟩ => by subst h1 h2; exact ⟨rfl, rfl⟩) (fun s tc' M' ⟨rg', ⟨h3, h4⟩, h1, h2⟩ => by subst h1 h2; exact hk rg' M' h3 h4)
theorem reserve3 (k1 k2 k3 : Nat) (hd : decide (d < N) = true) (hc : (SV.concs oc && SV.concs rc) = true) (w x y : Int) (hT : TgM M T b v rg ws)
    (hk : ∀ rg' M', M.le M' → TgM M' (trvS T (Rv.rsvS T.2.1.1 T.2.1.2.1 T.2.1.2.2.1 T.2.1.2.2.2 w x y)) b v rg' ws → K ((d, true, .v (.int .i64 (Rv.rsvS T.2.1.1 T.2.1.2.1 T.2.1.2.2.1 T.2.1.2.2.2 w x y).1)) :: σ) [(k1, .box oc t1), (k2, .box rc t2), (k3, .box (tgC (trvS T (Rv.rsvS T.2.1.1 T.2.1.2.1 T.2.1.2.2.1 T.2.1.2.2.2 w x y)) b v rg') t3)] M') :
    CallK ⟨Proofs.Tryz.prog, N, w0, M0⟩ 8 [.ptr k3 0 0 0, .v (.int .i64 w), .v (.int .i64 x), .v (.int .i64 y)] d K σ [(k1, .box oc t1), (k2, .box rc t2), (k3, .box (tgC T b v rg) t3)] M := by
  simp only [Bool.and_eq_true] at hc
  exact CallK.ren3 (A := fun s => [s, .v (.int .i64 w), .v (.int .i64 x), .v (.int .i64 y)]) (oc := oc) (rc := rc) (tc := tgC T b v rg) (R := fun s tc' M' => ∃ rg', (M.le M' ∧ TgM M' (trvS T (Rv.rsvS T.2.1.1 T.2.1.2.1 T.2.1.2.2.1 T.2.1.2.2.2 w x y)) b v rg' ws) ∧ s = .v (.int .i64 (Rv.rsvS T.2.1.1 T.2.1.2.1 T.2.1.2.2.1 T.2.1.2.2.2 w x y).1) ∧ tc' = tgC (trvS T (Rv.rsvS T.2.1.1 T.2.1.2.1 T.2.1.2.2.1 T.2.1.2.2.2 w x y)) b v rg') k1 k2 k3 (fun s s' ν ν' h => by simp only [SV.vals, SV.val, h]) hd (by rw [hc.1, hc.2]; rfl)
    (fun qa qb qc K0 h => treserveK hd hc.1 hc.2 w x y hT (fun rg' M' h1 h2 => h _ _ _ ⟨rg', ⟨h1, h2⟩, rfl, rfl⟩))
    (fun s tc' M' ⟨rg', _, h1, h2⟩ => by subst h1 h2; exact ⟨rfl, rfl⟩) (fun s tc' M' ⟨rg', ⟨h3, h4⟩, h1, h2⟩ => by subst h1 h2; exact hk rg' M' h3 h4)
theorem release3 (k1 k2 k3 : Nat) (hd : decide (d < N) = true) (hc : (SV.concs oc && SV.concs rc) = true) (w x y : Int) (hT : TgM M T b v rg ws)
    (hk : ∀ rg' M', M.le M' → TgM M' (trvS T (Rv.relS T.2.1.1 T.2.1.2.1 T.2.1.2.2.1 T.2.1.2.2.2 w x y)) b v rg' ws → K ((d, true, .v (.int .i64 (Rv.relS T.2.1.1 T.2.1.2.1 T.2.1.2.2.1 T.2.1.2.2.2 w x y).1)) :: σ) [(k1, .box oc t1), (k2, .box rc t2), (k3, .box (tgC (trvS T (Rv.relS T.2.1.1 T.2.1.2.1 T.2.1.2.2.1 T.2.1.2.2.2 w x y)) b v rg') t3)] M') :
    CallK ⟨Proofs.Tryz.prog, N, w0, M0⟩ 11 [.ptr k3 0 0 0, .v (.int .i64 w), .v (.int .i64 x), .v (.int .i64 y)] d K σ [(k1, .box oc t1), (k2, .box rc t2), (k3, .box (tgC T b v rg) t3)] M := by
  simp only [Bool.and_eq_true] at hc
  exact CallK.ren3 (A := fun s => [s, .v (.int .i64 w), .v (.int .i64 x), .v (.int .i64 y)]) (oc := oc) (rc := rc) (tc := tgC T b v rg) (R := fun s tc' M' => ∃ rg', (M.le M' ∧ TgM M' (trvS T (Rv.relS T.2.1.1 T.2.1.2.1 T.2.1.2.2.1 T.2.1.2.2.2 w x y)) b v rg' ws) ∧ s = .v (.int .i64 (Rv.relS T.2.1.1 T.2.1.2.1 T.2.1.2.2.1 T.2.1.2.2.2 w x y).1) ∧ tc' = tgC (trvS T (Rv.relS T.2.1.1 T.2.1.2.1 T.2.1.2.2.1 T.2.1.2.2.2 w x y)) b v rg') k1 k2 k3 (fun s s' ν ν' h => by simp only [SV.vals, SV.val, h]) hd (by rw [hc.1, hc.2]; rfl)
    (fun qa qb qc K0 h => treleaseK hd hc.1 hc.2 w x y hT (fun rg' M' h1 h2 => h _ _ _ ⟨rg', ⟨h1, h2⟩, rfl, rfl⟩))
    (fun s tc' M' ⟨rg', _, h1, h2⟩ => by subst h1 h2; exact ⟨rfl, rfl⟩) (fun s tc' M' ⟨rg', ⟨h3, h4⟩, h1, h2⟩ => by subst h1 h2; exact hk rg' M' h3 h4)
theorem preempt3 (k1 k2 k3 : Nat) (hd : decide (d < N) = true) (hc : (SV.concs oc && SV.concs rc) = true) (w x y z : Int) (hT : TgM M T b v rg ws)
    (hk : ∀ rg' M', M.le M' → TgM M' (trvS T (Rv.preS T.2.1.1 T.2.1.2.1 T.2.1.2.2.1 T.2.1.2.2.2 w x y z)) b v rg' ws → K ((d, true, .v (.int .i64 (Rv.preS T.2.1.1 T.2.1.2.1 T.2.1.2.2.1 T.2.1.2.2.2 w x y z).1)) :: σ) [(k1, .box oc t1), (k2, .box rc t2), (k3, .box (tgC (trvS T (Rv.preS T.2.1.1 T.2.1.2.1 T.2.1.2.2.1 T.2.1.2.2.2 w x y z)) b v rg') t3)] M') :
    CallK ⟨Proofs.Tryz.prog, N, w0, M0⟩ 12 [.ptr k3 0 0 0, .v (.int .i64 w), .v (.int .i64 x), .v (.int .i64 y), .v (.int .i64 z)] d K σ [(k1, .box oc t1), (k2, .box rc t2), (k3, .box (tgC T b v rg) t3)] M := by
  simp only [Bool.and_eq_true] at hc
  exact CallK.ren3 (A := fun s => [s, .v (.int .i64 w), .v (.int .i64 x), .v (.int .i64 y), .v (.int .i64 z)]) (oc := oc) (rc := rc) (tc := tgC T b v rg) (R := fun s tc' M' => ∃ rg', (M.le M' ∧ TgM M' (trvS T (Rv.preS T.2.1.1 T.2.1.2.1 T.2.1.2.2.1 T.2.1.2.2.2 w x y z)) b v rg' ws) ∧ s = .v (.int .i64 (Rv.preS T.2.1.1 T.2.1.2.1 T.2.1.2.2.1 T.2.1.2.2.2 w x y z).1) ∧ tc' = tgC (trvS T (Rv.preS T.2.1.1 T.2.1.2.1 T.2.1.2.2.1 T.2.1.2.2.2 w x y z)) b v rg') k1 k2 k3 (fun s s' ν ν' h => by simp only [SV.vals, SV.val, h]) hd (by rw [hc.1, hc.2]; rfl)
    (fun qa qb qc K0 h => tpreemptK hd hc.1 hc.2 w x y z hT (fun rg' M' h1 h2 => h _ _ _ ⟨rg', ⟨h1, h2⟩, rfl, rfl⟩))
    (fun s tc' M' ⟨rg', _, h1, h2⟩ => by subst h1 h2; exact ⟨rfl, rfl⟩) (fun s tc' M' ⟨rg', ⟨h3, h4⟩, h1, h2⟩ => by subst h1 h2; exact hk rg' M' h3 h4)
theorem resv1 (k3 : Nat) (hd : decide (d < N) = true) (hT : TgM M T b v rg ws) (hR : TgR T)
    (hk : ∀ y M', M.le M' → RowM M' y 2 (T.2.1.2.1.map Rv.encR) → K ((d, true, .agg [.v (.int .i64 T.2.1.1), .v y, .v (.int .i64 T.2.1.2.2.1), .v (.int .i64 T.2.1.2.2.2)]) :: σ) [(k3, .box (tgC T b v rg) t3)] M') :
    CallK ⟨Proofs.Tryz.prog, N, w0, M0⟩ 14 [.ptr k3 0 0 0] d K σ [(k3, .box (tgC T b v rg) t3)] M := by
  exact CallK.ren1 (A := fun s => [s]) (tc := tgC T b v rg) (R := fun s tc' M' => ∃ y, (M.le M' ∧ RowM M' y 2 (T.2.1.2.1.map Rv.encR)) ∧ s = .agg [.v (.int .i64 T.2.1.1), .v y, .v (.int .i64 T.2.1.2.2.1), .v (.int .i64 T.2.1.2.2.2)] ∧ tc' = tgC T b v rg) k3 (fun s s' ν ν' h => by simp only [SV.vals, h]) hd rfl
    (fun q K0 h => tresvK1 hd hT hR (fun y M' h1 h2 => h _ _ _ ⟨y, ⟨h1, h2⟩, rfl, rfl⟩))
    (fun s tc' M' ⟨y, _, h1, h2⟩ => by subst h1 h2; exact ⟨rfl, rfl⟩) (fun s tc' M' ⟨y, ⟨h3, h4⟩, h1, h2⟩ => by subst h1 h2; exact hk y M' h3 h4)
end
end Go.X.Th

namespace Go.X.Th
open Go Go.X Go.RowKit Go.X.Bg Go.X.Nm Go.X.Bp Go.X.Sb Go.X.Vo Go.X.Tg

def Alone (q : RQ) : Prop := (q.2.2.1 = 3 ∧ q.2.2.2 = 3) ∧ Rv.resvE q.1 q.2.1 q.2.2.1 q.2.2.2 = 0 ∧ Rv.ky 3 q.2.1 = 9
theorem has3 (l : List (Int × Int)) (w : Int) : Rv.hasB l 3 3 w = decide (3 = w) := by
  unfold Rv.hasB
  rw [if_neg (by decide)]
  rfl
theorem alone_may {q : RQ} (h : Alone q) (w : Int) (wr : Bool) : Rv.mayB q.2.1 q.2.2.1 q.2.2.2 w wr = decide (3 = w) := by
  obtain ⟨⟨h1, h2⟩, _⟩ := h
  rw [h1, h2]
  unfold Rv.mayB
  rw [if_neg (by decide), if_neg (by decide), if_pos rfl, has3]
theorem alone_no {q : RQ} (h : Alone q) {w : Int} (hw : 0 ≤ w ∧ w ≤ 7) (h3 : w ≠ 3) (wr : Bool) : hE q w wr = 9 := by
  unfold hE
  rw [if_neg (by unfold Rv.whoB; simp [hw.1, hw.2]), alone_may h, decide_eq_false (fun e => h3 e.symm)]
  rfl
theorem alone_yes {q : RQ} (h : Alone q) (wr : Bool) : hE q 3 wr = 0 := by
  unfold hE
  rw [if_neg (by decide), alone_may h]
  rfl
theorem alone_trv {T : TG} {S : Rv.RS} (h : Alone T.2.1) (hS : S.1 = 0 → Alone S.2) : Alone (trvS T S).2.1 := by
  unfold trvS
  split
  · exact hS (by assumption)
  · exact h
theorem trv_st (T : TG) (S : Rv.RS) : (trvS T S).1 = T.1 := by
  unfold trvS
  split <;> rfl
theorem reg_alone {q : RQ} (h : Alone q) {w a b : Int} (hw : w ≠ 3) (he : (Rv.regS q.1 q.2.1 q.2.2.1 q.2.2.2 w a b).1 = 0) : Alone (Rv.regS q.1 q.2.1 q.2.2.1 q.2.2.2 w a b).2 := by
  have hr := reg_right he
  obtain ⟨g, l, k, ho⟩ := q
  obtain ⟨⟨h1, h2⟩, h3, h4⟩ := h
  simp only at h1 h2 h3 h4 he hr ⊢
  subst h1 h2
  refine ⟨?_, hr, ?_⟩ <;> unfold Rv.regS at he ⊢
  all_goals
    rw [if_neg (fun e => e h3)] at he ⊢
    by_cases c1 : Rv.whoB w = false ∨ (b < 0 ∨ 1000 < b)
    · rw [if_pos c1] at he; exact absurd he (by decide)
    rw [if_neg c1] at he ⊢
    by_cases c2 : Rv.ky w l ≠ a
    · rw [if_pos c2] at he; exact absurd he (by decide)
    rw [if_neg c2] at he ⊢
    by_cases c3 : g = 2147483647
    · rw [if_pos c3] at he; exact absurd he (by decide)
    rw [if_neg c3]
  · have hk : Rv.kF l 3 3 w b = false := by
      have e : decide ((3 : Int) = w) = false := decide_eq_false (fun e => hw e.symm)
      unfold Rv.kF
      rw [has3, e]
      rfl
    simp only [hk, Bool.false_eq_true, if_false, and_self]
  · simp only
    rw [(kr_ok (w := w) (okK_of h3).2.1 (by omega)).2 3 (by decide) (by decide), if_neg (fun e => hw e.symm)]
    exact h4
theorem rsv_alone {q : RQ} (h : Alone q) {w a : Int} (hw : w ≠ 3) : (Rv.rsvS q.1 q.2.1 q.2.2.1 q.2.2.2 w a 3).1 ≠ 0 := by
  obtain ⟨⟨h1, h2⟩, h3, h4⟩ := h
  unfold Rv.rsvS
  rw [h1, h2] at *
  by_cases c1 : Rv.keyE q.1 q.2.1 3 3 w a ≠ 0
  · rw [if_pos c1]; exact c1
  · rw [if_neg c1, if_neg (by decide), if_pos ⟨by decide, .inl (by rw [has3]; exact decide_eq_false (fun e => hw e.symm))⟩]
    decide
theorem rel_alone {q : RQ} (h : Alone q) {w a : Int} (hw : w ≠ 3) (he : (Rv.relS q.1 q.2.1 q.2.2.1 q.2.2.2 w a 3).1 = 0) : Alone (Rv.relS q.1 q.2.1 q.2.2.1 q.2.2.2 w a 3).2 := by
  have h0 := h
  obtain ⟨⟨h1, h2⟩, h3, h4⟩ := h
  unfold Rv.relS at he ⊢
  by_cases c1 : Rv.keyE q.1 q.2.1 q.2.2.1 q.2.2.2 w a ≠ 0
  · rw [if_pos c1] at he; exact absurd he c1
  · rw [if_neg c1, if_neg (by decide), if_pos (by rw [h1, h2, has3]; exact decide_eq_false (fun e => hw e.symm))]
    exact h0
theorem outS_alone {s : Rv.ST} {q : Int} (hs : Rv.srt 0 s.1) (h : s.2.1 = 3 ∧ s.2.2 = 3) (hq : q ≠ 3) : Rv.srt 0 (Rv.outS s q).1 ∧ ((Rv.outS s q).2.1 = 3 ∧ (Rv.outS s q).2.2 = 3) ∧ Rv.ky 3 (Rv.outS s q).1 = Rv.ky 3 s.1 := by
  obtain ⟨l, k, ho⟩ := s
  obtain ⟨h1, h2⟩ := h
  simp only at hs h1 h2
  subst h1 h2
  have hF : Rv.outF l 3 3 q = false := by
    unfold Rv.outF
    rw [has3, decide_eq_false (fun e => hq e.symm), Bool.false_and]
  refine ⟨Rv.srt_filter hs, by simp [Rv.outS, hF], ?_⟩
  have hf : Rv.ky 3 (Rv.outL l q) = if (3 : Int) = q then 0 else Rv.ky 3 l := Rv.ky_filter hs
  rw [if_neg (fun e => hq e.symm)] at hf
  exact hf
theorem strS_alone {w : Int} : ∀ (hs : List Int) (s : Rv.ST), Rv.srt 0 s.1 → (s.2.1 = 3 ∧ s.2.2 = 3) → (∀ q ∈ hs, q ≠ 3) → ((Rv.strS w s hs).2.1 = 3 ∧ (Rv.strS w s hs).2.2 = 3) ∧ Rv.ky 3 (Rv.strS w s hs).1 = Rv.ky 3 s.1
  | [], s, _, h2, _ => ⟨h2, rfl⟩
  | q :: r, s, h1, h2, h3 => by
    rw [Rv.strS]
    by_cases hq : q = w
    · rw [if_pos hq]
      exact strS_alone r s h1 h2 fun x hx => h3 x (List.mem_cons_of_mem _ hx)
    · rw [if_neg hq]
      obtain ⟨a1, a2, a3⟩ := outS_alone h1 h2 (h3 q List.mem_cons_self)
      obtain ⟨b1, b2⟩ := strS_alone (w := w) r _ a1 a2 fun x hx => h3 x (List.mem_cons_of_mem _ hx)
      exact ⟨b1, b2.trans a3⟩
theorem ky_mem {l : List (Int × Int)} {a : Int} (hs : Rv.srt a l) {x : Int × Int} (hx : x ∈ l) : Rv.ky x.1 l = x.2 := by
  induction l generalizing a with
  | nil => cases hx
  | cons y l ih =>
    obtain ⟨h1, h2, h3⟩ := hs
    rw [Rv.ky]
    rcases List.mem_cons.1 hx with rfl | hx
    · rw [if_pos rfl]
    · have hle : ∀ {m : List (Int × Int)} {b : Int}, Rv.srt b m → ∀ z ∈ m, b ≤ z.1 := by
        intro m
        induction m with
        | nil => intro b _ z hz; cases hz
        | cons u m ihm =>
          intro b ⟨g1, _, g3⟩ z hz
          rcases List.mem_cons.1 hz with rfl | hz
          · exact g1.1
          · have := ihm g3 z hz; omega
      have := hle h3 x hx
      rw [if_neg (by omega)]
      exact ih h3 hx
theorem hands_alone {l : List (Int × Int)} (hs : Rv.srt 0 l) (h : Rv.ky 3 l = 9) {b : Int} (hb : b ≠ 9) : ∀ q ∈ Rv.hands l b, q ≠ 3 := fun q hq e => by
  obtain ⟨x, hx, rfl⟩ := List.mem_map.1 hq
  obtain ⟨hx1, hx2⟩ := List.mem_filter.1 hx
  have := ky_mem hs hx1
  rw [e, h] at this
  simp only [decide_eq_true_eq] at hx2
  omega
theorem pre_alone {q : RQ} (h : Alone q) {w a b : Int} (hw : w ≠ 3) (hb : b ≠ 9) (he : (Rv.preS q.1 q.2.1 q.2.2.1 q.2.2.2 w a b 3).1 = 0) : Alone (Rv.preS q.1 q.2.1 q.2.2.1 q.2.2.2 w a b 3).2 := by
  have hr := pre_right he
  obtain ⟨g, l, k, ho⟩ := q
  obtain ⟨⟨h1, h2⟩, h3, h4⟩ := h
  simp only at h1 h2 h3 h4 he hr ⊢
  subst h1 h2
  have hs := (okK_of h3).2.1
  have hh := hands_alone hs h4 hb
  have hst := strS_alone (w := w) (Rv.hands l b) (l, 3, 3) hs ⟨rfl, rfl⟩ hh
  have htk : Rv.tookB 3 3 (Rv.hands l b) = false := by
    have : (Rv.hands l b).any (fun q => decide ((3 : Int) = q)) = false := by
      rw [List.any_eq_false]
      intro q hq
      have := hh q hq
      simp only [decide_eq_true_eq]
      exact fun e => this e.symm
    unfold Rv.tookB
    rw [this, Bool.and_false, Bool.and_false]
  refine ⟨?_, hr, ?_⟩ <;> unfold Rv.preS at he ⊢
  all_goals
    by_cases c1 : Rv.keyE g l 3 3 w a ≠ 0
    · rw [if_pos c1] at he; exact absurd he c1
    rw [if_neg c1] at he ⊢
    by_cases c2 : Rv.kindB 3 = false ∨ (b < 1 ∨ 1000 < b)
    · rw [if_pos c2] at he; exact absurd he (by decide)
    rw [if_neg c2] at he ⊢
    by_cases c3 : Rv.hands l b = []
    · rw [if_pos c3] at he; exact absurd he (by decide)
    rw [if_neg c3] at he ⊢
    by_cases c4 : g = 2147483647
    · rw [if_pos c4] at he; exact absurd he (by decide)
    rw [if_neg c4, if_neg (by rw [htk]; decide)]
  · exact hst.1
  · simp only
    rw [hst.2]
    exact h4
/-! ### what is written, what is read -/
def inA : Txt := [97]
def Wrote (A : St) (W : List Txt) : Prop := W.length = 4 ∧ ∃ X, lookV A inA = some X ∧ X.map (fun o => o.getD []) = W
structure Held (T : TG) (W : List Txt) : Prop where
  right : TgR T
  alone : Alone T.2.1
  wrote : Wrote T.1 W
theorem held_trv {T : TG} {W : List Txt} {S : Rv.RS} (h : Held T W) (h1 : S.1 = 0 → Rv.resvE S.2.1 S.2.2.1 S.2.2.2.1 S.2.2.2.2 = 0) (h2 : S.1 = 0 → Alone S.2) : Held (trvS T S) W := by
  refine ⟨?_, alone_trv h.alone h2, by rw [trv_st]; exact h.wrote⟩
  unfold trvS
  split
  · exact ⟨h.right.st, h1 (by assumption), h.right.tx, h.right.many⟩
  · exact h.right
theorem held_no {T : TG} {W : List Txt} (h : Held T W) {w : Int} (hw : 0 ≤ w ∧ w ≤ 7) (h3 : w ≠ 3) (o : OpT) : tdoS T w o = (T, 9) := by
  unfold tdoS
  rw [alone_no h.alone hw h3]
  rfl
theorem held_noR {T : TG} {W : List Txt} (h : Held T W) {w : Int} (hw : 0 ≤ w ∧ w ≤ 7) (h3 : w ≠ 3) (n : Txt) (a : Int) : trdS T w n a = ([], 9) := by
  unfold trdS
  rw [alone_no h.alone hw h3]
  rfl
theorem held_read {T : TG} {W : List Txt} (h : Held T W) {j : Nat} (hj : j < 4) : trdS T 3 inA (j : Int) = ((W[j]?).getD [], 0) := by
  obtain ⟨h1, X, h2, h3⟩ := h.wrote
  have hXl : X.length = 4 := by rw [← h1, ← h3, List.length_map]
  obtain ⟨o, ho⟩ : ∃ o, X[j]? = some o := ⟨_, List.getElem?_eq_getElem (by omega)⟩
  unfold trdS
  rw [alone_yes h.alone, if_neg (fun h => h rfl), rd_look (bag := T.1.1) (l := T.1.2) h.right.st h2 ho, pl_look (bag := T.1.1) (l := T.1.2) h.right.st h2 (by omega), ← h3, List.getElem?_map, ho]
  rfl
theorem held_write {T : TG} {W : List Txt} (h : Held T W) {j : Nat} (hj : j < 4) (s : Txt) :
    Held (tdoS T 3 (3, inA, [], (j : Int), s)).1 (if (tdoS T 3 (3, inA, [], (j : Int), s)).2 = 0 then W.set j s else W) := by
  have hr := tdo_right h.right 3 (3, inA, [], (j : Int), s)
  obtain ⟨h1, X, h2, h3⟩ := h.wrote
  unfold tdoS at hr ⊢
  rw [alone_yes h.alone, if_neg (fun h => h rfl)] at hr ⊢
  by_cases c1 : (doL T.1.1 T.1.2 (3, inA, [], (j : Int), s)).2 ≠ 0
  · rw [if_pos c1] at hr ⊢
    rw [if_neg c1]
    exact h
  rw [if_neg c1] at hr ⊢
  by_cases c2 : T.2.2.2 = 200
  · rw [if_pos c2] at hr ⊢
    rw [if_neg (fun e => by simp only at e; exact absurd e (by decide))]
    exact h
  rw [if_neg c2] at hr ⊢
  rw [if_pos rfl]
  refine ⟨hr, h.alone, ?_⟩
  have c3 := Classical.not_not.1 c1
  unfold doL at c3 ⊢
  by_cases c4 : Lg.opE (3, inA, [], (j : Int), s) ≠ 0
  · rw [if_pos c4] at c3; exact absurd c3 c4
  rw [if_neg c4] at c3 ⊢
  have hd : doA T.1.1 T.1.2 (3, inA, [], (j : Int), s) = writeA T.1.1 T.1.2 inA (j : Int) s := by
    unfold doA
    rw [if_neg (show ¬ ((3 : Int) = 1) by decide), if_neg (show ¬ ((3 : Int) = 2) by decide), if_neg (show ¬ ((3 : Int) = 5) by decide), if_neg (show ¬ ((3 : Int) = 4) by decide)]
  rw [hd] at c3 ⊢
  obtain ⟨Y, hY, hjl, hlk⟩ := look_writeA c3
  have hXY : lookV (T.1.1, T.1.2) inA = some X := h2
  rw [hXY] at hY
  cases hY
  have := hlk inA
  rw [if_pos rfl] at this
  refine ⟨by rw [List.length_set]; exact h1, _, this, ?_⟩
  rw [List.map_set, h3]
  rfl
end Go.X.Th

namespace Go.X.Tg
open Go Go.X Go.RowKit Go.X.Bg Go.X.Nm Go.X.Bp Go.X.Sb Go.X.Vo

def zTG : TG := (zSt, (0, [], 0, 0), [], 0)
def z0 : Value := .slice none 0 0
theorem zTG_right : TgR zTG := ⟨rfl, rfl, Nat.le_refl _, Nat.zero_le _⟩
theorem zTG_mem (M : Mem) : TgM M zTG z0 z0 z0 [] := ⟨RowM.nil _ _, (zero_volsM M).2, rfl, RowM.nil _ _⟩
theorem new (M : Mem) : Meets Proofs.Tryz.prog 4 [] M (NewB (tgC zTG z0 z0 z0)) := by
  refine Meets.of_body [0] Proofs.Tryz.func4 rfl (by kernel_rfl) rfl fun w => ?_
  simp only [Proofs.Tryz.f4, shs, zts, sos, sls, zss, eqs, sx, sb1, sb2, sb3, sb4, sb5, sb6, sb7, ↓reduceIte, zqa, zqb, zqc, zqd, zqe, zqf, reduceCtorEq, zra, zrb, zrc, zrd, zre, zrf, zrg, zrh, zri, zrj, zrk, zrl, zrm, zqg, nzs]
  exact ⟨_, rfl, rfl⟩
abbrev H1 (tc : List SV) : HS := [(176, .box tc none)]
section
variable {N : Nat} {w0 : World} {M0 M : Mem} {σ : Sig} {K : KP} {d : Nat} {T : TG} {b v rg : Value} {ws : List WV}
end
end Go.X.Tg

namespace Go.X.Cu
open Go Go.X Go.X.Pol Go.X.Pl Go.X.Rp Go.X.Pd Go.X.Md Go.X.Mv Go.X.Pt

/-- what is looked at ahead of place e -/
def win (t : List UInt8) (e : Nat) : List UInt8 := if 8 < e then (t.drop (e - 8)).take 8 else t.take e
def hit (mask : Nat) (t : List UInt8) (e : Nat) : Prop := prf 65581 (win t e) 1 &&& mask = mask
instance (mask : Nat) (t : List UInt8) (e : Nat) : Decidable (hit mask t e) := inferInstanceAs (Decidable (_ = _))
end Go.X.Cu

namespace Go.X.Vo
open Go Go.X Go.RowKit Go.X.Bg Go.X.Nm Go.X.Bp Go.X.Sb

/-! ### pieces -/
/-! ### stored -/
def inBag (A : St) (t : Txt) : Prop := ∃ x ∈ A.1, x.2.2.1 = t
/-- what stands in a right state's volume lies in its bag -/
theorem look_bag {A : St} (hA : stE A.1 A.2 = 0) {n : Txt} {X : List (Option Txt)} (hX : lookV A n = some X) {j : Nat} {t : Txt} (hj : X[j]? = some (some t)) : inBag A t := by
  obtain ⟨i, x, e, hx, hn, hx2⟩ := look_some hX
  rw [← hx2, List.getElem?_map, Option.map_eq_some_iff] at hj
  obtain ⟨y, hy, hyt⟩ := hj
  have hr := rt_of hA
  unfold obs at hyt
  by_cases h1 : y.1 = true
  · rw [if_pos h1] at hyt
    cases hi : itK A.1 y.2 with
    | none => exact absurd hi (hr.it (mem_at hx hy) h1)
    | some z =>
      rw [txt_it (dk_of hr.ok) h1 hi] at hyt
      exact ⟨z, (itK_mem hi).1, Option.some.inj hyt⟩
  · rw [if_neg h1] at hyt; cases hyt
end Go.X.Vo

namespace Go.X.Ts
open Go Go.X Go.X.Pol Go.X.Pl Go.X.Rp Go.X.Pd Go.X.Md Go.X.Mv Go.X.Pt Go.X.Tv

def nodeP (a b : Nat) : Nat := prf G (saidN a b) 1
def upL : List Nat → List Nat
  | [] => []
  | [x] => [x]
  | x :: y :: r => nodeP x y :: upL r
theorem upL_len : ∀ l : List Nat, (upL l).length = (l.length + 1) / 2
  | [] => rfl
  | [x] => by simp [upL]
  | x :: y :: r => by
    have := upL_len r
    simp only [upL, List.length_cons, this]
    omega
/-- all levels, the lowest first -/
def levs : Nat → List Nat → List (List Nat)
  | 0, l => [l]
  | f + 1, l => if 1 < l.length then l :: levs f (upL l) else [l]

/-! ### Check -/
def encN (k : Nat) : List Value := [.int .i64 (k : Int)]
/-! ### Levels -/
def encV (p : Value × List Nat) : List Value := [p.1]
def LevM (M : Mem) (ps : List (Value × List Nat)) : Prop := ∀ p ∈ ps, RowM M p.1 1 (p.2.map encN)
theorem LevM.le {M M' : Mem} {ps : List (Value × List Nat)} (h : LevM M ps) (hle : M.le M') : LevM M' ps := fun p hp => (h p hp).le hle
/-- all levels, as they lie -/
def Levs (v : Value) (ls : List (List Nat)) (M : Mem) : Prop := ∃ ps : List (Value × List Nat), RowM M v 1 (ps.map encV) ∧ LevM M ps ∧ ps.map (·.2) = ls
end Go.X.Ts

