/- wooltop.TopRights returns true. Conditions: none. -/
import Derived.Test.YtoohifeidifocaaGreatMg23
import Derived.Test.YtoohifeidifocaaGreatMg24
open Nat renaming reduceAdd → zqa, reduceMul → zqb, reduceDiv → zqc, reduceEqDiff → zqd, reduceLT → zqe, reduceLeDiff → zqf, reduceBEq → zqg
open Int renaming reduceEq → zra, reduceNe → zrb, reduceLT → zrc, reduceLE → zrd, reduceAdd → zre, reduceSub → zrf, reduceMul → zrg, reduceNeg → zrh, reduceToNat → zri, cast_ofNat_Int → zrj, natCast_zero → zrk, natCast_one → zrl, toNat_natCast → zrm
namespace Go.X.Bg
end Go.X.Bg
namespace Go.X.Nm
end Go.X.Nm
namespace Go.X.Bp
end Go.X.Bp
namespace Go.X.Sb
end Go.X.Sb
namespace Go.X.Vo
end Go.X.Vo
namespace Go.X.Tg
end Go.X.Tg
set_option linter.unusedSimpArgs false
set_option linter.unusedVariables false
set_option maxHeartbeats 4000000
set_option maxRecDepth 20000
namespace Go.X.Th
open Go Go.X Go.RowKit Go.X.Bg Go.X.Nm Go.X.Bp Go.X.Sb Go.X.Vo Go.X.Tg

def wC (W : List Txt) : List SV := W.map fun t => .v (.string ⟨t.toArray⟩)
theorem wC_len (W : List Txt) : (wC W).length = W.length := List.length_map _
theorem wC_get {W : List Txt} {j : Nat} (h : j < W.length) : getSV (wC W) j = .v (.string ⟨((W[j]?).getD []).toArray⟩) := by
  unfold getSV wC
  rw [List.getD_eq_getElem?_getD, List.getElem?_map, List.getElem?_eq_getElem h]
  rfl
theorem wC_set (W : List Txt) (j : Nat) (s : Txt) : (wC W).set j (.v (.string ⟨s.toArray⟩)) = wC (W.set j s) := by
  unfold wC
  rw [List.map_set]
theorem wC_conc (W : List Txt) : SV.concs (wC W) = true := by
  unfold wC
  induction W with
  | nil => rfl
  | cons t W ih => simp only [List.map_cons, SV.concs, SV.conc, ih, Bool.and_self]
theorem weakC {E : Env} {f d : Nat} {l : List SV} {K : KP} {σ : Sig} {H : HS} {M : Mem} (σ' : Sig) (H' : HS) (M' : Mem) (hl : SV.concs l = true) (he : Ent E σ H M (σ', H', M')) (h : CallK E f l d K σ' H' M') : CallK E f l d K σ H M := fun ν a w hs hh => by
  obtain ⟨ν', hs', hh'⟩ := he a w ⟨ν, hs, hh⟩
  have := h ν' a w hs' hh'
  rw [SV.concs_vals (ν := ν) (ν' := ν') l hl] at this
  exact this
theorem joinT {P : Prop} (R : TG → Value → Value → Value → List WV → Mem → Prop) (G : TG → Value → Value → Value → List WV → Mem → Prop)
    (h : (∀ T b v g ws M', R T b v g ws M' → G T b v g ws M') → P) (hJ : ∀ T b v g ws M', R T b v g ws M' → G T b v g ws M') : P := h hJ
theorem joinW {P : Prop} {G : Int → Prop} (h : (∀ w, ((0 ≤ w ∧ w ≤ 7) ∧ w ≠ 3) → G w) → P) (hJ : ∀ w, ((0 ≤ w ∧ w ≤ 7) ∧ w ≠ 3) → G w) : P := h hJ
theorem joinR {P : Prop} (R : List Txt → Mem → Prop) {G : List Txt → Mem → Prop} (h : (∀ W M, R W M → G W M) → P) (hJ : ∀ W M, R W M → G W M) : P := h hJ
theorem weakS {E : Env} {f d : Nat} {l : List SV} {K : KP} {σ : Sig} {H : HS} {M : Mem} (σ' : Sig) (H' : HS) (M' : Mem) (he : (subS σ σ' ∧ subH H H') ∧ M' = M) (h : CallK E f l d K σ' H' M') : CallK E f l d K σ H M := fun ν a w hs hh => h ν a w (hs.weaken (fun k p hk => subS_lk he.1.1 hk)) (by rw [he.2]; exact hh.sub he.1.2 (Mem.le.refl _) hh.le0)
def t0 : TG := (tdoS zTG 0 (1, [97], [], 4, [])).1
def t1 : TG := trvS t0 (Rv.regS t0.2.1.1 t0.2.1.2.1 t0.2.1.2.2.1 t0.2.1.2.2.2 3 0 9)
def t2 : TG := trvS t1 (Rv.rsvS t1.2.1.1 t1.2.1.2.1 t1.2.1.2.2.1 t1.2.1.2.2.2 3 9 3)
def w0 : List Txt := [[], [], [], []]
theorem e0 : (tdoS zTG 0 (1, [97], [], 4, [])).2 = 0 := by kernel_rfl
theorem e1 : (Rv.regS t0.2.1.1 t0.2.1.2.1 t0.2.1.2.2.1 t0.2.1.2.2.2 3 0 9).1 = 0 := by kernel_rfl
theorem e2 : (Rv.rsvS t1.2.1.1 t1.2.1.2.1 t1.2.1.2.2.1 t1.2.1.2.2.2 3 9 3).1 = 0 := by kernel_rfl
theorem t0_right : TgR t0 := tdo_right zTG_right 0 _
theorem t2_held : Held t2 w0 := by
  have r1 : TgR t1 := by
    unfold t1 trvS
    rw [if_pos e1]
    exact ⟨t0_right.st, reg_right e1, t0_right.tx, t0_right.many⟩
  have r2 : TgR t2 := by
    unfold t2 trvS
    rw [if_pos e2]
    exact ⟨r1.st, rsv_right e2, r1.tx, r1.many⟩
  refine ⟨r2, ⟨⟨by kernel_rfl, by kernel_rfl⟩, r2.rv, by kernel_rfl⟩, rfl, [none, none, none, none], by kernel_rfl, rfl⟩
/-- what holds between the rounds -/
def ThI (M0 : Mem) (n : Nat) (x : Nat × Nat × TG × (Value × Value × Value × List WV) × List Txt × Mem) : Prop :=
  (x.1 + x.2.1 = n ∧ M0.le x.2.2.2.2.2) ∧ TgM x.2.2.2.2.2 x.2.2.1 x.2.2.2.1.1 x.2.2.2.1.2.1 x.2.2.2.1.2.2.1 x.2.2.2.1.2.2.2 ∧ Held x.2.2.1 x.2.2.2.2.1
theorem rightsW (y z : Value) (ops : List OpT) (l : List (Value × List Int)) (M : Mem) (hy : RowM M y 5 (ops.map encO)) (hz : RowM M z 1 (l.map fun a => [a.1])) (hl : ∀ x ∈ l, RowM M x.1 1 (x.2.map fun a => [Value.int .i64 a])) :
    Meets Proofs.Tryz.prog 3 [.v y, .v z] M fun r _ _ => r = .v (.bool true) := by
  refine Meets.of_body [0,1,4,5,6,7,8,9,10,12,13,14,15,16,17,40,45,46,47,48,63,73,77,96,97,103,104,117,118,131,140,141,159,178] Proofs.Tryz.func3 rfl (by kernel_rfl) rfl fun w => ?_
  have hyl := hy.len_le
  have hzl := hz.len_le
  rw [List.length_map] at hyl hzl
  have en : min (ops.length : Int) 60 = ((min ops.length 60 : Nat) : Int) := by omega
  generalize hn : min ops.length 60 = n at en
  have hcap := hy.1.2.2.1
  rw [hy.len, List.length_map] at hcap
  have hs := hy.sub (lo := 0) (hi := n) (by omega) (by rw [List.length_map]; omega)
  rw [List.drop_zero, Nat.sub_zero, ← List.map_take] at hs
  have htl : (ops.take n).length = n := by rw [List.length_take]; omega
  simp only [Proofs.Tryz.f3, shs, zts, sos, sls, zss, eqs, sx, sb1, sb2, sb3, sb4, sb5, sb6, sb7, ↓reduceIte, zqa, zqb, zqc, zqd, zqe, zqf, reduceCtorEq, zra, zrb, zrc, zrd, zre, zrf, zrg, zrh, zri, zrj, zrk, zrl, zrm, zqg, nzs]
  refine CallK.newBox rfl rfl (new M) rfl rfl fun M1 hM1 => ?_
  simp only [shs, zts, sos, sls, zss, eqs, sx, sb1, sb2, sb3, sb4, sb5, sb6, sb7, ↓reduceIte, zqa, zqb, zqc, zqd, zqe, zqf, reduceCtorEq, zra, zrb, zrc, zrd, zre, zrf, zrg, zrh, zri, zrj, zrk, zrl, zrm, zqg, nzs]
  refine CallK.pure ⟨rfl, rfl⟩ rfl (begunW M1) ?_
  simp only [shs, zts, sos, sls, zss, eqs, sx, sb1, sb2, sb3, sb4, sb5, sb6, sb7, ↓reduceIte, zqa, zqb, zqc, zqd, zqe, zqf, reduceCtorEq, zra, zrb, zrc, zrd, zre, zrf, zrg, zrh, zri, zrj, zrk, zrl, zrm, zqg, nzs]
  refine ⟨by kernel_rfl, ?_⟩
  refine do1 144 rfl 0 (1, [97], [], 4, []) (zTG_mem M1) zTG_right fun b0 v0 ws0 M2 hM2 hT2 => ?_
  rw [e0]
  have hT2' : TgM M2 t0 b0 v0 z0 ws0 := hT2
  rw [show (tdoS zTG 0 (1, [97], [], 4, [])).1 = t0 from rfl]
  simp only [shs, zts, sos, sls, zss, eqs, sx, sb1, sb2, sb3, sb4, sb5, sb6, sb7, ↓reduceIte, zqa, zqb, zqc, zqd, zqe, zqf, reduceCtorEq, zra, zrb, zrc, zrd, zre, zrf, zrg, zrh, zri, zrj, zrk, zrl, zrm, zqg, nzs]
  refine register1 144 rfl 3 0 9 hT2' fun g1 M3 hM3 hT3 => ?_
  rw [e1]
  have hT3' : TgM M3 t1 b0 v0 g1 ws0 := hT3
  rw [show trvS t0 (Rv.regS t0.2.1.1 t0.2.1.2.1 t0.2.1.2.2.1 t0.2.1.2.2.2 3 0 9) = t1 from rfl]
  simp only [shs, zts, sos, sls, zss, eqs, sx, sb1, sb2, sb3, sb4, sb5, sb6, sb7, ↓reduceIte, zqa, zqb, zqc, zqd, zqe, zqf, reduceCtorEq, zra, zrb, zrc, zrd, zre, zrf, zrg, zrh, zri, zrj, zrk, zrl, zrm, zqg, nzs]
  refine reserve1 144 rfl 3 9 3 hT3' fun g2 M4 hM4 hT4 => ?_
  rw [e2]
  have hT4' : TgM M4 t2 b0 v0 g2 ws0 := hT4
  rw [show trvS t1 (Rv.rsvS t1.2.1.1 t1.2.1.2.1 t1.2.1.2.2.1 t1.2.1.2.2.2 3 9 3) = t2 from rfl]
  have hM14 := (hM1.trans hM2).trans (hM3.trans hM4)
  simp only [shs, zts, sos, sls, zss, eqs, sx, sb1, sb2, sb3, sb4, sb5, sb6, sb7, ↓reduceIte, zqa, zqb, zqc, zqd, zqe, zqf, reduceCtorEq, zra, zrb, zrc, zrd, zre, zrf, zrg, zrh, zri, zrj, zrk, zrl, zrm, zqg, nzs, hy.len, hy.sl, List.length_map, en, hs.len, hs.sl, htl, zrm]
  have tnk : ∀ (d : Nat) (T : TG) (b v g : Value), SV.noKeys d (tgC T b v g) = true := fun _ _ _ _ _ => rfl
  have wnk : ∀ (d : Nat) (W : List Txt), SV.noKeys d (wC W) = true := fun d W => concs_noKeys d _ (wC_conc W)
  refine ⟨rfl, ⟨by omega, by omega⟩, ?_⟩
  refine LoopK.go (X := Nat × Nat × TG × (Value × Value × Value × List WV) × List Txt × Mem) (fun x => ([(1, true, .v z), (5, true, .ptr 144 0 0 0), (6, true, .ptr 48 0 0 0), (45, true, .v (subV y 5 0 n)), (46, true, .v (.int .i64 n)), (47, true, .v (.int .i64 x.2.1))], [(48, .box (wC x.2.2.2.2.1) none), (144, .box (tgC x.2.2.1 x.2.2.2.1.1 x.2.2.2.1.2.1 x.2.2.2.1.2.2.1) none)], x.2.2.2.2.2))
    (ThI M n) (fun x => x.1) (n, 0, t2, (b0, v0, g2, ws0), w0, M4) ⟨⟨rfl, hM14⟩, hT4', t2_held⟩ (Ent.of ?_) ?_
  · simp only [sx, sb1, sb2, sb3, sb4, sb5, sb6, sb7, ↓reduceIte, zqa, zqb, zqc, zqd, zqe, zqf, reduceCtorEq, zra, zrb, zrc, zrd, zre, zrf, zrg, zrh, zri, zrj, zrk, zrl, zrm, zqg, wC, w0, List.map_cons, List.map_nil, zrk]
  rintro ⟨f, i, T, ⟨b, v, g, ws⟩, W, M5⟩ ⟨⟨h1, h2⟩, h3, h4⟩
  simp only at h1 h2 h3 h4
  by_cases hil : i < n
  rotate_left
  · have c1 : ((i : Int) < (n : Int)) = False := eq_false (by omega)
    have ha := h4.alone
    simp only [shs, zts, sos, sls, zss, eqs, sx, sb1, sb2, sb3, sb4, sb5, sb6, sb7, ↓reduceIte, zqa, zqb, zqc, zqd, zqe, zqf, reduceCtorEq, zra, zrb, zrc, zrd, zre, zrf, zrg, zrh, zri, zrj, zrk, zrl, zrm, zqg, nzs, c1]
    refine CallK.heap (HEnt.sub (List.sublist_cons_self _ _)) (resv1 144 rfl h3 h4.right fun y5 M6 hM6 hy5 => ?_)
    have hMy := Rv.may T.2.1.1 y5 T.2.1.2.2.1 T.2.1.2.2.2 3 true T.2.1.2.1 M6 hy5
    have hE : Rv.mayE T.2.1.1 T.2.1.2.1 T.2.1.2.2.1 T.2.1.2.2.2 3 = 0 := by
      unfold Rv.mayE
      rw [if_neg (fun e => e ha.2.1)]
      rfl
    rw [hE, alone_may ha] at hMy
    simp only [Rv.resvV] at hMy
    simp only [shs, zts, sos, sls, zss, eqs, sx, sb1, sb2, sb3, sb4, sb5, sb6, sb7, ↓reduceIte, zqa, zqb, zqc, zqd, zqe, zqf, reduceCtorEq, zra, zrb, zrc, zrd, zre, zrf, zrg, zrh, zri, zrj, zrk, zrl, zrm, zqg, nzs, hy5.one]
    refine CallK.pure ⟨rfl, rfl⟩ rfl hMy ?_
    simp only [shs, zts, sos, sls, zss, eqs, sx, sb1, sb2, sb3, sb4, sb5, sb6, sb7, ↓reduceIte, zqa, zqb, zqc, zqd, zqe, zqf, reduceCtorEq, zra, zrb, zrc, zrd, zre, zrf, zrg, zrh, zri, zrj, zrk, zrl, zrm, zqg, nzs, hy5.one]
    refine resv1 144 rfl (h3.le hM6) h4.right fun y6 M7 hM7 hy6 => ?_
    have hh := ha.1.2
    simp only [shs, zts, sos, sls, zss, eqs, sx, sb1, sb2, sb3, sb4, sb5, sb6, sb7, ↓reduceIte, zqa, zqb, zqc, zqd, zqe, zqf, reduceCtorEq, zra, zrb, zrc, zrd, zre, zrf, zrg, zrh, zri, zrj, zrk, zrl, zrm, zqg, nzs, hy6.one, hh]
  have c1 : ((i : Int) < (n : Int)) = True := eq_true (by omega)
  obtain ⟨o, ho, _⟩ := l_drop_at (l := ops.take n) (i := i) (by omega)
  obtain ⟨⟨⟨f0, g0⟩, f1, g1'⟩, ⟨⟨f2, g2'⟩, f3, g3⟩, ⟨f4, g4⟩, ix2⟩ := op_at (hs.le h2) ho
  apply joinT (fun T' b' v' g' ws' M' => M5.le M' ∧ TgM M' T' b' v' g' ws' ∧ Held T' W)
  case h =>
    intro J
    have hstay : ∀ M', M5.le M' → M5.le M' ∧ TgM M' T b v g ws ∧ Held T W := fun M' h => ⟨h, h3.le h, h4⟩
    by_cases hli : i < l.length
    case neg =>
      have d1 : ((i : Int) < (l.length : Int)) = False := eq_false (by omega)
      simp only [shs, zts, sos, sls, zss, eqs, sx, sb1, sb2, sb3, sb4, sb5, sb6, sb7, ↓reduceIte, zqa, zqb, zqc, zqd, zqe, zqf, reduceCtorEq, zra, zrb, zrc, zrd, zre, zrf, zrg, zrh, zri, zrj, zrk, zrl, zrm, zqg, nzs, c1, d1, f0, g0, f1, g1', f2, g2', f3, g3, f4, g4, ix2, ix2.2, tnk, wnk, hz.len, hz.sl, List.length_map]
      refine ⟨by decide, ?_⟩
      refine weakC [(1, true, .v z), (5, true, .ptr 144 0 0 0), (6, true, .ptr 48 0 0 0), (8, true, .ptr 64 0 0 0), (45, true, .v (subV y 5 0 n)), (46, true, .v (.int .i64 n)), (47, true, .v (.int .i64 i))] [(64, .box [.v (.int .i64 o.1), .v (.string ⟨o.2.1.toArray⟩), .v (.string ⟨o.2.2.1.toArray⟩), .v (.int .i64 o.2.2.2.1), .v (.string ⟨o.2.2.2.2.toArray⟩)] none), (48, .box (wC W) none), (144, .box (tgC T b v g) none)] M5 rfl (Ent.of (by simp only [sx, sb1, sb2, sb3, sb4, sb5, sb6, sb7, ↓reduceIte, zqa, zqb, zqc, zqd, zqe, zqf, reduceCtorEq, zra, zrb, zrc, zrd, zre, zrf, zrg, zrh, zri, zrj, zrk, zrl, zrm, zqg])) ?_
      generalize hgM : M5 = M5'
      have hR := hstay M5' (hgM ▸ Mem.le.refl M5)
      generalize T = T1 at hR ⊢
      generalize b = b1 at hR ⊢
      generalize v = v1 at hR ⊢
      generalize g = g1 at hR ⊢
      generalize ws = ws1 at hR ⊢
      exact J T1 b1 v1 g1 ws1 M5' hR
    obtain ⟨x, hx, _⟩ := l_drop_at (l := l) (i := i) hli
    have d1 : ((i : Int) < (l.length : Int)) = True := eq_true (by omega)
    have hx5 := (hl x (List.mem_of_getElem? hx)).le (h2 : M.le M5)
    have hz5 := hz.le h2
    have gz := hz5.el1 hx rfl
    have iz := hz5.ix (i := (i : Int)) (by omega) (by rw [List.length_map]; omega)
    have hxl := hx5.len_le
    rw [List.length_map] at hxl
    by_cases hx3 : 3 < x.2.length
    case neg =>
      have d2 : (3 < (x.2.length : Int)) = False := eq_false (by omega)
      simp only [shs, zts, sos, sls, zss, eqs, sx, sb1, sb2, sb3, sb4, sb5, sb6, sb7, ↓reduceIte, zqa, zqb, zqc, zqd, zqe, zqf, reduceCtorEq, zra, zrb, zrc, zrd, zre, zrf, zrg, zrh, zri, zrj, zrk, zrl, zrm, zqg, nzs, c1, d1, d2, f0, g0, f1, g1', f2, g2', f3, g3, f4, g4, ix2, ix2.2, tnk, wnk, hz.len, hz.sl, List.length_map, gz.1, gz.2, iz, iz.2, hx5.one, hx5.len, hx5.sl]
      refine ⟨by decide, ?_⟩
      refine weakC [(1, true, .v z), (5, true, .ptr 144 0 0 0), (6, true, .ptr 48 0 0 0), (8, true, .ptr 64 0 0 0), (45, true, .v (subV y 5 0 n)), (46, true, .v (.int .i64 n)), (47, true, .v (.int .i64 i))] [(64, .box [.v (.int .i64 o.1), .v (.string ⟨o.2.1.toArray⟩), .v (.string ⟨o.2.2.1.toArray⟩), .v (.int .i64 o.2.2.2.1), .v (.string ⟨o.2.2.2.2.toArray⟩)] none), (48, .box (wC W) none), (144, .box (tgC T b v g) none)] M5 rfl (Ent.of (by simp only [sx, sb1, sb2, sb3, sb4, sb5, sb6, sb7, ↓reduceIte, zqa, zqb, zqc, zqd, zqe, zqf, reduceCtorEq, zra, zrb, zrc, zrd, zre, zrf, zrg, zrh, zri, zrj, zrk, zrl, zrm, zqg])) ?_
      generalize hgM : M5 = M5'
      have hR := hstay M5' (hgM ▸ Mem.le.refl M5)
      generalize T = T1 at hR ⊢
      generalize b = b1 at hR ⊢
      generalize v = v1 at hR ⊢
      generalize g = g1 at hR ⊢
      generalize ws = ws1 at hR ⊢
      exact J T1 b1 v1 g1 ws1 M5' hR
    have d2 : (3 < (x.2.length : Int)) = True := eq_true (by omega)
    obtain ⟨a0, ha0, _⟩ := l_drop_at (l := x.2) (i := 0) (by omega)
    obtain ⟨a1, ha1, _⟩ := l_drop_at (l := x.2) (i := 1) (by omega)
    obtain ⟨a2, ha2, _⟩ := l_drop_at (l := x.2) (i := 2) (by omega)
    obtain ⟨a3, ha3, _⟩ := l_drop_at (l := x.2) (i := 3) (by omega)
    have y0 := hx5.el1 ha0 rfl
    have y1 := hx5.el1 ha1 rfl
    have y2 := hx5.el1 ha2 rfl
    have y3 := hx5.el1 ha3 rfl
    have x0 := hx5.ix (i := 0) (by omega) (by rw [List.length_map]; omega)
    have x1 := hx5.ix (i := 1) (by omega) (by rw [List.length_map]; omega)
    have x2 := hx5.ix (i := 2) (by omega) (by rw [List.length_map]; omega)
    have x3 := hx5.ix (i := 3) (by omega) (by rw [List.length_map]; omega)
    obtain ⟨k, hk, hW⟩ := withinK a1 8 (by decide) (by decide)
    simp only [shs, zts, sos, sls, zss, eqs, sx, sb1, sb2, sb3, sb4, sb5, sb6, sb7, ↓reduceIte, zqa, zqb, zqc, zqd, zqe, zqf, reduceCtorEq, zra, zrb, zrc, zrd, zre, zrf, zrg, zrh, zri, zrj, zrk, zrl, zrm, zqg, nzs, c1, d1, d2, f0, g0, f1, g1', f2, g2', f3, g3, f4, g4, ix2, ix2.2, tnk, wnk, hz.len, hz.sl, List.length_map, gz.1, gz.2, iz, iz.2, hx5.one, hx5.len, hx5.sl, x1, y1.1, y1.2]
    refine ⟨by decide, CallK.pure ⟨rfl, rfl⟩ rfl (hW M5) ?_⟩
    apply joinW
    case h =>
      intro J2
      by_cases hk3 : k ≠ 3
      case pos =>
        have d3 : ((k : Int) = 3) = False := eq_false (by omega)
        simp only [shs, zts, sos, sls, zss, eqs, sx, sb1, sb2, sb3, sb4, sb5, sb6, sb7, ↓reduceIte, zqa, zqb, zqc, zqd, zqe, zqf, reduceCtorEq, zra, zrb, zrc, zrd, zre, zrf, zrg, zrh, zri, zrj, zrk, zrl, zrm, zqg, nzs, d3, hx5.one, x0, y0.1, y0.2]
        have hw : (0 ≤ (k : Int) ∧ (k : Int) ≤ 7) ∧ (k : Int) ≠ 3 := by omega
        refine weakC [(1, true, .v z), (5, true, .ptr 144 0 0 0), (6, true, .ptr 48 0 0 0), (8, true, .ptr 64 0 0 0), (9, true, .v x.1), (10, true, .v (.int .i64 k)), (45, true, .v (subV y 5 0 n)), (46, true, .v (.int .i64 n)), (47, true, .v (.int .i64 i))] [(64, .box [.v (.int .i64 o.1), .v (.string ⟨o.2.1.toArray⟩), .v (.string ⟨o.2.2.1.toArray⟩), .v (.int .i64 o.2.2.2.1), .v (.string ⟨o.2.2.2.2.toArray⟩)] none), (48, .box (wC W) none), (144, .box (tgC T b v g) none)] M5 rfl (Ent.of (by simp only [sx, sb1, sb2, sb3, sb4, sb5, sb6, sb7, ↓reduceIte, zqa, zqb, zqc, zqd, zqe, zqf, reduceCtorEq, zra, zrb, zrc, zrd, zre, zrf, zrg, zrh, zri, zrj, zrk, zrl, zrm, zqg])) ?_
        generalize (k : Int) = wh at hw ⊢
        exact J2 wh hw
      case neg =>
        have d3 : ((k : Int) = 3) = True := eq_true (by omega)
        simp only [shs, zts, sos, sls, zss, eqs, sx, sb1, sb2, sb3, sb4, sb5, sb6, sb7, ↓reduceIte, zqa, zqb, zqc, zqd, zqe, zqf, reduceCtorEq, zra, zrb, zrc, zrd, zre, zrf, zrg, zrh, zri, zrj, zrk, zrl, zrm, zqg, nzs, d3, hx5.one, x0, y0.1, y0.2]
        refine weakC [(1, true, .v z), (5, true, .ptr 144 0 0 0), (6, true, .ptr 48 0 0 0), (8, true, .ptr 64 0 0 0), (9, true, .v x.1), (10, true, .v (.int .i64 4)), (45, true, .v (subV y 5 0 n)), (46, true, .v (.int .i64 n)), (47, true, .v (.int .i64 i))] [(64, .box [.v (.int .i64 o.1), .v (.string ⟨o.2.1.toArray⟩), .v (.string ⟨o.2.2.1.toArray⟩), .v (.int .i64 o.2.2.2.1), .v (.string ⟨o.2.2.2.2.toArray⟩)] none), (48, .box (wC W) none), (144, .box (tgC T b v g) none)] M5 rfl (Ent.of (by simp only [sx, sb1, sb2, sb3, sb4, sb5, sb6, sb7, ↓reduceIte, zqa, zqb, zqc, zqd, zqe, zqf, reduceCtorEq, zra, zrb, zrc, zrd, zre, zrf, zrg, zrh, zri, zrj, zrk, zrl, zrm, zqg])) ?_
        exact J2 4 ⟨by decide, by decide⟩
    rintro wh ⟨hw7, hw3⟩
    obtain ⟨q, hq, hQ⟩ := withinK a0 6 (by decide) (by decide)
    obtain ⟨m2, hm2, hA⟩ := withinK a2 4 (by decide) (by decide)
    obtain ⟨m3, hm3, hB⟩ := withinK a3 4 (by decide) (by decide)
    refine CallK.pure ⟨rfl, rfl⟩ rfl (hQ M5) ?_
    have hq6 : q = 0 ∨ q = 1 ∨ q = 2 ∨ q = 3 ∨ q = 4 ∨ q = 5 := by omega
    rcases hq6 with rfl | rfl | rfl | rfl | rfl | rfl
    · simp only [shs, zts, sos, sls, zss, eqs, sx, sb1, sb2, sb3, sb4, sb5, sb6, sb7, ↓reduceIte, zqa, zqb, zqc, zqd, zqe, zqf, reduceCtorEq, zra, zrb, zrc, zrd, zre, zrf, zrg, zrh, zri, zrj, zrk, zrl, zrm, zqg, nzs, tnk, wnk]
      refine do3 64 48 144 rfl (by rw [wC_conc]; rfl) wh o h3 h4.right fun bZ vZ wsZ M7 hM7 hT7 => ?_
      rw [held_no h4 hw7 hw3 o] at hT7 ⊢
      simp only [shs, zts, sos, sls, zss, eqs, sx, sb1, sb2, sb3, sb4, sb5, sb6, sb7, ↓reduceIte, zqa, zqb, zqc, zqd, zqe, zqf, reduceCtorEq, zra, zrb, zrc, zrd, zre, zrf, zrg, zrh, zri, zrj, zrk, zrl, zrm, zqg, nzs, tnk, wnk]
      have hR : M5.le M7 ∧ TgM M7 T bZ vZ g wsZ ∧ Held T W := ⟨hM7, hT7, h4⟩
      refine weakC [(1, true, .v z), (5, true, .ptr 144 0 0 0), (6, true, .ptr 48 0 0 0), (8, true, .ptr 64 0 0 0), (45, true, .v (subV y 5 0 n)), (46, true, .v (.int .i64 n)), (47, true, .v (.int .i64 i))] [(64, .box [.v (.int .i64 o.1), .v (.string ⟨o.2.1.toArray⟩), .v (.string ⟨o.2.2.1.toArray⟩), .v (.int .i64 o.2.2.2.1), .v (.string ⟨o.2.2.2.2.toArray⟩)] none), (48, .box (wC W) none), (144, .box (tgC T bZ vZ g) none)] M7 rfl (Ent.of (by simp only [sx, sb1, sb2, sb3, sb4, sb5, sb6, sb7, ↓reduceIte, zqa, zqb, zqc, zqd, zqe, zqf, reduceCtorEq, zra, zrb, zrc, zrd, zre, zrf, zrg, zrh, zri, zrj, zrk, zrl, zrm, zqg])) ?_
      generalize T = TZ at hR ⊢
      generalize g = gZ at hR ⊢
      exact J TZ bZ vZ gZ wsZ M7 hR
    · simp only [shs, zts, sos, sls, zss, eqs, sx, sb1, sb2, sb3, sb4, sb5, sb6, sb7, ↓reduceIte, zqa, zqb, zqc, zqd, zqe, zqf, reduceCtorEq, zra, zrb, zrc, zrd, zre, zrf, zrg, zrh, zri, zrj, zrk, zrl, zrm, zqg, nzs, tnk, wnk, hx5.one, hx5.len, hx5.sl, x0, x1, x2, x3, y0.1, y0.2, y1.1, y1.2, y2.1, y2.2, y3.1, y3.2]
      refine CallK.pure ⟨rfl, rfl⟩ rfl (hA M5) ?_
      simp only [shs, zts, sos, sls, zss, eqs, sx, sb1, sb2, sb3, sb4, sb5, sb6, sb7, ↓reduceIte, zqa, zqb, zqc, zqd, zqe, zqf, reduceCtorEq, zra, zrb, zrc, zrd, zre, zrf, zrg, zrh, zri, zrj, zrk, zrl, zrm, zqg, nzs, tnk, wnk]
      refine read3 64 48 144 rfl (by rw [wC_conc]; rfl) wh [97] m2 h3 h4.right ?_
      rw [held_noR h4 hw7 hw3 [97] m2]
      simp only [shs, zts, sos, sls, zss, eqs, sx, sb1, sb2, sb3, sb4, sb5, sb6, sb7, ↓reduceIte, zqa, zqb, zqc, zqd, zqe, zqf, reduceCtorEq, zra, zrb, zrc, zrd, zre, zrf, zrg, zrh, zri, zrj, zrk, zrl, zrm, zqg, nzs, tnk, wnk]
      generalize hgM : M5 = M7
      have hR : M5.le M7 ∧ TgM M7 T b v g ws ∧ Held T W := ⟨hgM ▸ Mem.le.refl M5, h3.le (hgM ▸ Mem.le.refl M5), h4⟩
      refine weakC [(1, true, .v z), (5, true, .ptr 144 0 0 0), (6, true, .ptr 48 0 0 0), (8, true, .ptr 64 0 0 0), (45, true, .v (subV y 5 0 n)), (46, true, .v (.int .i64 n)), (47, true, .v (.int .i64 i))] [(64, .box [.v (.int .i64 o.1), .v (.string ⟨o.2.1.toArray⟩), .v (.string ⟨o.2.2.1.toArray⟩), .v (.int .i64 o.2.2.2.1), .v (.string ⟨o.2.2.2.2.toArray⟩)] none), (48, .box (wC W) none), (144, .box (tgC T b v g) none)] M7 rfl (Ent.of (by simp only [sx, sb1, sb2, sb3, sb4, sb5, sb6, sb7, ↓reduceIte, zqa, zqb, zqc, zqd, zqe, zqf, reduceCtorEq, zra, zrb, zrc, zrd, zre, zrf, zrg, zrh, zri, zrj, zrk, zrl, zrm, zqg])) ?_
      generalize T = TZ at hR ⊢
      generalize b = bZ at hR ⊢
      generalize v = vZ at hR ⊢
      generalize g = gZ at hR ⊢
      generalize ws = wsZ at hR ⊢
      exact J TZ bZ vZ gZ wsZ M7 hR
    · simp only [shs, zts, sos, sls, zss, eqs, sx, sb1, sb2, sb3, sb4, sb5, sb6, sb7, ↓reduceIte, zqa, zqb, zqc, zqd, zqe, zqf, reduceCtorEq, zra, zrb, zrc, zrd, zre, zrf, zrg, zrh, zri, zrj, zrk, zrl, zrm, zqg, nzs, tnk, wnk, hx5.one, hx5.len, hx5.sl, x0, x1, x2, x3, y0.1, y0.2, y1.1, y1.2, y2.1, y2.2, y3.1, y3.2]
      refine DrawK.held [] (tk [0, 1, 2, 6, 3, 7, 4, 8] (.one 5 (.one 9 (.one 10 .done)))) (by kernel_rfl) (by kernel_rfl) fun xs => ?_
      simp only [shs, zts, sos, sls, zss, eqs, sx, sb1, sb2, sb3, sb4, sb5, sb6, sb7, ↓reduceIte, zqa, zqb, zqc, zqd, zqe, zqf, reduceCtorEq, zra, zrb, zrc, zrd, zre, zrf, zrg, zrh, zri, zrj, zrk, zrl, zrm, zqg, nzs, tnk, wnk, se1, se2, tks, hx5.one, hx5.len, hx5.sl, x0, x1, x2, x3, y0.1, y0.2, y1.1, y1.2, y2.1, y2.2, y3.1, y3.2]
      refine CallK.pure ⟨rfl, rfl⟩ rfl (hA M5) ?_
      simp only [shs, zts, sos, sls, zss, eqs, sx, sb1, sb2, sb3, sb4, sb5, sb6, sb7, ↓reduceIte, zqa, zqb, zqc, zqd, zqe, zqf, reduceCtorEq, zra, zrb, zrc, zrd, zre, zrf, zrg, zrh, zri, zrj, zrk, zrl, zrm, zqg, nzs, tnk, wnk, se1, se2, tks, hx5.one, hx5.len, hx5.sl, x0, x1, x2, x3, y0.1, y0.2, y1.1, y1.2, y2.1, y2.2, y3.1, y3.2]
      refine CallK.pure ⟨rfl, rfl⟩ rfl (hB M5) ?_
      simp only [shs, zts, sos, sls, zss, eqs, sx, sb1, sb2, sb3, sb4, sb5, sb6, sb7, ↓reduceIte, zqa, zqb, zqc, zqd, zqe, zqf, reduceCtorEq, zra, zrb, zrc, zrd, zre, zrf, zrg, zrh, zri, zrj, zrk, zrl, zrm, zqg, nzs, tnk, wnk, se1, se2, tks, hx5.one, hx5.len, hx5.sl, x0, x1, x2, x3, y0.1, y0.2, y1.1, y1.2, y2.1, y2.2, y3.1, y3.2]
      refine register3 64 48 144 rfl (by rw [wC_conc]; rfl) wh m2 m3 h3 fun gZ M7 hM7 hT7 => ?_
      have hH := held_trv h4 (S := Rv.regS T.2.1.1 T.2.1.2.1 T.2.1.2.2.1 T.2.1.2.2.2 wh m2 m3) reg_right (reg_alone h4.alone hw3)
      generalize trvS T (Rv.regS T.2.1.1 T.2.1.2.1 T.2.1.2.2.1 T.2.1.2.2.2 wh m2 m3) = TZ at hT7 hH ⊢
      simp only [shs, zts, sos, sls, zss, eqs, sx, sb1, sb2, sb3, sb4, sb5, sb6, sb7, ↓reduceIte, zqa, zqb, zqc, zqd, zqe, zqf, reduceCtorEq, zra, zrb, zrc, zrd, zre, zrf, zrg, zrh, zri, zrj, zrk, zrl, zrm, zqg, nzs, tnk, wnk, se1, se2, tks, hM7]
      have hR : M5.le M7 ∧ TgM M7 TZ b v gZ ws ∧ Held TZ W := ⟨hM7, hT7, hH⟩
      refine weakC [(1, true, .v z), (5, true, .ptr 144 0 0 0), (6, true, .ptr 48 0 0 0), (8, true, .ptr 64 0 0 0), (45, true, .v (subV y 5 0 n)), (46, true, .v (.int .i64 n)), (47, true, .v (.int .i64 i))] [(64, .box [.v (.int .i64 o.1), .v (.string ⟨o.2.1.toArray⟩), .v (.string ⟨o.2.2.1.toArray⟩), .v (.int .i64 o.2.2.2.1), .v (.string ⟨o.2.2.2.2.toArray⟩)] none), (48, .box (wC W) none), (144, .box (tgC TZ b v gZ) none)] M7 rfl (Ent.heap (HEnt.untie (k := 64) rfl) (Ent.heap (HEnt.untie (k := 48) rfl) (Ent.heap (HEnt.untie (k := 144) rfl) (Ent.of (by simp only [sx, sb1, sb2, sb3, sb4, sb5, sb6, sb7, ↓reduceIte, zqa, zqb, zqc, zqd, zqe, zqf, reduceCtorEq, zra, zrb, zrc, zrd, zre, zrf, zrg, zrh, zri, zrj, zrk, zrl, zrm, zqg, hset]))))) ?_
      generalize b = bZ at hR ⊢
      generalize v = vZ at hR ⊢
      generalize ws = wsZ at hR ⊢
      exact J TZ bZ vZ gZ wsZ M7 hR
    · simp only [shs, zts, sos, sls, zss, eqs, sx, sb1, sb2, sb3, sb4, sb5, sb6, sb7, ↓reduceIte, zqa, zqb, zqc, zqd, zqe, zqf, reduceCtorEq, zra, zrb, zrc, zrd, zre, zrf, zrg, zrh, zri, zrj, zrk, zrl, zrm, zqg, nzs, tnk, wnk, hx5.one, hx5.len, hx5.sl, x0, x1, x2, x3, y0.1, y0.2, y1.1, y1.2, y2.1, y2.2, y3.1, y3.2]
      refine CallK.pure ⟨rfl, rfl⟩ rfl (hA M5) ?_
      simp only [shs, zts, sos, sls, zss, eqs, sx, sb1, sb2, sb3, sb4, sb5, sb6, sb7, ↓reduceIte, zqa, zqb, zqc, zqd, zqe, zqf, reduceCtorEq, zra, zrb, zrc, zrd, zre, zrf, zrg, zrh, zri, zrj, zrk, zrl, zrm, zqg, nzs, tnk, wnk]
      refine reserve3 64 48 144 rfl (by rw [wC_conc]; rfl) wh m2 3 h3 fun gZ M7 hM7 hT7 => ?_
      have hE := rsv_alone (a := m2) h4.alone hw3
      have hS : trvS T (Rv.rsvS T.2.1.1 T.2.1.2.1 T.2.1.2.2.1 T.2.1.2.2.2 wh m2 3) = T := if_neg hE
      rw [hS] at hT7 ⊢
      have d4 := eq_false hE
      simp only [shs, zts, sos, sls, zss, eqs, sx, sb1, sb2, sb3, sb4, sb5, sb6, sb7, ↓reduceIte, zqa, zqb, zqc, zqd, zqe, zqf, reduceCtorEq, zra, zrb, zrc, zrd, zre, zrf, zrg, zrh, zri, zrj, zrk, zrl, zrm, zqg, nzs, tnk, wnk, d4]
      have hR : M5.le M7 ∧ TgM M7 T b v gZ ws ∧ Held T W := ⟨hM7, hT7, h4⟩
      refine weakC [(1, true, .v z), (5, true, .ptr 144 0 0 0), (6, true, .ptr 48 0 0 0), (8, true, .ptr 64 0 0 0), (45, true, .v (subV y 5 0 n)), (46, true, .v (.int .i64 n)), (47, true, .v (.int .i64 i))] [(64, .box [.v (.int .i64 o.1), .v (.string ⟨o.2.1.toArray⟩), .v (.string ⟨o.2.2.1.toArray⟩), .v (.int .i64 o.2.2.2.1), .v (.string ⟨o.2.2.2.2.toArray⟩)] none), (48, .box (wC W) none), (144, .box (tgC T b v gZ) none)] M7 rfl (Ent.of (by simp only [sx, sb1, sb2, sb3, sb4, sb5, sb6, sb7, ↓reduceIte, zqa, zqb, zqc, zqd, zqe, zqf, reduceCtorEq, zra, zrb, zrc, zrd, zre, zrf, zrg, zrh, zri, zrj, zrk, zrl, zrm, zqg])) ?_
      generalize T = TZ at hR ⊢
      generalize b = bZ at hR ⊢
      generalize v = vZ at hR ⊢
      generalize ws = wsZ at hR ⊢
      exact J TZ bZ vZ gZ wsZ M7 hR
    · simp only [shs, zts, sos, sls, zss, eqs, sx, sb1, sb2, sb3, sb4, sb5, sb6, sb7, ↓reduceIte, zqa, zqb, zqc, zqd, zqe, zqf, reduceCtorEq, zra, zrb, zrc, zrd, zre, zrf, zrg, zrh, zri, zrj, zrk, zrl, zrm, zqg, nzs, tnk, wnk, hx5.one, hx5.len, hx5.sl, x0, x1, x2, x3, y0.1, y0.2, y1.1, y1.2, y2.1, y2.2, y3.1, y3.2]
      refine CallK.pure ⟨rfl, rfl⟩ rfl (hA M5) ?_
      simp only [shs, zts, sos, sls, zss, eqs, sx, sb1, sb2, sb3, sb4, sb5, sb6, sb7, ↓reduceIte, zqa, zqb, zqc, zqd, zqe, zqf, reduceCtorEq, zra, zrb, zrc, zrd, zre, zrf, zrg, zrh, zri, zrj, zrk, zrl, zrm, zqg, nzs, tnk, wnk]
      refine release3 64 48 144 rfl (by rw [wC_conc]; rfl) wh m2 3 h3 fun gZ M7 hM7 hT7 => ?_
      have hH := held_trv h4 (S := Rv.relS T.2.1.1 T.2.1.2.1 T.2.1.2.2.1 T.2.1.2.2.2 wh m2 3) rel_right (rel_alone h4.alone hw3)
      generalize trvS T (Rv.relS T.2.1.1 T.2.1.2.1 T.2.1.2.2.1 T.2.1.2.2.2 wh m2 3) = TZ at hT7 hH ⊢
      simp only [shs, zts, sos, sls, zss, eqs, sx, sb1, sb2, sb3, sb4, sb5, sb6, sb7, ↓reduceIte, zqa, zqb, zqc, zqd, zqe, zqf, reduceCtorEq, zra, zrb, zrc, zrd, zre, zrf, zrg, zrh, zri, zrj, zrk, zrl, zrm, zqg, nzs, tnk, wnk]
      have hR : M5.le M7 ∧ TgM M7 TZ b v gZ ws ∧ Held TZ W := ⟨hM7, hT7, hH⟩
      refine weakC [(1, true, .v z), (5, true, .ptr 144 0 0 0), (6, true, .ptr 48 0 0 0), (8, true, .ptr 64 0 0 0), (45, true, .v (subV y 5 0 n)), (46, true, .v (.int .i64 n)), (47, true, .v (.int .i64 i))] [(64, .box [.v (.int .i64 o.1), .v (.string ⟨o.2.1.toArray⟩), .v (.string ⟨o.2.2.1.toArray⟩), .v (.int .i64 o.2.2.2.1), .v (.string ⟨o.2.2.2.2.toArray⟩)] none), (48, .box (wC W) none), (144, .box (tgC TZ b v gZ) none)] M7 rfl (Ent.of (by simp only [sx, sb1, sb2, sb3, sb4, sb5, sb6, sb7, ↓reduceIte, zqa, zqb, zqc, zqd, zqe, zqf, reduceCtorEq, zra, zrb, zrc, zrd, zre, zrf, zrg, zrh, zri, zrj, zrk, zrl, zrm, zqg])) ?_
      generalize b = bZ at hR ⊢
      generalize v = vZ at hR ⊢
      generalize ws = wsZ at hR ⊢
      exact J TZ bZ vZ gZ wsZ M7 hR
    · simp only [shs, zts, sos, sls, zss, eqs, sx, sb1, sb2, sb3, sb4, sb5, sb6, sb7, ↓reduceIte, zqa, zqb, zqc, zqd, zqe, zqf, reduceCtorEq, zra, zrb, zrc, zrd, zre, zrf, zrg, zrh, zri, zrj, zrk, zrl, zrm, zqg, nzs, tnk, wnk, hx5.one, hx5.len, hx5.sl, x0, x1, x2, x3, y0.1, y0.2, y1.1, y1.2, y2.1, y2.2, y3.1, y3.2]
      refine DrawK.held [] (tk [0, 1, 2, 6, 3, 7, 4, 8] (.one 5 (.one 9 (.one 10 (tk [11, 12, 13, 14, 15] (.one 16 (tk [17, 18] .done))))))) (by kernel_rfl) (by kernel_rfl) fun xs => ?_
      simp only [shs, zts, sos, sls, zss, eqs, sx, sb1, sb2, sb3, sb4, sb5, sb6, sb7, ↓reduceIte, zqa, zqb, zqc, zqd, zqe, zqf, reduceCtorEq, zra, zrb, zrc, zrd, zre, zrf, zrg, zrh, zri, zrj, zrk, zrl, zrm, zqg, nzs, tnk, wnk, se1, se2, tks, hx5.one, hx5.len, hx5.sl, x0, x1, x2, x3, y0.1, y0.2, y1.1, y1.2, y2.1, y2.2, y3.1, y3.2]
      refine CallK.pure ⟨rfl, rfl⟩ rfl (hA M5) ?_
      simp only [shs, zts, sos, sls, zss, eqs, sx, sb1, sb2, sb3, sb4, sb5, sb6, sb7, ↓reduceIte, zqa, zqb, zqc, zqd, zqe, zqf, reduceCtorEq, zra, zrb, zrc, zrd, zre, zrf, zrg, zrh, zri, zrj, zrk, zrl, zrm, zqg, nzs, tnk, wnk, se1, se2, tks, hx5.one, hx5.len, hx5.sl, x0, x1, x2, x3, y0.1, y0.2, y1.1, y1.2, y2.1, y2.2, y3.1, y3.2]
      refine CallK.pure ⟨rfl, rfl⟩ rfl (hB M5) ?_
      simp only [shs, zts, sos, sls, zss, eqs, sx, sb1, sb2, sb3, sb4, sb5, sb6, sb7, ↓reduceIte, zqa, zqb, zqc, zqd, zqe, zqf, reduceCtorEq, zra, zrb, zrc, zrd, zre, zrf, zrg, zrh, zri, zrj, zrk, zrl, zrm, zqg, nzs, tnk, wnk, se1, se2, tks, hx5.one, hx5.len, hx5.sl, x0, x1, x2, x3, y0.1, y0.2, y1.1, y1.2, y2.1, y2.2, y3.1, y3.2]
      refine preempt3 64 48 144 rfl (by rw [wC_conc]; rfl) wh m2 m3 3 h3 fun gZ M7 hM7 hT7 => ?_
      have hH := held_trv h4 (S := Rv.preS T.2.1.1 T.2.1.2.1 T.2.1.2.2.1 T.2.1.2.2.2 wh m2 m3 3) pre_right (pre_alone h4.alone hw3 (by omega))
      generalize trvS T (Rv.preS T.2.1.1 T.2.1.2.1 T.2.1.2.2.1 T.2.1.2.2.2 wh m2 m3 3) = TZ at hT7 hH ⊢
      have d5 : ((m3 : Int) = 9) = False := eq_false (by omega)
      generalize (Rv.preS T.2.1.1 T.2.1.2.1 T.2.1.2.2.1 T.2.1.2.2.2 wh m2 m3 3).1 = eZ
      by_cases h9 : eZ = 0
      · subst h9
        simp only [shs, zts, sos, sls, zss, eqs, sx, sb1, sb2, sb3, sb4, sb5, sb6, sb7, ↓reduceIte, zqa, zqb, zqc, zqd, zqe, zqf, reduceCtorEq, zra, zrb, zrc, zrd, zre, zrf, zrg, zrh, zri, zrj, zrk, zrl, zrm, zqg, nzs, tnk, wnk, se1, se2, tks, hM7, hx5.one, hx5.len, hx5.sl, x0, x1, x2, x3, y0.1, y0.2, y1.1, y1.2, y2.1, y2.2, y3.1, y3.2]
        refine CallK.pure ⟨rfl, rfl⟩ rfl (hB M7) ?_
        simp only [shs, zts, sos, sls, zss, eqs, sx, sb1, sb2, sb3, sb4, sb5, sb6, sb7, ↓reduceIte, zqa, zqb, zqc, zqd, zqe, zqf, reduceCtorEq, zra, zrb, zrc, zrd, zre, zrf, zrg, zrh, zri, zrj, zrk, zrl, zrm, zqg, nzs, tnk, wnk, se1, se2, tks, hM7, d5]
        have hR : M5.le M7 ∧ TgM M7 TZ b v gZ ws ∧ Held TZ W := ⟨hM7, hT7, hH⟩
        refine weakC [(1, true, .v z), (5, true, .ptr 144 0 0 0), (6, true, .ptr 48 0 0 0), (8, true, .ptr 64 0 0 0), (45, true, .v (subV y 5 0 n)), (46, true, .v (.int .i64 n)), (47, true, .v (.int .i64 i))] [(64, .box [.v (.int .i64 o.1), .v (.string ⟨o.2.1.toArray⟩), .v (.string ⟨o.2.2.1.toArray⟩), .v (.int .i64 o.2.2.2.1), .v (.string ⟨o.2.2.2.2.toArray⟩)] none), (48, .box (wC W) none), (144, .box (tgC TZ b v gZ) none)] M7 rfl (Ent.heap (HEnt.untie (k := 64) rfl) (Ent.heap (HEnt.untie (k := 48) rfl) (Ent.heap (HEnt.untie (k := 144) rfl) (Ent.of (by simp only [sx, sb1, sb2, sb3, sb4, sb5, sb6, sb7, ↓reduceIte, zqa, zqb, zqc, zqd, zqe, zqf, reduceCtorEq, zra, zrb, zrc, zrd, zre, zrf, zrg, zrh, zri, zrj, zrk, zrl, zrm, zqg, hset]))))) ?_
        generalize b = bZ at hR ⊢
        generalize v = vZ at hR ⊢
        generalize ws = wsZ at hR ⊢
        exact J TZ bZ vZ gZ wsZ M7 hR
      · have d9 := eq_false h9
        simp only [shs, zts, sos, sls, zss, eqs, sx, sb1, sb2, sb3, sb4, sb5, sb6, sb7, ↓reduceIte, zqa, zqb, zqc, zqd, zqe, zqf, reduceCtorEq, zra, zrb, zrc, zrd, zre, zrf, zrg, zrh, zri, zrj, zrk, zrl, zrm, zqg, nzs, tnk, wnk, se1, se2, tks, hM7, d9]
        have hR : M5.le M7 ∧ TgM M7 TZ b v gZ ws ∧ Held TZ W := ⟨hM7, hT7, hH⟩
        refine weakC [(1, true, .v z), (5, true, .ptr 144 0 0 0), (6, true, .ptr 48 0 0 0), (8, true, .ptr 64 0 0 0), (45, true, .v (subV y 5 0 n)), (46, true, .v (.int .i64 n)), (47, true, .v (.int .i64 i))] [(64, .box [.v (.int .i64 o.1), .v (.string ⟨o.2.1.toArray⟩), .v (.string ⟨o.2.2.1.toArray⟩), .v (.int .i64 o.2.2.2.1), .v (.string ⟨o.2.2.2.2.toArray⟩)] none), (48, .box (wC W) none), (144, .box (tgC TZ b v gZ) none)] M7 rfl (Ent.heap (HEnt.untie (k := 64) rfl) (Ent.heap (HEnt.untie (k := 48) rfl) (Ent.heap (HEnt.untie (k := 144) rfl) (Ent.of (by simp only [sx, sb1, sb2, sb3, sb4, sb5, sb6, sb7, ↓reduceIte, zqa, zqb, zqc, zqd, zqe, zqf, reduceCtorEq, zra, zrb, zrc, zrd, zre, zrf, zrg, zrh, zri, zrj, zrk, zrl, zrm, zqg, hset]))))) ?_
        generalize b = bZ at hR ⊢
        generalize v = vZ at hR ⊢
        generalize ws = wsZ at hR ⊢
        exact J TZ bZ vZ gZ wsZ M7 hR
  rintro T' b' v' g' ws' M6 ⟨q1, q2, q3⟩
  obtain ⟨j, hj, hJ⟩ := withinK o.2.2.2.1 4 (by decide) (by decide)
  refine CallK.pure ⟨rfl, rfl⟩ rfl (hJ M6) ?_
  simp only [shs, zts, sos, sls, zss, eqs, sx, sb1, sb2, sb3, sb4, sb5, sb6, sb7, ↓reduceIte, zqa, zqb, zqc, zqd, zqe, zqf, reduceCtorEq, zra, zrb, zrc, zrd, zre, zrf, zrg, zrh, zri, zrj, zrk, zrl, zrm, zqg, nzs, tnk, wnk]
  refine do3 64 48 144 rfl (by rw [wC_conc]; rfl) 3 (3, [97], [], (j : Int), o.2.2.2.2) q2 q3.right fun b5 v5 ws5 M7 hM7 hT7 => ?_
  have hW := held_write q3 hj o.2.2.2.2
  rw [show inA = [97] from rfl] at hW
  generalize tdoS T' 3 (3, [97], [], (j : Int), o.2.2.2.2) = D at hT7 hW ⊢
  obtain ⟨T2, e⟩ := D
  simp only at hT7 hW ⊢
  have hstr : ∀ (E : Txt) , (Value.string ⟨E.toArray⟩ = Value.string ⟨E.toArray⟩) = True := fun E => eq_true rfl
  have hWl : W.length = 4 := q3.wrote.1
  have hjW : j * 1 = j := by omega
  apply joinR (fun W' M' => M7.le M' ∧ Held T2 W')
  case h =>
    intro J
    by_cases he : e = 0
    case pos =>
      rw [if_pos he] at hW
      simp only [shs, zts, sos, sls, zss, eqs, sx, sb1, sb2, sb3, sb4, sb5, sb6, sb7, ↓reduceIte, zqa, zqb, zqc, zqd, zqe, zqf, reduceCtorEq, zra, zrb, zrc, zrd, zre, zrf, zrg, zrh, zri, zrj, zrk, zrl, zrm, zqg, nzs, tnk, wnk, wC_len, hWl, hjW, cellsSV, putAt, wC_set, he]
      refine ⟨⟨by omega, by omega⟩, by omega, ?_⟩
      generalize hgM : M7 = M8
      have hR : M7.le M8 ∧ Held T2 (W.set j o.2.2.2.2) := ⟨hgM ▸ Mem.le.refl M7, hW⟩
      generalize W.set j o.2.2.2.2 = WZ at hR ⊢
      refine weakS [(1, true, .v z), (5, true, .ptr 144 0 0 0), (6, true, .ptr 48 0 0 0), (13, true, .v (.int .i64 j)), (45, true, .v (subV y 5 0 n)), (46, true, .v (.int .i64 n)), (47, true, .v (.int .i64 i))] [(64, .box [.v (.int .i64 o.1), .v (.string ⟨o.2.1.toArray⟩), .v (.string ⟨o.2.2.1.toArray⟩), .v (.int .i64 o.2.2.2.1), .v (.string ⟨o.2.2.2.2.toArray⟩)] none), (48, .box (wC WZ) none), (144, .box (tgC T2 b5 v5 g') none)] M8 (by simp only [sx, sb1, sb2, sb3, sb4, sb5, sb6, sb7, ↓reduceIte, zqa, zqb, zqc, zqd, zqe, zqf, reduceCtorEq, zra, zrb, zrc, zrd, zre, zrf, zrg, zrh, zri, zrj, zrk, zrl, zrm, zqg]) ?_
      exact J WZ M8 hR
    case neg =>
      have de := eq_false he
      rw [if_neg he] at hW
      simp only [shs, zts, sos, sls, zss, eqs, sx, sb1, sb2, sb3, sb4, sb5, sb6, sb7, ↓reduceIte, zqa, zqb, zqc, zqd, zqe, zqf, reduceCtorEq, zra, zrb, zrc, zrd, zre, zrf, zrg, zrh, zri, zrj, zrk, zrl, zrm, zqg, nzs, tnk, wnk, de]
      generalize hgM : M7 = M8
      have hR : M7.le M8 ∧ Held T2 W := ⟨hgM ▸ Mem.le.refl M7, hW⟩
      generalize W = WZ at hR ⊢
      refine weakS [(1, true, .v z), (5, true, .ptr 144 0 0 0), (6, true, .ptr 48 0 0 0), (13, true, .v (.int .i64 j)), (45, true, .v (subV y 5 0 n)), (46, true, .v (.int .i64 n)), (47, true, .v (.int .i64 i))] [(64, .box [.v (.int .i64 o.1), .v (.string ⟨o.2.1.toArray⟩), .v (.string ⟨o.2.2.1.toArray⟩), .v (.int .i64 o.2.2.2.1), .v (.string ⟨o.2.2.2.2.toArray⟩)] none), (48, .box (wC WZ) none), (144, .box (tgC T2 b5 v5 g') none)] M8 (by simp only [sx, sb1, sb2, sb3, sb4, sb5, sb6, sb7, ↓reduceIte, zqa, zqb, zqc, zqd, zqe, zqf, reduceCtorEq, zra, zrb, zrc, zrd, zre, zrf, zrg, zrh, zri, zrj, zrk, zrl, zrm, zqg]) ?_
      exact J WZ M8 hR
  rintro W' M8 ⟨r1, r2⟩
  refine read3 64 48 144 rfl (by rw [wC_conc]; rfl) 3 [97] j (hT7.le r1) r2.right ?_
  rw [show ([97] : Txt) = inA from rfl, held_read r2 hj]
  have hWl' : W'.length = 4 := r2.wrote.1
  have hget := wC_get (W := W') (j := j) (by omega)
  unfold getSV at hget
  simp only [shs, zts, sos, sls, zss, eqs, sx, sb1, sb2, sb3, sb4, sb5, sb6, sb7, ↓reduceIte, zqa, zqb, zqc, zqd, zqe, zqf, reduceCtorEq, zra, zrb, zrc, zrd, zre, zrf, zrg, zrh, zri, zrj, zrk, zrl, zrm, zqg, nzs, tnk, wnk, wC_len, hWl', hjW, hget, inK, lo, hi]
  have hM68 := (q1.trans hM7).trans r1
  refine ⟨⟨by omega, by omega⟩, by omega, ⟨by omega, by omega⟩, (f - 1, i + 1, T2, (b5, v5, g', ws5), W', M8), ⟨⟨⟨by simp only; omega, h2.trans hM68⟩, hT7.le r1, r2⟩, by simp only; omega⟩, Ent.of ?_⟩
  simp only [sx, sb1, sb2, sb3, sb4, sb5, sb6, sb7, ↓reduceIte, zqa, zqb, zqc, zqd, zqe, zqf, reduceCtorEq, zra, zrb, zrc, zrd, zre, zrf, zrg, zrh, zri, zrj, zrk, zrl, zrm, zqg, Int.natCast_add]
theorem rightsL (a0 : Value × List (Int × List UInt8 × List UInt8 × Int × List UInt8)) (a1 : Value × List (Value × List Int)) (M : Mem)
    (h0 : RowM M a0.1 5 (a0.2.map fun a => [Value.int .i64 a.1] ++ ([Value.string ⟨a.2.1.toArray⟩] ++ ([Value.string ⟨a.2.2.1.toArray⟩] ++ ([Value.int .i64 a.2.2.2.1] ++ [Value.string ⟨a.2.2.2.2.toArray⟩])))) ∧ a0.2.length * 64 ≤ reachBytes ∧ ∀ x ∈ a0.2, inK .i64 x.1 ∧ x.2.1.length ≤ reachBytes ∧ x.2.2.1.length ≤ reachBytes ∧ inK .i64 x.2.2.2.1 ∧ x.2.2.2.2.length ≤ reachBytes)
    (h1 : RowM M a1.1 1 (a1.2.map fun a => [a.1]) ∧ a1.2.length * 24 ≤ reachBytes ∧ ∀ x ∈ a1.2, RowM M x.1 1 (x.2.map fun a => [Value.int .i64 a]) ∧ x.2.length * 8 ≤ reachBytes ∧ ∀ q ∈ x.2, inK .i64 q) :
    Meets Proofs.Tryz.prog 3 [.v a0.1, .v a1.1] M fun r _ _ => r = .v (.bool true) :=
  rightsW a0.1 a1.1 a0.2 a1.2 M h0.1 h1.1 (fun x hx => (h1.2.2 x hx).1)
end Go.X.Th

