/- Contracts of functions and the logic that they are proved in (3 texts in one). Conditions: none. -/
import Derived.Test.YteebcojoghnlnaaMg14
import Derived.Test.YteebcojoghnlnaaMg19
import Derived.Test.YteebcojoghnlnaaMg10
import Derived.Test.YteebcojoghnlnaaMg4
import Derived.Test.YteebcojoghnlnaaMg5
namespace Go.X.Bg
end Go.X.Bg
namespace Go.X.Nm
end Go.X.Nm
namespace Go.X.Bp
end Go.X.Bp
namespace Go.X.Sb
end Go.X.Sb
namespace Go.X.Rp
end Go.X.Rp
set_option linter.unusedSimpArgs false
set_option linter.unusedVariables false
set_option maxHeartbeats 4000000
set_option maxRecDepth 20000
namespace Go.X.Vo
open Go Go.X Go.RowKit Go.X.Bg Go.X.Nm Go.X.Bp Go.X.Sb

theorem begunW (M : Mem) : Meets Proofs.Try.prog 6 [] M fun r _ _ => r = .v (.bool true) := by
  refine Meets.of_body [0,1,2] Proofs.Try.func6 rfl (by kernel_rfl) rfl fun w => ?_
  have hM := Pl.Mul 3 3 M (by decide) (by decide)
  rw [show Pl.mulV 3 3 = .tup [.v (.int .i64 5), .v (.int .i64 0)] by unfold Pl.mulV; rw [show Pol.mulp 3 3 = 5 by decide +kernel]; rfl] at hM
  simp only [Proofs.Try.f6, shs, zts, sos, sls, zss, eqs, sx, sb1, sb2, sb3, sb4, sb5, sb6, sb7, ↓reduceIte, Nat.reduceAdd, Nat.reduceMul, Nat.reduceDiv, Nat.reduceEqDiff, Nat.reduceLT, Nat.reduceLeDiff, reduceCtorEq, Int.reduceEq, Int.reduceNe, Int.reduceLT, Int.reduceLE, Int.reduceAdd, Int.reduceSub, Int.reduceMul, Int.reduceNeg, Int.reduceToNat, Int.cast_ofNat_Int, Int.natCast_zero, Int.natCast_one, Int.toNat_natCast, Nat.reduceBEq, nzs]
  refine CallK.pure ⟨rfl, rfl⟩ rfl hM ?_
  simp only [shs, zts, sos, sls, zss, eqs, sx, sb1, sb2, sb3, sb4, sb5, sb6, sb7, ↓reduceIte, Nat.reduceAdd, Nat.reduceMul, Nat.reduceDiv, Nat.reduceEqDiff, Nat.reduceLT, Nat.reduceLeDiff, reduceCtorEq, Int.reduceEq, Int.reduceNe, Int.reduceLT, Int.reduceLE, Int.reduceAdd, Int.reduceSub, Int.reduceMul, Int.reduceNeg, Int.reduceToNat, Int.cast_ofNat_Int, Int.natCast_zero, Int.natCast_one, Int.toNat_natCast, Nat.reduceBEq, nzs]
theorem loadedW (b v : Value) (bag : List It) (ws : List WV) (n : Txt) (k : Nat) (M : Mem) (hb : RowM M b 4 (bag.map Bg.encT)) (hv : VolsM M v ws) (hk : k ≤ 32) :
    Meets Proofs.Try.prog 8 [stV b v, .v (.string ⟨n.toArray⟩), .v (.int .i64 k)] M fun r _ _ => r = .v (.string ⟨(ldS (bag, ws.map (·.2)) n k).toArray⟩) := by
  refine Meets.of_body [0,1,2,3,6,7,8,9,11,12,13] Proofs.Try.func8 rfl (by kernel_rfl) rfl fun w => ?_
  have hR : ∀ a : Int, Meets _ _ _ M _ := fun a => read b v bag ws n a M hb hv
  simp only [stV] at hR
  have hlen : ∀ a : Int, (rdS bag (ws.map (·.2)) n a).length ≤ 64 := fun a => by
    unfold rdS
    split
    · rename_i h
      split
      · rename_i h1
        have hs := (plE_ok h).1
        unfold txtId
        cases hx : bag[(fidx (isId (rdId (ws.map (·.2)) n a)) bag 0).toNat]? with
        | none => exact Nat.zero_le _
        | some x => exact (oneE_ok (bag_ok (stE_ok hs).1 x (List.mem_of_getElem? hx))).1.1
      · exact Nat.zero_le _
    · exact Nat.zero_le _
  have hstep : ∀ i : Nat, ldS (bag, ws.map (·.2)) n (i + 1) = ldS (bag, ws.map (·.2)) n i ++ rdS bag (ws.map (·.2)) n (i : Int) := fun i => ldS_succ _ n i
  have hll : ∀ i : Nat, (ldS (bag, ws.map (·.2)) n i).length ≤ 64 * i := fun i => by
    induction i with
    | zero => exact Nat.le_refl 0
    | succ i ih => rw [hstep, List.length_append]; have := hlen (i : Int); omega
  have h0 : ldS (bag, ws.map (·.2)) n 0 = [] := rfl
  generalize ldS (bag, ws.map (·.2)) n = L at *
  simp only [Proofs.Try.f8, stV, shs, zts, sos, sls, zss, eqs, sx, sb1, sb2, sb3, sb4, sb5, sb6, sb7, ↓reduceIte, Nat.reduceAdd, Nat.reduceMul, Nat.reduceDiv, Nat.reduceEqDiff, Nat.reduceLT, Nat.reduceLeDiff, reduceCtorEq, Int.reduceEq, Int.reduceNe, Int.reduceLT, Int.reduceLE, Int.reduceAdd, Int.reduceSub, Int.reduceMul, Int.reduceNeg, Int.reduceToNat, Int.cast_ofNat_Int, Int.natCast_zero, Int.natCast_one, Int.toNat_natCast, Nat.reduceBEq, nzs, hb.one, hv.row.one]
  refine LoopK.go (X := Nat) (fun i => ([(1, true, .v (.string ⟨n.toArray⟩)), (3, true, .ptr 24 0 0 0), (7, true, .v (.string ⟨(L i).toArray⟩)), (11, true, .v (.int .i64 k)), (12, true, .v (.int .i64 i))], [(24, .box [.v b, .v v] none)], M))
    (fun i => i ≤ k) (fun i => k - i) 0 (Nat.zero_le _) (Ent.of ?_) ?_
  · simp only [sx, sb1, sb2, sb3, sb4, sb5, sb6, sb7, ↓reduceIte, Nat.reduceAdd, Nat.reduceMul, Nat.reduceDiv, Nat.reduceEqDiff, Nat.reduceLT, Nat.reduceLeDiff, reduceCtorEq, Int.reduceEq, Int.reduceNe, Int.reduceLT, Int.reduceLE, Int.reduceAdd, Int.reduceSub, Int.reduceMul, Int.reduceNeg, Int.reduceToNat, Int.cast_ofNat_Int, Int.natCast_zero, Int.natCast_one, Int.toNat_natCast, Nat.reduceBEq, Int.natCast_zero, h0]
  intro i n1
  by_cases hil : i < k
  rotate_left
  · have d1 : ((i : Int) < (k : Int)) = False := eq_false (by omega)
    have ei : i = k := by omega
    subst ei
    simp only [shs, zts, sos, sls, zss, eqs, sx, sb1, sb2, sb3, sb4, sb5, sb6, sb7, ↓reduceIte, Nat.reduceAdd, Nat.reduceMul, Nat.reduceDiv, Nat.reduceEqDiff, Nat.reduceLT, Nat.reduceLeDiff, reduceCtorEq, Int.reduceEq, Int.reduceNe, Int.reduceLT, Int.reduceLE, Int.reduceAdd, Int.reduceSub, Int.reduceMul, Int.reduceNeg, Int.reduceToNat, Int.cast_ofNat_Int, Int.natCast_zero, Int.natCast_one, Int.toNat_natCast, Nat.reduceBEq, nzs, d1]
  have d1 : ((i : Int) < (k : Int)) = True := eq_true (by omega)
  have q1 := hll i
  have q2 := hlen (i : Int)
  simp only [shs, zts, sos, sls, zss, eqs, sx, sb1, sb2, sb3, sb4, sb5, sb6, sb7, ↓reduceIte, Nat.reduceAdd, Nat.reduceMul, Nat.reduceDiv, Nat.reduceEqDiff, Nat.reduceLT, Nat.reduceLeDiff, reduceCtorEq, Int.reduceEq, Int.reduceNe, Int.reduceLT, Int.reduceLE, Int.reduceAdd, Int.reduceSub, Int.reduceMul, Int.reduceNeg, Int.reduceToNat, Int.cast_ofNat_Int, Int.natCast_zero, Int.natCast_one, Int.toNat_natCast, Nat.reduceBEq, nzs, d1]
  refine CallK.pure ⟨rfl, rfl⟩ rfl (hR (i : Int)) ?_
  simp only [shs, zts, sos, sls, zss, eqs, sx, sb1, sb2, sb3, sb4, sb5, sb6, sb7, ↓reduceIte, Nat.reduceAdd, Nat.reduceMul, Nat.reduceDiv, Nat.reduceEqDiff, Nat.reduceLT, Nat.reduceLeDiff, reduceCtorEq, Int.reduceEq, Int.reduceNe, Int.reduceLT, Int.reduceLE, Int.reduceAdd, Int.reduceSub, Int.reduceMul, Int.reduceNeg, Int.reduceToNat, Int.cast_ofNat_Int, Int.natCast_zero, Int.natCast_one, Int.toNat_natCast, Nat.reduceBEq, nzs, inK, lo, hi]
  refine ⟨by omega, by omega, i + 1, ⟨by omega, by omega⟩, Ent.of ?_⟩
  simp only [sx, sb1, sb2, sb3, sb4, sb5, sb6, sb7, ↓reduceIte, Nat.reduceAdd, Nat.reduceMul, Nat.reduceDiv, Nat.reduceEqDiff, Nat.reduceLT, Nat.reduceLeDiff, reduceCtorEq, Int.reduceEq, Int.reduceNe, Int.reduceLT, Int.reduceLE, Int.reduceAdd, Int.reduceSub, Int.reduceMul, Int.reduceNeg, Int.reduceToNat, Int.cast_ofNat_Int, Int.natCast_zero, Int.natCast_one, Int.toNat_natCast, Nat.reduceBEq, Int.natCast_add, hstep]
def stT (A : St × Nat × Bool) (s : SV) : SV := .tup [s, .v (.int .i64 A.2.1), .v (.bool A.2.2)]
theorem storedW (b v : Value) (bag : List It) (ws : List WV) (n s : Txt) (M : Mem) (hb : RowM M b 4 (bag.map Bg.encT)) (hv : VolsM M v ws) (hs : s.length ≤ maxLen) :
    Meets Proofs.Try.prog 7 [stV b v, .v (.string ⟨n.toArray⟩), .v (.string ⟨s.toArray⟩)] M (StM (stT (stoT (bag, ws.map (·.2)) n s)) (stoT (bag, ws.map (·.2)) n s).1) := by
  refine Meets.of_body [0,1,2,3,6,7,8,9,10,11,12,13,14,31,40,51,53,54,55,56,69] Proofs.Try.func7 rfl (by kernel_rfl) rfl fun w => ?_
  generalize hc : stoT (bag, ws.map (·.2)) n s = c
  unfold stoT at hc
  simp only [Proofs.Try.f7, stV, shs, zts, sos, sls, zss, eqs, sx, sb1, sb2, sb3, sb4, sb5, sb6, sb7, ↓reduceIte, Nat.reduceAdd, Nat.reduceMul, Nat.reduceDiv, Nat.reduceEqDiff, Nat.reduceLT, Nat.reduceLeDiff, reduceCtorEq, Int.reduceEq, Int.reduceNe, Int.reduceLT, Int.reduceLE, Int.reduceAdd, Int.reduceSub, Int.reduceMul, Int.reduceNeg, Int.reduceToNat, Int.cast_ofNat_Int, Int.natCast_zero, Int.natCast_one, Int.toNat_natCast, Nat.reduceBEq, nzs, hb.one, hv.row.one]
  by_cases h1 : 600 < s.length
  · rw [if_pos h1] at hc
    subst hc
    have hcb : Cu.cutB s 4 64 7 = 2 := if_pos (by omega)
    have hE := Cu.ends_bad s 4 64 7 M (by rw [hcb]; decide)
    rw [hcb] at hE
    refine CallK.pure ⟨rfl, rfl⟩ rfl hE ?_
    simp only [shs, zts, sos, sls, zss, eqs, sx, sb1, sb2, sb3, sb4, sb5, sb6, sb7, ↓reduceIte, Nat.reduceAdd, Nat.reduceMul, Nat.reduceDiv, Nat.reduceEqDiff, Nat.reduceLT, Nat.reduceLeDiff, reduceCtorEq, Int.reduceEq, Int.reduceNe, Int.reduceLT, Int.reduceLE, Int.reduceAdd, Int.reduceSub, Int.reduceMul, Int.reduceNeg, Int.reduceToNat, Int.cast_ofNat_Int, Int.natCast_zero, Int.natCast_one, Int.toNat_natCast, Nat.reduceBEq, nzs, hb.one, hv.row.one, stT]
    exact ⟨b, v, ws, rfl, rfl, hb, hv⟩
  rw [if_neg h1] at hc
  have hE := Cu.ends_ok s 4 64 7 M (by omega) (by decide) (by decide) (by decide) (by decide)
  have hel := chop_ends 600 s
  refine CallK.row (T := fun t => .tup [t, .v (.int .i64 0)]) (Ctx.fst _) rfl rfl hE fun u M1 hM1 hu => ?_
  have hul := hu.len
  rw [List.length_map, hel] at hul
  have hbl := hb.le hM1
  by_cases h2 : 32 < (chop 600 s).length
  · have c2 : ((32 : Int) < ((chop 600 s).length : Int)) = True := eq_true (by omega)
    rw [if_pos (.inl h2)] at hc
    subst hc
    simp only [shs, zts, sos, sls, zss, eqs, sx, sb1, sb2, sb3, sb4, sb5, sb6, sb7, ↓reduceIte, Nat.reduceAdd, Nat.reduceMul, Nat.reduceDiv, Nat.reduceEqDiff, Nat.reduceLT, Nat.reduceLeDiff, reduceCtorEq, Int.reduceEq, Int.reduceNe, Int.reduceLT, Int.reduceLE, Int.reduceAdd, Int.reduceSub, Int.reduceMul, Int.reduceNeg, Int.reduceToNat, Int.cast_ofNat_Int, Int.natCast_zero, Int.natCast_one, Int.toNat_natCast, Nat.reduceBEq, nzs, hul, hu.sl, c2, hb.one, hv.row.one, stT]
    exact ⟨b, v, ws, rfl, rfl, hb.le hM1, hv.le hM1⟩
  have c2 : ((32 : Int) < ((chop 600 s).length : Int)) = False := eq_false (by omega)
  by_cases h3 : (chop 600 s).length = 0
  · rw [if_pos (.inr h3)] at hc
    subst hc
    simp only [shs, zts, sos, sls, zss, eqs, sx, sb1, sb2, sb3, sb4, sb5, sb6, sb7, ↓reduceIte, Nat.reduceAdd, Nat.reduceMul, Nat.reduceDiv, Nat.reduceEqDiff, Nat.reduceLT, Nat.reduceLeDiff, reduceCtorEq, Int.reduceEq, Int.reduceNe, Int.reduceLT, Int.reduceLE, Int.reduceAdd, Int.reduceSub, Int.reduceMul, Int.reduceNeg, Int.reduceToNat, Int.cast_ofNat_Int, Int.natCast_zero, Int.natCast_one, Int.toNat_natCast, Nat.reduceBEq, nzs, hul, hu.sl, h3, hb.one, hv.row.one, stT]
    exact ⟨b, v, ws, rfl, rfl, hb.le hM1, hv.le hM1⟩
  have c3 : (((chop 600 s).length : Int) = 0) = False := eq_false (by omega)
  rw [if_neg (by omega)] at hc
  have hspl := spl_chop s 600 0 [] (by omega) (Nat.zero_le _)
  rw [List.drop_zero, List.nil_append] at hspl
  have hu' : RowM M1 u 1 (((Cu.ends 4 64 7 600 s).map fun k => ((k + 0 : Nat) : Int)).map encI) := by
    rw [List.map_map]
    exact hu
  have hS := Sp.split s u _ M1 (by omega) hu'
  rw [hspl] at hS
  simp only [shs, zts, sos, sls, zss, eqs, sx, sb1, sb2, sb3, sb4, sb5, sb6, sb7, ↓reduceIte, Nat.reduceAdd, Nat.reduceMul, Nat.reduceDiv, Nat.reduceEqDiff, Nat.reduceLT, Nat.reduceLeDiff, reduceCtorEq, Int.reduceEq, Int.reduceNe, Int.reduceLT, Int.reduceLE, Int.reduceAdd, Int.reduceSub, Int.reduceMul, Int.reduceNeg, Int.reduceToNat, Int.cast_ofNat_Int, Int.natCast_zero, Int.natCast_one, Int.toNat_natCast, Nat.reduceBEq, nzs, hul, hu.sl, c2, c3]
  refine Sp.CallK.splitR rfl rfl hS fun p e M2 hM2 hpi hp => ?_
  rcases hp with ⟨out, ho, rfl, hp⟩ | ⟨ho, _⟩
  rotate_left
  · cases ho
  cases ho
  have hb2 := hb.le (hM1.trans hM2)
  have hv2 := hv.le (hM1.trans hM2)
  have hpl := hp.len
  rw [List.length_map] at hpl
  have hmk := make b v bag ws n ((chop 600 s).length : Int) M2 hb2 hv2
  simp only [stV] at hmk
  have hk32 : (chop 600 s).length ≤ 32 := by omega
  have hsl : ∀ (A : St × Nat × Bool), True := fun _ => trivial
  generalize chop 600 s = P at *
  simp only at hc
  generalize makeA bag (ws.map (·.2)) n (P.length : Int) = A1 at *
  simp only [shs, zts, sos, sls, zss, eqs, sx, sb1, sb2, sb3, sb4, sb5, sb6, sb7, ↓reduceIte, Nat.reduceAdd, Nat.reduceMul, Nat.reduceDiv, Nat.reduceEqDiff, Nat.reduceLT, Nat.reduceLeDiff, reduceCtorEq, Int.reduceEq, Int.reduceNe, Int.reduceLT, Int.reduceLE, Int.reduceAdd, Int.reduceSub, Int.reduceMul, Int.reduceNeg, Int.reduceToNat, Int.cast_ofNat_Int, Int.natCast_zero, Int.natCast_one, Int.toNat_natCast, Nat.reduceBEq, nzs, hpl, hpi, hb.one, hv.row.one]
  refine CallK.stM (T := fun s => .tup [s, .v (.int .i64 A1.2)]) (fun _ _ => rfl) rfl rfl hmk fun b3 v3 ws3 M3 hM3 hw3 hb3 hv3 => ?_
  have h13 := (hM1.trans hM2).trans hM3
  by_cases h4 : A1.2 = 0
  rotate_left
  · have c4 := eq_false h4
    rw [if_pos h4] at hc
    subst hc
    simp only [shs, zts, sos, sls, zss, eqs, sx, sb1, sb2, sb3, sb4, sb5, sb6, sb7, ↓reduceIte, Nat.reduceAdd, Nat.reduceMul, Nat.reduceDiv, Nat.reduceEqDiff, Nat.reduceLT, Nat.reduceLeDiff, reduceCtorEq, Int.reduceEq, Int.reduceNe, Int.reduceLT, Int.reduceLE, Int.reduceAdd, Int.reduceSub, Int.reduceMul, Int.reduceNeg, Int.reduceToNat, Int.cast_ofNat_Int, Int.natCast_zero, Int.natCast_one, Int.toNat_natCast, Nat.reduceBEq, nzs, stV, c4, hb3.one, hv3.row.one, hb.one, hv.row.one, stT]
    exact ⟨b, v, ws, rfl, rfl, hb.le h13, hv.le h13⟩
  rw [if_neg (fun h => h h4)] at hc
  have hp3 := hp.le hM3
  have hw3' : ws3.map (·.2) = A1.1.2 := hw3
  simp only [shs, zts, sos, sls, zss, eqs, sx, sb1, sb2, sb3, sb4, sb5, sb6, sb7, ↓reduceIte, Nat.reduceAdd, Nat.reduceMul, Nat.reduceDiv, Nat.reduceEqDiff, Nat.reduceLT, Nat.reduceLeDiff, reduceCtorEq, Int.reduceEq, Int.reduceNe, Int.reduceLT, Int.reduceLE, Int.reduceAdd, Int.reduceSub, Int.reduceMul, Int.reduceNeg, Int.reduceToNat, Int.cast_ofNat_Int, Int.natCast_zero, Int.natCast_one, Int.toNat_natCast, Nat.reduceBEq, nzs, stV, h4, hb3.one, hv3.row.one, hpl, hpi]
  refine LoopK.go (X := Nat × Value × Value × List It × List WV × Mem) (fun z => ([(1, true, .v (.string ⟨n.toArray⟩)), (3, true, .ptr 24 0 0 0), (6, true, .ptr 48 0 0 0), (11, true, .v p), (12, true, .ptr 96 0 0 0), (53, true, .v p), (54, true, .v (.int .i64 P.length)), (55, true, .v (.int .i64 z.1))],
      [(96, .box [.v z.2.1, .v z.2.2.1] none), (48, .box [.v (.slice none 0 0), .v (.slice none 0 0)] none), (24, .box [.v b, .v v] none)], z.2.2.2.2.2))
    (fun z => (z.1 ≤ P.length ∧ M3.le z.2.2.2.2.2) ∧ (RowM z.2.2.2.2.2 z.2.1 4 (z.2.2.2.1.map Bg.encT) ∧ VolsM z.2.2.2.2.2 z.2.2.1 z.2.2.2.2.1) ∧ (match stor n (P.drop z.1) z.1 (z.2.2.2.1, z.2.2.2.2.1.map (·.2)) with
  | some B => (B, P.length, true)
  | none => ((bag, ws.map (·.2)), 0, false)) = c) (fun z => P.length - z.1) (0, b3, v3, A1.1.1, ws3, M3) ⟨⟨Nat.zero_le _, Mem.le.refl _⟩, ⟨hb3, hv3⟩, by simp only [List.drop_zero, hw3']; exact hc⟩ (Ent.of ?_) ?_
  · simp only [sx, sb1, sb2, sb3, sb4, sb5, sb6, sb7, ↓reduceIte, Nat.reduceAdd, Nat.reduceMul, Nat.reduceDiv, Nat.reduceEqDiff, Nat.reduceLT, Nat.reduceLeDiff, reduceCtorEq, Int.reduceEq, Int.reduceNe, Int.reduceLT, Int.reduceLE, Int.reduceAdd, Int.reduceSub, Int.reduceMul, Int.reduceNeg, Int.reduceToNat, Int.cast_ofNat_Int, Int.natCast_zero, Int.natCast_one, Int.toNat_natCast, Nat.reduceBEq, Int.natCast_zero]
  rintro ⟨i, b4, v4, bag4, ws4, N⟩ ⟨⟨n1, nM⟩, ⟨n2, n3⟩, n4⟩
  simp only at n1 nM n2 n3 n4
  by_cases hil : i < P.length
  rotate_left
  · have d1 : ((i : Int) < (P.length : Int)) = False := eq_false (by omega)
    rw [List.drop_eq_nil_of_le (by omega)] at n4
    simp only [stor] at n4
    subst n4
    simp only [shs, zts, sos, sls, zss, eqs, sx, sb1, sb2, sb3, sb4, sb5, sb6, sb7, ↓reduceIte, Nat.reduceAdd, Nat.reduceMul, Nat.reduceDiv, Nat.reduceEqDiff, Nat.reduceLT, Nat.reduceLeDiff, reduceCtorEq, Int.reduceEq, Int.reduceNe, Int.reduceLT, Int.reduceLE, Int.reduceAdd, Int.reduceSub, Int.reduceMul, Int.reduceNeg, Int.reduceToNat, Int.cast_ofNat_Int, Int.natCast_zero, Int.natCast_one, Int.toNat_natCast, Nat.reduceBEq, nzs, d1, n2.one, n3.row.one, hpl, hpi, stT]
    exact ⟨b4, v4, ws4, rfl, rfl, n2, n3⟩
  have d1 : ((i : Int) < (P.length : Int)) = True := eq_true (by omega)
  obtain ⟨t, ht, hd⟩ := l_drop_at (l := P) (i := i) hil
  rw [hd] at n4
  simp only [stor] at n4
  have hpN := hp3.le nM
  have g0 := hpN.el1 (enc := encS) (l := P) ht rfl
  have ix := hpN.ix (i := (i : Int)) (by omega) (by rw [List.length_map]; omega)
  have hW := vwrite b4 v4 bag4 ws4 n (i : Int) t N n2 n3
  simp only [stV] at hW
  generalize writeA bag4 (ws4.map (·.2)) n (i : Int) t = A at *
  simp only [shs, zts, sos, sls, zss, eqs, sx, sb1, sb2, sb3, sb4, sb5, sb6, sb7, ↓reduceIte, Nat.reduceAdd, Nat.reduceMul, Nat.reduceDiv, Nat.reduceEqDiff, Nat.reduceLT, Nat.reduceLeDiff, reduceCtorEq, Int.reduceEq, Int.reduceNe, Int.reduceLT, Int.reduceLE, Int.reduceAdd, Int.reduceSub, Int.reduceMul, Int.reduceNeg, Int.reduceToNat, Int.cast_ofNat_Int, Int.natCast_zero, Int.natCast_one, Int.toNat_natCast, Nat.reduceBEq, nzs, d1, ix, ix.2, g0.1, g0.2, n2.one, n3.row.one]
  refine CallK.stM (T := fun s => .tup [s, .v (.int .i64 A.2)]) (fun _ _ => rfl) rfl rfl hW fun b5 v5 ws5 M5 hM5 hw5 hb5 hv5 => ?_
  have h15 := (h13.trans nM).trans hM5
  by_cases h5 : A.2 = 0
  rotate_left
  · have c5 := eq_false h5
    rw [if_pos h5] at n4
    subst n4
    simp only [shs, zts, sos, sls, zss, eqs, sx, sb1, sb2, sb3, sb4, sb5, sb6, sb7, ↓reduceIte, Nat.reduceAdd, Nat.reduceMul, Nat.reduceDiv, Nat.reduceEqDiff, Nat.reduceLT, Nat.reduceLeDiff, reduceCtorEq, Int.reduceEq, Int.reduceNe, Int.reduceLT, Int.reduceLE, Int.reduceAdd, Int.reduceSub, Int.reduceMul, Int.reduceNeg, Int.reduceToNat, Int.cast_ofNat_Int, Int.natCast_zero, Int.natCast_one, Int.toNat_natCast, Nat.reduceBEq, nzs, stV, c5, hb5.one, hv5.row.one, hb.one, hv.row.one, stT]
    exact ⟨b, v, ws, rfl, rfl, hb.le h15, hv.le h15⟩
  rw [if_neg (fun h => h h5)] at n4
  have hw5' : ws5.map (·.2) = A.1.2 := hw5
  simp only [shs, zts, sos, sls, zss, eqs, sx, sb1, sb2, sb3, sb4, sb5, sb6, sb7, ↓reduceIte, Nat.reduceAdd, Nat.reduceMul, Nat.reduceDiv, Nat.reduceEqDiff, Nat.reduceLT, Nat.reduceLeDiff, reduceCtorEq, Int.reduceEq, Int.reduceNe, Int.reduceLT, Int.reduceLE, Int.reduceAdd, Int.reduceSub, Int.reduceMul, Int.reduceNeg, Int.reduceToNat, Int.cast_ofNat_Int, Int.natCast_zero, Int.natCast_one, Int.toNat_natCast, Nat.reduceBEq, nzs, stV, h5, hb5.one, hv5.row.one, inK, lo, hi]
  refine ⟨by omega, (i + 1, b5, v5, A.1.1, ws5, M5), ⟨⟨⟨by simp only; omega, nM.trans hM5⟩, ⟨hb5, hv5⟩, by simp only [hw5']; exact n4⟩, by simp only; omega⟩, Ent.of ?_⟩
  simp only [sx, sb1, sb2, sb3, sb4, sb5, sb6, sb7, ↓reduceIte, Nat.reduceAdd, Nat.reduceMul, Nat.reduceDiv, Nat.reduceEqDiff, Nat.reduceLT, Nat.reduceLeDiff, reduceCtorEq, Int.reduceEq, Int.reduceNe, Int.reduceLT, Int.reduceLE, Int.reduceAdd, Int.reduceSub, Int.reduceMul, Int.reduceNeg, Int.reduceToNat, Int.cast_ofNat_Int, Int.natCast_zero, Int.natCast_one, Int.toNat_natCast, Nat.reduceBEq, Int.natCast_add]
end Go.X.Vo

namespace Go.X.Si
open Go Go.X Go.X.Rp

/-- where a number stands, or -1 -/
def ix (k : Int) : List Int → Nat → Int
  | [], _ => -1
  | x :: l, i => if k = x then (i : Int) else ix k l (i + 1)
theorem index (y : Value) (l : List Int) (k : Int) (M : Mem) (hy : RowM M y 1 (l.map encI)) :
    Meets Proofs.Try.prog 48 [.v y, .v (.int .i64 k)] M fun r _ _ => r = .v (.int .i64 (ix k l 0)) := by
  refine Meets.of_body [0,1,4,5,7,8,9,16] Proofs.Try.func48 rfl (by kernel_rfl) rfl fun w => ?_
  generalize hc : ix k l 0 = c
  have hyl := hy.len_le
  rw [List.length_map] at hyl
  simp only [Proofs.Try.f48, shs, zts, sos, sls, zss, eqs, sx, sb1, sb2, sb3, sb4, sb5, sb6, sb7, ↓reduceIte, Nat.reduceAdd, Nat.reduceMul, Nat.reduceDiv, Nat.reduceEqDiff, Nat.reduceLT, Nat.reduceLeDiff, reduceCtorEq, Int.reduceEq, Int.reduceNe, Int.reduceLT, Int.reduceLE, Int.reduceAdd, Int.reduceSub, Int.reduceMul, Int.reduceNeg, Int.reduceToNat, Int.cast_ofNat_Int, Int.natCast_zero, Int.natCast_one, Int.toNat_natCast, Nat.reduceBEq, hy.len, hy.sl, List.length_map]
  refine LoopK.go (X := Nat × Nat) (fun x => ([(0, true, .v y), (1, true, .v (.int .i64 k)), (7, true, .v (.int .i64 l.length)), (8, true, .v (.int .i64 x.2))], [], M))
    (fun x => x.1 + x.2 = l.length ∧ ix k (l.drop x.2) x.2 = c) (fun x => x.1) (l.length, 0) ⟨rfl, hc⟩ (Ent.of ?_) ?_
  · simp only [sx, sb1, sb2, sb3, sb4, sb5, sb6, sb7, ↓reduceIte, Nat.reduceAdd, Nat.reduceMul, Nat.reduceDiv, Nat.reduceEqDiff, Nat.reduceLT, Nat.reduceLeDiff, reduceCtorEq, Int.reduceEq, Int.reduceNe, Int.reduceLT, Int.reduceLE, Int.reduceAdd, Int.reduceSub, Int.reduceMul, Int.reduceNeg, Int.reduceToNat, Int.cast_ofNat_Int, Int.natCast_zero, Int.natCast_one, Int.toNat_natCast, Nat.reduceBEq]
  rintro ⟨f, i⟩ ⟨h1, h2⟩
  simp only at h1 h2
  simp only [shs, zts, sos, sls, zss, eqs, sx, sb1, sb2, sb3, sb4, sb5, sb6, sb7, ↓reduceIte, Nat.reduceAdd, Nat.reduceMul, Nat.reduceDiv, Nat.reduceEqDiff, Nat.reduceLT, Nat.reduceLeDiff, reduceCtorEq, Int.reduceEq, Int.reduceNe, Int.reduceLT, Int.reduceLE, Int.reduceAdd, Int.reduceSub, Int.reduceMul, Int.reduceNeg, Int.reduceToNat, Int.cast_ofNat_Int, Int.natCast_zero, Int.natCast_one, Int.toNat_natCast, Nat.reduceBEq]
  refine ⟨fun h3 => ?_, fun h3 => ?_⟩
  · obtain ⟨x, hx, hd⟩ := drop_at (l := l) (i := i) (by omega)
    have g1 := hy.el1 hx rfl
    have i1 := hy.ix (i := (i : Int)) (by omega) (by rw [List.length_map]; omega)
    rw [hd] at h2
    simp only [ix] at h2
    simp only [shs, zts, sos, sls, zss, eqs, sx, sb1, sb2, sb3, sb4, sb5, sb6, sb7, ↓reduceIte, Nat.reduceAdd, Nat.reduceMul, Nat.reduceDiv, Nat.reduceEqDiff, Nat.reduceLT, Nat.reduceLeDiff, reduceCtorEq, Int.reduceEq, Int.reduceNe, Int.reduceLT, Int.reduceLE, Int.reduceAdd, Int.reduceSub, Int.reduceMul, Int.reduceNeg, Int.reduceToNat, Int.cast_ofNat_Int, Int.natCast_zero, Int.natCast_one, Int.toNat_natCast, Nat.reduceBEq, g1.1, inK, lo, hi]
    refine ⟨i1, g1.2, fun h4 => ?_, fun h4 => ⟨by omega, (f - 1, i + 1), ⟨⟨by simp only; omega, by simp only; rw [if_neg h4] at h2; exact h2⟩, by simp only; omega⟩, Ent.of ?_⟩⟩
    · rw [if_pos h4] at h2
      rw [h2]
    · simp only [sx, sb1, sb2, sb3, sb4, sb5, sb6, sb7, ↓reduceIte, Nat.reduceAdd, Nat.reduceMul, Nat.reduceDiv, Nat.reduceEqDiff, Nat.reduceLT, Nat.reduceLeDiff, reduceCtorEq, Int.reduceEq, Int.reduceNe, Int.reduceLT, Int.reduceLE, Int.reduceAdd, Int.reduceSub, Int.reduceMul, Int.reduceNeg, Int.reduceToNat, Int.cast_ofNat_Int, Int.natCast_zero, Int.natCast_one, Int.toNat_natCast, Nat.reduceBEq, Int.natCast_add]
  · have hd : l.drop i = [] := List.drop_eq_nil_of_le (by omega)
    rw [hd] at h2
    simp only [ix] at h2
    rw [h2]
theorem contains (y : Value) (l : List Int) (k : Int) (M : Mem) (hy : RowM M y 1 (l.map encI)) :
    Meets Proofs.Try.prog 16 [.v y, .v (.int .i64 k)] M fun r _ _ => r = .v (.bool (decide (0 ≤ ix k l 0))) := by
  refine Meets.of_body [0,1,4] Proofs.Try.func16 rfl (by kernel_rfl) rfl fun w => ?_
  simp only [Proofs.Try.f16, shs, zts, sos, sls, zss, eqs, sx, sb1, sb2, sb3, sb4, sb5, sb6, sb7, ↓reduceIte, Nat.reduceAdd, Nat.reduceMul, Nat.reduceDiv, Nat.reduceEqDiff, Nat.reduceLT, Nat.reduceLeDiff, reduceCtorEq, Int.reduceEq, Int.reduceNe, Int.reduceLT, Int.reduceLE, Int.reduceAdd, Int.reduceSub, Int.reduceMul, Int.reduceNeg, Int.reduceToNat, Int.cast_ofNat_Int, Int.natCast_zero, Int.natCast_one, Int.toNat_natCast, Nat.reduceBEq]
  refine CallK.pure ⟨rfl, rfl⟩ rfl (index y l k M hy) ?_
  simp only [shs, zts, sos, sls, zss, eqs, sx, sb1, sb2, sb3, sb4, sb5, sb6, sb7, ↓reduceIte, Nat.reduceAdd, Nat.reduceMul, Nat.reduceDiv, Nat.reduceEqDiff, Nat.reduceLT, Nat.reduceLeDiff, reduceCtorEq, Int.reduceEq, Int.reduceNe, Int.reduceLT, Int.reduceLE, Int.reduceAdd, Int.reduceSub, Int.reduceMul, Int.reduceNeg, Int.reduceToNat, Int.cast_ofNat_Int, Int.natCast_zero, Int.natCast_one, Int.toNat_natCast, Nat.reduceBEq]
theorem ix_ge (k : Int) : ∀ (l : List Int) (i : Nat), (0 ≤ ix k l i) = (k ∈ l)
  | [], i => by simp [ix]
  | x :: l, i => by
    rw [ix, List.mem_cons]
    split
    · rename_i h
      exact propext ⟨fun _ => .inl h, fun _ => by omega⟩
    · rename_i h
      rw [ix_ge k l (i + 1)]
      exact propext ⟨fun a => .inr a, fun a => a.resolve_left h⟩
end Go.X.Si

namespace Go.X.Vo
open Go Go.X Go.RowKit Go.X.Bg Go.X.Nm Go.X.Bp Go.X.Sb

theorem wrapU' (a : Int) : ∃ u : Nat, IntKind.u64.wrap a = (u : Int) ∧ u < 18446744073709551616 := by
  have h : IntKind.u64.wrap a = a % 18446744073709551616 := by simp [IntKind.wrap, IntKind.bits, IntKind.signed]
  refine ⟨(a % 18446744073709551616).toNat, ?_, ?_⟩
  · rw [h]
    omega
  · omega
theorem withinK (a : Int) (n : Nat) (h1 : 1 ≤ n) (h2 : n ≤ 4096) : ∃ k : Nat, k < n ∧ ∀ M : Mem, Meets Proofs.Try.prog 12 [.v (.int .i64 a), .v (.int .i64 n)] M fun r _ _ => r = .v (.int .i64 (k : Int)) := by
  obtain ⟨u, hu, hlt⟩ := wrapU' a
  refine ⟨u % n, Nat.mod_lt _ (by omega), fun M => ?_⟩
  refine Meets.of_body [0,1,4] Proofs.Try.func12 rfl (by kernel_rfl) rfl fun w => ?_
  have e1 : (u : Int).tmod (n : Int) = ((u % n : Nat) : Int) := (Int.ofNat_tmod u n).symm
  have e2 : IntKind.u64.wrap (n : Int) = (n : Int) := Pl.uw (a := n) (by omega)
  have hm := Nat.mod_lt u (show n > 0 by omega)
  have c0 : ((n : Int) = 0) = False := eq_false (by omega)
  simp only [Proofs.Try.f12, shs, zts, sos, sls, zss, eqs, sx, sb1, sb2, sb3, sb4, sb5, sb6, sb7, ↓reduceIte, Nat.reduceAdd, Nat.reduceMul, Nat.reduceDiv, Nat.reduceEqDiff, Nat.reduceLT, Nat.reduceLeDiff, reduceCtorEq, Int.reduceEq, Int.reduceNe, Int.reduceLT, Int.reduceLE, Int.reduceAdd, Int.reduceSub, Int.reduceMul, Int.reduceNeg, Int.reduceToNat, Int.cast_ofNat_Int, Int.natCast_zero, Int.natCast_one, Int.toNat_natCast, Nat.reduceBEq, nzs, hu, e1, e2, Pl.iw (show u % n < 9223372036854775808 by omega), c0]
  omega
theorem backupW (s : Txt) (y : Value) (at' : List Int) (t : Txt) (M : Mem) (hy : RowM M y 1 (at'.map encI)) (hs : s.length ≤ maxLen) :
    Meets Proofs.Try.prog 4 [.v (.string ⟨s.toArray⟩), .v y, .v (.string ⟨t.toArray⟩)] M fun r _ _ => r = .v (.bool true) := by
  refine Meets.of_body [0,1,2,6,7,8,9,10,12,13,14,15,16,17,18,19,21,23,26,27,29,38,46,47,48,49,50,63,72,73,74,75,106,107,108,109,110,116] Proofs.Try.func4 rfl (by kernel_rfl) rfl fun w => ?_
  have hS := storedW (.slice none 0 0) (.slice none 0 0) [] [] inA s M (zero_volsM M).1 (zero_volsM M).2 hs
  rw [show (([], List.map (fun x : WV => x.2) []) : St) = zSt from rfl] at hS
  simp only [stV, inA] at hS
  have hbg : (stoT zSt inA s).2.2 = true → _ := fun h => bk_begin (s := s) (A := (stoT zSt inA s).1) (n := (stoT zSt inA s).2.1) (by rw [← h])
  rw [show stoT zSt inA s = stoT zSt [97] s from rfl] at hbg
  generalize stoT zSt [97] s = C at *
  simp only [Proofs.Try.f4, shs, zts, sos, sls, zss, eqs, sx, sb1, sb2, sb3, sb4, sb5, sb6, sb7, ↓reduceIte, Nat.reduceAdd, Nat.reduceMul, Nat.reduceDiv, Nat.reduceEqDiff, Nat.reduceLT, Nat.reduceLeDiff, reduceCtorEq, Int.reduceEq, Int.reduceNe, Int.reduceLT, Int.reduceLE, Int.reduceAdd, Int.reduceSub, Int.reduceMul, Int.reduceNeg, Int.reduceToNat, Int.cast_ofNat_Int, Int.natCast_zero, Int.natCast_one, Int.toNat_natCast, Nat.reduceBEq, nzs]
  refine CallK.pure ⟨rfl, rfl⟩ rfl (begunW M) ?_
  simp only [shs, zts, sos, sls, zss, eqs, sx, sb1, sb2, sb3, sb4, sb5, sb6, sb7, ↓reduceIte, Nat.reduceAdd, Nat.reduceMul, Nat.reduceDiv, Nat.reduceEqDiff, Nat.reduceLT, Nat.reduceLeDiff, reduceCtorEq, Int.reduceEq, Int.reduceNe, Int.reduceLT, Int.reduceLE, Int.reduceAdd, Int.reduceSub, Int.reduceMul, Int.reduceNeg, Int.reduceToNat, Int.cast_ofNat_Int, Int.natCast_zero, Int.natCast_one, Int.toNat_natCast, Nat.reduceBEq, nzs]
  refine CallK.stM (T := stT C) (fun _ _ => rfl) rfl rfl hS fun b v ws M1 hM1 hw hb hv => ?_
  have hw' : ws.map (·.2) = C.1.2 := hw
  cases h1 : C.2.2 with
  | false =>
    simp only [shs, zts, sos, sls, zss, eqs, sx, sb1, sb2, sb3, sb4, sb5, sb6, sb7, ↓reduceIte, Nat.reduceAdd, Nat.reduceMul, Nat.reduceDiv, Nat.reduceEqDiff, Nat.reduceLT, Nat.reduceLeDiff, reduceCtorEq, Int.reduceEq, Int.reduceNe, Int.reduceLT, Int.reduceLE, Int.reduceAdd, Int.reduceSub, Int.reduceMul, Int.reduceNeg, Int.reduceToNat, Int.cast_ofNat_Int, Int.natCast_zero, Int.natCast_one, Int.toNat_natCast, Nat.reduceBEq, nzs, stT, stV, h1, hb.one, hv.row.one]
    refine CallK.pure ⟨rfl, rfl⟩ rfl (begunW M1) ?_
    simp only [shs, zts, sos, sls, zss, eqs, sx, sb1, sb2, sb3, sb4, sb5, sb6, sb7, ↓reduceIte, Nat.reduceAdd, Nat.reduceMul, Nat.reduceDiv, Nat.reduceEqDiff, Nat.reduceLT, Nat.reduceLeDiff, reduceCtorEq, Int.reduceEq, Int.reduceNe, Int.reduceLT, Int.reduceLE, Int.reduceAdd, Int.reduceSub, Int.reduceMul, Int.reduceNeg, Int.reduceToNat, Int.cast_ofNat_Int, Int.natCast_zero, Int.natCast_one, Int.toNat_natCast, Nat.reduceBEq, nzs]
  | true =>
  obtain ⟨⟨⟨a2, a3⟩, a4, a5⟩, a6, a7⟩ := hbg h1
  have hCl := vclone b v C.1.1 ws inA inB M1 hb hv
  rw [hw'] at hCl
  rw [a6] at hCl
  generalize hn : C.2.1 = n at *
  generalize chop 600 s = P at *
  generalize (cloneA C.1.1 C.1.2 inA inB).1 = A0 at *
  simp only [stV, inA, inB] at hCl
  simp only [shs, zts, sos, sls, zss, eqs, sx, sb1, sb2, sb3, sb4, sb5, sb6, sb7, ↓reduceIte, Nat.reduceAdd, Nat.reduceMul, Nat.reduceDiv, Nat.reduceEqDiff, Nat.reduceLT, Nat.reduceLeDiff, reduceCtorEq, Int.reduceEq, Int.reduceNe, Int.reduceLT, Int.reduceLE, Int.reduceAdd, Int.reduceSub, Int.reduceMul, Int.reduceNeg, Int.reduceToNat, Int.cast_ofNat_Int, Int.natCast_zero, Int.natCast_one, Int.toNat_natCast, Nat.reduceBEq, nzs, stT, stV, h1, hn, hb.one, hv.row.one]
  refine CallK.stM (T := fun s => .tup [s, .v (.int .i64 0)]) (fun _ _ => rfl) rfl rfl hCl fun b2 v2 ws2 M2 hM2 hw2 hb2 hv2 => ?_
  have h12 := hM1.trans hM2
  have hy2 := hy.le h12
  have hw2' : ws2.map (·.2) = A0.2 := hw2
  have hyl := hy.len_le
  rw [List.length_map] at hyl
  simp only [shs, zts, sos, sls, zss, eqs, sx, sb1, sb2, sb3, sb4, sb5, sb6, sb7, ↓reduceIte, Nat.reduceAdd, Nat.reduceMul, Nat.reduceDiv, Nat.reduceEqDiff, Nat.reduceLT, Nat.reduceLeDiff, reduceCtorEq, Int.reduceEq, Int.reduceNe, Int.reduceLT, Int.reduceLE, Int.reduceAdd, Int.reduceSub, Int.reduceMul, Int.reduceNeg, Int.reduceToNat, Int.cast_ofNat_Int, Int.natCast_zero, Int.natCast_one, Int.toNat_natCast, Nat.reduceBEq, nzs, stV, hb2.one, hv2.row.one, hy2.len, hy2.sl, List.length_map]
  refine LoopK.go (X := Nat × Value × Value × List It × List WV × Mem) (fun z => ([(0, true, .v (.string ⟨s.toArray⟩)), (2, true, .v (.string ⟨t.toArray⟩)), (7, true, .ptr 56 0 0 0), (8, true, .v (.int .i64 n)), (47, true, .v y), (48, true, .v (.int .i64 at'.length)), (49, true, .v (.int .i64 z.1))],
      [(56, .box [.v z.2.1, .v z.2.2.1] none)], z.2.2.2.2.2))
    (fun z => (z.1 ≤ at'.length ∧ M2.le z.2.2.2.2.2) ∧ (RowM z.2.2.2.2.2 z.2.1 4 (z.2.2.2.1.map Bg.encT) ∧ VolsM z.2.2.2.2.2 z.2.2.1 z.2.2.2.2.1) ∧ ∃ Y, Bk (z.2.2.2.1, z.2.2.2.2.1.map (·.2)) P Y) (fun z => at'.length - z.1) (0, b2, v2, A0.1, ws2, M2) ⟨⟨Nat.zero_le _, Mem.le.refl _⟩, ⟨hb2, hv2⟩, P, by simp only [hw2']; exact a7⟩ (Ent.of ?_) ?_
  · simp only [sx, sb1, sb2, sb3, sb4, sb5, sb6, sb7, ↓reduceIte, Nat.reduceAdd, Nat.reduceMul, Nat.reduceDiv, Nat.reduceEqDiff, Nat.reduceLT, Nat.reduceLeDiff, reduceCtorEq, Int.reduceEq, Int.reduceNe, Int.reduceLT, Int.reduceLE, Int.reduceAdd, Int.reduceSub, Int.reduceMul, Int.reduceNeg, Int.reduceToNat, Int.cast_ofNat_Int, Int.natCast_zero, Int.natCast_one, Int.toNat_natCast, Nat.reduceBEq, Int.natCast_zero]
  rintro ⟨i, b4, v4, bag4, ws4, N⟩ ⟨⟨n1, nM⟩, ⟨n2, n3⟩, Y, n4⟩
  simp only at n1 nM n2 n3 n4
  by_cases hil : i < at'.length
  · have d1 : ((i : Int) < (at'.length : Int)) = True := eq_true (by omega)
    obtain ⟨p, hp, _⟩ := l_drop_at (l := at') (i := i) hil
    have hyN := hy2.le nM
    have p0 := hyN.el1 (enc := encI) (l := at') hp rfl
    have ix := hyN.ix (i := (i : Int)) (by omega) (by rw [List.length_map]; omega)
    obtain ⟨k, hk, hKw⟩ := withinK p n a2 (by omega)
    have hW := vwrite b4 v4 bag4 ws4 inB (k : Int) t N n2 n3
    have hBw := fun h => n4.write (j := k) (t := t) h
    simp only [stV, inB] at hW hBw
    generalize writeA bag4 (ws4.map (·.2)) [98] (k : Int) t = A at *
    simp only [shs, zts, sos, sls, zss, eqs, sx, sb1, sb2, sb3, sb4, sb5, sb6, sb7, ↓reduceIte, Nat.reduceAdd, Nat.reduceMul, Nat.reduceDiv, Nat.reduceEqDiff, Nat.reduceLT, Nat.reduceLeDiff, reduceCtorEq, Int.reduceEq, Int.reduceNe, Int.reduceLT, Int.reduceLE, Int.reduceAdd, Int.reduceSub, Int.reduceMul, Int.reduceNeg, Int.reduceToNat, Int.cast_ofNat_Int, Int.natCast_zero, Int.natCast_one, Int.toNat_natCast, Nat.reduceBEq, nzs, d1, ix, ix.2, p0.1, p0.2, n2.one, n3.row.one]
    refine DrawK.ent (X := Value × Value × List WV × Mem) (fun z => (N.le z.2.2.2 ∧ z.2.2.1.map (·.2) = A.1.2) ∧ RowM z.2.2.2 z.1 4 (A.1.1.map Bg.encT) ∧ VolsM z.2.2.2 z.2.1 z.2.2.1) (fun z => ([(0, true, .v (.string ⟨s.toArray⟩)), (2, true, .v (.string ⟨t.toArray⟩)), (7, true, .ptr 56 0 0 0), (8, true, .v (.int .i64 n)), (13, true, .ptr 104 0 0 0), (14, true, .v (.int .i64 A.2)), (47, true, .v y), (48, true, .v (.int .i64 at'.length)), (49, true, .v (.int .i64 i))], [(104, .box [.v z.1, .v z.2.1] none), (56, .box [.v b4, .v v4] none)], z.2.2.2)) ?_ ?_
    · refine DrawK.held [56] (tk [0, 1, 2, 4] (.two 3 (.two 5 (tk [6, 7, 8] (.one 9 (.one 10 (tk [11] .done)))) 9 (.one 5 (tk [6, 7, 8] (.one 10 (tk [11] .done))))) 9 (.one 3 (.one 5 (tk [6, 7, 8] (.one 10 (tk [11] .done))))))) (by kernel_rfl) (by kernel_rfl) fun xs => ?_
      simp only [shs, zts, sos, sls, zss, eqs, sx, sb1, sb2, sb3, sb4, sb5, sb6, sb7, ↓reduceIte, Nat.reduceAdd, Nat.reduceMul, Nat.reduceDiv, Nat.reduceEqDiff, Nat.reduceLT, Nat.reduceLeDiff, reduceCtorEq, Int.reduceEq, Int.reduceNe, Int.reduceLT, Int.reduceLE, Int.reduceAdd, Int.reduceSub, Int.reduceMul, Int.reduceNeg, Int.reduceToNat, Int.cast_ofNat_Int, Int.natCast_zero, Int.natCast_one, Int.toNat_natCast, Nat.reduceBEq, nzs, se1, se2, tks, n2.one, n3.row.one]
      refine ⟨?_, ?_⟩
      · refine CallK.pure ⟨rfl, rfl⟩ rfl (hKw N) ?_
        simp only [shs, zts, sos, sls, zss, eqs, sx, sb1, sb2, sb3, sb4, sb5, sb6, sb7, ↓reduceIte, Nat.reduceAdd, Nat.reduceMul, Nat.reduceDiv, Nat.reduceEqDiff, Nat.reduceLT, Nat.reduceLeDiff, reduceCtorEq, Int.reduceEq, Int.reduceNe, Int.reduceLT, Int.reduceLE, Int.reduceAdd, Int.reduceSub, Int.reduceMul, Int.reduceNeg, Int.reduceToNat, Int.cast_ofNat_Int, Int.natCast_zero, Int.natCast_one, Int.toNat_natCast, Nat.reduceBEq, nzs, se1, se2, tks, n2.one, n3.row.one]
        refine ⟨?_, ?_⟩
        all_goals
          refine CallK.stM (T := fun s => .tup [s, .v (.int .i64 A.2)]) (fun _ _ => rfl) rfl rfl hW fun b5 v5 ws5 M5 hM5 hw5 hb5 hv5 => ?_
          simp only [shs, zts, sos, sls, zss, eqs, sx, sb1, sb2, sb3, sb4, sb5, sb6, sb7, ↓reduceIte, Nat.reduceAdd, Nat.reduceMul, Nat.reduceDiv, Nat.reduceEqDiff, Nat.reduceLT, Nat.reduceLeDiff, reduceCtorEq, Int.reduceEq, Int.reduceNe, Int.reduceLT, Int.reduceLE, Int.reduceAdd, Int.reduceSub, Int.reduceMul, Int.reduceNeg, Int.reduceToNat, Int.cast_ofNat_Int, Int.natCast_zero, Int.natCast_one, Int.toNat_natCast, Nat.reduceBEq, nzs, se1, se2, tks, stV, hb5.one, hv5.row.one, hM5]
          exact ⟨(b5, v5, ws5, M5), ⟨⟨hM5, hw5⟩, hb5, hv5⟩, Ent.heap (HEnt.untie (k := 56) rfl) (Ent.of (by simp only [sx, sb1, sb2, sb3, sb4, sb5, sb6, sb7, ↓reduceIte, Nat.reduceAdd, Nat.reduceMul, Nat.reduceDiv, Nat.reduceEqDiff, Nat.reduceLT, Nat.reduceLeDiff, reduceCtorEq, Int.reduceEq, Int.reduceNe, Int.reduceLT, Int.reduceLE, Int.reduceAdd, Int.reduceSub, Int.reduceMul, Int.reduceNeg, Int.reduceToNat, Int.cast_ofNat_Int, Int.natCast_zero, Int.natCast_one, Int.toNat_natCast, Nat.reduceBEq, hset]))⟩
      · refine CallK.pure ⟨rfl, rfl⟩ rfl (hKw N) ?_
        simp only [shs, zts, sos, sls, zss, eqs, sx, sb1, sb2, sb3, sb4, sb5, sb6, sb7, ↓reduceIte, Nat.reduceAdd, Nat.reduceMul, Nat.reduceDiv, Nat.reduceEqDiff, Nat.reduceLT, Nat.reduceLeDiff, reduceCtorEq, Int.reduceEq, Int.reduceNe, Int.reduceLT, Int.reduceLE, Int.reduceAdd, Int.reduceSub, Int.reduceMul, Int.reduceNeg, Int.reduceToNat, Int.cast_ofNat_Int, Int.natCast_zero, Int.natCast_one, Int.toNat_natCast, Nat.reduceBEq, nzs, se1, se2, tks, n2.one, n3.row.one]
        refine CallK.stM (T := fun s => .tup [s, .v (.int .i64 A.2)]) (fun _ _ => rfl) rfl rfl hW fun b5 v5 ws5 M5 hM5 hw5 hb5 hv5 => ?_
        simp only [shs, zts, sos, sls, zss, eqs, sx, sb1, sb2, sb3, sb4, sb5, sb6, sb7, ↓reduceIte, Nat.reduceAdd, Nat.reduceMul, Nat.reduceDiv, Nat.reduceEqDiff, Nat.reduceLT, Nat.reduceLeDiff, reduceCtorEq, Int.reduceEq, Int.reduceNe, Int.reduceLT, Int.reduceLE, Int.reduceAdd, Int.reduceSub, Int.reduceMul, Int.reduceNeg, Int.reduceToNat, Int.cast_ofNat_Int, Int.natCast_zero, Int.natCast_one, Int.toNat_natCast, Nat.reduceBEq, nzs, se1, se2, tks, stV, hb5.one, hv5.row.one, hM5]
        exact ⟨(b5, v5, ws5, M5), ⟨⟨hM5, hw5⟩, hb5, hv5⟩, Ent.heap (HEnt.untie (k := 56) rfl) (Ent.of (by simp only [sx, sb1, sb2, sb3, sb4, sb5, sb6, sb7, ↓reduceIte, Nat.reduceAdd, Nat.reduceMul, Nat.reduceDiv, Nat.reduceEqDiff, Nat.reduceLT, Nat.reduceLeDiff, reduceCtorEq, Int.reduceEq, Int.reduceNe, Int.reduceLT, Int.reduceLE, Int.reduceAdd, Int.reduceSub, Int.reduceMul, Int.reduceNeg, Int.reduceToNat, Int.cast_ofNat_Int, Int.natCast_zero, Int.natCast_one, Int.toNat_natCast, Nat.reduceBEq, hset]))⟩
    rintro ⟨b5, v5, ws5, M5⟩ ⟨⟨hM5, hw5⟩, hb5, hv5⟩
    simp only at hM5 hw5 hb5 hv5
    by_cases h5 : A.2 = 0
    · obtain ⟨Y', hY'⟩ := hBw h5
      simp only [shs, zts, sos, sls, zss, eqs, sx, sb1, sb2, sb3, sb4, sb5, sb6, sb7, ↓reduceIte, Nat.reduceAdd, Nat.reduceMul, Nat.reduceDiv, Nat.reduceEqDiff, Nat.reduceLT, Nat.reduceLeDiff, reduceCtorEq, Int.reduceEq, Int.reduceNe, Int.reduceLT, Int.reduceLE, Int.reduceAdd, Int.reduceSub, Int.reduceMul, Int.reduceNeg, Int.reduceToNat, Int.cast_ofNat_Int, Int.natCast_zero, Int.natCast_one, Int.toNat_natCast, Nat.reduceBEq, nzs, h5, hb5.one, hv5.row.one, inK, lo, hi]
      refine ⟨by omega, (i + 1, b5, v5, A.1.1, ws5, M5), ⟨⟨⟨by simp only; omega, nM.trans hM5⟩, ⟨hb5, hv5⟩, Y', by simp only [hw5]; exact hY'⟩, by simp only; omega⟩, Ent.of ?_⟩
      simp only [sx, sb1, sb2, sb3, sb4, sb5, sb6, sb7, ↓reduceIte, Nat.reduceAdd, Nat.reduceMul, Nat.reduceDiv, Nat.reduceEqDiff, Nat.reduceLT, Nat.reduceLeDiff, reduceCtorEq, Int.reduceEq, Int.reduceNe, Int.reduceLT, Int.reduceLE, Int.reduceAdd, Int.reduceSub, Int.reduceMul, Int.reduceNeg, Int.reduceToNat, Int.cast_ofNat_Int, Int.natCast_zero, Int.natCast_one, Int.toNat_natCast, Nat.reduceBEq, Int.natCast_add]
    · have c5 := eq_false h5
      simp only [shs, zts, sos, sls, zss, eqs, sx, sb1, sb2, sb3, sb4, sb5, sb6, sb7, ↓reduceIte, Nat.reduceAdd, Nat.reduceMul, Nat.reduceDiv, Nat.reduceEqDiff, Nat.reduceLT, Nat.reduceLeDiff, reduceCtorEq, Int.reduceEq, Int.reduceNe, Int.reduceLT, Int.reduceLE, Int.reduceAdd, Int.reduceSub, Int.reduceMul, Int.reduceNeg, Int.reduceToNat, Int.cast_ofNat_Int, Int.natCast_zero, Int.natCast_one, Int.toNat_natCast, Nat.reduceBEq, nzs, c5, inK, lo, hi]
      refine ⟨by omega, (i + 1, b4, v4, bag4, ws4, M5), ⟨⟨⟨by simp only; omega, nM.trans hM5⟩, ⟨n2.le hM5, n3.le hM5⟩, Y, n4⟩, by simp only; omega⟩, Ent.of ?_⟩
      simp only [sx, sb1, sb2, sb3, sb4, sb5, sb6, sb7, ↓reduceIte, Nat.reduceAdd, Nat.reduceMul, Nat.reduceDiv, Nat.reduceEqDiff, Nat.reduceLT, Nat.reduceLeDiff, reduceCtorEq, Int.reduceEq, Int.reduceNe, Int.reduceLT, Int.reduceLE, Int.reduceAdd, Int.reduceSub, Int.reduceMul, Int.reduceNeg, Int.reduceToNat, Int.cast_ofNat_Int, Int.natCast_zero, Int.natCast_one, Int.toNat_natCast, Nat.reduceBEq, Int.natCast_add]
  have d1 : ((i : Int) < (at'.length : Int)) = False := eq_false (by omega)
  obtain ⟨r1, r2, B, r3, r4, r5, r6⟩ := n4.back
  have hDf := Meets.rows (vdiff b4 v4 bag4 ws4 inA inB N n2 n3)
  rw [show diffE bag4 (ws4.map (·.2)) inA inB = 0 from r1] at hDf
  have hlen2 := n4.len
  generalize diffL bag4 (ws4.map (·.2)) inA inB = L at *
  simp only [stV, inA, inB] at hDf
  simp only [shs, zts, sos, sls, zss, eqs, sx, sb1, sb2, sb3, sb4, sb5, sb6, sb7, ↓reduceIte, Nat.reduceAdd, Nat.reduceMul, Nat.reduceDiv, Nat.reduceEqDiff, Nat.reduceLT, Nat.reduceLeDiff, reduceCtorEq, Int.reduceEq, Int.reduceNe, Int.reduceLT, Int.reduceLE, Int.reduceAdd, Int.reduceSub, Int.reduceMul, Int.reduceNeg, Int.reduceToNat, Int.cast_ofNat_Int, Int.natCast_zero, Int.natCast_one, Int.toNat_natCast, Nat.reduceBEq, nzs, d1, n2.one, n3.row.one]
  refine CallK.row (T := fun s => .tup [s, .v (.int .i64 0)]) (Ctx.fst _) rfl rfl hDf fun u N1 hN1 hu => ?_
  have n2' := n2.le hN1
  have n3' := n3.le hN1
  simp only [shs, zts, sos, sls, zss, eqs, sx, sb1, sb2, sb3, sb4, sb5, sb6, sb7, ↓reduceIte, Nat.reduceAdd, Nat.reduceMul, Nat.reduceDiv, Nat.reduceEqDiff, Nat.reduceLT, Nat.reduceLeDiff, reduceCtorEq, Int.reduceEq, Int.reduceNe, Int.reduceLT, Int.reduceLE, Int.reduceAdd, Int.reduceSub, Int.reduceMul, Int.reduceNeg, Int.reduceToNat, Int.cast_ofNat_Int, Int.natCast_zero, Int.natCast_one, Int.toNat_natCast, Nat.reduceBEq, nzs]
  have hRa : ∀ k : Nat, Meets _ _ _ N1 _ := fun k => read b4 v4 bag4 ws4 inA (k : Int) N1 n2' n3'
  have hRb : ∀ k : Nat, Meets _ _ _ N1 _ := fun k => read b4 v4 bag4 ws4 inB (k : Int) N1 n2' n3'
  have hra : ∀ (k : Nat) (q : Txt), P[k]? = some q → rdS bag4 (ws4.map (·.2)) inA (k : Int) = q := fun k q hq => rd_look n4.ok n4.a (by rw [List.getElem?_map, hq]; rfl)
  have hrb : ∀ (k : Nat) (q : Txt), Y[k]? = some q → rdS bag4 (ws4.map (·.2)) inB (k : Int) = q := fun k q hq => rd_look n4.ok n4.b (by rw [List.getElem?_map, hq]; rfl)
  have hsa := look_short n4.ok n4.a
  have hsb := look_short n4.ok n4.b
  simp only [stV, inA, inB] at hRa hRb hra hrb
  refine LoopK.nilRow 16 100 1 rfl rfl rfl (LoopK.nilRow 17 101 1 rfl rfl rfl (LoopK.go (X := Nat) (fun k => ([(0, true, .v (.string ⟨s.toArray⟩)), (7, true, .ptr 56 0 0 0), (8, true, .v (.int .i64 n)), (15, true, .v u), (16, true, .own 800), (17, true, .own 808), (73, true, .v (.int .i64 n)), (74, true, .v (.int .i64 k))],
      [(800, .row 1 ((P.take k).map encS)), (808, .row 1 ((Y.take k).map encS)), (56, .box [.v b4, .v v4] none)], N1))
    (fun k => k ≤ n) (fun k => n - k) 0 (Nat.zero_le _) (Ent.of ?_) ?_))
  · simp only [sx, sb1, sb2, sb3, sb4, sb5, sb6, sb7, ↓reduceIte, Nat.reduceAdd, Nat.reduceMul, Nat.reduceDiv, Nat.reduceEqDiff, Nat.reduceLT, Nat.reduceLeDiff, reduceCtorEq, Int.reduceEq, Int.reduceNe, Int.reduceLT, Int.reduceLE, Int.reduceAdd, Int.reduceSub, Int.reduceMul, Int.reduceNeg, Int.reduceToNat, Int.cast_ofNat_Int, Int.natCast_zero, Int.natCast_one, Int.toNat_natCast, Nat.reduceBEq, Int.natCast_zero, List.take_zero, List.map_nil]
  intro k m1
  by_cases hkn : k < n
  · have d2 : ((k : Int) < (n : Int)) = True := eq_true (by omega)
    obtain ⟨p, hp, _⟩ := l_drop_at (l := P) (i := k) (by omega)
    obtain ⟨q, hq, _⟩ := l_drop_at (l := Y) (i := k) (by omega)
    have e1 : (P.take k).map encS ++ [[.string ⟨p.toArray⟩]] = (P.take (k + 1)).map encS := by rw [List.take_add_one, hp, List.map_append]; rfl
    have e2 : (Y.take k).map encS ++ [[.string ⟨q.toArray⟩]] = (Y.take (k + 1)).map encS := by rw [List.take_add_one, hq, List.map_append]; rfl
    have hA1 := hRa k
    have hB1 := hRb k
    rw [hra k p hp] at hA1
    rw [hrb k q hq] at hB1
    simp only [shs, zts, sos, sls, zss, eqs, sx, sb1, sb2, sb3, sb4, sb5, sb6, sb7, ↓reduceIte, Nat.reduceAdd, Nat.reduceMul, Nat.reduceDiv, Nat.reduceEqDiff, Nat.reduceLT, Nat.reduceLeDiff, reduceCtorEq, Int.reduceEq, Int.reduceNe, Int.reduceLT, Int.reduceLE, Int.reduceAdd, Int.reduceSub, Int.reduceMul, Int.reduceNeg, Int.reduceToNat, Int.cast_ofNat_Int, Int.natCast_zero, Int.natCast_one, Int.toNat_natCast, Nat.reduceBEq, nzs, d2, n2'.one, n3'.row.one]
    refine CallK.pure ⟨rfl, rfl⟩ rfl hA1 ?_
    simp only [shs, zts, sos, sls, zss, eqs, sx, sb1, sb2, sb3, sb4, sb5, sb6, sb7, ↓reduceIte, Nat.reduceAdd, Nat.reduceMul, Nat.reduceDiv, Nat.reduceEqDiff, Nat.reduceLT, Nat.reduceLeDiff, reduceCtorEq, Int.reduceEq, Int.reduceNe, Int.reduceLT, Int.reduceLE, Int.reduceAdd, Int.reduceSub, Int.reduceMul, Int.reduceNeg, Int.reduceToNat, Int.cast_ofNat_Int, Int.natCast_zero, Int.natCast_one, Int.toNat_natCast, Nat.reduceBEq, nzs, n2'.one, n3'.row.one]
    refine CallK.pure ⟨rfl, rfl⟩ rfl hB1 ?_
    simp only [shs, zts, sos, sls, zss, eqs, sx, sb1, sb2, sb3, sb4, sb5, sb6, sb7, ↓reduceIte, Nat.reduceAdd, Nat.reduceMul, Nat.reduceDiv, Nat.reduceEqDiff, Nat.reduceLT, Nat.reduceLeDiff, reduceCtorEq, Int.reduceEq, Int.reduceNe, Int.reduceLT, Int.reduceLE, Int.reduceAdd, Int.reduceSub, Int.reduceMul, Int.reduceNeg, Int.reduceToNat, Int.cast_ofNat_Int, Int.natCast_zero, Int.natCast_one, Int.toNat_natCast, Nat.reduceBEq, nzs, e1, e2, List.length_map, List.length_take, inK, lo, hi]
    refine ⟨⟨by omega, by omega⟩, ⟨by omega, by omega⟩, ⟨by omega, by omega⟩, k + 1, ⟨by omega, by omega⟩, Ent.rekey 16 100 736 1 _ rfl rfl rfl rfl (Ent.rekey 17 101 768 1 _ rfl rfl rfl rfl (Ent.of ?_))⟩
    simp only [sx, sb1, sb2, sb3, sb4, sb5, sb6, sb7, ↓reduceIte, Nat.reduceAdd, Nat.reduceMul, Nat.reduceDiv, Nat.reduceEqDiff, Nat.reduceLT, Nat.reduceLeDiff, reduceCtorEq, Int.reduceEq, Int.reduceNe, Int.reduceLT, Int.reduceLE, Int.reduceAdd, Int.reduceSub, Int.reduceMul, Int.reduceNeg, Int.reduceToNat, Int.cast_ofNat_Int, Int.natCast_zero, Int.natCast_one, Int.toNat_natCast, Nat.reduceBEq, Int.natCast_add]
  have d2 : ((k : Int) < (n : Int)) = False := eq_false (by omega)
  rw [List.take_of_length_le (by omega), List.take_of_length_le (by omega)]
  have hlv : ∀ Q : List Txt, Q.length = n → (∀ t ∈ Q, t.length ≤ 64) → Ts.lvE Q = 0 := fun Q hQ h64 => by
    unfold Ts.lvE
    rw [if_neg (by omega), if_neg]
    rintro (h | h)
    · omega
    · rw [List.any_eq_true] at h
      obtain ⟨t, ht, hb⟩ := h
      have := h64 t ht
      unfold Ts.bigB at hb
      have := of_decide_eq_true hb
      omega
  have hcE : Ts.cmE P Y = 0 := by
    unfold Ts.cmE
    rw [hlv P a4 hsa, hlv Y (by omega) hsb, if_neg (fun h => h rfl), if_neg (fun h => h rfl), if_neg (by omega)]
  have hfnd : ∀ x ∈ (Ts.cmR P Y).1, x ∈ L := fun x hx => r2 x (found_ne hcE hx)
  have hmx : ∀ Q : List Txt, (∀ t ∈ Q, t.length ≤ 64) → ∀ t ∈ Q, t.length ≤ maxLen := fun Q h t ht => Nat.le_trans (h t ht) (by decide)
  simp only [shs, zts, sos, sls, zss, eqs, sx, sb1, sb2, sb3, sb4, sb5, sb6, sb7, ↓reduceIte, Nat.reduceAdd, Nat.reduceMul, Nat.reduceDiv, Nat.reduceEqDiff, Nat.reduceLT, Nat.reduceLeDiff, reduceCtorEq, Int.reduceEq, Int.reduceNe, Int.reduceLT, Int.reduceLE, Int.reduceAdd, Int.reduceSub, Int.reduceMul, Int.reduceNeg, Int.reduceToNat, Int.cast_ofNat_Int, Int.natCast_zero, Int.natCast_one, Int.toNat_natCast, Nat.reduceBEq, nzs, d2]
  refine CallK.pub (k := 800) rfl fun yp N2 hN2 hyp => ?_
  simp only [shs, zts, sos, sls, zss, eqs, sx, sb1, sb2, sb3, sb4, sb5, sb6, sb7, ↓reduceIte, Nat.reduceAdd, Nat.reduceMul, Nat.reduceDiv, Nat.reduceEqDiff, Nat.reduceLT, Nat.reduceLeDiff, reduceCtorEq, Int.reduceEq, Int.reduceNe, Int.reduceLT, Int.reduceLE, Int.reduceAdd, Int.reduceSub, Int.reduceMul, Int.reduceNeg, Int.reduceToNat, Int.cast_ofNat_Int, Int.natCast_zero, Int.natCast_one, Int.toNat_natCast, Nat.reduceBEq, sp1, sp2, sp3, nzs]
  refine CallK.pub (k := 808) rfl fun yq N3 hN3 hyq => ?_
  simp only [shs, zts, sos, sls, zss, eqs, sx, sb1, sb2, sb3, sb4, sb5, sb6, sb7, ↓reduceIte, Nat.reduceAdd, Nat.reduceMul, Nat.reduceDiv, Nat.reduceEqDiff, Nat.reduceLT, Nat.reduceLeDiff, reduceCtorEq, Int.reduceEq, Int.reduceNe, Int.reduceLT, Int.reduceLE, Int.reduceAdd, Int.reduceSub, Int.reduceMul, Int.reduceNeg, Int.reduceToNat, Int.cast_ofNat_Int, Int.natCast_zero, Int.natCast_one, Int.toNat_natCast, Nat.reduceBEq, sp1, sp2, sp3, nzs]
  have hCm := Ts.compare yp yq P Y N3 (hyp.le hN3) hyq (hmx P hsa) (hmx Y hsb)
  rw [hcE] at hCm
  generalize Ts.cmR P Y = R at *
  refine CallK.row (T := fun t => .tup [t, .v (.int .i64 (R.2 : Int)), .v (.int .i64 0)]) (fun s s' ν ν' h => by simp only [SV.val, SV.vals, h]) rfl rfl hCm fun f N4 hN4 hf => ?_
  have h14 := (hN2.trans hN3).trans hN4
  have hu4 := hu.le h14
  have huI : RowM N4 u 1 ((L.map fun k : Nat => (k : Int)).map encI) := by
    rw [List.map_map]
    exact hu4
  have hfl := hf.len_le
  rw [List.length_map] at hfl
  simp only [shs, zts, sos, sls, zss, eqs, sx, sb1, sb2, sb3, sb4, sb5, sb6, sb7, ↓reduceIte, Nat.reduceAdd, Nat.reduceMul, Nat.reduceDiv, Nat.reduceEqDiff, Nat.reduceLT, Nat.reduceLeDiff, reduceCtorEq, Int.reduceEq, Int.reduceNe, Int.reduceLT, Int.reduceLE, Int.reduceAdd, Int.reduceSub, Int.reduceMul, Int.reduceNeg, Int.reduceToNat, Int.cast_ofNat_Int, Int.natCast_zero, Int.natCast_one, Int.toNat_natCast, Nat.reduceBEq, nzs, hf.len, hf.sl, List.length_map]
  refine LoopK.go (X := Nat) (fun k => ([(0, true, .v (.string ⟨s.toArray⟩)), (7, true, .ptr 56 0 0 0), (8, true, .v (.int .i64 n)), (15, true, .v u), (107, true, .v f), (108, true, .v (.int .i64 R.1.length)), (109, true, .v (.int .i64 k))], [(56, .box [.v b4, .v v4] none)], N4))
    (fun k => k ≤ R.1.length) (fun k => R.1.length - k) 0 (Nat.zero_le _) (Ent.of ?_) ?_
  · simp only [sx, sb1, sb2, sb3, sb4, sb5, sb6, sb7, ↓reduceIte, Nat.reduceAdd, Nat.reduceMul, Nat.reduceDiv, Nat.reduceEqDiff, Nat.reduceLT, Nat.reduceLeDiff, reduceCtorEq, Int.reduceEq, Int.reduceNe, Int.reduceLT, Int.reduceLE, Int.reduceAdd, Int.reduceSub, Int.reduceMul, Int.reduceNeg, Int.reduceToNat, Int.cast_ofNat_Int, Int.natCast_zero, Int.natCast_one, Int.toNat_natCast, Nat.reduceBEq, Int.natCast_zero]
  intro j m2
  by_cases hjn : j < R.1.length
  · have d3 : ((j : Int) < (R.1.length : Int)) = True := eq_true (by omega)
    obtain ⟨x, hx, _⟩ := l_drop_at (l := R.1) (i := j) hjn
    have g0 := hf.el1 (enc := Ts.encN) (l := R.1) hx rfl
    have ix := hf.ix (i := (j : Int)) (by omega) (by rw [List.length_map]; omega)
    have hCt := Si.contains u (L.map fun k : Nat => (k : Int)) (x : Int) N4 huI
    have hge : (0 ≤ Si.ix (x : Int) (L.map fun k : Nat => (k : Int)) 0) = ((x : Int) ∈ L.map fun k : Nat => (k : Int)) := Si.ix_ge _ _ _
    rw [decide_eq_true (hge.mpr (List.mem_map.2 ⟨x, hfnd x (List.mem_of_getElem? hx), rfl⟩))] at hCt
    simp only [shs, zts, sos, sls, zss, eqs, sx, sb1, sb2, sb3, sb4, sb5, sb6, sb7, ↓reduceIte, Nat.reduceAdd, Nat.reduceMul, Nat.reduceDiv, Nat.reduceEqDiff, Nat.reduceLT, Nat.reduceLeDiff, reduceCtorEq, Int.reduceEq, Int.reduceNe, Int.reduceLT, Int.reduceLE, Int.reduceAdd, Int.reduceSub, Int.reduceMul, Int.reduceNeg, Int.reduceToNat, Int.cast_ofNat_Int, Int.natCast_zero, Int.natCast_one, Int.toNat_natCast, Nat.reduceBEq, nzs, d3, ix, ix.2, g0.1, g0.2]
    refine CallK.pure ⟨rfl, rfl⟩ rfl hCt ?_
    simp only [shs, zts, sos, sls, zss, eqs, sx, sb1, sb2, sb3, sb4, sb5, sb6, sb7, ↓reduceIte, Nat.reduceAdd, Nat.reduceMul, Nat.reduceDiv, Nat.reduceEqDiff, Nat.reduceLT, Nat.reduceLeDiff, reduceCtorEq, Int.reduceEq, Int.reduceNe, Int.reduceLT, Int.reduceLE, Int.reduceAdd, Int.reduceSub, Int.reduceMul, Int.reduceNeg, Int.reduceToNat, Int.cast_ofNat_Int, Int.natCast_zero, Int.natCast_one, Int.toNat_natCast, Nat.reduceBEq, nzs, inK, lo, hi]
    refine ⟨by omega, j + 1, ⟨by omega, by omega⟩, Ent.of ?_⟩
    simp only [sx, sb1, sb2, sb3, sb4, sb5, sb6, sb7, ↓reduceIte, Nat.reduceAdd, Nat.reduceMul, Nat.reduceDiv, Nat.reduceEqDiff, Nat.reduceLT, Nat.reduceLeDiff, reduceCtorEq, Int.reduceEq, Int.reduceNe, Int.reduceLT, Int.reduceLE, Int.reduceAdd, Int.reduceSub, Int.reduceMul, Int.reduceNeg, Int.reduceToNat, Int.cast_ofNat_Int, Int.natCast_zero, Int.natCast_one, Int.toNat_natCast, Nat.reduceBEq, Int.natCast_add]
  have d3 : ((j : Int) < (R.1.length : Int)) = False := eq_false (by omega)
  have n24 := n2'.le h14
  have n34 := n3'.le h14
  have hCp := vcopy b4 v4 bag4 ws4 inA inB u (L.map fun k : Nat => (k : Int)) N4 n24 n34 huI
  rw [show cpA bag4 (ws4.map (·.2)) inA inB (L.map fun k : Nat => (k : Int)) = (B, 0) from r3] at hCp
  simp only [stV, inA, inB] at hCp
  simp only [shs, zts, sos, sls, zss, eqs, sx, sb1, sb2, sb3, sb4, sb5, sb6, sb7, ↓reduceIte, Nat.reduceAdd, Nat.reduceMul, Nat.reduceDiv, Nat.reduceEqDiff, Nat.reduceLT, Nat.reduceLeDiff, reduceCtorEq, Int.reduceEq, Int.reduceNe, Int.reduceLT, Int.reduceLE, Int.reduceAdd, Int.reduceSub, Int.reduceMul, Int.reduceNeg, Int.reduceToNat, Int.cast_ofNat_Int, Int.natCast_zero, Int.natCast_one, Int.toNat_natCast, Nat.reduceBEq, nzs, d3, n24.one, n34.row.one]
  refine CallK.stM (T := fun s => .tup [s, .v (.int .i64 0)]) (fun _ _ => rfl) rfl rfl hCp fun b6 v6 ws6 N6 hN6 hw6 hb6 hv6 => ?_
  have hw6' : ws6.map (·.2) = B.2 := hw6
  have hLb := loadedW b6 v6 B.1 ws6 inB n N6 hb6 hv6 a3
  have hLa := loadedW b6 v6 B.1 ws6 inA n N6 hb6 hv6 a3
  rw [hw6'] at hLa hLb
  rw [show ldS (B.1, B.2) inB n = s by rw [show (B.1, B.2) = B from rfl, ldS_eq r4 r6 n (by omega), List.take_of_length_le (by omega), a5]] at hLb
  rw [show ldS (B.1, B.2) inA n = s by rw [show (B.1, B.2) = B from rfl, ldS_eq r4 r5 n (by omega), List.take_of_length_le (by omega), a5]] at hLa
  simp only [stV, inA, inB] at hLa hLb
  simp only [shs, zts, sos, sls, zss, eqs, sx, sb1, sb2, sb3, sb4, sb5, sb6, sb7, ↓reduceIte, Nat.reduceAdd, Nat.reduceMul, Nat.reduceDiv, Nat.reduceEqDiff, Nat.reduceLT, Nat.reduceLeDiff, reduceCtorEq, Int.reduceEq, Int.reduceNe, Int.reduceLT, Int.reduceLE, Int.reduceAdd, Int.reduceSub, Int.reduceMul, Int.reduceNeg, Int.reduceToNat, Int.cast_ofNat_Int, Int.natCast_zero, Int.natCast_one, Int.toNat_natCast, Nat.reduceBEq, nzs, stV, hb6.one, hv6.row.one]
  refine CallK.pure ⟨rfl, rfl⟩ rfl hLb ?_
  simp only [shs, zts, sos, sls, zss, eqs, sx, sb1, sb2, sb3, sb4, sb5, sb6, sb7, ↓reduceIte, Nat.reduceAdd, Nat.reduceMul, Nat.reduceDiv, Nat.reduceEqDiff, Nat.reduceLT, Nat.reduceLeDiff, reduceCtorEq, Int.reduceEq, Int.reduceNe, Int.reduceLT, Int.reduceLE, Int.reduceAdd, Int.reduceSub, Int.reduceMul, Int.reduceNeg, Int.reduceToNat, Int.cast_ofNat_Int, Int.natCast_zero, Int.natCast_one, Int.toNat_natCast, Nat.reduceBEq, nzs, decide_true, hb6.one, hv6.row.one]
  refine CallK.pure ⟨rfl, rfl⟩ rfl hLa ?_
  simp only [shs, zts, sos, sls, zss, eqs, sx, sb1, sb2, sb3, sb4, sb5, sb6, sb7, ↓reduceIte, Nat.reduceAdd, Nat.reduceMul, Nat.reduceDiv, Nat.reduceEqDiff, Nat.reduceLT, Nat.reduceLeDiff, reduceCtorEq, Int.reduceEq, Int.reduceNe, Int.reduceLT, Int.reduceLE, Int.reduceAdd, Int.reduceSub, Int.reduceMul, Int.reduceNeg, Int.reduceToNat, Int.cast_ofNat_Int, Int.natCast_zero, Int.natCast_one, Int.toNat_natCast, Nat.reduceBEq, nzs, decide_true]
theorem backupL (s : Txt) (y : Value × List Int) (t : Txt) (M : Mem) (hs : s.length ≤ reachBytes) (hy : RowM M y.1 1 (y.2.map fun a => [Value.int .i64 a]) ∧ y.2.length * 8 ≤ reachBytes ∧ ∀ x ∈ y.2, inK .i64 x) (_ : t.length ≤ reachBytes) :
    Meets Proofs.Try.prog 4 [.v (.string ⟨s.toArray⟩), .v y.1, .v (.string ⟨t.toArray⟩)] M fun r _ _ => r = .v (.bool true) := backupW s y.1 y.2 t M hy.1 (Nat.le_trans hs (by decide))
end Go.X.Vo

