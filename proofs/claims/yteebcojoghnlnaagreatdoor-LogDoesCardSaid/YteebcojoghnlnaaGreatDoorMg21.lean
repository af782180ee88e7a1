/- Contracts of functions and the logic that they are proved in (3 texts in one). Conditions: none. -/
import Derived.Test.YteebcojoghnlnaaGreatDoorMg19
import Derived.Test.YteebcojoghnlnaaGreatDoorMg20
import Derived.Test.YteebcojoghnlnaaGreatDoorMg5
namespace Go.X.Bg
end Go.X.Bg
namespace Go.X.Sb
end Go.X.Sb
namespace Go.X.Nm
end Go.X.Nm
namespace Go.X.Bp
end Go.X.Bp
namespace Go.X.Pol
end Go.X.Pol
namespace Go.X.Pl
end Go.X.Pl
namespace Go.X.Rp
end Go.X.Rp
namespace Go.X.Pd
end Go.X.Pd
namespace Go.X.Md
end Go.X.Md
namespace Go.X.Mv
end Go.X.Mv
namespace Go.X.Pt
end Go.X.Pt
set_option linter.unusedSimpArgs false
set_option linter.unusedVariables false
set_option maxHeartbeats 4000000
set_option maxRecDepth 20000
namespace Go.X.Bp
open Go Go.X Go.RowKit Go.X.Bg Go.X.Sb

/-- the numbers of the first items that have this print -/
def usedN (l : List It) (s : Int) (n : Nat) : List Int := ((l.take n).filter (fun x => decide (x.1 = s))).map (·.2.1)
theorem usedN_succ {l : List It} {n : Nat} {x : It} (s : Int) (h : l[n]? = some x) : usedN l s (n + 1) = if x.1 = s then usedN l s n ++ [x.2.1] else usedN l s n := by
  unfold usedN
  rw [List.take_add_one, h, Option.toList_some, List.filter_append, List.map_append]
  split
  · rename_i h1; simp [h1]
  · rename_i h1; simp [h1]
theorem usedN_len (l : List It) (s : Int) (n : Nat) : (usedN l s n).length ≤ n := by
  unfold usedN
  rw [List.length_map]
  have h1 := List.length_filter_le (fun x : It => decide (x.1 = s)) (l.take n)
  have h2 := List.length_take_le n l
  omega
theorem usedN_has (l : List It) (s : Int) (n : Nat) : ((n : Int) ∈ usedN l s l.length) = (has l s n = true) := by
  unfold usedN
  rw [List.take_length]
  apply propext
  rw [has_iff]
  simp only [List.mem_map, List.mem_filter, decide_eq_true_eq]
  exact ⟨fun ⟨x, ⟨h1, h2⟩, h3⟩ => ⟨x, h1, h2, h3⟩, fun ⟨x, h1, h2, h3⟩ => ⟨x, ⟨h1, h2⟩, h3⟩⟩
theorem rput (y : Value) (l : List It) (s : List UInt8) (M : Mem) (hy : RowM M y 4 (l.map Bg.encT)) (hb : bagE l = 0) :
    Meets Proofs.Tryz.prog 114 [.v y, .v (.string ⟨s.toArray⟩)] M (OwnR (putT (putG l s).2.1 (putG l s).2.2) 4 ((putG l s).1.map Bg.encT)) := by
  have hes : ∀ q : List It, ∀ e ∈ q.map Bg.encT, e.length = 4 ∧ ∀ c ∈ e, c.oneCell' = true := fun q e he => by
    obtain ⟨x, hx, rfl⟩ := List.mem_map.1 he
    exact ⟨rfl, oneCell_it x⟩
  refine Meets.closeR (putT_ctx _ _) (hes _) ?_
  refine Meets.of_body [0,1,4,5,6,7,8,9,10,11,14,18,19,20,21,28,31,50,59,68] Proofs.Tryz.func114 rfl (by kernel_rfl) rfl fun w => ?_
  generalize hc : putG l s = c
  unfold putG at hc
  have hyl := hy.len_le
  rw [List.length_map] at hyl
  have hl64 := bag_len hb
  simp only [Proofs.Tryz.f114, shs, zts, sos, sls, zss, eqs, sx, sb1, sb2, sb3, sb4, sb5, sb6, sb7, ↓reduceIte, Nat.reduceAdd, Nat.reduceMul, Nat.reduceDiv, Nat.reduceEqDiff, Nat.reduceLT, Nat.reduceLeDiff, reduceCtorEq, Int.reduceEq, Int.reduceNe, Int.reduceLT, Int.reduceLE, Int.reduceAdd, Int.reduceSub, Int.reduceMul, Int.reduceNeg, Int.reduceToNat, Int.cast_ofNat_Int, Int.natCast_zero, Int.natCast_one, Int.toNat_natCast, Nat.reduceBEq, nzs]
  by_cases h2 : 64 < s.length
  · have c2 : ((64 : Int) < (s.length : Int)) = True := eq_true (by omega)
    rw [if_pos h2] at hc
    subst hc
    simp only [shs, zts, sos, sls, zss, eqs, sx, sb1, sb2, sb3, sb4, sb5, sb6, sb7, ↓reduceIte, Nat.reduceAdd, Nat.reduceMul, Nat.reduceDiv, Nat.reduceEqDiff, Nat.reduceLT, Nat.reduceLeDiff, reduceCtorEq, Int.reduceEq, Int.reduceNe, Int.reduceLT, Int.reduceLE, Int.reduceAdd, Int.reduceSub, Int.reduceMul, Int.reduceNeg, Int.reduceToNat, Int.cast_ofNat_Int, Int.natCast_zero, Int.natCast_one, Int.toNat_natCast, Nat.reduceBEq, nzs, c2, putT, idS, z3]
    exact fun h => absurd h (by omega)
  have c2 : ((64 : Int) < (s.length : Int)) = False := eq_false (by omega)
  have c2b : ((s.length : Int) ≤ 64) = True := eq_true (by omega)
  have hs : s.length ≤ maxLen := Nat.le_trans (Nat.le_of_not_lt h2) (by decide)
  rw [if_neg h2] at hc
  simp only [shs, zts, sos, sls, zss, eqs, sx, sb1, sb2, sb3, sb4, sb5, sb6, sb7, ↓reduceIte, Nat.reduceAdd, Nat.reduceMul, Nat.reduceDiv, Nat.reduceEqDiff, Nat.reduceLT, Nat.reduceLeDiff, reduceCtorEq, Int.reduceEq, Int.reduceNe, Int.reduceLT, Int.reduceLE, Int.reduceAdd, Int.reduceSub, Int.reduceMul, Int.reduceNeg, Int.reduceToNat, Int.cast_ofNat_Int, Int.natCast_zero, Int.natCast_one, Int.toNat_natCast, Nat.reduceBEq, nzs, c2, c2b]
  refine CallK.own Ctx.id rfl rfl (cloneB y l M hy (by omega)) rfl fun M1 hM1 => ?_
  simp only [shs, zts, sos, sls, zss, eqs, sx, sb1, sb2, sb3, sb4, sb5, sb6, sb7, ↓reduceIte, Nat.reduceAdd, Nat.reduceMul, Nat.reduceDiv, Nat.reduceEqDiff, Nat.reduceLT, Nat.reduceLeDiff, reduceCtorEq, Int.reduceEq, Int.reduceNe, Int.reduceLT, Int.reduceLE, Int.reduceAdd, Int.reduceSub, Int.reduceMul, Int.reduceNeg, Int.reduceToNat, Int.cast_ofNat_Int, Int.natCast_zero, Int.natCast_one, Int.toNat_natCast, Nat.reduceBEq, nzs, hdel, sigDrop, sigDropA]
  refine LoopK.nilRow 8 55 1 rfl rfl rfl ?_
  refine LoopK.go (X := Nat) (fun n => ([(0, true, .v y), (1, true, .v (.string ⟨s.toArray⟩)), (4, true, .v (.slice none 0 0)), (5, true, .ptr 40 0 0 0), (6, true, .v (.int .i64 0)), (7, true, .ptr 56 0 0 0), (8, true, .own 440), (18, true, .own 136), (19, true, .v (.int .i64 l.length)), (20, true, .v (.int .i64 (n : Int)))], [(440, .row 1 ((usedN l (sumT s) n).map encI)), (56, .box [.own 136] none), (136, .row 4 (l.map Bg.encT)), (40, .box [.v (.bool false), .v (.int .i64 0), .v (.int .i64 0)] none)], M1))
    (fun n => n ≤ l.length ∧ txtIx l s = fidx (fun x : It => decide (x.2.2.1 = s)) (l.drop n) n) (fun n => l.length - n) 0 ⟨Nat.zero_le _, rfl⟩ (Ent.of ?_) ?_
  · simp only [sx, sb1, sb2, sb3, sb4, sb5, sb6, sb7, ↓reduceIte, Nat.reduceAdd, Nat.reduceMul, Nat.reduceDiv, Nat.reduceEqDiff, Nat.reduceLT, Nat.reduceLeDiff, reduceCtorEq, Int.reduceEq, Int.reduceNe, Int.reduceLT, Int.reduceLE, Int.reduceAdd, Int.reduceSub, Int.reduceMul, Int.reduceNeg, Int.reduceToNat, Int.cast_ofNat_Int, Int.natCast_zero, Int.natCast_one, Int.toNat_natCast, Nat.reduceBEq, List.length_map, usedN, List.take_zero, List.filter_nil, List.map_nil, Int.natCast_zero]
  rintro n ⟨hn, hti⟩
  simp only [shs, zts, sos, sls, zss, eqs, sx, sb1, sb2, sb3, sb4, sb5, sb6, sb7, ↓reduceIte, Nat.reduceAdd, Nat.reduceMul, Nat.reduceDiv, Nat.reduceEqDiff, Nat.reduceLT, Nat.reduceLeDiff, reduceCtorEq, Int.reduceEq, Int.reduceNe, Int.reduceLT, Int.reduceLE, Int.reduceAdd, Int.reduceSub, Int.reduceMul, Int.reduceNeg, Int.reduceToNat, Int.cast_ofNat_Int, Int.natCast_zero, Int.natCast_one, Int.toNat_natCast, Nat.reduceBEq, nzs]
  refine ⟨fun h3 => ?_, fun h3 => ?_⟩
  · have hn' : n < l.length := by omega
    obtain ⟨x, hx, hd⟩ := Rp.drop_at (l := l) (i := n) hn'
    have hg := getD_it hx
    rw [hd] at hti
    simp only [fidx] at hti
    simp only [shs, zts, sos, sls, zss, eqs, sx, sb1, sb2, sb3, sb4, sb5, sb6, sb7, ↓reduceIte, Nat.reduceAdd, Nat.reduceMul, Nat.reduceDiv, Nat.reduceEqDiff, Nat.reduceLT, Nat.reduceLeDiff, reduceCtorEq, Int.reduceEq, Int.reduceNe, Int.reduceLT, Int.reduceLE, Int.reduceAdd, Int.reduceSub, Int.reduceMul, Int.reduceNeg, Int.reduceToNat, Int.cast_ofNat_Int, Int.natCast_zero, Int.natCast_one, Int.toNat_natCast, Nat.reduceBEq, nzs, hg, List.getD_cons_zero, List.getD_cons_succ, List.length_map]
    have hrf := (oneE_ok (bag_ok hb x (List.mem_of_getElem? hx))).2.2
    by_cases h4 : x.2.2.1 = s
    · rw [if_pos (decide_eq_true h4)] at hti
      rw [hti, atI_at hx, Int.toNat_natCast, if_pos (by omega)] at hc
      have c4 := eq_true h4
      by_cases h5 : x.2.2.2 = 1000000
      · rw [if_pos h5] at hc
        subst hc
        have c5 : ((1000000 : Int) ≤ x.2.2.2) = True := eq_true (by omega)
        have c5b : (x.2.2.2 < 1000000) = False := eq_false (by omega)
        simp only [shs, zts, sos, sls, zss, eqs, sx, sb1, sb2, sb3, sb4, sb5, sb6, sb7, ↓reduceIte, Nat.reduceAdd, Nat.reduceMul, Nat.reduceDiv, Nat.reduceEqDiff, Nat.reduceLT, Nat.reduceLeDiff, reduceCtorEq, Int.reduceEq, Int.reduceNe, Int.reduceLT, Int.reduceLE, Int.reduceAdd, Int.reduceSub, Int.reduceMul, Int.reduceNeg, Int.reduceToNat, Int.cast_ofNat_Int, Int.natCast_zero, Int.natCast_one, Int.toNat_natCast, Nat.reduceBEq, nzs, c4, c5, c5b, putT, idS, z3]
        exact ⟨⟨by omega, by omega⟩, by omega⟩
      · rw [if_neg h5] at hc
        subst hc
        have c5 : ((1000000 : Int) ≤ x.2.2.2) = False := eq_false (by omega)
        have c5b : (x.2.2.2 < 1000000) = True := eq_true (by omega)
        have hset := setR_map hx (x.2.2.2 + 1)
        simp only [shs, zts, sos, sls, zss, eqs, sx, sb1, sb2, sb3, sb4, sb5, sb6, sb7, ↓reduceIte, Nat.reduceAdd, Nat.reduceMul, Nat.reduceDiv, Nat.reduceEqDiff, Nat.reduceLT, Nat.reduceLeDiff, reduceCtorEq, Int.reduceEq, Int.reduceNe, Int.reduceLT, Int.reduceLE, Int.reduceAdd, Int.reduceSub, Int.reduceMul, Int.reduceNeg, Int.reduceToNat, Int.cast_ofNat_Int, Int.natCast_zero, Int.natCast_one, Int.toNat_natCast, Nat.reduceBEq, nzs, hg, List.getD_cons_zero, List.getD_cons_succ, c4, c5, c5b, List.length_map, hset]
        refine ⟨⟨by omega, by omega⟩, by omega, by simp only [inK, lo, hi]; omega, ⟨by omega, by omega⟩, by omega, DrawK.tail 7 (by kernel_rfl) (by kernel_rfl) ?_⟩
        simp only [shs, zts, sos, sls, zss, eqs, sx, sb1, sb2, sb3, sb4, sb5, sb6, sb7, ↓reduceIte, Nat.reduceAdd, Nat.reduceMul, Nat.reduceDiv, Nat.reduceEqDiff, Nat.reduceLT, Nat.reduceLeDiff, reduceCtorEq, Int.reduceEq, Int.reduceNe, Int.reduceLT, Int.reduceLE, Int.reduceAdd, Int.reduceSub, Int.reduceMul, Int.reduceNeg, Int.reduceToNat, Int.cast_ofNat_Int, Int.natCast_zero, Int.natCast_one, Int.toNat_natCast, Nat.reduceBEq, nzs, putT, idS]
        exact .inr (.inl ⟨136, rfl, rfl⟩)
    · have c4 := eq_false h4
      rw [if_neg (by simpa using h4)] at hti
      simp only [shs, zts, sos, sls, zss, eqs, sx, sb1, sb2, sb3, sb4, sb5, sb6, sb7, ↓reduceIte, Nat.reduceAdd, Nat.reduceMul, Nat.reduceDiv, Nat.reduceEqDiff, Nat.reduceLT, Nat.reduceLeDiff, reduceCtorEq, Int.reduceEq, Int.reduceNe, Int.reduceLT, Int.reduceLE, Int.reduceAdd, Int.reduceSub, Int.reduceMul, Int.reduceNeg, Int.reduceToNat, Int.cast_ofNat_Int, Int.natCast_zero, Int.natCast_one, Int.toNat_natCast, Nat.reduceBEq, nzs, c4]
      refine ⟨⟨by omega, by omega⟩, by omega, DrawK.quiet (by kernel_rfl) (by kernel_rfl) ?_⟩
      simp only [shs, zts, sos, sls, zss, eqs, sx, sb1, sb2, sb3, sb4, sb5, sb6, sb7, ↓reduceIte, Nat.reduceAdd, Nat.reduceMul, Nat.reduceDiv, Nat.reduceEqDiff, Nat.reduceLT, Nat.reduceLeDiff, reduceCtorEq, Int.reduceEq, Int.reduceNe, Int.reduceLT, Int.reduceLE, Int.reduceAdd, Int.reduceSub, Int.reduceMul, Int.reduceNeg, Int.reduceToNat, Int.cast_ofNat_Int, Int.natCast_zero, Int.natCast_one, Int.toNat_natCast, Nat.reduceBEq, nzs]
      refine ⟨_, ⟨⟨rfl, rfl⟩, rprintS s M1 hs⟩, ?_⟩
      simp only [shs, zts, sos, sls, zss, eqs, sx, sb1, sb2, sb3, sb4, sb5, sb6, sb7, ↓reduceIte, Nat.reduceAdd, Nat.reduceMul, Nat.reduceDiv, Nat.reduceEqDiff, Nat.reduceLT, Nat.reduceLeDiff, reduceCtorEq, Int.reduceEq, Int.reduceNe, Int.reduceLT, Int.reduceLE, Int.reduceAdd, Int.reduceSub, Int.reduceMul, Int.reduceNeg, Int.reduceToNat, Int.cast_ofNat_Int, Int.natCast_zero, Int.natCast_one, Int.toNat_natCast, Nat.reduceBEq, nzs]
      have hul := usedN_len l (sumT s) n
      have hus := usedN_succ (sumT s) hx
      refine ⟨fun h7 => ⟨⟨by rw [List.length_map]; omega, by rw [List.length_map]; omega⟩, by simp only [inK, lo, hi]; omega, n + 1, ⟨⟨by omega, hti⟩, by omega⟩, Ent.of ?_⟩, fun h7 => ⟨by simp only [inK, lo, hi]; omega, n + 1, ⟨⟨by omega, hti⟩, by omega⟩, Ent.of ?_⟩⟩
      · rw [if_pos h7] at hus
        rw [hus, List.map_append, show ([x.2.1].map encI) = [[Value.int IntKind.i64 x.2.1]] from rfl]
        simp only [sx, sb1, sb2, sb3, sb4, sb5, sb6, sb7, ↓reduceIte, Nat.reduceAdd, Nat.reduceMul, Nat.reduceDiv, Nat.reduceEqDiff, Nat.reduceLT, Nat.reduceLeDiff, reduceCtorEq, Int.reduceEq, Int.reduceNe, Int.reduceLT, Int.reduceLE, Int.reduceAdd, Int.reduceSub, Int.reduceMul, Int.reduceNeg, Int.reduceToNat, Int.cast_ofNat_Int, Int.natCast_zero, Int.natCast_one, Int.toNat_natCast, Nat.reduceBEq, Int.natCast_add]
      · rw [if_neg h7] at hus
        rw [hus]
        simp only [sx, sb1, sb2, sb3, sb4, sb5, sb6, sb7, ↓reduceIte, Nat.reduceAdd, Nat.reduceMul, Nat.reduceDiv, Nat.reduceEqDiff, Nat.reduceLT, Nat.reduceLeDiff, reduceCtorEq, Int.reduceEq, Int.reduceNe, Int.reduceLT, Int.reduceLE, Int.reduceAdd, Int.reduceSub, Int.reduceMul, Int.reduceNeg, Int.reduceToNat, Int.cast_ofNat_Int, Int.natCast_zero, Int.natCast_one, Int.toNat_natCast, Nat.reduceBEq, Int.natCast_add]
  · have hd : l.drop n = [] := List.drop_eq_nil_of_le (by omega)
    rw [hd] at hti
    simp only [fidx] at hti
    rw [hti, if_neg (by decide)] at hc
    have hnl : n = l.length := by omega
    subst hnl
    by_cases h6 : l.length = 64
    · have c6 : ((63 : Int) < (l.length : Int)) = True := eq_true (by omega)
      have c6b : ((l.length : Int) ≤ 63) = False := eq_false (by omega)
      rw [if_pos h6] at hc
      subst hc
      simp only [shs, zts, sos, sls, zss, eqs, sx, sb1, sb2, sb3, sb4, sb5, sb6, sb7, ↓reduceIte, Nat.reduceAdd, Nat.reduceMul, Nat.reduceDiv, Nat.reduceEqDiff, Nat.reduceLT, Nat.reduceLeDiff, reduceCtorEq, Int.reduceEq, Int.reduceNe, Int.reduceLT, Int.reduceLE, Int.reduceAdd, Int.reduceSub, Int.reduceMul, Int.reduceNeg, Int.reduceToNat, Int.cast_ofNat_Int, Int.natCast_zero, Int.natCast_one, Int.toNat_natCast, Nat.reduceBEq, nzs, hy.len, hy.sl, List.length_map, c6, c6b, putT, idS, z3]
      skip
    have c6 : ((63 : Int) < (l.length : Int)) = False := eq_false (by omega)
    have c6b : ((l.length : Int) ≤ 63) = True := eq_true (by omega)
    rw [if_neg h6] at hc
    subst hc
    simp only [shs, zts, sos, sls, zss, eqs, sx, sb1, sb2, sb3, sb4, sb5, sb6, sb7, ↓reduceIte, Nat.reduceAdd, Nat.reduceMul, Nat.reduceDiv, Nat.reduceEqDiff, Nat.reduceLT, Nat.reduceLeDiff, reduceCtorEq, Int.reduceEq, Int.reduceNe, Int.reduceLT, Int.reduceLE, Int.reduceAdd, Int.reduceSub, Int.reduceMul, Int.reduceNeg, Int.reduceToNat, Int.cast_ofNat_Int, Int.natCast_zero, Int.natCast_one, Int.toNat_natCast, Nat.reduceBEq, nzs, hy.len, hy.sl, List.length_map, c6, c6b]
    refine CallK.pure ⟨rfl, rfl⟩ rfl (rprintS s M1 hs) ?_
    simp only [shs, zts, sos, sls, zss, eqs, sx, sb1, sb2, sb3, sb4, sb5, sb6, sb7, ↓reduceIte, Nat.reduceAdd, Nat.reduceMul, Nat.reduceDiv, Nat.reduceEqDiff, Nat.reduceLT, Nat.reduceLeDiff, reduceCtorEq, Int.reduceEq, Int.reduceNe, Int.reduceLT, Int.reduceLE, Int.reduceAdd, Int.reduceSub, Int.reduceMul, Int.reduceNeg, Int.reduceToNat, Int.cast_ofNat_Int, Int.natCast_zero, Int.natCast_one, Int.toNat_natCast, Nat.reduceBEq, nzs]
    refine LoopK.go (X := Nat) (fun n => ([(0, true, .v y), (1, true, .v (.string ⟨s.toArray⟩)), (4, true, .v (.slice none 0 0)), (5, true, .ptr 40 0 0 0), (6, true, .v (.int .i64 0)), (7, true, .ptr 56 0 0 0), (8, true, .own 440), (11, true, .ptr 88 0 0 0)], [(88, .box [.v (.int .i64 (sumT s)), .v (.int .i64 (n : Int)), .v (.string ⟨s.toArray⟩), .v (.int .i64 1)] none), (440, .row 1 ((usedN l (sumT s) l.length).map encI)), (56, .box [.own 136] none), (136, .row 4 (l.map Bg.encT)), (40, .box [.v (.bool false), .v (.int .i64 0), .v (.int .i64 0)] none)], M1)) (fun n => ∀ m, m < n → has l (sumT s) m = true) (fun n => 65 - n) 0 (fun m hm => by omega) (Ent.of ?_) ?_
    · simp only [sx, sb1, sb2, sb3, sb4, sb5, sb6, sb7, ↓reduceIte, Nat.reduceAdd, Nat.reduceMul, Nat.reduceDiv, Nat.reduceEqDiff, Nat.reduceLT, Nat.reduceLeDiff, reduceCtorEq, Int.reduceEq, Int.reduceNe, Int.reduceLT, Int.reduceLE, Int.reduceAdd, Int.reduceSub, Int.reduceMul, Int.reduceNeg, Int.reduceToNat, Int.cast_ofNat_Int, Int.natCast_zero, Int.natCast_one, Int.toNat_natCast, Nat.reduceBEq, Int.natCast_zero]
    intro n hn
    have hpn := pig (sumT s) n l hn
    simp only [shs, zts, sos, sls, zss, eqs, sx, sb1, sb2, sb3, sb4, sb5, sb6, sb7, ↓reduceIte, Nat.reduceAdd, Nat.reduceMul, Nat.reduceDiv, Nat.reduceEqDiff, Nat.reduceLT, Nat.reduceLeDiff, reduceCtorEq, Int.reduceEq, Int.reduceNe, Int.reduceLT, Int.reduceLE, Int.reduceAdd, Int.reduceSub, Int.reduceMul, Int.reduceNeg, Int.reduceToNat, Int.cast_ofNat_Int, Int.natCast_zero, Int.natCast_one, Int.toNat_natCast, Nat.reduceBEq, nzs]
    have hcont : decide (0 ≤ Si.ix (n : Int) (usedN l (sumT s) l.length) 0) = has l (sumT s) n := by
      have := (Si.ix_ge (n : Int) (usedN l (sumT s) l.length) 0).trans (usedN_has l (sumT s) n)
      rw [Bool.eq_iff_iff, decide_eq_true_eq, this]
    refine CallK.lend (k := 440) rfl rfl rfl (fun _ => rfl) (fun v M3 hM3 hv => Si.contains v (usedN l (sumT s) l.length) (n : Int) M3 hv) ?_
    rw [hcont]
    cases hh : has l (sumT s) n with
    | true =>
      simp only [shs, zts, sos, sls, zss, eqs, sx, sb1, sb2, sb3, sb4, sb5, sb6, sb7, ↓reduceIte, Nat.reduceAdd, Nat.reduceMul, Nat.reduceDiv, Nat.reduceEqDiff, Nat.reduceLT, Nat.reduceLeDiff, reduceCtorEq, Int.reduceEq, Int.reduceNe, Int.reduceLT, Int.reduceLE, Int.reduceAdd, Int.reduceSub, Int.reduceMul, Int.reduceNeg, Int.reduceToNat, Int.cast_ofNat_Int, Int.natCast_zero, Int.natCast_one, Int.toNat_natCast, Nat.reduceBEq, nzs, inK, lo, hi]
      refine ⟨by omega, n + 1, ⟨fun m hm => ?_, by omega⟩, Ent.of ?_⟩
      · rcases Nat.lt_or_ge m n with hm' | hm'
        · exact hn m hm'
        · rw [show m = n by omega]; exact hh
      · simp only [sx, sb1, sb2, sb3, sb4, sb5, sb6, sb7, ↓reduceIte, Nat.reduceAdd, Nat.reduceMul, Nat.reduceDiv, Nat.reduceEqDiff, Nat.reduceLT, Nat.reduceLeDiff, reduceCtorEq, Int.reduceEq, Int.reduceNe, Int.reduceLT, Int.reduceLE, Int.reduceAdd, Int.reduceSub, Int.reduceMul, Int.reduceNeg, Int.reduceToNat, Int.cast_ofNat_Int, Int.natCast_zero, Int.natCast_one, Int.toNat_natCast, Nat.reduceBEq, Int.natCast_add]
    | false =>
      have hfn := freeN_of hn hh (by omega)
      rw [hfn]
      simp only [shs, zts, sos, sls, zss, eqs, sx, sb1, sb2, sb3, sb4, sb5, sb6, sb7, ↓reduceIte, Nat.reduceAdd, Nat.reduceMul, Nat.reduceDiv, Nat.reduceEqDiff, Nat.reduceLT, Nat.reduceLeDiff, reduceCtorEq, Int.reduceEq, Int.reduceNe, Int.reduceLT, Int.reduceLE, Int.reduceAdd, Int.reduceSub, Int.reduceMul, Int.reduceNeg, Int.reduceToNat, Int.cast_ofNat_Int, Int.natCast_zero, Int.natCast_one, Int.toNat_natCast, Nat.reduceBEq, nzs]
      have hrow : l.map Bg.encT ++ [[.int .i64 (sumT s), .int .i64 (n : Int), .string ⟨s.toArray⟩, .int .i64 1]] = (l ++ [(sumT s, (n : Int), s, 1)]).map Bg.encT := by
        rw [List.map_append]; rfl
      rw [hrow]
      refine ⟨⟨by rw [List.length_map]; omega, by rw [List.length_map]; omega⟩, ⟨rfl, OpK.openRow (k := 608) 1002 rfl (fun _ => rfl) (fun h => by simp at h) fun b cap sp r1 r2 => ?_⟩⟩
      refine OpK.mkIface (t := 22) rfl rfl rfl rfl (by kernel_rfl) ⟨107, by kernel_rfl⟩ ?_
      simp only [shs, zts, sos, sls, zss, eqs, sx, sb1, sb2, sb3, sb4, sb5, sb6, sb7, ↓reduceIte, Nat.reduceAdd, Nat.reduceMul, Nat.reduceDiv, Nat.reduceEqDiff, Nat.reduceLT, Nat.reduceLeDiff, reduceCtorEq, Int.reduceEq, Int.reduceNe, Int.reduceLT, Int.reduceLE, Int.reduceAdd, Int.reduceSub, Int.reduceMul, Int.reduceNeg, Int.reduceToNat, Int.cast_ofNat_Int, Int.natCast_zero, Int.natCast_one, Int.toNat_natCast, Nat.reduceBEq, sp1, sp2, sp3, nzs, so0]
      refine stepK.mkFn rfl rfl ?_
      simp only [shs, zts, sos, sls, zss, eqs, sx, sb1, sb2, sb3, sb4, sb5, sb6, sb7, ↓reduceIte, Nat.reduceAdd, Nat.reduceMul, Nat.reduceDiv, Nat.reduceEqDiff, Nat.reduceLT, Nat.reduceLeDiff, reduceCtorEq, Int.reduceEq, Int.reduceNe, Int.reduceLT, Int.reduceLE, Int.reduceAdd, Int.reduceSub, Int.reduceMul, Int.reduceNeg, Int.reduceToNat, Int.cast_ofNat_Int, Int.natCast_zero, Int.natCast_one, Int.toNat_natCast, Nat.reduceBEq, nzs, List.length_map] at r1 ⊢
      refine CallK.sortRow 8016 56 Bg.encT 4 ltI (l ++ [(sumT s, (n : Int), s, 1)]) (b := b) (cap := cap) (sp := sp) (tb := none) rfl rfl rfl encT_len rfl (by simp; omega) ⟨_, Proofs.Tryz.func109, by kernel_rfl, by kernel_rfl⟩ sortC (srtLess _ (by simp; omega)) fun l' p1 p2 => ?_
      have hlen := p1.length_eq
      have hl' := srt_ins (bag_srt hb) (fun y hy hh2 => by
        have := (has_iff l (sumT s) n).2 ⟨y, hy, hh2⟩
        rw [hh] at this
        cases this) p1 p2
      rw [← hl', ← hlen]
      simp only [shs, zts, sos, sls, zss, eqs, sx, sb1, sb2, sb3, sb4, sb5, sb6, sb7, ↓reduceIte, Nat.reduceAdd, Nat.reduceMul, Nat.reduceDiv, Nat.reduceEqDiff, Nat.reduceLT, Nat.reduceLeDiff, reduceCtorEq, Int.reduceEq, Int.reduceNe, Int.reduceLT, Int.reduceLE, Int.reduceAdd, Int.reduceSub, Int.reduceMul, Int.reduceNeg, Int.reduceToNat, Int.cast_ofNat_Int, Int.natCast_zero, Int.natCast_one, Int.toNat_natCast, Nat.reduceBEq, sp1, sp2, sp3, nzs, hset]
      refine DrawK.tail 7 (by kernel_rfl) (by kernel_rfl) ?_
      simp only [shs, zts, sos, sls, zss, eqs, sx, sb1, sb2, sb3, sb4, sb5, sb6, sb7, ↓reduceIte, Nat.reduceAdd, Nat.reduceMul, Nat.reduceDiv, Nat.reduceEqDiff, Nat.reduceLT, Nat.reduceLeDiff, reduceCtorEq, Int.reduceEq, Int.reduceNe, Int.reduceLT, Int.reduceLE, Int.reduceAdd, Int.reduceSub, Int.reduceMul, Int.reduceNeg, Int.reduceToNat, Int.cast_ofNat_Int, Int.natCast_zero, Int.natCast_one, Int.toNat_natCast, Nat.reduceBEq, nzs, putT, idS]
      refine .inr (.inr ⟨b, 8016, cap, sp, ?_, rfl, ?_⟩)
      · rw [List.length_map]
        rfl
      · rw [List.length_map, hlen]
        exact r1
end Go.X.Bp

namespace Go.X.Vo
open Go Go.X Go.RowKit Go.X.Bg Go.X.Nm Go.X.Bp Go.X.Sb

theorem setV_get {l : List Vol} {i a : Nat} {id : Id3} {j : Nat} {x : Vol} (h : l[j]? = some x) : (setV l i a id)[j]? = some (if j = i then (x.1, x.2.set a id) else x) := by
  unfold setV
  rw [List.getElem?_set]
  by_cases e : i = j
  · subst e
    rw [if_pos rfl, if_pos (List.getElem?_eq_some_iff.1 h).1, if_pos rfl, volAt_at h]
  · rw [if_neg e, if_neg (fun h => e h.symm), h]
theorem rset (b v : Value) (bag : List It) (ws : List WV) (vi a : Nat) (id : Id3) (M : Mem) (hb : RowM M b 4 (bag.map Bg.encT)) (hv : VolsM M v ws) (hl : ws.length ≤ 1000) (hli : ∀ w ∈ ws, w.2.2.length ≤ 1000) (ha : ∀ x, ws[vi]? = some x → a < x.2.2.length) :
    Meets Proofs.Tryz.prog 111 [stV b v, .v (.int .i64 vi), .v (.int .i64 a), idS id] M (StM (fun s => s) (bag, setV (ws.map (·.2)) vi a id)) := by
  refine Meets.settleM Ctx.id ?_
  refine Meets.of_body [0,1,2,3,4,7,8,9,10,11,16,17,18,19,29] Proofs.Tryz.func111 rfl (by kernel_rfl) rfl fun w => ?_
  have hLg : ∀ (j : Nat) (x : WV), ws[j]? = some x → (setV (ws.map (·.2)) vi a id)[j]? = some (if j = vi then (x.2.1, x.2.2.set a id) else x.2) := fun j x hx => setV_get (by rw [List.getElem?_map, hx]; rfl)
  have hLl : (setV (ws.map (·.2)) vi a id).length = ws.length := by unfold setV; rw [List.length_set, List.length_map]
  generalize setV (ws.map (·.2)) vi a id = L at *
  simp only [Proofs.Tryz.f111, stV, idS, shs, zts, sos, sls, zss, eqs, sx, sb1, sb2, sb3, sb4, sb5, sb6, sb7, ↓reduceIte, Nat.reduceAdd, Nat.reduceMul, Nat.reduceDiv, Nat.reduceEqDiff, Nat.reduceLT, Nat.reduceLeDiff, reduceCtorEq, Int.reduceEq, Int.reduceNe, Int.reduceLT, Int.reduceLE, Int.reduceAdd, Int.reduceSub, Int.reduceMul, Int.reduceNeg, Int.reduceToNat, Int.cast_ofNat_Int, Int.natCast_zero, Int.natCast_one, Int.toNat_natCast, Nat.reduceBEq, nzs, hb.one, oneVs hb.sl, hv.row.one, hv.row.len, hv.row.sl, List.length_map]
  refine LoopK.nilBox 72 1 100 2 rfl rfl rfl rfl rfl ?_
  refine LoopK.go (X := Nat × List WV × Mem) (fun z => ([(1, true, .v (.int .i64 vi)), (2, true, .v (.int .i64 a)), (4, true, .ptr 32 0 0 0), (7, true, .ptr 56 0 0 0), (8, true, .ptr 64 0 0 0), (9, true, .ptr 72 0 0 0), (16, true, .v v), (17, true, .v (.int .i64 ws.length)), (18, true, .v (.int .i64 z.1))],
      [(800, .row 2 (z.2.1.map encV)), (72, .box [.v b, .own 800] none), (64, .box [.v (.slice none 0 0), .v (.slice none 0 0)] none), (56, .box [.v (.bool id.1), .v (.int .i64 id.2.1), .v (.int .i64 id.2.2)] none), (32, .box [.v b, .v v] none)], z.2.2))
    (fun z => (z.1 ≤ ws.length ∧ M.le z.2.2) ∧ z.2.1.map (·.2) = L.take z.1 ∧ ∀ w ∈ z.2.1, RowM z.2.2 w.1 3 (w.2.2.map encI3)) (fun z => ws.length - z.1) (0, [], M) ⟨⟨Nat.zero_le _, Mem.le.refl M⟩, rfl, fun w hw => by (cases hw)⟩ (Ent.of ?_) ?_
  · simp only [sx, sb1, sb2, sb3, sb4, sb5, sb6, sb7, ↓reduceIte, Nat.reduceAdd, Nat.reduceMul, Nat.reduceDiv, Nat.reduceEqDiff, Nat.reduceLT, Nat.reduceLeDiff, reduceCtorEq, Int.reduceEq, Int.reduceNe, Int.reduceLT, Int.reduceLE, Int.reduceAdd, Int.reduceSub, Int.reduceMul, Int.reduceNeg, Int.reduceToNat, Int.cast_ofNat_Int, Int.natCast_zero, Int.natCast_one, Int.toNat_natCast, Nat.reduceBEq, List.map_nil, Int.natCast_zero]
  rintro ⟨i, us, N⟩ ⟨⟨n1, nM⟩, n2, n3⟩
  simp only at n1 nM n2 n3
  have hul : us.length = i := by
    have := congrArg List.length n2
    rw [List.length_map, List.length_take] at this
    omega
  by_cases hil : i < ws.length
  rotate_left
  · have d1 : ((i : Int) < (ws.length : Int)) = False := eq_false (by omega)
    rw [List.take_of_length_le (by omega)] at n2
    simp only [shs, zts, sos, sls, zss, eqs, sx, sb1, sb2, sb3, sb4, sb5, sb6, sb7, ↓reduceIte, Nat.reduceAdd, Nat.reduceMul, Nat.reduceDiv, Nat.reduceEqDiff, Nat.reduceLT, Nat.reduceLeDiff, reduceCtorEq, Int.reduceEq, Int.reduceNe, Int.reduceLT, Int.reduceLE, Int.reduceAdd, Int.reduceSub, Int.reduceMul, Int.reduceNeg, Int.reduceToNat, Int.cast_ofNat_Int, Int.natCast_zero, Int.natCast_one, Int.toNat_natCast, Nat.reduceBEq, nzs, d1, hb.one]
    exact ⟨.v b, .own 800, us, rfl, n2, fun k h => (by cases h), ⟨hb.le nM, rfl⟩, n3⟩
  have d1 : ((i : Int) < (ws.length : Int)) = True := eq_true (by omega)
  obtain ⟨x, hx, _⟩ := l_drop_at (l := ws) (i := i) hil
  have hvN := hv.le nM
  obtain ⟨g0, g1, i0⟩ := vol_at hvN hx
  have hxm := List.mem_of_getElem? hx
  have hblk := hvN.blk x hxm
  have hxl := hli x hxm
  have hLx := hLg i x hx
  have hnext : ∀ (u : Value) (N3 : Mem) (l3 : List Id3), N.le N3 → RowM N3 u 3 (l3.map encI3) → (if i = vi then (x.2.1, x.2.2.set a id) else x.2) = (x.2.1, l3) → (us ++ [(u, x.2.1, l3)]).map (·.2) = L.take (i + 1) ∧ ∀ w ∈ us ++ [(u, x.2.1, l3)], RowM N3 w.1 3 (w.2.2.map encI3) := fun u N3 l3 h1 h2 h3 => by
    refine ⟨?_, fun w hw => ?_⟩
    · rw [List.take_add_one, hLx, h3, List.map_append, n2]
      rfl
    · rcases List.mem_append.1 hw with hw | hw
      · exact (n3 w hw).le h1
      · rw [List.mem_singleton.1 hw]; exact h2
  have hrow : ∀ (u : Value) (l3 : List Id3), us.map encV ++ [[.string ⟨x.2.1.toArray⟩, u]] = (us ++ [(u, x.2.1, l3)]).map encV := fun u l3 => by
    rw [List.map_append]; rfl
  simp only [shs, zts, sos, sls, zss, eqs, sx, sb1, sb2, sb3, sb4, sb5, sb6, sb7, ↓reduceIte, Nat.reduceAdd, Nat.reduceMul, Nat.reduceDiv, Nat.reduceEqDiff, Nat.reduceLT, Nat.reduceLeDiff, reduceCtorEq, Int.reduceEq, Int.reduceNe, Int.reduceLT, Int.reduceLE, Int.reduceAdd, Int.reduceSub, Int.reduceMul, Int.reduceNeg, Int.reduceToNat, Int.cast_ofNat_Int, Int.natCast_zero, Int.natCast_one, Int.toNat_natCast, Nat.reduceBEq, nzs, d1, i0, i0.2, g0.1, g0.2, g1.1, g1.2, hblk.one]
  refine CallK.own Ctx.id rfl rfl (cloneI x.1 x.2.2 N hblk (by omega)) rfl fun N2 hN2 => ?_
  by_cases hiv : i = vi
  · have c2 : ((i : Int) = (vi : Int)) = True := eq_true (by omega)
    have hal : a < x.2.2.length := ha x (by rw [← hiv]; exact hx)
    rw [if_pos hiv] at hnext
    have hset : (x.2.2.map encI3).set a [.bool id.1, .int .i64 id.2.1, .int .i64 id.2.2] = (x.2.2.set a id).map encI3 := by rw [List.map_set]; rfl
    simp only [shs, zts, sos, sls, zss, eqs, sx, sb1, sb2, sb3, sb4, sb5, sb6, sb7, ↓reduceIte, Nat.reduceAdd, Nat.reduceMul, Nat.reduceDiv, Nat.reduceEqDiff, Nat.reduceLT, Nat.reduceLeDiff, reduceCtorEq, Int.reduceEq, Int.reduceNe, Int.reduceLT, Int.reduceLE, Int.reduceAdd, Int.reduceSub, Int.reduceMul, Int.reduceNeg, Int.reduceToNat, Int.cast_ofNat_Int, Int.natCast_zero, Int.natCast_one, Int.toNat_natCast, Nat.reduceBEq, nzs, c2, List.length_map, hset]
    refine ⟨⟨by omega, by omega⟩, hal, OpK.pub (k := 200) rfl fun u N3 hN3 hu => OpK.step ?_⟩
    simp only [shs, zts, sos, sls, zss, eqs, sx, sb1, sb2, sb3, sb4, sb5, sb6, sb7, ↓reduceIte, Nat.reduceAdd, Nat.reduceMul, Nat.reduceDiv, Nat.reduceEqDiff, Nat.reduceLT, Nat.reduceLeDiff, reduceCtorEq, Int.reduceEq, Int.reduceNe, Int.reduceLT, Int.reduceLE, Int.reduceAdd, Int.reduceSub, Int.reduceMul, Int.reduceNeg, Int.reduceToNat, Int.cast_ofNat_Int, Int.natCast_zero, Int.natCast_one, Int.toNat_natCast, Nat.reduceBEq, sp1, sp2, sp3, nzs, hu.one, oneVs hu.sl, List.length_map, hul, hrow u (x.2.2.set a id), inK, lo, hi]
    obtain ⟨q1, q2⟩ := hnext u N3 (x.2.2.set a id) (hN2.trans hN3) hu rfl
    refine ⟨⟨by omega, by omega⟩, by omega, (i + 1, us ++ [(u, x.2.1, (x.2.2.set a id))], N3), ⟨⟨⟨by simp only; omega, nM.trans (hN2.trans hN3)⟩, q1, q2⟩, by simp only; omega⟩, Ent.rekeyB 72 1 312 100 2 _ rfl rfl rfl rfl rfl (Ent.of ?_)⟩
    simp only [sx, sb1, sb2, sb3, sb4, sb5, sb6, sb7, ↓reduceIte, Nat.reduceAdd, Nat.reduceMul, Nat.reduceDiv, Nat.reduceEqDiff, Nat.reduceLT, Nat.reduceLeDiff, reduceCtorEq, Int.reduceEq, Int.reduceNe, Int.reduceLT, Int.reduceLE, Int.reduceAdd, Int.reduceSub, Int.reduceMul, Int.reduceNeg, Int.reduceToNat, Int.cast_ofNat_Int, Int.natCast_zero, Int.natCast_one, Int.toNat_natCast, Nat.reduceBEq, Int.natCast_add]
  · have c2 : ((i : Int) = (vi : Int)) = False := eq_false (by omega)
    rw [if_neg hiv] at hnext
    simp only [shs, zts, sos, sls, zss, eqs, sx, sb1, sb2, sb3, sb4, sb5, sb6, sb7, ↓reduceIte, Nat.reduceAdd, Nat.reduceMul, Nat.reduceDiv, Nat.reduceEqDiff, Nat.reduceLT, Nat.reduceLeDiff, reduceCtorEq, Int.reduceEq, Int.reduceNe, Int.reduceLT, Int.reduceLE, Int.reduceAdd, Int.reduceSub, Int.reduceMul, Int.reduceNeg, Int.reduceToNat, Int.cast_ofNat_Int, Int.natCast_zero, Int.natCast_one, Int.toNat_natCast, Nat.reduceBEq, nzs, c2]
    refine OpK.pub (k := 200) rfl fun u N3 hN3 hu => OpK.step ?_
    simp only [shs, zts, sos, sls, zss, eqs, sx, sb1, sb2, sb3, sb4, sb5, sb6, sb7, ↓reduceIte, Nat.reduceAdd, Nat.reduceMul, Nat.reduceDiv, Nat.reduceEqDiff, Nat.reduceLT, Nat.reduceLeDiff, reduceCtorEq, Int.reduceEq, Int.reduceNe, Int.reduceLT, Int.reduceLE, Int.reduceAdd, Int.reduceSub, Int.reduceMul, Int.reduceNeg, Int.reduceToNat, Int.cast_ofNat_Int, Int.natCast_zero, Int.natCast_one, Int.toNat_natCast, Nat.reduceBEq, sp1, sp2, sp3, nzs, hu.one, oneVs hu.sl, List.length_map, hul, hrow u x.2.2, inK, lo, hi]
    obtain ⟨q1, q2⟩ := hnext u N3 x.2.2 (hN2.trans hN3) hu rfl
    refine ⟨⟨by omega, by omega⟩, by omega, (i + 1, us ++ [(u, x.2.1, x.2.2)], N3), ⟨⟨⟨by simp only; omega, nM.trans (hN2.trans hN3)⟩, q1, q2⟩, by simp only; omega⟩, Ent.rekeyB 72 1 312 100 2 _ rfl rfl rfl rfl rfl (Ent.of ?_)⟩
    simp only [sx, sb1, sb2, sb3, sb4, sb5, sb6, sb7, ↓reduceIte, Nat.reduceAdd, Nat.reduceMul, Nat.reduceDiv, Nat.reduceEqDiff, Nat.reduceLT, Nat.reduceLeDiff, reduceCtorEq, Int.reduceEq, Int.reduceNe, Int.reduceLT, Int.reduceLE, Int.reduceAdd, Int.reduceSub, Int.reduceMul, Int.reduceNeg, Int.reduceToNat, Int.cast_ofNat_Int, Int.natCast_zero, Int.natCast_one, Int.toNat_natCast, Nat.reduceBEq, Int.natCast_add]
theorem rtrim (b v : Value) (bag : List It) (ws : List WV) (vi a : Nat) (M : Mem) (hb : RowM M b 4 (bag.map Bg.encT)) (hv : VolsM M v ws) (hB : bagE bag = 0) (hl : ws.length ≤ 1000) (hli : ∀ w ∈ ws, w.2.2.length ≤ 1000) {x : WV} (hx : ws[vi]? = some x) (ha : a < x.2.2.length) :
    Meets Proofs.Tryz.prog 55 [stV b v, .v (.int .i64 vi), .v (.int .i64 a)] M (StM (fun s => s) (trimS bag (ws.map (·.2)) vi a)) := by
  refine Meets.of_body [0,1,2,3,6,7,8,24] Proofs.Tryz.func55 rfl (by kernel_rfl) rfl fun w => ?_
  have hS := rset b v bag ws vi a hole M hb hv hl hli (fun y hy => by rw [hx] at hy; cases hy; exact ha)
  obtain ⟨_, g1, i0⟩ := vol_at hv hx
  have hblk := hv.blk x (List.mem_of_getElem? hx)
  obtain ⟨id, hid, _⟩ := l_drop_at (l := x.2.2) (i := a) ha
  obtain ⟨y0, y1, y2, yi⟩ := id_at hblk hid
  have k4 : (ws.map (·.2))[vi]? = some x.2 := by rw [List.getElem?_map, hx]; rfl
  have hidAt : idAt (ws.map (·.2)) vi a = id := by unfold idAt; rw [volAt_at k4, hid]; rfl
  have hbe : (trimS bag (ws.map (·.2)) vi a).1 = lessId bag id := by simp only [trimS, hidAt]
  simp only [stV, idS, hole] at hS
  obtain ⟨q0, q1, q2⟩ := id
  simp only at y0 y1 y2
  simp only [Proofs.Tryz.f55, stV, shs, zts, sos, sls, zss, eqs, sx, sb1, sb2, sb3, sb4, sb5, sb6, sb7, ↓reduceIte, Nat.reduceAdd, Nat.reduceMul, Nat.reduceDiv, Nat.reduceEqDiff, Nat.reduceLT, Nat.reduceLeDiff, reduceCtorEq, Int.reduceEq, Int.reduceNe, Int.reduceLT, Int.reduceLE, Int.reduceAdd, Int.reduceSub, Int.reduceMul, Int.reduceNeg, Int.reduceToNat, Int.cast_ofNat_Int, Int.natCast_zero, Int.natCast_one, Int.toNat_natCast, Nat.reduceBEq, nzs, hb.one, hv.row.one, i0, i0.2, g1.1, g1.2, yi, yi.2, y0.1, y0.2, y1.1, y1.2, y2.1, y2.2]
  refine CallK.stM (T := fun s => s) (fun _ _ => rfl) rfl rfl hS fun b2 v2 ws2 M2 hM2 hw2 hb2 hv2 => ?_
  cases q0 with
  | false =>
    have e1 : lessId bag (false, q1, q2) = bag := if_neg (fun h => by cases h)
    simp only [shs, zts, sos, sls, zss, eqs, sx, sb1, sb2, sb3, sb4, sb5, sb6, sb7, ↓reduceIte, Nat.reduceAdd, Nat.reduceMul, Nat.reduceDiv, Nat.reduceEqDiff, Nat.reduceLT, Nat.reduceLeDiff, reduceCtorEq, Int.reduceEq, Int.reduceNe, Int.reduceLT, Int.reduceLE, Int.reduceAdd, Int.reduceSub, Int.reduceMul, Int.reduceNeg, Int.reduceToNat, Int.cast_ofNat_Int, Int.natCast_zero, Int.natCast_one, Int.toNat_natCast, Nat.reduceBEq, nzs, stV, hb2.one, hv2.row.one]
    exact ⟨b2, v2, ws2, rfl, hw2, by rw [hbe, e1]; exact hb2, hv2⟩
  | true =>
    have e1 : lessId bag (true, q1, q2) = (lessG bag (true, q1, q2)).1 := if_pos rfl
    have hR := Meets.rows (rless b2 bag (true, q1, q2) M2 hb2 hB)
    simp only [idS] at hR
    simp only [shs, zts, sos, sls, zss, eqs, sx, sb1, sb2, sb3, sb4, sb5, sb6, sb7, ↓reduceIte, Nat.reduceAdd, Nat.reduceMul, Nat.reduceDiv, Nat.reduceEqDiff, Nat.reduceLT, Nat.reduceLeDiff, reduceCtorEq, Int.reduceEq, Int.reduceNe, Int.reduceLT, Int.reduceLE, Int.reduceAdd, Int.reduceSub, Int.reduceMul, Int.reduceNeg, Int.reduceToNat, Int.cast_ofNat_Int, Int.natCast_zero, Int.natCast_one, Int.toNat_natCast, Nat.reduceBEq, nzs, stV, hb2.one, hv2.row.one]
    refine CallK.row (T := fun s => .tup [s, .v (.int .i64 (lessG bag (true, q1, q2)).2)]) (Ctx.fst _) rfl rfl hR fun b3 M3 hM3 hb3 => ?_
    simp only [shs, zts, sos, sls, zss, eqs, sx, sb1, sb2, sb3, sb4, sb5, sb6, sb7, ↓reduceIte, Nat.reduceAdd, Nat.reduceMul, Nat.reduceDiv, Nat.reduceEqDiff, Nat.reduceLT, Nat.reduceLeDiff, reduceCtorEq, Int.reduceEq, Int.reduceNe, Int.reduceLT, Int.reduceLE, Int.reduceAdd, Int.reduceSub, Int.reduceMul, Int.reduceNeg, Int.reduceToNat, Int.cast_ofNat_Int, Int.natCast_zero, Int.natCast_one, Int.toNat_natCast, Nat.reduceBEq, nzs, hb3.one, hv2.row.one, oneVs hb3.sl]
    exact ⟨b3, v2, ws2, rfl, hw2, by rw [hbe, e1]; exact hb3, hv2.le hM3⟩
theorem rwrite (b v : Value) (bag : List It) (ws : List WV) (vi a : Nat) (s : List UInt8) (M : Mem) (hb : RowM M b 4 (bag.map Bg.encT)) (hv : VolsM M v ws) (hB : bagE bag = 0) (hl : ws.length ≤ 1000) (hli : ∀ w ∈ ws, w.2.2.length ≤ 1000) {x : WV} (hx : ws[vi]? = some x) (ha : a < x.2.2.length) :
    Meets Proofs.Tryz.prog 60 [stV b v, .v (.int .i64 vi), .v (.int .i64 a), .v (.string ⟨s.toArray⟩)] M (StM (fun t => .tup [t, .v (.int .i64 (writeS bag (ws.map (·.2)) vi a s).2)]) (writeS bag (ws.map (·.2)) vi a s).1) := by
  refine Meets.of_body [0,1,2,3,4,8,9,10,11,12,13,27] Proofs.Tryz.func60 rfl (by kernel_rfl) rfl fun w => ?_
  have hT := rtrim b v bag ws vi a M hb hv hB hl hli hx ha
  have hB2 : bagE (trimS bag (ws.map (·.2)) vi a).1 = 0 := bagE_lessId hB _
  generalize hc : writeS bag (ws.map (·.2)) vi a s = c
  unfold writeS at hc
  change (if (putG (trimS bag (ws.map (·.2)) vi a).1 s).2.2 ≠ 0 then (zSt, (putG (trimS bag (ws.map (·.2)) vi a).1 s).2.2) else (((putG (trimS bag (ws.map (·.2)) vi a).1 s).1, setV (ws.map (·.2)) vi a (putG (trimS bag (ws.map (·.2)) vi a).1 s).2.1), 0)) = c at hc
  have k4 : (ws.map (·.2))[vi]? = some x.2 := by rw [List.getElem?_map, hx]; rfl
  have hil := (List.getElem?_eq_some_iff.1 k4).1
  simp only [stV] at hT
  simp only [Proofs.Tryz.f60, stV, shs, zts, sos, sls, zss, eqs, sx, sb1, sb2, sb3, sb4, sb5, sb6, sb7, ↓reduceIte, Nat.reduceAdd, Nat.reduceMul, Nat.reduceDiv, Nat.reduceEqDiff, Nat.reduceLT, Nat.reduceLeDiff, reduceCtorEq, Int.reduceEq, Int.reduceNe, Int.reduceLT, Int.reduceLE, Int.reduceAdd, Int.reduceSub, Int.reduceMul, Int.reduceNeg, Int.reduceToNat, Int.cast_ofNat_Int, Int.natCast_zero, Int.natCast_one, Int.toNat_natCast, Nat.reduceBEq, nzs, hb.one, hv.row.one]
  refine CallK.stM (T := fun s => s) (fun _ _ => rfl) rfl rfl hT fun b2 v2 ws2 M2 hM2 hw2 hb2 hv2 => ?_
  have hPu := Meets.rows (rput b2 (trimS bag (ws.map (·.2)) vi a).1 s M2 hb2 hB2)
  have hw2' : ws2.map (·.2) = setV (ws.map (·.2)) vi a hole := hw2
  have hl2 : ws2.length = ws.length := by
    have := congrArg List.length hw2'
    unfold setV at this
    rwa [List.length_map, List.length_set, List.length_map] at this
  have hset2 : setV (ws.map (·.2)) vi a hole = (ws.map (·.2)).set vi (x.2.1, x.2.2.set a hole) := setV_at k4 a hole
  have hli2 : ∀ w ∈ ws2, w.2.2.length ≤ 1000 := fun w hw => by
    have h1 : w.2 ∈ ws2.map (·.2) := List.mem_map_of_mem hw
    rw [hw2', hset2] at h1
    rcases List.mem_or_eq_of_mem_set h1 with h1 | h1
    · obtain ⟨y, hy, e⟩ := List.mem_map.1 h1
      rw [← e]; exact hli y hy
    · rw [h1]
      simp only [List.length_set]
      exact hli x (List.mem_of_getElem? hx)
  have ha2 : ∀ y, ws2[vi]? = some y → a < y.2.2.length := fun y hy => by
    have h1 : (ws2.map (·.2))[vi]? = some y.2 := by rw [List.getElem?_map, hy]; rfl
    rw [hw2', hset2, List.getElem?_set_self hil] at h1
    rw [← Option.some.inj h1]
    simp only [List.length_set]
    exact ha
  simp only [shs, zts, sos, sls, zss, eqs, sx, sb1, sb2, sb3, sb4, sb5, sb6, sb7, ↓reduceIte, Nat.reduceAdd, Nat.reduceMul, Nat.reduceDiv, Nat.reduceEqDiff, Nat.reduceLT, Nat.reduceLeDiff, reduceCtorEq, Int.reduceEq, Int.reduceNe, Int.reduceLT, Int.reduceLE, Int.reduceAdd, Int.reduceSub, Int.reduceMul, Int.reduceNeg, Int.reduceToNat, Int.cast_ofNat_Int, Int.natCast_zero, Int.natCast_one, Int.toNat_natCast, Nat.reduceBEq, nzs, stV, hb2.one, hv2.row.one]
  refine CallK.row (putT_ctx _ _) rfl rfl hPu fun b3 M3 hM3 hb3 => ?_
  generalize putG (trimS bag (ws.map (·.2)) vi a).1 s = pg at *
  obtain ⟨pl, pid, pe⟩ := pg
  simp only at hc hb3
  by_cases h5 : pe = 0
  rotate_left
  · have c5 := eq_false h5
    rw [if_pos h5] at hc
    subst hc
    simp only [shs, zts, sos, sls, zss, eqs, sx, sb1, sb2, sb3, sb4, sb5, sb6, sb7, ↓reduceIte, Nat.reduceAdd, Nat.reduceMul, Nat.reduceDiv, Nat.reduceEqDiff, Nat.reduceLT, Nat.reduceLeDiff, reduceCtorEq, Int.reduceEq, Int.reduceNe, Int.reduceLT, Int.reduceLE, Int.reduceAdd, Int.reduceSub, Int.reduceMul, Int.reduceNeg, Int.reduceToNat, Int.cast_ofNat_Int, Int.natCast_zero, Int.natCast_one, Int.toNat_natCast, Nat.reduceBEq, nzs, putT, idS, c5, hb2.one, hv2.row.one, hb3.one]
    exact ⟨_, _, [], rfl, rfl, RowM.nil _ _, zero_volsM _ |>.2⟩
  rw [if_neg (fun h => h h5)] at hc
  subst hc
  have hS := rset b2 v2 (trimS bag (ws.map (·.2)) vi a).1 ws2 vi a pid M3 (hb2.le hM3) (hv2.le hM3) (by omega) hli2 ha2
  rw [hw2', setV_setV hil] at hS
  simp only [stV, idS] at hS
  simp only [shs, zts, sos, sls, zss, eqs, sx, sb1, sb2, sb3, sb4, sb5, sb6, sb7, ↓reduceIte, Nat.reduceAdd, Nat.reduceMul, Nat.reduceDiv, Nat.reduceEqDiff, Nat.reduceLT, Nat.reduceLeDiff, reduceCtorEq, Int.reduceEq, Int.reduceNe, Int.reduceLT, Int.reduceLE, Int.reduceAdd, Int.reduceSub, Int.reduceMul, Int.reduceNeg, Int.reduceToNat, Int.cast_ofNat_Int, Int.natCast_zero, Int.natCast_one, Int.toNat_natCast, Nat.reduceBEq, nzs, putT, idS, h5, hb2.one, hv2.row.one, hb3.one]
  refine CallK.stM (T := fun s => s) (fun _ _ => rfl) rfl rfl hS fun b4 v4 ws4 M4 hM4 hw4 hb4 hv4 => ?_
  simp only [shs, zts, sos, sls, zss, eqs, sx, sb1, sb2, sb3, sb4, sb5, sb6, sb7, ↓reduceIte, Nat.reduceAdd, Nat.reduceMul, Nat.reduceDiv, Nat.reduceEqDiff, Nat.reduceLT, Nat.reduceLeDiff, reduceCtorEq, Int.reduceEq, Int.reduceNe, Int.reduceLT, Int.reduceLE, Int.reduceAdd, Int.reduceSub, Int.reduceMul, Int.reduceNeg, Int.reduceToNat, Int.cast_ofNat_Int, Int.natCast_zero, Int.natCast_one, Int.toNat_natCast, Nat.reduceBEq, nzs, stV, hb4.one, hv4.row.one, hb3.one, oneVs hb3.sl]
  exact ⟨b3, v4, ws4, rfl, hw4, hb3.le hM4, hv4⟩
end Go.X.Vo

namespace Go.X.Tv
open Go Go.X Go.X.Pol Go.X.Pl Go.X.Rp Go.X.Pd Go.X.Md Go.X.Mv Go.X.Pt

theorem prf_le (m : Nat) (h0 : m ≠ 0) (hm : m ≤ 2147483647) : ∀ (s : List UInt8) (p : Nat), p ≤ 1073741824 → prf m s p ≤ 1073741824
  | [], p, h => h
  | b :: s, p, h => by
    simp only [prf, List.foldl_cons]
    exact prf_le m h0 hm s _ (red_le h0 hm)
/-! ### verifying -/
def G : Nat := 1073741907
def good (s : Int) : Prop := 0 ≤ s ∧ s ≤ 2147483647
instance (s : Int) : Decidable (good s) := inferInstanceAs (Decidable (_ ∧ _))
/-! ### the document's sides -/
end Go.X.Tv

