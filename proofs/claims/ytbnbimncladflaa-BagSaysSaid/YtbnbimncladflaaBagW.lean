/- Bags: what woolref.Put returns of a right bag. Conditions: none. -/
import Derived.Test.YtbnbimncladflaaSrB
import Derived.Test.YtbnbimncladflaaSlI
set_option linter.unusedSimpArgs false
set_option linter.unusedVariables false
set_option maxHeartbeats 4000000
set_option maxRecDepth 20000
namespace Go.X.Bp
open Go Go.X Go.RowKit Go.X.Bg Go.X.Sb

/-- the numbers of the first items that have this print -/
def usedN (l : List It) (s : Int) (n : Nat) : List Int := ((l.take n).filter (fun x => decide (x.1 = s))).map (·.2.1)
theorem usedN_succ {l : List It} {n : Nat} {x : It} (s : Int) (h : l[n]? = some x) : usedN l s (n + 1) = if x.1 = s then usedN l s n ++ [x.2.1] else usedN l s n := by
  unfold usedN
  rw [List.take_add_one, h, Option.toList_some, List.filter_append, List.map_append]
  split
  · rename_i h1; simp [h1]
  · rename_i h1; simp [h1]
theorem usedN_len (l : List It) (s : Int) (n : Nat) : (usedN l s n).length ≤ n := by
  unfold usedN
  rw [List.length_map]
  have h1 := List.length_filter_le (fun x : It => decide (x.1 = s)) (l.take n)
  have h2 := List.length_take_le n l
  omega
theorem usedN_has (l : List It) (s : Int) (n : Nat) : ((n : Int) ∈ usedN l s l.length) = (has l s n = true) := by
  unfold usedN
  rw [List.take_length]
  apply propext
  rw [has_iff]
  simp only [List.mem_map, List.mem_filter, decide_eq_true_eq]
  exact ⟨fun ⟨x, ⟨h1, h2⟩, h3⟩ => ⟨x, h1, h2, h3⟩, fun ⟨x, h1, h2, h3⟩ => ⟨x, ⟨h1, h2⟩, h3⟩⟩
theorem rput (y : Value) (l : List It) (s : List UInt8) (M : Mem) (hy : RowM M y 4 (l.map Bg.encT)) (hb : bagE l = 0) :
    Meets Proofs.Try.prog 29 [.v y, .v (.string ⟨s.toArray⟩)] M (OwnR (putT (putG l s).2.1 (putG l s).2.2) 4 ((putG l s).1.map Bg.encT)) := by
  have hes : ∀ q : List It, ∀ e ∈ q.map Bg.encT, e.length = 4 ∧ ∀ c ∈ e, c.oneCell' = true := fun q e he => by
    obtain ⟨x, hx, rfl⟩ := List.mem_map.1 he
    exact ⟨rfl, oneCell_it x⟩
  refine Meets.closeR (putT_ctx _ _) (hes _) ?_
  refine Meets.of_body [0,1,4,5,6,7,8,9,10,11,14,18,19,20,21,28,31,50,59,68] Proofs.Try.func29 rfl (by kernel_rfl) rfl fun w => ?_
  generalize hc : putG l s = c
  unfold putG at hc
  have hyl := hy.len_le
  rw [List.length_map] at hyl
  have hl64 := bag_len hb
  simp only [Proofs.Try.f29, shs, zts, sos, sls, zss, eqs, sx, sb1, sb2, sb3, sb4, sb5, sb6, sb7, ↓reduceIte, Nat.reduceAdd, Nat.reduceMul, Nat.reduceDiv, Nat.reduceEqDiff, Nat.reduceLT, Nat.reduceLeDiff, reduceCtorEq, Int.reduceEq, Int.reduceNe, Int.reduceLT, Int.reduceLE, Int.reduceAdd, Int.reduceSub, Int.reduceMul, Int.reduceNeg, Int.reduceToNat, Int.cast_ofNat_Int, Int.natCast_zero, Int.natCast_one, Int.toNat_natCast, Nat.reduceBEq, nzs]
  by_cases h2 : 64 < s.length
  · have c2 : ((64 : Int) < (s.length : Int)) = True := eq_true (by omega)
    rw [if_pos h2] at hc
    subst hc
    simp only [shs, zts, sos, sls, zss, eqs, sx, sb1, sb2, sb3, sb4, sb5, sb6, sb7, ↓reduceIte, Nat.reduceAdd, Nat.reduceMul, Nat.reduceDiv, Nat.reduceEqDiff, Nat.reduceLT, Nat.reduceLeDiff, reduceCtorEq, Int.reduceEq, Int.reduceNe, Int.reduceLT, Int.reduceLE, Int.reduceAdd, Int.reduceSub, Int.reduceMul, Int.reduceNeg, Int.reduceToNat, Int.cast_ofNat_Int, Int.natCast_zero, Int.natCast_one, Int.toNat_natCast, Nat.reduceBEq, nzs, c2, putT, idS, z3]
    exact fun h => absurd h (by omega)
  have c2 : ((64 : Int) < (s.length : Int)) = False := eq_false (by omega)
  have c2b : ((s.length : Int) ≤ 64) = True := eq_true (by omega)
  have hs : s.length ≤ maxLen := Nat.le_trans (Nat.le_of_not_lt h2) (by decide)
  rw [if_neg h2] at hc
  simp only [shs, zts, sos, sls, zss, eqs, sx, sb1, sb2, sb3, sb4, sb5, sb6, sb7, ↓reduceIte, Nat.reduceAdd, Nat.reduceMul, Nat.reduceDiv, Nat.reduceEqDiff, Nat.reduceLT, Nat.reduceLeDiff, reduceCtorEq, Int.reduceEq, Int.reduceNe, Int.reduceLT, Int.reduceLE, Int.reduceAdd, Int.reduceSub, Int.reduceMul, Int.reduceNeg, Int.reduceToNat, Int.cast_ofNat_Int, Int.natCast_zero, Int.natCast_one, Int.toNat_natCast, Nat.reduceBEq, nzs, c2, c2b]
  refine CallK.own Ctx.id rfl rfl (cloneB y l M hy (by omega)) rfl fun M1 hM1 => ?_
  simp only [shs, zts, sos, sls, zss, eqs, sx, sb1, sb2, sb3, sb4, sb5, sb6, sb7, ↓reduceIte, Nat.reduceAdd, Nat.reduceMul, Nat.reduceDiv, Nat.reduceEqDiff, Nat.reduceLT, Nat.reduceLeDiff, reduceCtorEq, Int.reduceEq, Int.reduceNe, Int.reduceLT, Int.reduceLE, Int.reduceAdd, Int.reduceSub, Int.reduceMul, Int.reduceNeg, Int.reduceToNat, Int.cast_ofNat_Int, Int.natCast_zero, Int.natCast_one, Int.toNat_natCast, Nat.reduceBEq, nzs, hdel, sigDrop, sigDropA]
  refine LoopK.nilRow 8 55 1 rfl rfl rfl ?_
  refine LoopK.go (X := Nat) (fun n => ([(0, true, .v y), (1, true, .v (.string ⟨s.toArray⟩)), (4, true, .v (.slice none 0 0)), (5, true, .ptr 40 0 0 0), (6, true, .v (.int .i64 0)), (7, true, .ptr 56 0 0 0), (8, true, .own 440), (18, true, .own 136), (19, true, .v (.int .i64 l.length)), (20, true, .v (.int .i64 (n : Int)))], [(440, .row 1 ((usedN l (sumT s) n).map encI)), (56, .box [.own 136] none), (136, .row 4 (l.map Bg.encT)), (40, .box [.v (.bool false), .v (.int .i64 0), .v (.int .i64 0)] none)], M1))
    (fun n => n ≤ l.length ∧ txtIx l s = fidx (fun x : It => decide (x.2.2.1 = s)) (l.drop n) n) (fun n => l.length - n) 0 ⟨Nat.zero_le _, rfl⟩ (Ent.of ?_) ?_
  · simp only [sx, sb1, sb2, sb3, sb4, sb5, sb6, sb7, ↓reduceIte, Nat.reduceAdd, Nat.reduceMul, Nat.reduceDiv, Nat.reduceEqDiff, Nat.reduceLT, Nat.reduceLeDiff, reduceCtorEq, Int.reduceEq, Int.reduceNe, Int.reduceLT, Int.reduceLE, Int.reduceAdd, Int.reduceSub, Int.reduceMul, Int.reduceNeg, Int.reduceToNat, Int.cast_ofNat_Int, Int.natCast_zero, Int.natCast_one, Int.toNat_natCast, Nat.reduceBEq, List.length_map, usedN, List.take_zero, List.filter_nil, List.map_nil, Int.natCast_zero]
  rintro n ⟨hn, hti⟩
  simp only [shs, zts, sos, sls, zss, eqs, sx, sb1, sb2, sb3, sb4, sb5, sb6, sb7, ↓reduceIte, Nat.reduceAdd, Nat.reduceMul, Nat.reduceDiv, Nat.reduceEqDiff, Nat.reduceLT, Nat.reduceLeDiff, reduceCtorEq, Int.reduceEq, Int.reduceNe, Int.reduceLT, Int.reduceLE, Int.reduceAdd, Int.reduceSub, Int.reduceMul, Int.reduceNeg, Int.reduceToNat, Int.cast_ofNat_Int, Int.natCast_zero, Int.natCast_one, Int.toNat_natCast, Nat.reduceBEq, nzs]
  refine ⟨fun h3 => ?_, fun h3 => ?_⟩
  · have hn' : n < l.length := by omega
    obtain ⟨x, hx, hd⟩ := Rp.drop_at (l := l) (i := n) hn'
    have hg := getD_it hx
    rw [hd] at hti
    simp only [fidx] at hti
    simp only [shs, zts, sos, sls, zss, eqs, sx, sb1, sb2, sb3, sb4, sb5, sb6, sb7, ↓reduceIte, Nat.reduceAdd, Nat.reduceMul, Nat.reduceDiv, Nat.reduceEqDiff, Nat.reduceLT, Nat.reduceLeDiff, reduceCtorEq, Int.reduceEq, Int.reduceNe, Int.reduceLT, Int.reduceLE, Int.reduceAdd, Int.reduceSub, Int.reduceMul, Int.reduceNeg, Int.reduceToNat, Int.cast_ofNat_Int, Int.natCast_zero, Int.natCast_one, Int.toNat_natCast, Nat.reduceBEq, nzs, hg, List.getD_cons_zero, List.getD_cons_succ, List.length_map]
    have hrf := (oneE_ok (bag_ok hb x (List.mem_of_getElem? hx))).2.2
    by_cases h4 : x.2.2.1 = s
    · rw [if_pos (decide_eq_true h4)] at hti
      rw [hti, atI_at hx, Int.toNat_natCast, if_pos (by omega)] at hc
      have c4 := eq_true h4
      by_cases h5 : x.2.2.2 = 1000000
      · rw [if_pos h5] at hc
        subst hc
        have c5 : ((1000000 : Int) ≤ x.2.2.2) = True := eq_true (by omega)
        have c5b : (x.2.2.2 < 1000000) = False := eq_false (by omega)
        simp only [shs, zts, sos, sls, zss, eqs, sx, sb1, sb2, sb3, sb4, sb5, sb6, sb7, ↓reduceIte, Nat.reduceAdd, Nat.reduceMul, Nat.reduceDiv, Nat.reduceEqDiff, Nat.reduceLT, Nat.reduceLeDiff, reduceCtorEq, Int.reduceEq, Int.reduceNe, Int.reduceLT, Int.reduceLE, Int.reduceAdd, Int.reduceSub, Int.reduceMul, Int.reduceNeg, Int.reduceToNat, Int.cast_ofNat_Int, Int.natCast_zero, Int.natCast_one, Int.toNat_natCast, Nat.reduceBEq, nzs, c4, c5, c5b, putT, idS, z3]
        exact ⟨⟨by omega, by omega⟩, by omega⟩
      · rw [if_neg h5] at hc
        subst hc
        have c5 : ((1000000 : Int) ≤ x.2.2.2) = False := eq_false (by omega)
        have c5b : (x.2.2.2 < 1000000) = True := eq_true (by omega)
        have hset := setR_map hx (x.2.2.2 + 1)
        simp only [shs, zts, sos, sls, zss, eqs, sx, sb1, sb2, sb3, sb4, sb5, sb6, sb7, ↓reduceIte, Nat.reduceAdd, Nat.reduceMul, Nat.reduceDiv, Nat.reduceEqDiff, Nat.reduceLT, Nat.reduceLeDiff, reduceCtorEq, Int.reduceEq, Int.reduceNe, Int.reduceLT, Int.reduceLE, Int.reduceAdd, Int.reduceSub, Int.reduceMul, Int.reduceNeg, Int.reduceToNat, Int.cast_ofNat_Int, Int.natCast_zero, Int.natCast_one, Int.toNat_natCast, Nat.reduceBEq, nzs, hg, List.getD_cons_zero, List.getD_cons_succ, c4, c5, c5b, List.length_map, hset]
        refine ⟨⟨by omega, by omega⟩, by omega, by simp only [inK, lo, hi]; omega, ⟨by omega, by omega⟩, by omega, DrawK.tail 7 (by kernel_rfl) (by kernel_rfl) ?_⟩
        simp only [shs, zts, sos, sls, zss, eqs, sx, sb1, sb2, sb3, sb4, sb5, sb6, sb7, ↓reduceIte, Nat.reduceAdd, Nat.reduceMul, Nat.reduceDiv, Nat.reduceEqDiff, Nat.reduceLT, Nat.reduceLeDiff, reduceCtorEq, Int.reduceEq, Int.reduceNe, Int.reduceLT, Int.reduceLE, Int.reduceAdd, Int.reduceSub, Int.reduceMul, Int.reduceNeg, Int.reduceToNat, Int.cast_ofNat_Int, Int.natCast_zero, Int.natCast_one, Int.toNat_natCast, Nat.reduceBEq, nzs, putT, idS]
        exact .inr (.inl ⟨136, rfl, rfl⟩)
    · have c4 := eq_false h4
      rw [if_neg (by simpa using h4)] at hti
      simp only [shs, zts, sos, sls, zss, eqs, sx, sb1, sb2, sb3, sb4, sb5, sb6, sb7, ↓reduceIte, Nat.reduceAdd, Nat.reduceMul, Nat.reduceDiv, Nat.reduceEqDiff, Nat.reduceLT, Nat.reduceLeDiff, reduceCtorEq, Int.reduceEq, Int.reduceNe, Int.reduceLT, Int.reduceLE, Int.reduceAdd, Int.reduceSub, Int.reduceMul, Int.reduceNeg, Int.reduceToNat, Int.cast_ofNat_Int, Int.natCast_zero, Int.natCast_one, Int.toNat_natCast, Nat.reduceBEq, nzs, c4]
      refine ⟨⟨by omega, by omega⟩, by omega, DrawK.quiet (by kernel_rfl) (by kernel_rfl) ?_⟩
      simp only [shs, zts, sos, sls, zss, eqs, sx, sb1, sb2, sb3, sb4, sb5, sb6, sb7, ↓reduceIte, Nat.reduceAdd, Nat.reduceMul, Nat.reduceDiv, Nat.reduceEqDiff, Nat.reduceLT, Nat.reduceLeDiff, reduceCtorEq, Int.reduceEq, Int.reduceNe, Int.reduceLT, Int.reduceLE, Int.reduceAdd, Int.reduceSub, Int.reduceMul, Int.reduceNeg, Int.reduceToNat, Int.cast_ofNat_Int, Int.natCast_zero, Int.natCast_one, Int.toNat_natCast, Nat.reduceBEq, nzs]
      refine ⟨_, ⟨⟨rfl, rfl⟩, rprintS s M1 hs⟩, ?_⟩
      simp only [shs, zts, sos, sls, zss, eqs, sx, sb1, sb2, sb3, sb4, sb5, sb6, sb7, ↓reduceIte, Nat.reduceAdd, Nat.reduceMul, Nat.reduceDiv, Nat.reduceEqDiff, Nat.reduceLT, Nat.reduceLeDiff, reduceCtorEq, Int.reduceEq, Int.reduceNe, Int.reduceLT, Int.reduceLE, Int.reduceAdd, Int.reduceSub, Int.reduceMul, Int.reduceNeg, Int.reduceToNat, Int.cast_ofNat_Int, Int.natCast_zero, Int.natCast_one, Int.toNat_natCast, Nat.reduceBEq, nzs]
      have hul := usedN_len l (sumT s) n
      have hus := usedN_succ (sumT s) hx
      refine ⟨fun h7 => ⟨⟨by rw [List.length_map]; omega, by rw [List.length_map]; omega⟩, by simp only [inK, lo, hi]; omega, n + 1, ⟨⟨by omega, hti⟩, by omega⟩, Ent.of ?_⟩, fun h7 => ⟨by simp only [inK, lo, hi]; omega, n + 1, ⟨⟨by omega, hti⟩, by omega⟩, Ent.of ?_⟩⟩
      · rw [if_pos h7] at hus
        rw [hus, List.map_append, show ([x.2.1].map encI) = [[Value.int IntKind.i64 x.2.1]] from rfl]
        simp only [sx, sb1, sb2, sb3, sb4, sb5, sb6, sb7, ↓reduceIte, Nat.reduceAdd, Nat.reduceMul, Nat.reduceDiv, Nat.reduceEqDiff, Nat.reduceLT, Nat.reduceLeDiff, reduceCtorEq, Int.reduceEq, Int.reduceNe, Int.reduceLT, Int.reduceLE, Int.reduceAdd, Int.reduceSub, Int.reduceMul, Int.reduceNeg, Int.reduceToNat, Int.cast_ofNat_Int, Int.natCast_zero, Int.natCast_one, Int.toNat_natCast, Nat.reduceBEq, Int.natCast_add]
      · rw [if_neg h7] at hus
        rw [hus]
        simp only [sx, sb1, sb2, sb3, sb4, sb5, sb6, sb7, ↓reduceIte, Nat.reduceAdd, Nat.reduceMul, Nat.reduceDiv, Nat.reduceEqDiff, Nat.reduceLT, Nat.reduceLeDiff, reduceCtorEq, Int.reduceEq, Int.reduceNe, Int.reduceLT, Int.reduceLE, Int.reduceAdd, Int.reduceSub, Int.reduceMul, Int.reduceNeg, Int.reduceToNat, Int.cast_ofNat_Int, Int.natCast_zero, Int.natCast_one, Int.toNat_natCast, Nat.reduceBEq, Int.natCast_add]
  · have hd : l.drop n = [] := List.drop_eq_nil_of_le (by omega)
    rw [hd] at hti
    simp only [fidx] at hti
    rw [hti, if_neg (by decide)] at hc
    have hnl : n = l.length := by omega
    subst hnl
    by_cases h6 : l.length = 64
    · have c6 : ((63 : Int) < (l.length : Int)) = True := eq_true (by omega)
      have c6b : ((l.length : Int) ≤ 63) = False := eq_false (by omega)
      rw [if_pos h6] at hc
      subst hc
      simp only [shs, zts, sos, sls, zss, eqs, sx, sb1, sb2, sb3, sb4, sb5, sb6, sb7, ↓reduceIte, Nat.reduceAdd, Nat.reduceMul, Nat.reduceDiv, Nat.reduceEqDiff, Nat.reduceLT, Nat.reduceLeDiff, reduceCtorEq, Int.reduceEq, Int.reduceNe, Int.reduceLT, Int.reduceLE, Int.reduceAdd, Int.reduceSub, Int.reduceMul, Int.reduceNeg, Int.reduceToNat, Int.cast_ofNat_Int, Int.natCast_zero, Int.natCast_one, Int.toNat_natCast, Nat.reduceBEq, nzs, hy.len, hy.sl, List.length_map, c6, c6b, putT, idS, z3]
      skip
    have c6 : ((63 : Int) < (l.length : Int)) = False := eq_false (by omega)
    have c6b : ((l.length : Int) ≤ 63) = True := eq_true (by omega)
    rw [if_neg h6] at hc
    subst hc
    simp only [shs, zts, sos, sls, zss, eqs, sx, sb1, sb2, sb3, sb4, sb5, sb6, sb7, ↓reduceIte, Nat.reduceAdd, Nat.reduceMul, Nat.reduceDiv, Nat.reduceEqDiff, Nat.reduceLT, Nat.reduceLeDiff, reduceCtorEq, Int.reduceEq, Int.reduceNe, Int.reduceLT, Int.reduceLE, Int.reduceAdd, Int.reduceSub, Int.reduceMul, Int.reduceNeg, Int.reduceToNat, Int.cast_ofNat_Int, Int.natCast_zero, Int.natCast_one, Int.toNat_natCast, Nat.reduceBEq, nzs, hy.len, hy.sl, List.length_map, c6, c6b]
    refine CallK.pure ⟨rfl, rfl⟩ rfl (rprintS s M1 hs) ?_
    simp only [shs, zts, sos, sls, zss, eqs, sx, sb1, sb2, sb3, sb4, sb5, sb6, sb7, ↓reduceIte, Nat.reduceAdd, Nat.reduceMul, Nat.reduceDiv, Nat.reduceEqDiff, Nat.reduceLT, Nat.reduceLeDiff, reduceCtorEq, Int.reduceEq, Int.reduceNe, Int.reduceLT, Int.reduceLE, Int.reduceAdd, Int.reduceSub, Int.reduceMul, Int.reduceNeg, Int.reduceToNat, Int.cast_ofNat_Int, Int.natCast_zero, Int.natCast_one, Int.toNat_natCast, Nat.reduceBEq, nzs]
    refine LoopK.go (X := Nat) (fun n => ([(0, true, .v y), (1, true, .v (.string ⟨s.toArray⟩)), (4, true, .v (.slice none 0 0)), (5, true, .ptr 40 0 0 0), (6, true, .v (.int .i64 0)), (7, true, .ptr 56 0 0 0), (8, true, .own 440), (11, true, .ptr 88 0 0 0)], [(88, .box [.v (.int .i64 (sumT s)), .v (.int .i64 (n : Int)), .v (.string ⟨s.toArray⟩), .v (.int .i64 1)] none), (440, .row 1 ((usedN l (sumT s) l.length).map encI)), (56, .box [.own 136] none), (136, .row 4 (l.map Bg.encT)), (40, .box [.v (.bool false), .v (.int .i64 0), .v (.int .i64 0)] none)], M1)) (fun n => ∀ m, m < n → has l (sumT s) m = true) (fun n => 65 - n) 0 (fun m hm => by omega) (Ent.of ?_) ?_
    · simp only [sx, sb1, sb2, sb3, sb4, sb5, sb6, sb7, ↓reduceIte, Nat.reduceAdd, Nat.reduceMul, Nat.reduceDiv, Nat.reduceEqDiff, Nat.reduceLT, Nat.reduceLeDiff, reduceCtorEq, Int.reduceEq, Int.reduceNe, Int.reduceLT, Int.reduceLE, Int.reduceAdd, Int.reduceSub, Int.reduceMul, Int.reduceNeg, Int.reduceToNat, Int.cast_ofNat_Int, Int.natCast_zero, Int.natCast_one, Int.toNat_natCast, Nat.reduceBEq, Int.natCast_zero]
    intro n hn
    have hpn := pig (sumT s) n l hn
    simp only [shs, zts, sos, sls, zss, eqs, sx, sb1, sb2, sb3, sb4, sb5, sb6, sb7, ↓reduceIte, Nat.reduceAdd, Nat.reduceMul, Nat.reduceDiv, Nat.reduceEqDiff, Nat.reduceLT, Nat.reduceLeDiff, reduceCtorEq, Int.reduceEq, Int.reduceNe, Int.reduceLT, Int.reduceLE, Int.reduceAdd, Int.reduceSub, Int.reduceMul, Int.reduceNeg, Int.reduceToNat, Int.cast_ofNat_Int, Int.natCast_zero, Int.natCast_one, Int.toNat_natCast, Nat.reduceBEq, nzs]
    have hcont : decide (0 ≤ Si.ix (n : Int) (usedN l (sumT s) l.length) 0) = has l (sumT s) n := by
      have := (Si.ix_ge (n : Int) (usedN l (sumT s) l.length) 0).trans (usedN_has l (sumT s) n)
      rw [Bool.eq_iff_iff, decide_eq_true_eq, this]
    refine CallK.lend (k := 440) rfl rfl rfl (fun _ => rfl) (fun v M3 hM3 hv => Si.contains v (usedN l (sumT s) l.length) (n : Int) M3 hv) ?_
    rw [hcont]
    cases hh : has l (sumT s) n with
    | true =>
      simp only [shs, zts, sos, sls, zss, eqs, sx, sb1, sb2, sb3, sb4, sb5, sb6, sb7, ↓reduceIte, Nat.reduceAdd, Nat.reduceMul, Nat.reduceDiv, Nat.reduceEqDiff, Nat.reduceLT, Nat.reduceLeDiff, reduceCtorEq, Int.reduceEq, Int.reduceNe, Int.reduceLT, Int.reduceLE, Int.reduceAdd, Int.reduceSub, Int.reduceMul, Int.reduceNeg, Int.reduceToNat, Int.cast_ofNat_Int, Int.natCast_zero, Int.natCast_one, Int.toNat_natCast, Nat.reduceBEq, nzs, inK, lo, hi]
      refine ⟨by omega, n + 1, ⟨fun m hm => ?_, by omega⟩, Ent.of ?_⟩
      · rcases Nat.lt_or_ge m n with hm' | hm'
        · exact hn m hm'
        · rw [show m = n by omega]; exact hh
      · simp only [sx, sb1, sb2, sb3, sb4, sb5, sb6, sb7, ↓reduceIte, Nat.reduceAdd, Nat.reduceMul, Nat.reduceDiv, Nat.reduceEqDiff, Nat.reduceLT, Nat.reduceLeDiff, reduceCtorEq, Int.reduceEq, Int.reduceNe, Int.reduceLT, Int.reduceLE, Int.reduceAdd, Int.reduceSub, Int.reduceMul, Int.reduceNeg, Int.reduceToNat, Int.cast_ofNat_Int, Int.natCast_zero, Int.natCast_one, Int.toNat_natCast, Nat.reduceBEq, Int.natCast_add]
    | false =>
      have hfn := freeN_of hn hh (by omega)
      rw [hfn]
      simp only [shs, zts, sos, sls, zss, eqs, sx, sb1, sb2, sb3, sb4, sb5, sb6, sb7, ↓reduceIte, Nat.reduceAdd, Nat.reduceMul, Nat.reduceDiv, Nat.reduceEqDiff, Nat.reduceLT, Nat.reduceLeDiff, reduceCtorEq, Int.reduceEq, Int.reduceNe, Int.reduceLT, Int.reduceLE, Int.reduceAdd, Int.reduceSub, Int.reduceMul, Int.reduceNeg, Int.reduceToNat, Int.cast_ofNat_Int, Int.natCast_zero, Int.natCast_one, Int.toNat_natCast, Nat.reduceBEq, nzs]
      have hrow : l.map Bg.encT ++ [[.int .i64 (sumT s), .int .i64 (n : Int), .string ⟨s.toArray⟩, .int .i64 1]] = (l ++ [(sumT s, (n : Int), s, 1)]).map Bg.encT := by
        rw [List.map_append]; rfl
      rw [hrow]
      refine ⟨⟨by rw [List.length_map]; omega, by rw [List.length_map]; omega⟩, ⟨rfl, OpK.openRow (k := 608) 1002 rfl (fun _ => rfl) (fun h => by simp at h) fun b cap sp r1 r2 => ?_⟩⟩
      refine OpK.mkIface (t := 23) rfl rfl rfl rfl (by kernel_rfl) ⟨66, by kernel_rfl⟩ ?_
      simp only [shs, zts, sos, sls, zss, eqs, sx, sb1, sb2, sb3, sb4, sb5, sb6, sb7, ↓reduceIte, Nat.reduceAdd, Nat.reduceMul, Nat.reduceDiv, Nat.reduceEqDiff, Nat.reduceLT, Nat.reduceLeDiff, reduceCtorEq, Int.reduceEq, Int.reduceNe, Int.reduceLT, Int.reduceLE, Int.reduceAdd, Int.reduceSub, Int.reduceMul, Int.reduceNeg, Int.reduceToNat, Int.cast_ofNat_Int, Int.natCast_zero, Int.natCast_one, Int.toNat_natCast, Nat.reduceBEq, sp1, sp2, sp3, nzs, so0]
      refine stepK.mkFn rfl rfl ?_
      simp only [shs, zts, sos, sls, zss, eqs, sx, sb1, sb2, sb3, sb4, sb5, sb6, sb7, ↓reduceIte, Nat.reduceAdd, Nat.reduceMul, Nat.reduceDiv, Nat.reduceEqDiff, Nat.reduceLT, Nat.reduceLeDiff, reduceCtorEq, Int.reduceEq, Int.reduceNe, Int.reduceLT, Int.reduceLE, Int.reduceAdd, Int.reduceSub, Int.reduceMul, Int.reduceNeg, Int.reduceToNat, Int.cast_ofNat_Int, Int.natCast_zero, Int.natCast_one, Int.toNat_natCast, Nat.reduceBEq, nzs, List.length_map] at r1 ⊢
      refine CallK.sortRow 8016 56 Bg.encT 4 ltI (l ++ [(sumT s, (n : Int), s, 1)]) (b := b) (cap := cap) (sp := sp) (tb := none) rfl rfl rfl encT_len rfl (by simp; omega) ⟨_, Proofs.Try.func70, by kernel_rfl, by kernel_rfl⟩ sortC (srtLess _ (by simp; omega)) fun l' p1 p2 => ?_
      have hlen := p1.length_eq
      have hl' := srt_ins (bag_srt hb) (fun y hy hh2 => by
        have := (has_iff l (sumT s) n).2 ⟨y, hy, hh2⟩
        rw [hh] at this
        cases this) p1 p2
      rw [← hl', ← hlen]
      simp only [shs, zts, sos, sls, zss, eqs, sx, sb1, sb2, sb3, sb4, sb5, sb6, sb7, ↓reduceIte, Nat.reduceAdd, Nat.reduceMul, Nat.reduceDiv, Nat.reduceEqDiff, Nat.reduceLT, Nat.reduceLeDiff, reduceCtorEq, Int.reduceEq, Int.reduceNe, Int.reduceLT, Int.reduceLE, Int.reduceAdd, Int.reduceSub, Int.reduceMul, Int.reduceNeg, Int.reduceToNat, Int.cast_ofNat_Int, Int.natCast_zero, Int.natCast_one, Int.toNat_natCast, Nat.reduceBEq, sp1, sp2, sp3, nzs, hset]
      refine DrawK.tail 7 (by kernel_rfl) (by kernel_rfl) ?_
      simp only [shs, zts, sos, sls, zss, eqs, sx, sb1, sb2, sb3, sb4, sb5, sb6, sb7, ↓reduceIte, Nat.reduceAdd, Nat.reduceMul, Nat.reduceDiv, Nat.reduceEqDiff, Nat.reduceLT, Nat.reduceLeDiff, reduceCtorEq, Int.reduceEq, Int.reduceNe, Int.reduceLT, Int.reduceLE, Int.reduceAdd, Int.reduceSub, Int.reduceMul, Int.reduceNeg, Int.reduceToNat, Int.cast_ofNat_Int, Int.natCast_zero, Int.natCast_one, Int.toNat_natCast, Nat.reduceBEq, nzs, putT, idS]
      refine .inr (.inr ⟨b, 8016, cap, sp, ?_, rfl, ?_⟩)
      · rw [List.length_map]
        rfl
      · rw [List.length_map, hlen]
        exact r1
end Go.X.Bp
