/- cut.Split and slices.Equal of strings; woollaw.CutSplits returns true. Conditions: none. -/
import Derived.Test.YtdlfdifhchijkaaFwC
set_option linter.unusedSimpArgs false
set_option linter.unusedVariables false
set_option maxHeartbeats 4000000
namespace Go.X.Sp
open Go Go.X

/-- the pieces, or nothing where the ends are no ends -/
def spl (s : List UInt8) : List Int → Nat → List (List UInt8) → Option (List (List UInt8))
  | [], b, out => if b = s.length then some out else none
  | e :: es, b, out => if e ≤ b ∨ (s.length : Int) < e then none else spl s es e.toNat (out ++ [(s.drop b).take (e.toNat - b)])

theorem eqStr (x y : Value) (l m : List (List UInt8)) (M : Mem) (hx : RowM M x 1 (l.map encS)) (hy : RowM M y 1 (m.map encS)) :
    Meets Proofs.Try.prog 33 [.v x, .v y] M fun r _ _ => r = .v (.bool (decide (l = m))) := by
  refine Meets.of_body [0,1,4,5,10,12,13,14,24] Proofs.Try.func33 rfl (by kernel_rfl) rfl fun w => ?_
  simp only [Proofs.Try.f33, shs, zts, sos, sls, zss, sx, sb1, sb2, sb3, sb4, sb5, ↓reduceIte, Nat.reduceAdd, Nat.reduceMul, Nat.reduceDiv, Nat.reduceEqDiff, Nat.reduceLT, Nat.reduceLeDiff, reduceCtorEq, Int.reduceEq, Int.reduceNe, Int.reduceLT, Int.reduceLE, Int.reduceAdd, Int.reduceSub, Int.reduceMul, Int.reduceNeg, Int.reduceToNat, Int.cast_ofNat_Int, Int.natCast_zero, Int.natCast_one, Int.toNat_natCast, Nat.reduceBEq, hx.len, hy.len, hx.sl, hy.sl, List.length_map]
  refine ⟨fun h => ?_, fun h => ?_⟩
  · rw [decide_eq_false (fun e => h (by rw [e]))]
  have hlen : l.length = m.length := by omega
  have hle := hx.len_le
  rw [List.length_map] at hle
  refine LoopK.go (X := Nat × Nat) (fun p => ([(0, true, .v x), (1, true, .v y), (4, true, .v (.bool false)), (12, true, .v (.int .i64 l.length)), (13, true, .v (.int .i64 p.2))], [], M))
    (fun p => p.1 + p.2 = l.length ∧ (l = m ↔ l.drop p.2 = m.drop p.2)) (fun p => p.1) (l.length, 0) ⟨rfl, Iff.rfl⟩ (Ent.of ?_) ?_
  · simp only [sx, sb1, sb2, sb3, sb4, sb5, ↓reduceIte, Nat.reduceAdd, Nat.reduceMul, Nat.reduceDiv, Nat.reduceEqDiff, Nat.reduceLT, Nat.reduceLeDiff, reduceCtorEq, Int.reduceEq, Int.reduceNe, Int.reduceLT, Int.reduceLE, Int.reduceAdd, Int.reduceSub, Int.reduceMul, Int.reduceNeg, Int.reduceToNat, Int.cast_ofNat_Int, Int.natCast_zero, Int.natCast_one, Int.toNat_natCast, Nat.reduceBEq]
  rintro ⟨f, i⟩ ⟨h1, h2⟩
  simp only at h1 h2
  simp only [shs, zts, sos, sls, zss, sx, sb1, sb2, sb3, sb4, sb5, ↓reduceIte, Nat.reduceAdd, Nat.reduceMul, Nat.reduceDiv, Nat.reduceEqDiff, Nat.reduceLT, Nat.reduceLeDiff, reduceCtorEq, Int.reduceEq, Int.reduceNe, Int.reduceLT, Int.reduceLE, Int.reduceAdd, Int.reduceSub, Int.reduceMul, Int.reduceNeg, Int.reduceToNat, Int.cast_ofNat_Int, Int.natCast_zero, Int.natCast_one, Int.toNat_natCast, Nat.reduceBEq]
  refine ⟨fun h3 => ?_, fun h3 => ?_⟩
  · have hl : l[i]? = some (l[i]'(by omega)) := List.getElem?_eq_getElem _
    have hm : m[i]? = some (m[i]'(by omega)) := List.getElem?_eq_getElem _
    generalize l[i]'(by omega) = e1 at hl
    generalize m[i]'(by omega) = e2 at hm
    have g1 := hx.el1 hl rfl
    have g2 := hy.el1 hm rfl
    have i1 := hx.ix (i := (i : Int)) (by omega) (by rw [List.length_map]; omega)
    have i2 := hy.ix (i := (i : Int)) (by omega) (by rw [List.length_map]; omega)
    have hd : l.drop i = e1 :: l.drop (i+1) := by
      rw [List.drop_eq_getElem_cons (by omega)]
      rw [List.getElem?_eq_getElem (by omega), Option.some.injEq] at hl
      rw [hl]
    have hd2 : m.drop i = e2 :: m.drop (i+1) := by
      rw [List.drop_eq_getElem_cons (by omega)]
      rw [List.getElem?_eq_getElem (by omega), Option.some.injEq] at hm
      rw [hm]
    refine DrawK.quiet (by kernel_rfl) (by kernel_rfl) ?_
    simp only [shs, zts, sos, sls, zss, sx, sb1, sb2, sb3, sb4, sb5, ↓reduceIte, Nat.reduceAdd, Nat.reduceMul, Nat.reduceDiv, Nat.reduceEqDiff, Nat.reduceLT, Nat.reduceLeDiff, reduceCtorEq, Int.reduceEq, Int.reduceNe, Int.reduceLT, Int.reduceLE, Int.reduceAdd, Int.reduceSub, Int.reduceMul, Int.reduceNeg, Int.reduceToNat, Int.cast_ofNat_Int, Int.natCast_zero, Int.natCast_one, Int.toNat_natCast, Nat.reduceBEq, g1.1, g2.1, inK, lo, hi, List.toArray_eq_iff]
    refine ⟨i1, g1.2, i2, g2.2, fun hne => ?_, fun he => ⟨by omega, (f - 1, i + 1), ⟨⟨by simp only; omega, ?_⟩, by simp only; omega⟩, Ent.of ?_⟩⟩
    · rw [decide_eq_false (fun e => hne ?_)]
      have := h2.1 e
      rw [hd, hd2] at this
      exact (List.cons.inj this).1
    · simp only
      rw [h2, hd, hd2, he]
      exact ⟨fun e => (List.cons.inj e).2, fun e => by rw [e]⟩
    · simp only [sx, sb1, sb2, sb3, sb4, sb5, ↓reduceIte, Nat.reduceAdd, Nat.reduceMul, Nat.reduceDiv, Nat.reduceEqDiff, Nat.reduceLT, Nat.reduceLeDiff, reduceCtorEq, Int.reduceEq, Int.reduceNe, Int.reduceLT, Int.reduceLE, Int.reduceAdd, Int.reduceSub, Int.reduceMul, Int.reduceNeg, Int.reduceToNat, Int.cast_ofNat_Int, Int.natCast_zero, Int.natCast_one, Int.toNat_natCast, Nat.reduceBEq, Int.natCast_add]
  · have : i = l.length := by omega
    rw [decide_eq_true (h2.2 (by rw [List.drop_eq_nil_of_le (by omega), List.drop_eq_nil_of_le (by omega)]))]

theorem drop_at {α : Type} {l : List α} {i : Nat} (h : i < l.length) : ∃ x, l[i]? = some x ∧ l.drop i = x :: l.drop (i + 1) :=
  ⟨_, List.getElem?_eq_getElem h, List.drop_eq_getElem_cons h⟩

theorem split_large (s : List UInt8) (y : Value) (M : Mem) (hs : 600 < s.length) :
    Meets Proofs.Try.prog 32 [.v (.string ⟨s.toArray⟩), .v y] M fun r _ _ => r = .tup [.v (.slice none 0 0), .v (.int .i64 2)] := by
  refine Meets.of_body [0,1,4,5,6,7,9,12,13,14,15,16,27,40] Proofs.Try.func32 rfl (by kernel_rfl) rfl fun w => ?_
  simp only [Proofs.Try.f32, shs, zts, sos, sls, zss, sx, sb1, sb2, sb3, sb4, sb5, ↓reduceIte, Nat.reduceAdd, Nat.reduceMul, Nat.reduceDiv, Nat.reduceEqDiff, Nat.reduceLT, Nat.reduceLeDiff, reduceCtorEq, Int.reduceEq, Int.reduceNe, Int.reduceLT, Int.reduceLE, Int.reduceAdd, Int.reduceSub, Int.reduceMul, Int.reduceNeg, Int.reduceToNat, Int.cast_ofNat_Int, Int.natCast_zero, Int.natCast_one, Int.toNat_natCast, Nat.reduceBEq]
  exact fun h => by omega

/-- what Split answers -/
def SplitR (c : Option (List (List UInt8))) : RP := fun r H M => match c with
  | some out => RowR (fun t => .tup [t, .v (.int .i64 0)]) 1 (out.map encS) r H M
  | none => r = .tup [.v (.slice none 0 0), .v (.int .i64 3)]

theorem split (s : List UInt8) (y : Value) (l : List Int) (M : Mem) (hs : s.length ≤ 600) (hy : RowM M y 1 (l.map encI)) :
    Meets Proofs.Try.prog 32 [.v (.string ⟨s.toArray⟩), .v y] M (SplitR (spl s l 0 [])) := by
  refine Meets.of_body [0,1,4,5,6,7,9,12,13,14,15,16,27,40] Proofs.Try.func32 rfl (by kernel_rfl) rfl fun w => ?_
  generalize hc : spl s l 0 [] = c
  have hle := hy.len_le
  rw [List.length_map] at hle
  simp only [Proofs.Try.f32, shs, zts, sos, sls, zss, sx, sb1, sb2, sb3, sb4, sb5, ↓reduceIte, Nat.reduceAdd, Nat.reduceMul, Nat.reduceDiv, Nat.reduceEqDiff, Nat.reduceLT, Nat.reduceLeDiff, reduceCtorEq, Int.reduceEq, Int.reduceNe, Int.reduceLT, Int.reduceLE, Int.reduceAdd, Int.reduceSub, Int.reduceMul, Int.reduceNeg, Int.reduceToNat, Int.cast_ofNat_Int, Int.natCast_zero, Int.natCast_one, Int.toNat_natCast, Nat.reduceBEq, hy.len, hy.sl, List.length_map]
  refine ⟨fun h => by omega, fun _ => ?_⟩
  refine LoopK.nilRow 6 34 1 rfl rfl rfl ?_
  simp only [sx, sb1, sb2, sb3, sb4, sb5, ↓reduceIte, Nat.reduceAdd, Nat.reduceMul, Nat.reduceDiv, Nat.reduceEqDiff, Nat.reduceLT, Nat.reduceLeDiff, reduceCtorEq, Int.reduceEq, Int.reduceNe, Int.reduceLT, Int.reduceLE, Int.reduceAdd, Int.reduceSub, Int.reduceMul, Int.reduceNeg, Int.reduceToNat, Int.cast_ofNat_Int, Int.natCast_zero, Int.natCast_one, Int.toNat_natCast, Nat.reduceBEq]
  refine LoopK.go (X := Nat × Nat × Nat × List (List UInt8)) (fun x => ([(0, true, .v (.string ⟨s.toArray⟩)), (1, true, .v y), (6, true, .own 272), (7, true, .v (.int .i64 x.2.2.1)), (13, true, .v y), (14, true, .v (.int .i64 l.length)), (15, true, .v (.int .i64 x.2.1))], [(272, .row 1 (x.2.2.2.map encS))], M))
    (fun x => ((x.1 + x.2.1 = l.length ∧ x.2.2.2.length ≤ x.2.2.1) ∧ x.2.2.1 ≤ s.length) ∧ spl s (l.drop x.2.1) x.2.2.1 x.2.2.2 = c) (fun x => x.1) (l.length, 0, 0, []) ⟨⟨⟨rfl, by simp⟩, by simp⟩, hc⟩ (Ent.of ?_) ?_
  · simp only [sx, sb1, sb2, sb3, sb4, sb5, ↓reduceIte, Nat.reduceAdd, Nat.reduceMul, Nat.reduceDiv, Nat.reduceEqDiff, Nat.reduceLT, Nat.reduceLeDiff, reduceCtorEq, Int.reduceEq, Int.reduceNe, Int.reduceLT, Int.reduceLE, Int.reduceAdd, Int.reduceSub, Int.reduceMul, Int.reduceNeg, Int.reduceToNat, Int.cast_ofNat_Int, Int.natCast_zero, Int.natCast_one, Int.toNat_natCast, Nat.reduceBEq]
  rintro ⟨f, i, b, out⟩ ⟨⟨⟨h1, h2⟩, h3⟩, h4⟩
  simp only at h1 h2 h3 h4
  simp only [shs, zts, sos, sls, zss, sx, sb1, sb2, sb3, sb4, sb5, ↓reduceIte, Nat.reduceAdd, Nat.reduceMul, Nat.reduceDiv, Nat.reduceEqDiff, Nat.reduceLT, Nat.reduceLeDiff, reduceCtorEq, Int.reduceEq, Int.reduceNe, Int.reduceLT, Int.reduceLE, Int.reduceAdd, Int.reduceSub, Int.reduceMul, Int.reduceNeg, Int.reduceToNat, Int.cast_ofNat_Int, Int.natCast_zero, Int.natCast_one, Int.toNat_natCast, Nat.reduceBEq]
  refine ⟨fun h5 => ?_, fun h5 => ?_⟩
  · obtain ⟨e, he, hd⟩ := drop_at (l := l) (i := i) (by omega)
    have g1 := hy.el1 he rfl
    have i1 := hy.ix (i := (i : Int)) (by omega) (by rw [List.length_map]; omega)
    rw [hd] at h4
    simp only [spl] at h4
    simp only [shs, zts, sos, sls, zss, sx, sb1, sb2, sb3, sb4, sb5, ↓reduceIte, Nat.reduceAdd, Nat.reduceMul, Nat.reduceDiv, Nat.reduceEqDiff, Nat.reduceLT, Nat.reduceLeDiff, reduceCtorEq, Int.reduceEq, Int.reduceNe, Int.reduceLT, Int.reduceLE, Int.reduceAdd, Int.reduceSub, Int.reduceMul, Int.reduceNeg, Int.reduceToNat, Int.cast_ofNat_Int, Int.natCast_zero, Int.natCast_one, Int.toNat_natCast, Nat.reduceBEq, g1.1, inK, lo, hi]
    refine ⟨i1, g1.2, fun h6 => ?_, fun h6 => ?_⟩
    rotate_left
    refine ⟨by omega, by rw [List.length_map]; omega, by omega, (f - 1, i + 1, e.toNat, out ++ [(s.drop b).take (e.toNat - b)]), ⟨⟨⟨⟨by simp only; omega, ?_⟩, by simp only; omega⟩, ?_⟩, by simp only; omega⟩, Ent.of ?_⟩
    rotate_right
    · rw [if_pos h6] at h4
      subst h4
      rfl
    · simp only [List.length_append, List.length_singleton]; omega
    · simp only
      rw [if_neg (by omega)] at h4
      exact h4
    · simp only [sx, sb1, sb2, sb3, sb4, sb5, ↓reduceIte, Nat.reduceAdd, Nat.reduceMul, Nat.reduceDiv, Nat.reduceEqDiff, Nat.reduceLT, Nat.reduceLeDiff, reduceCtorEq, Int.reduceEq, Int.reduceNe, Int.reduceLT, Int.reduceLE, Int.reduceAdd, Int.reduceSub, Int.reduceMul, Int.reduceNeg, Int.reduceToNat, Int.cast_ofNat_Int, Int.natCast_zero, Int.natCast_one, Int.toNat_natCast, Nat.reduceBEq, Int.natCast_add, List.map_append, encS, Int.toNat_of_nonneg (show 0 ≤ e by omega)]
  · have hd : l.drop i = [] := List.drop_eq_nil_of_le (by omega)
    rw [hd] at h4
    simp only [spl] at h4
    refine ⟨fun h6 => ?_, fun h6 => ?_⟩
    · rw [if_neg (by omega)] at h4
      subst h4
      rfl
    · rw [if_pos (by omega)] at h4
      subst h4
      exact ⟨.own 272, rfl, rfl⟩

theorem CallK.splitR {E : Env} {σ : Sig} {H : HS} {M : Mem} {K : KP} {f d : Nat} {l : List SV} {c : Option (List (List UInt8))} (hl : SV.concs l = true) (hd : decide (d < E.N) = true) (h : Meets E.P f l M (SplitR c))
    (hk : ∀ v n M', M.le M' → isSl v = true → ((∃ out, c = some out ∧ n = 0 ∧ RowM M' v 1 (out.map encS)) ∨ (c = none ∧ n = 3 ∧ v = .slice none 0 0)) → K ((d, true, .tup [.v v, .v (.int .i64 n)]) :: σ) H M') : CallK E f l d K σ H M := by
  cases c with
  | some out => exact CallK.row (Ctx.fst _) hl hd h (fun v M' hle hr => hk v 0 M' hle hr.sl (.inl ⟨out, rfl, rfl, hr⟩))
  | none => exact CallK.pure ⟨hl, rfl⟩ hd h (hk _ 3 M (Mem.le.refl M) rfl (.inr ⟨rfl, rfl, rfl⟩))

theorem says (s : List UInt8) (y : Value) (l : List Int) (M : Mem) (_ : s.length ≤ maxLen) (hy : RowM M y 1 (l.map encI)) (_ : ∀ n ∈ l, inK .i64 n) :
    Meets Proofs.Try.prog 6 [.v (.string ⟨s.toArray⟩), .v y] M fun r _ _ => r = .v (.bool true) := by
  refine Meets.of_body [0,1,4,5,6,7,8,10,19,27,28,29,30,41,61] Proofs.Try.func6 rfl (by kernel_rfl) rfl fun w => ?_
  have hle := hy.len_le
  rw [List.length_map] at hle
  simp only [Proofs.Try.f6, shs, zts, sos, sls, zss, sx, sb1, sb2, sb3, sb4, sb5, ↓reduceIte, Nat.reduceAdd, Nat.reduceMul, Nat.reduceDiv, Nat.reduceEqDiff, Nat.reduceLT, Nat.reduceLeDiff, reduceCtorEq, Int.reduceEq, Int.reduceNe, Int.reduceLT, Int.reduceLE, Int.reduceAdd, Int.reduceSub, Int.reduceMul, Int.reduceNeg, Int.reduceToNat, Int.cast_ofNat_Int, Int.natCast_zero, Int.natCast_one, Int.toNat_natCast, Nat.reduceBEq]
  by_cases hs : 600 < s.length
  · refine CallK.pure ⟨rfl, rfl⟩ rfl (split_large s y M hs) ?_
    simp only [shs, zts, sos, sls, zss, sx, sb1, sb2, sb3, sb4, sb5, ↓reduceIte, Nat.reduceAdd, Nat.reduceMul, Nat.reduceDiv, Nat.reduceEqDiff, Nat.reduceLT, Nat.reduceLeDiff, reduceCtorEq, Int.reduceEq, Int.reduceNe, Int.reduceLT, Int.reduceLE, Int.reduceAdd, Int.reduceSub, Int.reduceMul, Int.reduceNeg, Int.reduceToNat, Int.cast_ofNat_Int, Int.natCast_zero, Int.natCast_one, Int.toNat_natCast, Nat.reduceBEq, lenV, isSl]
    exact fun h => by omega
  refine CallK.splitR rfl rfl (split s y l M (by omega) hy) fun v n M' hM hsv hvn => ?_
  generalize hc : spl s l 0 [] = c at hvn
  replace hy := hy.le hM
  simp only [shs, zts, sos, sls, zss, sx, sb1, sb2, sb3, sb4, sb5, ↓reduceIte, Nat.reduceAdd, Nat.reduceMul, Nat.reduceDiv, Nat.reduceEqDiff, Nat.reduceLT, Nat.reduceLeDiff, reduceCtorEq, Int.reduceEq, Int.reduceNe, Int.reduceLT, Int.reduceLE, Int.reduceAdd, Int.reduceSub, Int.reduceMul, Int.reduceNeg, Int.reduceToNat, Int.cast_ofNat_Int, Int.natCast_zero, Int.natCast_one, Int.toNat_natCast, Nat.reduceBEq, hy.len, hy.sl, hsv, List.length_map]
  refine ⟨fun h => by omega, fun _ => ?_⟩
  refine LoopK.nilRow 8 55 1 rfl rfl rfl ?_
  simp only [sx, sb1, sb2, sb3, sb4, sb5, ↓reduceIte, Nat.reduceAdd, Nat.reduceMul, Nat.reduceDiv, Nat.reduceEqDiff, Nat.reduceLT, Nat.reduceLeDiff, reduceCtorEq, Int.reduceEq, Int.reduceNe, Int.reduceLT, Int.reduceLE, Int.reduceAdd, Int.reduceSub, Int.reduceMul, Int.reduceNeg, Int.reduceToNat, Int.cast_ofNat_Int, Int.natCast_zero, Int.natCast_one, Int.toNat_natCast, Nat.reduceBEq]
  refine LoopK.go (X := Nat × Nat × Nat × List (List UInt8)) (fun x => ([(0, true, .v (.string ⟨s.toArray⟩)), (1, true, .v y), (5, true, .v v), (6, true, .v (.int .i64 n)), (8, true, .own 440), (7, true, .v (.int .i64 x.2.2.1)), (27, true, .v y), (28, true, .v (.int .i64 l.length)), (29, true, .v (.int .i64 x.2.1))], [(440, .row 1 (x.2.2.2.map encS))], M'))
    (fun x => ((x.1 + x.2.1 = l.length ∧ x.2.2.2.length ≤ x.2.2.1) ∧ x.2.2.1 ≤ s.length) ∧ spl s (l.drop x.2.1) x.2.2.1 x.2.2.2 = c) (fun x => x.1) (l.length, 0, 0, []) ⟨⟨⟨rfl, by simp⟩, by simp⟩, hc⟩ (Ent.of ?_) ?_
  · simp only [sx, sb1, sb2, sb3, sb4, sb5, ↓reduceIte, Nat.reduceAdd, Nat.reduceMul, Nat.reduceDiv, Nat.reduceEqDiff, Nat.reduceLT, Nat.reduceLeDiff, reduceCtorEq, Int.reduceEq, Int.reduceNe, Int.reduceLT, Int.reduceLE, Int.reduceAdd, Int.reduceSub, Int.reduceMul, Int.reduceNeg, Int.reduceToNat, Int.cast_ofNat_Int, Int.natCast_zero, Int.natCast_one, Int.toNat_natCast, Nat.reduceBEq]
  rintro ⟨f, i, b, out⟩ ⟨⟨⟨h1, h2⟩, h3⟩, h4⟩
  simp only at h1 h2 h3 h4
  simp only [shs, zts, sos, sls, zss, sx, sb1, sb2, sb3, sb4, sb5, ↓reduceIte, Nat.reduceAdd, Nat.reduceMul, Nat.reduceDiv, Nat.reduceEqDiff, Nat.reduceLT, Nat.reduceLeDiff, reduceCtorEq, Int.reduceEq, Int.reduceNe, Int.reduceLT, Int.reduceLE, Int.reduceAdd, Int.reduceSub, Int.reduceMul, Int.reduceNeg, Int.reduceToNat, Int.cast_ofNat_Int, Int.natCast_zero, Int.natCast_one, Int.toNat_natCast, Nat.reduceBEq]
  refine ⟨fun h5 => ?_, fun h5 => ?_⟩
  · obtain ⟨e, he, hd⟩ := drop_at (l := l) (i := i) (by omega)
    have g1 := hy.el1 he rfl
    have i1 := hy.ix (i := (i : Int)) (by omega) (by rw [List.length_map]; omega)
    rw [hd] at h4
    simp only [spl] at h4
    simp only [shs, zts, sos, sls, zss, sx, sb1, sb2, sb3, sb4, sb5, ↓reduceIte, Nat.reduceAdd, Nat.reduceMul, Nat.reduceDiv, Nat.reduceEqDiff, Nat.reduceLT, Nat.reduceLeDiff, reduceCtorEq, Int.reduceEq, Int.reduceNe, Int.reduceLT, Int.reduceLE, Int.reduceAdd, Int.reduceSub, Int.reduceMul, Int.reduceNeg, Int.reduceToNat, Int.cast_ofNat_Int, Int.natCast_zero, Int.natCast_one, Int.toNat_natCast, Nat.reduceBEq, g1.1, inK, lo, hi, hsv]
    refine ⟨i1, g1.2, fun h6 => ?_, fun h6 => ?_⟩
    rotate_left
    refine ⟨by omega, by rw [List.length_map]; omega, by omega, (f - 1, i + 1, e.toNat, out ++ [(s.drop b).take (e.toNat - b)]), ⟨⟨⟨⟨by simp only; omega, ?_⟩, by simp only; omega⟩, ?_⟩, by simp only; omega⟩, Ent.of ?_⟩
    rotate_right
    · rw [if_pos h6] at h4
      rcases hvn with ⟨o, rfl, _⟩ | ⟨rfl, rfl, rfl⟩
      · cases h4
      · rfl
    · simp only [List.length_append, List.length_singleton]; omega
    · simp only
      rw [if_neg (by omega)] at h4
      exact h4
    · simp only [sx, sb1, sb2, sb3, sb4, sb5, ↓reduceIte, Nat.reduceAdd, Nat.reduceMul, Nat.reduceDiv, Nat.reduceEqDiff, Nat.reduceLT, Nat.reduceLeDiff, reduceCtorEq, Int.reduceEq, Int.reduceNe, Int.reduceLT, Int.reduceLE, Int.reduceAdd, Int.reduceSub, Int.reduceMul, Int.reduceNeg, Int.reduceToNat, Int.cast_ofNat_Int, Int.natCast_zero, Int.natCast_one, Int.toNat_natCast, Nat.reduceBEq, Int.natCast_add, List.map_append, encS, Int.toNat_of_nonneg (show 0 ≤ e by omega)]
  · have hd : l.drop i = [] := List.drop_eq_nil_of_le (by omega)
    rw [hd] at h4
    simp only [spl] at h4
    simp only [hsv]
    refine ⟨fun h6 => ?_, fun h6 => ?_⟩
    · rw [if_neg (by omega)] at h4
      rcases hvn with ⟨o, rfl, _⟩ | ⟨rfl, rfl, rfl⟩
      · cases h4
      · exact ⟨fun _ => ⟨rfl, trivial⟩, rfl⟩
    · rw [if_pos (by omega)] at h4
      rcases hvn with ⟨o, rfl, rfl, hv⟩ | ⟨rfl, rfl, rfl⟩
      · obtain rfl := Option.some.inj h4
        simp only [shs, zts, sos, sls, zss, sx, sb1, sb2, sb3, sb4, sb5, ↓reduceIte, Nat.reduceAdd, Nat.reduceMul, Nat.reduceDiv, Nat.reduceEqDiff, Nat.reduceLT, Nat.reduceLeDiff, reduceCtorEq, Int.reduceEq, Int.reduceNe, Int.reduceLT, Int.reduceLE, Int.reduceAdd, Int.reduceSub, Int.reduceMul, Int.reduceNeg, Int.reduceToNat, Int.cast_ofNat_Int, Int.natCast_zero, Int.natCast_one, Int.toNat_natCast, Nat.reduceBEq]
        refine CallK.lend (k := 440) rfl rfl rfl (fun _ => rfl) (fun v2 M2 hM2 hv2 => eqStr v v2 out out M2 (hv.le hM2) hv2) ?_
        simp only [shs, zts, sos, sls, zss, sx, sb1, sb2, sb3, sb4, sb5, ↓reduceIte, Nat.reduceAdd, Nat.reduceMul, Nat.reduceDiv, Nat.reduceEqDiff, Nat.reduceLT, Nat.reduceLeDiff, reduceCtorEq, Int.reduceEq, Int.reduceNe, Int.reduceLT, Int.reduceLE, Int.reduceAdd, Int.reduceSub, Int.reduceMul, Int.reduceNeg, Int.reduceToNat, Int.cast_ofNat_Int, Int.natCast_zero, Int.natCast_one, Int.toNat_natCast, Nat.reduceBEq]
      · cases h4
end Go.X.Sp
