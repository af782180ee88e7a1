/- Tokens: what lz.one, lz.Expand, woolref.Token return. Conditions: none. -/
import Derived.Test.YtbnbimncladflaaDoorFwR
import Derived.Test.YtbnbimncladflaaDoorPoly
import Derived.Test.YtbnbimncladflaaDoorFwI
set_option linter.unusedSimpArgs false
set_option linter.unusedVariables false
set_option maxHeartbeats 4000000
set_option maxRecDepth 20000
namespace Go.X.Lz
open Go Go.X Go.RowKit Go.X.Pl

/-- distance, length, byte -/
abbrev Tk := Int × Int × Int
def encT (t : Tk) : List Value := [.int .i64 t.1, .int .i64 t.2.1, .int .i64 t.2.2]
def tkV (t : Tk) : SV := .agg [.v (.int .i64 t.1), .v (.int .i64 t.2.1), .v (.int .i64 t.2.2)]
def tkB (t : Tk) : Bool := if t.2.1 = 0 then decide (t.1 = 0 ∧ 0 ≤ t.2.2 ∧ t.2.2 < 256) else decide ((0 < t.2.1 ∧ t.2.1 ≤ 64) ∧ (1 ≤ t.1 ∧ t.1 ≤ 256) ∧ t.2.2 = 0)
theorem one (t : Tk) (M : Mem) : Meets Proofs.Tryd.prog 40 [tkV t] M fun r _ _ => r = .v (.bool (tkB t)) := by
  refine Meets.of_body [0,1,2,5] Proofs.Tryd.func40 rfl (by kernel_rfl) rfl fun w => ?_
  unfold tkB
  by_cases h0 : t.2.1 = 0
  · rw [if_pos h0]
    have c0 : (t.2.1 = 0) = True := eq_true h0
    simp only [Proofs.Tryd.f40, tkV, shs, zts, sos, sls, zss, eqs, sx, sb1, sb2, sb3, sb4, sb5, sb6, sb7, ↓reduceIte, Nat.reduceAdd, Nat.reduceMul, Nat.reduceDiv, Nat.reduceEqDiff, Nat.reduceLT, Nat.reduceLeDiff, reduceCtorEq, Int.reduceEq, Int.reduceNe, Int.reduceLT, Int.reduceLE, Int.reduceAdd, Int.reduceSub, Int.reduceMul, Int.reduceNeg, Int.reduceToNat, Int.cast_ofNat_Int, Int.natCast_zero, Int.natCast_one, Int.toNat_natCast, Nat.reduceBEq, nzs, c0]
    by_cases h1 : t.1 = 0 <;> by_cases h2 : 0 ≤ t.2.2 <;> by_cases h3 : t.2.2 < 256 <;> simp [h1, h2, h3]
  · rw [if_neg h0]
    have c0 : (t.2.1 = 0) = False := eq_false h0
    simp only [Proofs.Tryd.f40, tkV, shs, zts, sos, sls, zss, eqs, sx, sb1, sb2, sb3, sb4, sb5, sb6, sb7, ↓reduceIte, Nat.reduceAdd, Nat.reduceMul, Nat.reduceDiv, Nat.reduceEqDiff, Nat.reduceLT, Nat.reduceLeDiff, reduceCtorEq, Int.reduceEq, Int.reduceNe, Int.reduceLT, Int.reduceLE, Int.reduceAdd, Int.reduceSub, Int.reduceMul, Int.reduceNeg, Int.reduceToNat, Int.cast_ofNat_Int, Int.natCast_zero, Int.natCast_one, Int.toNat_natCast, Nat.reduceBEq, nzs, c0]
    by_cases h1 : 0 < t.2.1 <;> by_cases h2 : t.2.1 ≤ 64 <;> by_cases h3 : 1 ≤ t.1 <;> by_cases h4 : t.1 ≤ 256 <;> by_cases h5 : t.2.2 = 0 <;> simp [h1, h2, h3, h4, h5]
theorem within (x a b : Int) (M : Mem) : Meets Proofs.Tryd.prog 42 [.v (.int .i64 x), .v (.int .i64 a), .v (.int .i64 b)] M fun r _ _ => r = .v (.bool (decide (a ≤ x ∧ x ≤ b))) := by
  refine Meets.of_body [0,1,2,6] Proofs.Tryd.func42 rfl (by kernel_rfl) rfl fun w => ?_
  simp only [Proofs.Tryd.f42, shs, zts, sos, sls, zss, eqs, sx, sb1, sb2, sb3, sb4, sb5, sb6, sb7, ↓reduceIte, Nat.reduceAdd, Nat.reduceMul, Nat.reduceDiv, Nat.reduceEqDiff, Nat.reduceLT, Nat.reduceLeDiff, reduceCtorEq, Int.reduceEq, Int.reduceNe, Int.reduceLT, Int.reduceLE, Int.reduceAdd, Int.reduceSub, Int.reduceMul, Int.reduceNeg, Int.reduceToNat, Int.cast_ofNat_Int, Int.natCast_zero, Int.natCast_one, Int.toNat_natCast, Nat.reduceBEq]
  by_cases h1 : a ≤ x <;> by_cases h2 : x ≤ b <;> simp [h1, h2]
theorem rtok (t : Tk) (M : Mem) : Meets Proofs.Tryd.prog 28 [tkV t] M fun r _ _ => r = .v (.bool (tkB t)) := by
  refine Meets.of_body [0,1,2,5] Proofs.Tryd.func28 rfl (by kernel_rfl) rfl fun w => ?_
  unfold tkB
  by_cases h0 : t.2.1 = 0
  · rw [if_pos h0]
    have c0 : (t.2.1 = 0) = True := eq_true h0
    by_cases h1 : t.1 = 0
    · have c1 : (t.1 = 0) = True := eq_true h1
      simp only [Proofs.Tryd.f28, tkV, shs, zts, sos, sls, zss, eqs, sx, sb1, sb2, sb3, sb4, sb5, sb6, sb7, ↓reduceIte, Nat.reduceAdd, Nat.reduceMul, Nat.reduceDiv, Nat.reduceEqDiff, Nat.reduceLT, Nat.reduceLeDiff, reduceCtorEq, Int.reduceEq, Int.reduceNe, Int.reduceLT, Int.reduceLE, Int.reduceAdd, Int.reduceSub, Int.reduceMul, Int.reduceNeg, Int.reduceToNat, Int.cast_ofNat_Int, Int.natCast_zero, Int.natCast_one, Int.toNat_natCast, Nat.reduceBEq, nzs, c0, c1]
      refine CallK.pure ⟨rfl, rfl⟩ rfl (within t.2.2 0 255 M) ?_
      simp only [shs, zts, sos, sls, zss, eqs, sx, sb1, sb2, sb3, sb4, sb5, sb6, sb7, ↓reduceIte, Nat.reduceAdd, Nat.reduceMul, Nat.reduceDiv, Nat.reduceEqDiff, Nat.reduceLT, Nat.reduceLeDiff, reduceCtorEq, Int.reduceEq, Int.reduceNe, Int.reduceLT, Int.reduceLE, Int.reduceAdd, Int.reduceSub, Int.reduceMul, Int.reduceNeg, Int.reduceToNat, Int.cast_ofNat_Int, Int.natCast_zero, Int.natCast_one, Int.toNat_natCast, Nat.reduceBEq, nzs]
      exact congrArg (fun b => SV.v (Value.bool b)) (decide_eq_decide.2 ⟨fun h => by omega, fun h => by omega⟩)
    · have c1 : (t.1 = 0) = False := eq_false h1
      simp only [Proofs.Tryd.f28, tkV, shs, zts, sos, sls, zss, eqs, sx, sb1, sb2, sb3, sb4, sb5, sb6, sb7, ↓reduceIte, Nat.reduceAdd, Nat.reduceMul, Nat.reduceDiv, Nat.reduceEqDiff, Nat.reduceLT, Nat.reduceLeDiff, reduceCtorEq, Int.reduceEq, Int.reduceNe, Int.reduceLT, Int.reduceLE, Int.reduceAdd, Int.reduceSub, Int.reduceMul, Int.reduceNeg, Int.reduceToNat, Int.cast_ofNat_Int, Int.natCast_zero, Int.natCast_one, Int.toNat_natCast, Nat.reduceBEq, nzs, c0, c1, false_and, decide_false]
  · rw [if_neg h0]
    have c0 : (t.2.1 = 0) = False := eq_false h0
    simp only [Proofs.Tryd.f28, tkV, shs, zts, sos, sls, zss, eqs, sx, sb1, sb2, sb3, sb4, sb5, sb6, sb7, ↓reduceIte, Nat.reduceAdd, Nat.reduceMul, Nat.reduceDiv, Nat.reduceEqDiff, Nat.reduceLT, Nat.reduceLeDiff, reduceCtorEq, Int.reduceEq, Int.reduceNe, Int.reduceLT, Int.reduceLE, Int.reduceAdd, Int.reduceSub, Int.reduceMul, Int.reduceNeg, Int.reduceToNat, Int.cast_ofNat_Int, Int.natCast_zero, Int.natCast_one, Int.toNat_natCast, Nat.reduceBEq, nzs, c0]
    refine CallK.pure ⟨rfl, rfl⟩ rfl (within t.2.1 1 64 M) ?_
    by_cases h1 : 1 ≤ t.2.1 ∧ t.2.1 ≤ 64
    · have e1 : decide (1 ≤ t.2.1 ∧ t.2.1 ≤ 64) = true := decide_eq_true h1
      simp only [shs, zts, sos, sls, zss, eqs, sx, sb1, sb2, sb3, sb4, sb5, sb6, sb7, ↓reduceIte, Nat.reduceAdd, Nat.reduceMul, Nat.reduceDiv, Nat.reduceEqDiff, Nat.reduceLT, Nat.reduceLeDiff, reduceCtorEq, Int.reduceEq, Int.reduceNe, Int.reduceLT, Int.reduceLE, Int.reduceAdd, Int.reduceSub, Int.reduceMul, Int.reduceNeg, Int.reduceToNat, Int.cast_ofNat_Int, Int.natCast_zero, Int.natCast_one, Int.toNat_natCast, Nat.reduceBEq, nzs, e1]
      refine CallK.pure ⟨rfl, rfl⟩ rfl (within t.1 1 256 M) ?_
      by_cases h2 : 1 ≤ t.1 ∧ t.1 ≤ 256
      · have e2 : decide (1 ≤ t.1 ∧ t.1 ≤ 256) = true := decide_eq_true h2
        simp only [shs, zts, sos, sls, zss, eqs, sx, sb1, sb2, sb3, sb4, sb5, sb6, sb7, ↓reduceIte, Nat.reduceAdd, Nat.reduceMul, Nat.reduceDiv, Nat.reduceEqDiff, Nat.reduceLT, Nat.reduceLeDiff, reduceCtorEq, Int.reduceEq, Int.reduceNe, Int.reduceLT, Int.reduceLE, Int.reduceAdd, Int.reduceSub, Int.reduceMul, Int.reduceNeg, Int.reduceToNat, Int.cast_ofNat_Int, Int.natCast_zero, Int.natCast_one, Int.toNat_natCast, Nat.reduceBEq, nzs, e2]
        exact congrArg (fun b => SV.v (Value.bool b)) (decide_eq_decide.2 ⟨fun h => by omega, fun h => by omega⟩)
      · have e2 : decide (1 ≤ t.1 ∧ t.1 ≤ 256) = false := decide_eq_false h2
        simp only [shs, zts, sos, sls, zss, eqs, sx, sb1, sb2, sb3, sb4, sb5, sb6, sb7, ↓reduceIte, Nat.reduceAdd, Nat.reduceMul, Nat.reduceDiv, Nat.reduceEqDiff, Nat.reduceLT, Nat.reduceLeDiff, reduceCtorEq, Int.reduceEq, Int.reduceNe, Int.reduceLT, Int.reduceLE, Int.reduceAdd, Int.reduceSub, Int.reduceMul, Int.reduceNeg, Int.reduceToNat, Int.cast_ofNat_Int, Int.natCast_zero, Int.natCast_one, Int.toNat_natCast, Nat.reduceBEq, nzs, e2]
        rw [decide_eq_false (fun h => h2 h.2.1)]
    · have e1 : decide (1 ≤ t.2.1 ∧ t.2.1 ≤ 64) = false := decide_eq_false h1
      simp only [shs, zts, sos, sls, zss, eqs, sx, sb1, sb2, sb3, sb4, sb5, sb6, sb7, ↓reduceIte, Nat.reduceAdd, Nat.reduceMul, Nat.reduceDiv, Nat.reduceEqDiff, Nat.reduceLT, Nat.reduceLeDiff, reduceCtorEq, Int.reduceEq, Int.reduceNe, Int.reduceLT, Int.reduceLE, Int.reduceAdd, Int.reduceSub, Int.reduceMul, Int.reduceNeg, Int.reduceToNat, Int.cast_ofNat_Int, Int.natCast_zero, Int.natCast_one, Int.toNat_natCast, Nat.reduceBEq, nzs, e1]
      rw [decide_eq_false (fun h => h1 ⟨by omega, by omega⟩)]

/-- n bytes more, each the one d back -/
def cpy : Nat → Nat → List UInt8 → List UInt8
  | 0, _, o => o
  | n + 1, d, o => cpy n d (o ++ [o.getD (o.length - d) 0])
def exp : List Tk → List UInt8 → List UInt8 × Int
  | [], o => (o, 0)
  | t :: l, o => if tkB t = false then ([], 1) else if (o.length : Int) < t.1 then ([], 3) else if 600 < (o.length : Int) + max 1 t.2.1 then ([], 2) else exp l (if t.2.1 = 0 then o ++ [UInt8.ofNat t.2.2.toNat] else cpy t.2.1.toNat t.1.toNat o)
theorem tk_at {M : Mem} {v : Value} {l : List Tk} {i : Nat} {r : Tk} (h : RowM M v 3 (l.map encT)) (hx : l[i]? = some r) :
    ((elE M v 3 i 0 = .int .i64 r.1 ∧ okE M v 3 i 0) ∧ (elE M v 3 i 1 = .int .i64 r.2.1 ∧ okE M v 3 i 1)) ∧ (elE M v 3 i 2 = .int .i64 r.2.2 ∧ okE M v 3 i 2) ∧ ixOk v (i : Int) := by
  have he : (l.map encT)[i]? = some (encT r) := by rw [List.getElem?_map, hx]; rfl
  have g0 := h.cell he (off := 0) (by omega)
  have g1 := h.cell he (off := 1) (by omega)
  have g2 := h.cell he (off := 2) (by omega)
  have hi := (List.getElem?_eq_some_iff.1 hx).1
  exact ⟨⟨⟨g0.1, g0.2.1⟩, ⟨g1.1, g1.2.1⟩⟩, ⟨g2.1, g2.2.1⟩, h.ix (i := (i : Int)) (by omega) (by rw [List.length_map]; omega)⟩
theorem expand (y : Value) (l : List Tk) (M : Mem) (hy : RowM M y 3 (l.map encT)) :
    Meets Proofs.Tryd.prog 24 [.v y] M fun r _ _ => r = .tup [.v (.string ⟨(exp l []).1.toArray⟩), .v (.int .i64 (exp l []).2)] := by
  refine Meets.of_body [0,2,3,4,6,7,8,9,10,15,20,27,30,38,39,40] Proofs.Tryd.func24 rfl (by kernel_rfl) rfl fun w => ?_
  generalize hc : exp l [] = c
  have hyl := hy.len_le
  rw [List.length_map] at hyl
  simp only [Proofs.Tryd.f24, shs, zts, sos, sls, zss, eqs, sx, sb1, sb2, sb3, sb4, sb5, sb6, sb7, ↓reduceIte, Nat.reduceAdd, Nat.reduceMul, Nat.reduceDiv, Nat.reduceEqDiff, Nat.reduceLT, Nat.reduceLeDiff, reduceCtorEq, Int.reduceEq, Int.reduceNe, Int.reduceLT, Int.reduceLE, Int.reduceAdd, Int.reduceSub, Int.reduceMul, Int.reduceNeg, Int.reduceToNat, Int.cast_ofNat_Int, Int.natCast_zero, Int.natCast_one, Int.toNat_natCast, Nat.reduceBEq, nzs, hy.len, hy.sl, List.length_map]
  refine LoopK.nilRow 4 51 1 rfl rfl rfl ?_
  refine LoopK.go (X := Nat × Nat × List UInt8) (fun x => ([(0, true, .v y), (4, true, .own 408), (7, true, .v y), (8, true, .v (.int .i64 l.length)), (9, true, .v (.int .i64 (x.2.1 : Int)))], [(408, .row 1 (x.2.2.map encB))], M))
    (fun x => (x.1 + x.2.1 = l.length ∧ x.2.2.length ≤ 600) ∧ exp (l.drop x.2.1) x.2.2 = c) (fun x => x.1) (l.length, 0, []) ⟨⟨rfl, Nat.zero_le _⟩, hc⟩ (Ent.of ?_) ?_
  · simp only [sx, sb1, sb2, sb3, sb4, sb5, sb6, sb7, ↓reduceIte, Nat.reduceAdd, Nat.reduceMul, Nat.reduceDiv, Nat.reduceEqDiff, Nat.reduceLT, Nat.reduceLeDiff, reduceCtorEq, Int.reduceEq, Int.reduceNe, Int.reduceLT, Int.reduceLE, Int.reduceAdd, Int.reduceSub, Int.reduceMul, Int.reduceNeg, Int.reduceToNat, Int.cast_ofNat_Int, Int.natCast_zero, Int.natCast_one, Int.toNat_natCast, Nat.reduceBEq, List.map_nil, Int.natCast_zero]
  rintro ⟨f, i, o⟩ ⟨⟨h1, ho⟩, h2⟩
  simp only at h1 h2 ho
  have hol : ((o.map encB).length : Int) = (o.length : Int) := by rw [List.length_map]
  by_cases hil : i < l.length
  rotate_left
  · have d1 : ((i : Int) < (l.length : Int)) = False := eq_false (by omega)
    rw [List.drop_eq_nil_of_le (by omega)] at h2
    simp only [exp] at h2
    subst h2
    have hmb : (o.map encB).map byteOf = o := by
      rw [List.map_map]
      have : byteOf ∘ encB = id := funext fun b => by
        show UInt8.ofNat ((b.toNat : Int).toNat) = b
        rw [Int.toNat_natCast]
        exact UInt8.ofNat_toNat
      rw [this, List.map_id]
    have hu8 : u8s (o.map encB) := by
      have hgen : ∀ o : List UInt8, u8s (o.map encB) := fun o => by
        induction o with
        | nil => trivial
        | cons b o ih => exact ih
      exact hgen o
    simp only [shs, zts, sos, sls, zss, eqs, sx, sb1, sb2, sb3, sb4, sb5, sb6, sb7, ↓reduceIte, Nat.reduceAdd, Nat.reduceMul, Nat.reduceDiv, Nat.reduceEqDiff, Nat.reduceLT, Nat.reduceLeDiff, reduceCtorEq, Int.reduceEq, Int.reduceNe, Int.reduceLT, Int.reduceLE, Int.reduceAdd, Int.reduceSub, Int.reduceMul, Int.reduceNeg, Int.reduceToNat, Int.cast_ofNat_Int, Int.natCast_zero, Int.natCast_one, Int.toNat_natCast, Nat.reduceBEq, nzs, d1, hmb]
    exact hu8
  have d1 : ((i : Int) < (l.length : Int)) = True := eq_true (by omega)
  obtain ⟨t, hx, hd⟩ := l_drop_at (l := l) (i := i) hil
  obtain ⟨⟨g0, g1⟩, g2, i0⟩ := tk_at hy hx
  rw [hd] at h2
  simp only [exp] at h2
  simp only [shs, zts, sos, sls, zss, eqs, sx, sb1, sb2, sb3, sb4, sb5, sb6, sb7, ↓reduceIte, Nat.reduceAdd, Nat.reduceMul, Nat.reduceDiv, Nat.reduceEqDiff, Nat.reduceLT, Nat.reduceLeDiff, reduceCtorEq, Int.reduceEq, Int.reduceNe, Int.reduceLT, Int.reduceLE, Int.reduceAdd, Int.reduceSub, Int.reduceMul, Int.reduceNeg, Int.reduceToNat, Int.cast_ofNat_Int, Int.natCast_zero, Int.natCast_one, Int.toNat_natCast, Nat.reduceBEq, nzs, d1, i0, i0.2, g0.1, g0.2, g1.1, g1.2, g2.1, g2.2]
  refine CallK.pure ⟨rfl, rfl⟩ rfl (one t M) ?_
  cases hB : tkB t with
  | false =>
    rw [if_pos hB] at h2
    subst h2
    simp only [shs, zts, sos, sls, zss, eqs, sx, sb1, sb2, sb3, sb4, sb5, sb6, sb7, ↓reduceIte, Nat.reduceAdd, Nat.reduceMul, Nat.reduceDiv, Nat.reduceEqDiff, Nat.reduceLT, Nat.reduceLeDiff, reduceCtorEq, Int.reduceEq, Int.reduceNe, Int.reduceLT, Int.reduceLE, Int.reduceAdd, Int.reduceSub, Int.reduceMul, Int.reduceNeg, Int.reduceToNat, Int.cast_ofNat_Int, Int.natCast_zero, Int.natCast_one, Int.toNat_natCast, Nat.reduceBEq, nzs]
  | true =>
  rw [if_neg (by rw [hB]; decide)] at h2
  by_cases k1 : (o.length : Int) < t.1
  · rw [if_pos k1] at h2
    subst h2
    have c1 := eq_true k1
    simp only [shs, zts, sos, sls, zss, eqs, sx, sb1, sb2, sb3, sb4, sb5, sb6, sb7, ↓reduceIte, Nat.reduceAdd, Nat.reduceMul, Nat.reduceDiv, Nat.reduceEqDiff, Nat.reduceLT, Nat.reduceLeDiff, reduceCtorEq, Int.reduceEq, Int.reduceNe, Int.reduceLT, Int.reduceLE, Int.reduceAdd, Int.reduceSub, Int.reduceMul, Int.reduceNeg, Int.reduceToNat, Int.cast_ofNat_Int, Int.natCast_zero, Int.natCast_one, Int.toNat_natCast, Nat.reduceBEq, nzs, hol, c1]
  rw [if_neg k1] at h2
  have c1 := eq_false k1
  have hr : 0 ≤ t.2.1 ∧ t.2.1 ≤ 64 ∧ 0 ≤ t.1 := by
    unfold tkB at hB
    split at hB
    · simp only [decide_eq_true_eq] at hB; omega
    · simp only [decide_eq_true_eq] at hB; omega
  obtain ⟨td, tn, tb⟩ := t
  simp only at g0 g1 g2 h2 c1 k1 hr
  by_cases hn : tn = 0
  · subst hn
    have hb : 0 ≤ tb ∧ tb < 256 := by
      unfold tkB at hB
      simp only [if_true, decide_eq_true_eq] at hB
      omega
    have hm : max (1 : Int) 0 = 1 := rfl
    rw [hm] at h2
    by_cases k2 : 600 < (o.length : Int) + 1
    · rw [if_pos k2] at h2
      subst h2
      have c2 := eq_true k2
      simp only [shs, zts, sos, sls, zss, eqs, sx, sb1, sb2, sb3, sb4, sb5, sb6, sb7, ↓reduceIte, Nat.reduceAdd, Nat.reduceMul, Nat.reduceDiv, Nat.reduceEqDiff, Nat.reduceLT, Nat.reduceLeDiff, reduceCtorEq, Int.reduceEq, Int.reduceNe, Int.reduceLT, Int.reduceLE, Int.reduceAdd, Int.reduceSub, Int.reduceMul, Int.reduceNeg, Int.reduceToNat, Int.cast_ofNat_Int, Int.natCast_zero, Int.natCast_one, Int.toNat_natCast, Nat.reduceBEq, nzs, hol, c1, hm, c2, inK, lo, hi]
      omega
    rw [if_neg k2] at h2
    have c2 := eq_false k2
    have w8 : IntKind.u8.wrap tb = tb := wrap_in (k := .u8) ⟨by simp only [lo]; omega, by simp only [hi]; omega⟩
    have hap : o.map encB ++ [[.int .u8 tb]] = (o ++ [UInt8.ofNat tb.toNat]).map encB := by
      rw [List.map_append, List.map_singleton]
      unfold encB
      rw [UInt8.toNat_ofNat', Nat.mod_eq_of_lt (by omega), Int.toNat_of_nonneg hb.1]
    simp only [shs, zts, sos, sls, zss, eqs, sx, sb1, sb2, sb3, sb4, sb5, sb6, sb7, ↓reduceIte, Nat.reduceAdd, Nat.reduceMul, Nat.reduceDiv, Nat.reduceEqDiff, Nat.reduceLT, Nat.reduceLeDiff, reduceCtorEq, Int.reduceEq, Int.reduceNe, Int.reduceLT, Int.reduceLE, Int.reduceAdd, Int.reduceSub, Int.reduceMul, Int.reduceNeg, Int.reduceToNat, Int.cast_ofNat_Int, Int.natCast_zero, Int.natCast_one, Int.toNat_natCast, Nat.reduceBEq, nzs, hol, c1, hm, c2, w8, hap, inK, lo, hi]
    rw [List.length_map]
    refine ⟨by omega, by omega, ?_⟩
    refine LoopK.go (X := Unit) (fun _ => ([(0, true, .v y), (4, true, .own 288), (7, true, .v y), (8, true, .v (.int .i64 l.length)), (9, true, .v (.int .i64 (i : Int))), (38, true, .v (.int .i64 0)), (39, true, .v (.int .i64 0))], [(288, .row 1 ((o ++ [UInt8.ofNat tb.toNat]).map encB))], M))
      (fun _ => True) (fun _ => 0) () trivial (Ent.of ?_) ?_
    · simp only [sx, sb1, sb2, sb3, sb4, sb5, sb6, sb7, ↓reduceIte, Nat.reduceAdd, Nat.reduceMul, Nat.reduceDiv, Nat.reduceEqDiff, Nat.reduceLT, Nat.reduceLeDiff, reduceCtorEq, Int.reduceEq, Int.reduceNe, Int.reduceLT, Int.reduceLE, Int.reduceAdd, Int.reduceSub, Int.reduceMul, Int.reduceNeg, Int.reduceToNat, Int.cast_ofNat_Int, Int.natCast_zero, Int.natCast_one, Int.toNat_natCast, Nat.reduceBEq]
    intro _ _
    simp only [shs, zts, sos, sls, zss, eqs, sx, sb1, sb2, sb3, sb4, sb5, sb6, sb7, ↓reduceIte, Nat.reduceAdd, Nat.reduceMul, Nat.reduceDiv, Nat.reduceEqDiff, Nat.reduceLT, Nat.reduceLeDiff, reduceCtorEq, Int.reduceEq, Int.reduceNe, Int.reduceLT, Int.reduceLE, Int.reduceAdd, Int.reduceSub, Int.reduceMul, Int.reduceNeg, Int.reduceToNat, Int.cast_ofNat_Int, Int.natCast_zero, Int.natCast_one, Int.toNat_natCast, Nat.reduceBEq, nzs, inK, lo, hi, Int.lt_irrefl]
    refine ⟨by omega, (f - 1, i + 1, o ++ [UInt8.ofNat tb.toNat]), ⟨⟨⟨by simp only; omega, by simp only [List.length_append, List.length_singleton]; omega⟩, h2⟩, by simp only; omega⟩, Ent.rekey 4 51 288 1 _ rfl rfl rfl rfl (Ent.of ?_)⟩
    simp only [sx, sb1, sb2, sb3, sb4, sb5, sb6, sb7, ↓reduceIte, Nat.reduceAdd, Nat.reduceMul, Nat.reduceDiv, Nat.reduceEqDiff, Nat.reduceLT, Nat.reduceLeDiff, reduceCtorEq, Int.reduceEq, Int.reduceNe, Int.reduceLT, Int.reduceLE, Int.reduceAdd, Int.reduceSub, Int.reduceMul, Int.reduceNeg, Int.reduceToNat, Int.cast_ofNat_Int, Int.natCast_zero, Int.natCast_one, Int.toNat_natCast, Nat.reduceBEq, Int.natCast_add]
  obtain ⟨n, rfl⟩ : ∃ n : Nat, tn = n := ⟨tn.toNat, by omega⟩
  obtain ⟨d, rfl⟩ : ∃ d : Nat, td = d := ⟨td.toNat, by omega⟩
  have hn1 : n ≠ 0 := by omega
  have hd1 : 1 ≤ d := by
    unfold tkB at hB
    rw [if_neg (by simp only; omega), decide_eq_true_eq] at hB
    omega
  have hm : max (1 : Int) (n : Int) = (n : Int) := by omega
  rw [hm, if_neg (show ¬ ((d : Int), (n : Int), tb).2.1 = 0 from hn)] at h2
  have c0 := eq_false hn
  by_cases k2 : 600 < (o.length : Int) + (n : Int)
  · rw [if_pos k2] at h2
    subst h2
    have c2 := eq_true k2
    simp only [shs, zts, sos, sls, zss, eqs, sx, sb1, sb2, sb3, sb4, sb5, sb6, sb7, ↓reduceIte, Nat.reduceAdd, Nat.reduceMul, Nat.reduceDiv, Nat.reduceEqDiff, Nat.reduceLT, Nat.reduceLeDiff, reduceCtorEq, Int.reduceEq, Int.reduceNe, Int.reduceLT, Int.reduceLE, Int.reduceAdd, Int.reduceSub, Int.reduceMul, Int.reduceNeg, Int.reduceToNat, Int.cast_ofNat_Int, Int.natCast_zero, Int.natCast_one, Int.toNat_natCast, Nat.reduceBEq, nzs, hol, c1, hm, c2, c0, inK, lo, hi]
    omega
  rw [if_neg k2] at h2
  have c2 := eq_false k2
  simp only [shs, zts, sos, sls, zss, eqs, sx, sb1, sb2, sb3, sb4, sb5, sb6, sb7, ↓reduceIte, Nat.reduceAdd, Nat.reduceMul, Nat.reduceDiv, Nat.reduceEqDiff, Nat.reduceLT, Nat.reduceLeDiff, reduceCtorEq, Int.reduceEq, Int.reduceNe, Int.reduceLT, Int.reduceLE, Int.reduceAdd, Int.reduceSub, Int.reduceMul, Int.reduceNeg, Int.reduceToNat, Int.cast_ofNat_Int, Int.natCast_zero, Int.natCast_one, Int.toNat_natCast, Nat.reduceBEq, nzs, hol, c1, hm, c2, c0, inK, lo, hi, Int.toNat_natCast] at h2 ⊢
  refine ⟨by omega, ?_⟩
  refine LoopK.go (X := Nat × Nat × List UInt8) (fun x => ([(0, true, .v y), (4, true, .own 408), (6, true, .ptr 48 0 0 0), (7, true, .v y), (8, true, .v (.int .i64 l.length)), (9, true, .v (.int .i64 (i : Int))), (38, true, .v (.int .i64 (n : Int))), (39, true, .v (.int .i64 (x.2.1 : Int)))], [(48, .box [.v (.int .i64 (d : Int)), .v (.int .i64 (n : Int)), .v (.int .i64 tb)] none), (408, .row 1 (x.2.2.map encB))], M))
    (fun x => (x.1 + x.2.1 = n ∧ x.2.2.length = o.length + x.2.1) ∧ cpy x.1 d x.2.2 = cpy n d o) (fun x => x.1) (n, 0, o) ⟨⟨rfl, rfl⟩, rfl⟩ (Ent.of ?_) ?_
  · simp only [sx, sb1, sb2, sb3, sb4, sb5, sb6, sb7, ↓reduceIte, Nat.reduceAdd, Nat.reduceMul, Nat.reduceDiv, Nat.reduceEqDiff, Nat.reduceLT, Nat.reduceLeDiff, reduceCtorEq, Int.reduceEq, Int.reduceNe, Int.reduceLT, Int.reduceLE, Int.reduceAdd, Int.reduceSub, Int.reduceMul, Int.reduceNeg, Int.reduceToNat, Int.cast_ofNat_Int, Int.natCast_zero, Int.natCast_one, Int.toNat_natCast, Nat.reduceBEq, Int.natCast_zero]
  rintro ⟨g, k, p⟩ ⟨⟨m1, m2⟩, m3⟩
  simp only at m1 m2 m3
  have hpl : ((p.map encB).length : Int) = (p.length : Int) := by rw [List.length_map]
  have k3 : d ≤ o.length := by omega
  by_cases hkn : k < n
  · have d2 : ((k : Int) < (n : Int)) = True := eq_true (by omega)
    have e1 : (p.length : Int) - (d : Int) = ((p.length - d : Nat) : Int) := by omega
    obtain ⟨g1', rfl⟩ : ∃ g1, g = g1 + 1 := ⟨g - 1, by omega⟩
    obtain ⟨b, hb1, _⟩ := l_drop_at (l := p) (i := p.length - d) (by omega)
    have hes : (p.map encB)[p.length - d]? = some [.int .u8 (b.toNat : Int)] := by rw [List.getElem?_map, hb1]; rfl
    have hgd : p.getD (p.length - d) 0 = b := by rw [List.getD_eq_getElem?_getD, hb1]; rfl
    simp only [cpy, hgd] at m3
    have hge : ((p.map encB).getD (p.length - d) []).getD 0 undef = .int .u8 (b.toNat : Int) := by
      have h0 : (p.map encB).getD (p.length - d) [] = [.int .u8 (b.toNat : Int)] := by rw [List.getD_eq_getElem?_getD, hes]; rfl
      rw [h0]
      rfl
    have hap : p.map encB ++ [[.int .u8 (b.toNat : Int)]] = (p ++ [b]).map encB := by rw [List.map_append]; rfl
    simp only [shs, zts, sos, sls, zss, eqs, sx, sb1, sb2, sb3, sb4, sb5, sb6, sb7, ↓reduceIte, Nat.reduceAdd, Nat.reduceMul, Nat.reduceDiv, Nat.reduceEqDiff, Nat.reduceLT, Nat.reduceLeDiff, reduceCtorEq, Int.reduceEq, Int.reduceNe, Int.reduceLT, Int.reduceLE, Int.reduceAdd, Int.reduceSub, Int.reduceMul, Int.reduceNeg, Int.reduceToNat, Int.cast_ofNat_Int, Int.natCast_zero, Int.natCast_one, Int.toNat_natCast, Nat.reduceBEq, nzs, d2, hpl, e1, hge, hap, inK, lo, hi]
    rw [List.length_map]
    refine ⟨by omega, by omega, by omega, ⟨by omega, by omega⟩, by omega, (g1', k + 1, p ++ [b]), ⟨⟨⟨by simp only; omega, by simp only [List.length_append, List.length_singleton]; omega⟩, m3⟩, by simp only; omega⟩, Ent.of ?_⟩
    simp only [sx, sb1, sb2, sb3, sb4, sb5, sb6, sb7, ↓reduceIte, Nat.reduceAdd, Nat.reduceMul, Nat.reduceDiv, Nat.reduceEqDiff, Nat.reduceLT, Nat.reduceLeDiff, reduceCtorEq, Int.reduceEq, Int.reduceNe, Int.reduceLT, Int.reduceLE, Int.reduceAdd, Int.reduceSub, Int.reduceMul, Int.reduceNeg, Int.reduceToNat, Int.cast_ofNat_Int, Int.natCast_zero, Int.natCast_one, Int.toNat_natCast, Nat.reduceBEq, Int.natCast_add]
  · have d2 : ((k : Int) < (n : Int)) = False := eq_false (by omega)
    have hg : g = 0 := by omega
    subst hg
    simp only [cpy] at m3
    rw [← m3] at h2
    simp only [shs, zts, sos, sls, zss, eqs, sx, sb1, sb2, sb3, sb4, sb5, sb6, sb7, ↓reduceIte, Nat.reduceAdd, Nat.reduceMul, Nat.reduceDiv, Nat.reduceEqDiff, Nat.reduceLT, Nat.reduceLeDiff, reduceCtorEq, Int.reduceEq, Int.reduceNe, Int.reduceLT, Int.reduceLE, Int.reduceAdd, Int.reduceSub, Int.reduceMul, Int.reduceNeg, Int.reduceToNat, Int.cast_ofNat_Int, Int.natCast_zero, Int.natCast_one, Int.toNat_natCast, Nat.reduceBEq, nzs, d2, inK, lo, hi]
    refine ⟨by omega, (f - 1, i + 1, p), ⟨⟨⟨by simp only; omega, by simp only; omega⟩, h2⟩, by simp only; omega⟩, Ent.of ?_⟩
    simp only [sx, sb1, sb2, sb3, sb4, sb5, sb6, sb7, ↓reduceIte, Nat.reduceAdd, Nat.reduceMul, Nat.reduceDiv, Nat.reduceEqDiff, Nat.reduceLT, Nat.reduceLeDiff, reduceCtorEq, Int.reduceEq, Int.reduceNe, Int.reduceLT, Int.reduceLE, Int.reduceAdd, Int.reduceSub, Int.reduceMul, Int.reduceNeg, Int.reduceToNat, Int.cast_ofNat_Int, Int.natCast_zero, Int.natCast_one, Int.toNat_natCast, Nat.reduceBEq, Int.natCast_add]
end Go.X.Lz
