/- Queues: what the functions of package queue and woolref return. Conditions: none. -/
import Derived.Test.YtolifffhoahioaaSlT
set_option linter.unusedSimpArgs false
set_option linter.unusedVariables false
set_option maxHeartbeats 4000000
set_option maxRecDepth 20000
namespace Go.X.Qu
open Go Go.X Go.RowKit Go.X.Sl

def encQ (x : Int × Int) : List Value := [.int .i64 x.1, .int .i64 x.2]
def svQ (x : Int × Int) : SV := .agg [.v (.int .i64 x.1), .v (.int .i64 x.2)]
def oneB (x : Int × Int) : Bool := decide (0 ≤ x.1) && (decide (x.1 < 1000) && (decide (0 ≤ x.2) && decide (x.2 ≤ 2)))

theorem within (x a b : Int) (M : Mem) : Meets Proofs.Try.prog 50 [.v (.int .i64 x), .v (.int .i64 a), .v (.int .i64 b)] M fun r _ _ => r = .v (.bool (decide (a ≤ x ∧ x ≤ b))) := by
  refine Meets.of_body [0,1,2,6] Proofs.Try.func50 rfl (by kernel_rfl) rfl fun w => ?_
  simp only [Proofs.Try.f50, shs, zts, sos, sls, zss, eqs, sx, sb1, sb2, sb3, sb4, sb5, sb6, ↓reduceIte, Nat.reduceAdd, Nat.reduceMul, Nat.reduceDiv, Nat.reduceEqDiff, Nat.reduceLT, Nat.reduceLeDiff, reduceCtorEq, Int.reduceEq, Int.reduceNe, Int.reduceLT, Int.reduceLE, Int.reduceAdd, Int.reduceSub, Int.reduceMul, Int.reduceNeg, Int.reduceToNat, Int.cast_ofNat_Int, Int.natCast_zero, Int.natCast_one, Int.toNat_natCast, Nat.reduceBEq]
  by_cases h1 : a ≤ x <;> by_cases h2 : x ≤ b <;> simp [h1, h2]
theorem one (x : Int × Int) (M : Mem) : Meets Proofs.Try.prog 41 [svQ x] M fun r _ _ => r = .v (.bool (oneB x)) := by
  refine Meets.of_body [0,1,2] Proofs.Try.func41 rfl (by kernel_rfl) rfl fun w => ?_
  unfold oneB
  simp only [Proofs.Try.f41, svQ, shs, zts, sos, sls, zss, eqs, sx, sb1, sb2, sb3, sb4, sb5, sb6, ↓reduceIte, Nat.reduceAdd, Nat.reduceMul, Nat.reduceDiv, Nat.reduceEqDiff, Nat.reduceLT, Nat.reduceLeDiff, reduceCtorEq, Int.reduceEq, Int.reduceNe, Int.reduceLT, Int.reduceLE, Int.reduceAdd, Int.reduceSub, Int.reduceMul, Int.reduceNeg, Int.reduceToNat, Int.cast_ofNat_Int, Int.natCast_zero, Int.natCast_one, Int.toNat_natCast, Nat.reduceBEq, nzs]
  by_cases h1 : 0 ≤ x.1 <;> by_cases h2 : x.1 < 1000 <;> by_cases h3 : 0 ≤ x.2 <;> by_cases h4 : x.2 ≤ 2 <;> simp [h1, h2, h3, h4]
theorem task (x : Int × Int) (M : Mem) : Meets Proofs.Try.prog 16 [svQ x] M fun r _ _ => r = .v (.bool (oneB x)) := by
  refine Meets.of_body [0,1,2] Proofs.Try.func16 rfl (by kernel_rfl) rfl fun w => ?_
  unfold oneB
  simp only [Proofs.Try.f16, svQ, shs, zts, sos, sls, zss, eqs, sx, sb1, sb2, sb3, sb4, sb5, sb6, ↓reduceIte, Nat.reduceAdd, Nat.reduceMul, Nat.reduceDiv, Nat.reduceEqDiff, Nat.reduceLT, Nat.reduceLeDiff, reduceCtorEq, Int.reduceEq, Int.reduceNe, Int.reduceLT, Int.reduceLE, Int.reduceAdd, Int.reduceSub, Int.reduceMul, Int.reduceNeg, Int.reduceToNat, Int.cast_ofNat_Int, Int.natCast_zero, Int.natCast_one, Int.toNat_natCast, Nat.reduceBEq, nzs]
  refine CallK.pure ⟨rfl, rfl⟩ rfl (within x.1 0 999 M) ?_
  by_cases h1 : 0 ≤ x.1 ∧ x.1 ≤ 999
  · have e1 : decide (0 ≤ x.1 ∧ x.1 ≤ 999) = true := decide_eq_true h1
    have e2 : decide (0 ≤ x.1) = true := decide_eq_true h1.1
    have e3 : decide (x.1 < 1000) = true := decide_eq_true (by omega)
    simp only [shs, zts, sos, sls, zss, eqs, sx, sb1, sb2, sb3, sb4, sb5, sb6, ↓reduceIte, Nat.reduceAdd, Nat.reduceMul, Nat.reduceDiv, Nat.reduceEqDiff, Nat.reduceLT, Nat.reduceLeDiff, reduceCtorEq, Int.reduceEq, Int.reduceNe, Int.reduceLT, Int.reduceLE, Int.reduceAdd, Int.reduceSub, Int.reduceMul, Int.reduceNeg, Int.reduceToNat, Int.cast_ofNat_Int, Int.natCast_zero, Int.natCast_one, Int.toNat_natCast, Nat.reduceBEq, nzs, e1]
    refine CallK.pure ⟨rfl, rfl⟩ rfl (within x.2 0 2 M) ?_
    simp only [shs, zts, sos, sls, zss, eqs, sx, sb1, sb2, sb3, sb4, sb5, sb6, ↓reduceIte, Nat.reduceAdd, Nat.reduceMul, Nat.reduceDiv, Nat.reduceEqDiff, Nat.reduceLT, Nat.reduceLeDiff, reduceCtorEq, Int.reduceEq, Int.reduceNe, Int.reduceLT, Int.reduceLE, Int.reduceAdd, Int.reduceSub, Int.reduceMul, Int.reduceNeg, Int.reduceToNat, Int.cast_ofNat_Int, Int.natCast_zero, Int.natCast_one, Int.toNat_natCast, Nat.reduceBEq, nzs, e2, e3, Bool.true_and, Bool.decide_and]
  · have e1 : decide (0 ≤ x.1 ∧ x.1 ≤ 999) = false := decide_eq_false h1
    simp only [shs, zts, sos, sls, zss, eqs, sx, sb1, sb2, sb3, sb4, sb5, sb6, ↓reduceIte, Nat.reduceAdd, Nat.reduceMul, Nat.reduceDiv, Nat.reduceEqDiff, Nat.reduceLT, Nat.reduceLeDiff, reduceCtorEq, Int.reduceEq, Int.reduceNe, Int.reduceLT, Int.reduceLE, Int.reduceAdd, Int.reduceSub, Int.reduceMul, Int.reduceNeg, Int.reduceToNat, Int.cast_ofNat_Int, Int.natCast_zero, Int.natCast_one, Int.toNat_natCast, Nat.reduceBEq, nzs, e1]
    by_cases h2 : 0 ≤ x.1
    · rw [decide_eq_true h2, decide_eq_false (show ¬ x.1 < 1000 by omega)]; rfl
    · rw [decide_eq_false h2]; rfl

theorem idxQ {α : Type} (q0 q1 : α → Value) (p : α → Bool) (f : Nat) (caps : List SV) (hcaps : SV.concs caps = true) (y : Value) (l : List α) (M : Mem) (hy : RowM M y 2 (l.map (fun x => [q0 x, q1 x])))
    (hf : ∀ x ∈ l, Meets Proofs.Try.prog f (.agg [.v (q0 x), .v (q1 x)] :: caps) M fun r _ _ => r = .v (.bool (p x))) :
    Meets Proofs.Try.prog 45 [.v y, .fn f caps] M fun r _ _ => r = .v (.int .i64 (fidx p l 0)) := by
  refine Meets.of_body [0,1,4,5,7,8,9,16] Proofs.Try.func45 rfl (by kernel_rfl) (by simp only [SV.concs, SV.conc, hcaps, Bool.and_self]) fun w => ?_
  generalize hc : fidx p l 0 = c
  have hyl := hy.len_le
  rw [List.length_map] at hyl
  simp only [Proofs.Try.f45, shs, zts, sos, sls, zss, eqs, sx, sb1, sb2, sb3, sb4, sb5, sb6, ↓reduceIte, Nat.reduceAdd, Nat.reduceMul, Nat.reduceDiv, Nat.reduceEqDiff, Nat.reduceLT, Nat.reduceLeDiff, reduceCtorEq, Int.reduceEq, Int.reduceNe, Int.reduceLT, Int.reduceLE, Int.reduceAdd, Int.reduceSub, Int.reduceMul, Int.reduceNeg, Int.reduceToNat, Int.cast_ofNat_Int, Int.natCast_zero, Int.natCast_one, Int.toNat_natCast, Nat.reduceBEq, hy.len, hy.sl, List.length_map]
  refine LoopK.go (X := Nat × Nat) (fun x => ([(0, true, .v y), (1, true, .fn f caps), (7, true, .v (.int .i64 l.length)), (8, true, .v (.int .i64 x.2))], [], M))
    (fun x => x.1 + x.2 = l.length ∧ fidx p (l.drop x.2) x.2 = c) (fun x => x.1) (l.length, 0) ⟨rfl, hc⟩ (Ent.of ?_) ?_
  · simp only [sx, sb1, sb2, sb3, sb4, sb5, sb6, ↓reduceIte, Nat.reduceAdd, Nat.reduceMul, Nat.reduceDiv, Nat.reduceEqDiff, Nat.reduceLT, Nat.reduceLeDiff, reduceCtorEq, Int.reduceEq, Int.reduceNe, Int.reduceLT, Int.reduceLE, Int.reduceAdd, Int.reduceSub, Int.reduceMul, Int.reduceNeg, Int.reduceToNat, Int.cast_ofNat_Int, Int.natCast_zero, Int.natCast_one, Int.toNat_natCast, Nat.reduceBEq]
  rintro ⟨fu, i⟩ ⟨h1, h2⟩
  simp only at h1 h2
  by_cases hil : i < l.length
  · have c1 : ((i : Int) < (l.length : Int)) = True := eq_true (by omega)
    obtain ⟨a, hx, hd⟩ := l_drop_at (l := l) (i := i) hil
    rw [hd] at h2
    simp only [fidx] at h2
    have g0 := hy.cell (i := i) (e := [q0 a, q1 a]) (by rw [List.getElem?_map, hx]; rfl) (off := 0) (by omega)
    have g1 := hy.cell (i := i) (e := [q0 a, q1 a]) (by rw [List.getElem?_map, hx]; rfl) (off := 1) (by omega)
    have i0 := hy.ix (i := (i : Int)) (by omega) (by rw [List.length_map]; omega)
    simp only [List.getD_cons_zero, List.getD_cons_succ] at g0 g1
    simp only [shs, zts, sos, sls, zss, eqs, sx, sb1, sb2, sb3, sb4, sb5, sb6, ↓reduceIte, Nat.reduceAdd, Nat.reduceMul, Nat.reduceDiv, Nat.reduceEqDiff, Nat.reduceLT, Nat.reduceLeDiff, reduceCtorEq, Int.reduceEq, Int.reduceNe, Int.reduceLT, Int.reduceLE, Int.reduceAdd, Int.reduceSub, Int.reduceMul, Int.reduceNeg, Int.reduceToNat, Int.cast_ofNat_Int, Int.natCast_zero, Int.natCast_one, Int.toNat_natCast, Nat.reduceBEq, nzs, c1, hy.len, hy.sl, List.length_map, i0, i0.2, g0.1, g0.2.1, g1.1, g1.2.1]
    refine CallK.pure ⟨by simp only [SV.concs, SV.conc, hcaps, Bool.and_self], rfl⟩ rfl (hf a (List.mem_of_getElem? hx)) ?_
    cases hp : p a with
    | true =>
      rw [hp, if_pos rfl] at h2
      subst h2
      simp only [shs, zts, sos, sls, zss, eqs, sx, sb1, sb2, sb3, sb4, sb5, sb6, ↓reduceIte, Nat.reduceAdd, Nat.reduceMul, Nat.reduceDiv, Nat.reduceEqDiff, Nat.reduceLT, Nat.reduceLeDiff, reduceCtorEq, Int.reduceEq, Int.reduceNe, Int.reduceLT, Int.reduceLE, Int.reduceAdd, Int.reduceSub, Int.reduceMul, Int.reduceNeg, Int.reduceToNat, Int.cast_ofNat_Int, Int.natCast_zero, Int.natCast_one, Int.toNat_natCast, Nat.reduceBEq, nzs]
    | false =>
      rw [hp, if_neg (by simp)] at h2
      simp only [shs, zts, sos, sls, zss, eqs, sx, sb1, sb2, sb3, sb4, sb5, sb6, ↓reduceIte, Nat.reduceAdd, Nat.reduceMul, Nat.reduceDiv, Nat.reduceEqDiff, Nat.reduceLT, Nat.reduceLeDiff, reduceCtorEq, Int.reduceEq, Int.reduceNe, Int.reduceLT, Int.reduceLE, Int.reduceAdd, Int.reduceSub, Int.reduceMul, Int.reduceNeg, Int.reduceToNat, Int.cast_ofNat_Int, Int.natCast_zero, Int.natCast_one, Int.toNat_natCast, Nat.reduceBEq, nzs, inK, lo, hi]
      refine ⟨by omega, (fu - 1, i + 1), ⟨⟨by simp only; omega, h2⟩, by simp only; omega⟩, Ent.of ?_⟩
      simp only [sx, sb1, sb2, sb3, sb4, sb5, sb6, ↓reduceIte, Nat.reduceAdd, Nat.reduceMul, Nat.reduceDiv, Nat.reduceEqDiff, Nat.reduceLT, Nat.reduceLeDiff, reduceCtorEq, Int.reduceEq, Int.reduceNe, Int.reduceLT, Int.reduceLE, Int.reduceAdd, Int.reduceSub, Int.reduceMul, Int.reduceNeg, Int.reduceToNat, Int.cast_ofNat_Int, Int.natCast_zero, Int.natCast_one, Int.toNat_natCast, Nat.reduceBEq, Int.natCast_add]
  · have c1 : ((i : Int) < (l.length : Int)) = False := eq_false (by omega)
    have hd : l.drop i = [] := List.drop_eq_nil_of_le (by omega)
    rw [hd] at h2
    simp only [fidx] at h2
    subst h2
    simp only [shs, zts, sos, sls, zss, eqs, sx, sb1, sb2, sb3, sb4, sb5, sb6, ↓reduceIte, Nat.reduceAdd, Nat.reduceMul, Nat.reduceDiv, Nat.reduceEqDiff, Nat.reduceLT, Nat.reduceLeDiff, reduceCtorEq, Int.reduceEq, Int.reduceNe, Int.reduceLT, Int.reduceLE, Int.reduceAdd, Int.reduceSub, Int.reduceMul, Int.reduceNeg, Int.reduceToNat, Int.cast_ofNat_Int, Int.natCast_zero, Int.natCast_one, Int.toNat_natCast, Nat.reduceBEq, c1]

theorem ctsQ {α : Type} (q0 q1 : α → Value) (p : α → Bool) (f : Nat) (caps : List SV) (hcaps : SV.concs caps = true) (y : Value) (l : List α) (M : Mem) (hy : RowM M y 2 (l.map (fun x => [q0 x, q1 x])))
    (hf : ∀ x ∈ l, Meets Proofs.Try.prog f (.agg [.v (q0 x), .v (q1 x)] :: caps) M fun r _ _ => r = .v (.bool (p x))) :
    Meets Proofs.Try.prog 17 [.v y, .fn f caps] M fun r _ _ => r = .v (.bool (l.any p)) := by
  refine Meets.of_body [0,1,4] Proofs.Try.func17 rfl (by kernel_rfl) (by simp only [SV.concs, SV.conc, hcaps, Bool.and_self]) fun w => ?_
  simp only [Proofs.Try.f17, shs, zts, sos, sls, zss, eqs, sx, sb1, sb2, sb3, sb4, sb5, sb6, ↓reduceIte, Nat.reduceAdd, Nat.reduceMul, Nat.reduceDiv, Nat.reduceEqDiff, Nat.reduceLT, Nat.reduceLeDiff, reduceCtorEq, Int.reduceEq, Int.reduceNe, Int.reduceLT, Int.reduceLE, Int.reduceAdd, Int.reduceSub, Int.reduceMul, Int.reduceNeg, Int.reduceToNat, Int.cast_ofNat_Int, Int.natCast_zero, Int.natCast_one, Int.toNat_natCast, Nat.reduceBEq]
  refine CallK.pure ⟨by simp only [SV.concs, SV.conc, hcaps, Bool.and_self], rfl⟩ rfl (idxQ q0 q1 p f caps hcaps y l M hy hf) ?_
  rw [← fidx_any p l 0]
  simp only [shs, zts, sos, sls, zss, eqs, sx, sb1, sb2, sb3, sb4, sb5, sb6, ↓reduceIte, Nat.reduceAdd, Nat.reduceMul, Nat.reduceDiv, Nat.reduceEqDiff, Nat.reduceLT, Nat.reduceLeDiff, reduceCtorEq, Int.reduceEq, Int.reduceNe, Int.reduceLT, Int.reduceLE, Int.reduceAdd, Int.reduceSub, Int.reduceMul, Int.reduceNeg, Int.reduceToNat, Int.cast_ofNat_Int, Int.natCast_zero, Int.natCast_one, Int.toNat_natCast, Nat.reduceBEq]

theorem cloneQ (u : Value) (l : List (Int × Int)) (M : Mem) (hu : RowM M u 2 (l.map encQ)) (hb : l.length ≤ 1000000) :
    Meets Proofs.Try.prog 43 [.v u] M (OwnR (fun s => s) 2 (l.map encQ)) := by
  obtain ⟨r1, r2⟩ := hu.rows (by omega)
  cases hs : someV u with
  | true =>
    refine Meets.of_body [0,2,4] Proofs.Try.func43 rfl (by kernel_rfl) rfl fun w => ?_
    simp only [Proofs.Try.f43, shs, zts, sos, sls, zss, eqs, sx, sb1, sb2, sb3, sb4, sb5, sb6, ↓reduceIte, Nat.reduceAdd, Nat.reduceMul, Nat.reduceDiv, Nat.reduceEqDiff, Nat.reduceLT, Nat.reduceLeDiff, reduceCtorEq, Int.reduceEq, Int.reduceNe, Int.reduceLT, Int.reduceLE, Int.reduceAdd, Int.reduceSub, Int.reduceMul, Int.reduceNeg, Int.reduceToNat, Int.cast_ofNat_Int, Int.natCast_zero, Int.natCast_one, Int.toNat_natCast, Nat.reduceBEq, hu.sl, hs, r1, List.length_map]
    exact ⟨⟨by omega, r2⟩, 56, rfl, rfl⟩
  | false =>
    have hn : l = [] := by
      cases l with
      | nil => rfl
      | cons a r => have := hu.2.1 (by simp); rw [hs] at this; cases this
    subst hn
    refine Meets.nilOwn ?_
    refine Meets.of_body [0,2,4] Proofs.Try.func43 rfl (by kernel_rfl) rfl fun w => ?_
    simp only [Proofs.Try.f43, shs, zts, sos, sls, zss, eqs, sx, sb1, sb2, sb3, sb4, sb5, sb6, ↓reduceIte, Nat.reduceAdd, Nat.reduceMul, Nat.reduceDiv, Nat.reduceEqDiff, Nat.reduceLT, Nat.reduceLeDiff, reduceCtorEq, Int.reduceEq, Int.reduceNe, Int.reduceLT, Int.reduceLE, Int.reduceAdd, Int.reduceSub, Int.reduceMul, Int.reduceNeg, Int.reduceToNat, Int.cast_ofNat_Int, Int.natCast_zero, Int.natCast_one, Int.toNat_natCast, Nat.reduceBEq, hu.sl, hs]

theorem eqQ (x y : Value) (l m : List (Int × Int)) (M : Mem) (hx : RowM M x 2 (l.map encQ)) (hy : RowM M y 2 (m.map encQ)) :
    Meets Proofs.Try.prog 14 [.v x, .v y] M fun r _ _ => r = .v (.bool (decide (l = m))) := by
  refine Meets.of_body [0,1,4,5,10,12,13,14,24] Proofs.Try.func14 rfl (by kernel_rfl) rfl fun w => ?_
  simp only [Proofs.Try.f14, shs, zts, sos, sls, zss, eqs, sx, sb1, sb2, sb3, sb4, sb5, sb6, ↓reduceIte, Nat.reduceAdd, Nat.reduceMul, Nat.reduceDiv, Nat.reduceEqDiff, Nat.reduceLT, Nat.reduceLeDiff, reduceCtorEq, Int.reduceEq, Int.reduceNe, Int.reduceLT, Int.reduceLE, Int.reduceAdd, Int.reduceSub, Int.reduceMul, Int.reduceNeg, Int.reduceToNat, Int.cast_ofNat_Int, Int.natCast_zero, Int.natCast_one, Int.toNat_natCast, Nat.reduceBEq, hx.len, hy.len, hx.sl, hy.sl, List.length_map]
  refine ⟨fun h => ?_, fun h => ?_⟩
  · rw [decide_eq_false (fun e => h (by rw [e]))]
  have hlen : l.length = m.length := by omega
  have hle := hx.len_le
  rw [List.length_map] at hle
  refine LoopK.go (X := Nat × Nat) (fun p => ([(0, true, .v x), (1, true, .v y), (4, true, .v (.bool false)), (12, true, .v (.int .i64 l.length)), (13, true, .v (.int .i64 p.2))], [], M))
    (fun p => p.1 + p.2 = l.length ∧ (l = m ↔ l.drop p.2 = m.drop p.2)) (fun p => p.1) (l.length, 0) ⟨rfl, Iff.rfl⟩ (Ent.of ?_) ?_
  · simp only [sx, sb1, sb2, sb3, sb4, sb5, sb6, ↓reduceIte, Nat.reduceAdd, Nat.reduceMul, Nat.reduceDiv, Nat.reduceEqDiff, Nat.reduceLT, Nat.reduceLeDiff, reduceCtorEq, Int.reduceEq, Int.reduceNe, Int.reduceLT, Int.reduceLE, Int.reduceAdd, Int.reduceSub, Int.reduceMul, Int.reduceNeg, Int.reduceToNat, Int.cast_ofNat_Int, Int.natCast_zero, Int.natCast_one, Int.toNat_natCast, Nat.reduceBEq]
  rintro ⟨f, i⟩ ⟨h1, h2⟩
  simp only at h1 h2
  simp only [shs, zts, sos, sls, zss, eqs, sx, sb1, sb2, sb3, sb4, sb5, sb6, ↓reduceIte, Nat.reduceAdd, Nat.reduceMul, Nat.reduceDiv, Nat.reduceEqDiff, Nat.reduceLT, Nat.reduceLeDiff, reduceCtorEq, Int.reduceEq, Int.reduceNe, Int.reduceLT, Int.reduceLE, Int.reduceAdd, Int.reduceSub, Int.reduceMul, Int.reduceNeg, Int.reduceToNat, Int.cast_ofNat_Int, Int.natCast_zero, Int.natCast_one, Int.toNat_natCast, Nat.reduceBEq]
  refine ⟨fun h3 => ?_, fun h3 => ?_⟩
  · obtain ⟨⟨a0, a1⟩, hl, hd⟩ := l_drop_at (l := l) (i := i) (by omega)
    obtain ⟨⟨b0, b1⟩, hm, hd2⟩ := l_drop_at (l := m) (i := i) (by omega)
    have g0 := hx.cell (i := i) (e := [.int .i64 a0, .int .i64 a1]) (by rw [List.getElem?_map, hl]; rfl) (off := 0) (by omega)
    have k0 := hy.cell (i := i) (e := [.int .i64 b0, .int .i64 b1]) (by rw [List.getElem?_map, hm]; rfl) (off := 0) (by omega)
    have g1 := hx.cell (i := i) (e := [.int .i64 a0, .int .i64 a1]) (by rw [List.getElem?_map, hl]; rfl) (off := 1) (by omega)
    have k1 := hy.cell (i := i) (e := [.int .i64 b0, .int .i64 b1]) (by rw [List.getElem?_map, hm]; rfl) (off := 1) (by omega)
    have i1 := hx.ix (i := (i : Int)) (by omega) (by rw [List.length_map]; omega)
    have i2 := hy.ix (i := (i : Int)) (by omega) (by rw [List.length_map]; omega)
    simp only [List.getD_cons_zero, List.getD_cons_succ] at g0 k0 g1 k1
    refine DrawK.quiet (by kernel_rfl) (by kernel_rfl) ?_
    simp only [shs, zts, sos, sls, zss, eqs, sx, sb1, sb2, sb3, sb4, sb5, sb6, ↓reduceIte, Nat.reduceAdd, Nat.reduceMul, Nat.reduceDiv, Nat.reduceEqDiff, Nat.reduceLT, Nat.reduceLeDiff, reduceCtorEq, Int.reduceEq, Int.reduceNe, Int.reduceLT, Int.reduceLE, Int.reduceAdd, Int.reduceSub, Int.reduceMul, Int.reduceNeg, Int.reduceToNat, Int.cast_ofNat_Int, Int.natCast_zero, Int.natCast_one, Int.toNat_natCast, Nat.reduceBEq, nzs, g0.1, g0.2.1, k0.1, k0.2.1, g1.1, g1.2.1, k1.1, k1.2.1, i1, i2, i1.2, i2.2, hx.len, hy.len, hx.sl, hy.sl, inK, lo, hi, List.toArray_eq_iff]
    refine ⟨fun hne => ?_, fun he => ⟨by omega, (f - 1, i + 1), ⟨⟨by simp only; omega, ?_⟩, by simp only; omega⟩, Ent.of ?_⟩⟩
    · rw [decide_eq_false (fun e => ?_)]
      have := h2.1 e
      rw [hd, hd2] at this
      have := (List.cons.inj this).1
      simp_all
    · have e12 : (a0, a1) = (b0, b1) := by simp_all
      simp only
      rw [h2, hd, hd2, e12]
      exact ⟨fun e => (List.cons.inj e).2, fun e => by rw [e]⟩
    · simp only [sx, sb1, sb2, sb3, sb4, sb5, sb6, ↓reduceIte, Nat.reduceAdd, Nat.reduceMul, Nat.reduceDiv, Nat.reduceEqDiff, Nat.reduceLT, Nat.reduceLeDiff, reduceCtorEq, Int.reduceEq, Int.reduceNe, Int.reduceLT, Int.reduceLE, Int.reduceAdd, Int.reduceSub, Int.reduceMul, Int.reduceNeg, Int.reduceToNat, Int.cast_ofNat_Int, Int.natCast_zero, Int.natCast_one, Int.toNat_natCast, Nat.reduceBEq, Int.natCast_add]
  · have : i = l.length := by omega
    rw [decide_eq_true (h2.2 (by rw [List.drop_eq_nil_of_le (by omega), List.drop_eq_nil_of_le (by omega)]))]

theorem eqI (x y : Value) (l m : List (Int)) (M : Mem) (hx : RowM M x 1 (l.map encI)) (hy : RowM M y 1 (m.map encI)) :
    Meets Proofs.Try.prog 13 [.v x, .v y] M fun r _ _ => r = .v (.bool (decide (l = m))) := by
  refine Meets.of_body [0,1,4,5,10,12,13,14,24] Proofs.Try.func13 rfl (by kernel_rfl) rfl fun w => ?_
  simp only [Proofs.Try.f13, shs, zts, sos, sls, zss, eqs, sx, sb1, sb2, sb3, sb4, sb5, sb6, ↓reduceIte, Nat.reduceAdd, Nat.reduceMul, Nat.reduceDiv, Nat.reduceEqDiff, Nat.reduceLT, Nat.reduceLeDiff, reduceCtorEq, Int.reduceEq, Int.reduceNe, Int.reduceLT, Int.reduceLE, Int.reduceAdd, Int.reduceSub, Int.reduceMul, Int.reduceNeg, Int.reduceToNat, Int.cast_ofNat_Int, Int.natCast_zero, Int.natCast_one, Int.toNat_natCast, Nat.reduceBEq, hx.len, hy.len, hx.sl, hy.sl, List.length_map]
  refine ⟨fun h => ?_, fun h => ?_⟩
  · rw [decide_eq_false (fun e => h (by rw [e]))]
  have hlen : l.length = m.length := by omega
  have hle := hx.len_le
  rw [List.length_map] at hle
  refine LoopK.go (X := Nat × Nat) (fun p => ([(0, true, .v x), (1, true, .v y), (4, true, .v (.bool false)), (12, true, .v (.int .i64 l.length)), (13, true, .v (.int .i64 p.2))], [], M))
    (fun p => p.1 + p.2 = l.length ∧ (l = m ↔ l.drop p.2 = m.drop p.2)) (fun p => p.1) (l.length, 0) ⟨rfl, Iff.rfl⟩ (Ent.of ?_) ?_
  · simp only [sx, sb1, sb2, sb3, sb4, sb5, sb6, ↓reduceIte, Nat.reduceAdd, Nat.reduceMul, Nat.reduceDiv, Nat.reduceEqDiff, Nat.reduceLT, Nat.reduceLeDiff, reduceCtorEq, Int.reduceEq, Int.reduceNe, Int.reduceLT, Int.reduceLE, Int.reduceAdd, Int.reduceSub, Int.reduceMul, Int.reduceNeg, Int.reduceToNat, Int.cast_ofNat_Int, Int.natCast_zero, Int.natCast_one, Int.toNat_natCast, Nat.reduceBEq]
  rintro ⟨f, i⟩ ⟨h1, h2⟩
  simp only at h1 h2
  simp only [shs, zts, sos, sls, zss, eqs, sx, sb1, sb2, sb3, sb4, sb5, sb6, ↓reduceIte, Nat.reduceAdd, Nat.reduceMul, Nat.reduceDiv, Nat.reduceEqDiff, Nat.reduceLT, Nat.reduceLeDiff, reduceCtorEq, Int.reduceEq, Int.reduceNe, Int.reduceLT, Int.reduceLE, Int.reduceAdd, Int.reduceSub, Int.reduceMul, Int.reduceNeg, Int.reduceToNat, Int.cast_ofNat_Int, Int.natCast_zero, Int.natCast_one, Int.toNat_natCast, Nat.reduceBEq]
  refine ⟨fun h3 => ?_, fun h3 => ?_⟩
  · obtain ⟨a0, hl, hd⟩ := l_drop_at (l := l) (i := i) (by omega)
    obtain ⟨b0, hm, hd2⟩ := l_drop_at (l := m) (i := i) (by omega)
    have g0 := hx.cell (i := i) (e := [.int .i64 a0]) (by rw [List.getElem?_map, hl]; rfl) (off := 0) (by omega)
    have k0 := hy.cell (i := i) (e := [.int .i64 b0]) (by rw [List.getElem?_map, hm]; rfl) (off := 0) (by omega)
    have i1 := hx.ix (i := (i : Int)) (by omega) (by rw [List.length_map]; omega)
    have i2 := hy.ix (i := (i : Int)) (by omega) (by rw [List.length_map]; omega)
    simp only [List.getD_cons_zero, List.getD_cons_succ] at g0 k0
    refine DrawK.quiet (by kernel_rfl) (by kernel_rfl) ?_
    simp only [shs, zts, sos, sls, zss, eqs, sx, sb1, sb2, sb3, sb4, sb5, sb6, ↓reduceIte, Nat.reduceAdd, Nat.reduceMul, Nat.reduceDiv, Nat.reduceEqDiff, Nat.reduceLT, Nat.reduceLeDiff, reduceCtorEq, Int.reduceEq, Int.reduceNe, Int.reduceLT, Int.reduceLE, Int.reduceAdd, Int.reduceSub, Int.reduceMul, Int.reduceNeg, Int.reduceToNat, Int.cast_ofNat_Int, Int.natCast_zero, Int.natCast_one, Int.toNat_natCast, Nat.reduceBEq, nzs, g0.1, g0.2.1, k0.1, k0.2.1, i1, i2, i1.2, i2.2, hx.len, hy.len, hx.sl, hy.sl, inK, lo, hi, List.toArray_eq_iff]
    refine ⟨fun hne => ?_, fun he => ⟨by omega, (f - 1, i + 1), ⟨⟨by simp only; omega, ?_⟩, by simp only; omega⟩, Ent.of ?_⟩⟩
    · rw [decide_eq_false (fun e => ?_)]
      have := h2.1 e
      rw [hd, hd2] at this
      have := (List.cons.inj this).1
      simp_all
    · have e12 : a0 = b0 := by omega
      simp only
      rw [h2, hd, hd2, e12]
      exact ⟨fun e => (List.cons.inj e).2, fun e => by rw [e]⟩
    · simp only [sx, sb1, sb2, sb3, sb4, sb5, sb6, ↓reduceIte, Nat.reduceAdd, Nat.reduceMul, Nat.reduceDiv, Nat.reduceEqDiff, Nat.reduceLT, Nat.reduceLeDiff, reduceCtorEq, Int.reduceEq, Int.reduceNe, Int.reduceLT, Int.reduceLE, Int.reduceAdd, Int.reduceSub, Int.reduceMul, Int.reduceNeg, Int.reduceToNat, Int.cast_ofNat_Int, Int.natCast_zero, Int.natCast_one, Int.toNat_natCast, Nat.reduceBEq, Int.natCast_add]
  · have : i = l.length := by omega
    rw [decide_eq_true (h2.2 (by rw [List.drop_eq_nil_of_le (by omega), List.drop_eq_nil_of_le (by omega)]))]


theorem checkC (b : Nat) (t x : Int × Int) (M : Mem) (hb : BoxM M b (encQ t)) : Meets Proofs.Try.prog 48 [svQ x, .v (ptrV b)] M fun r _ _ => r = .v (.bool (decide (x.1 = t.1))) := by
  refine Meets.of_body [0,1,2,3] Proofs.Try.func48 rfl (by kernel_rfl) rfl fun w => ?_
  have g0 := hb.at' (j := 0) rfl
  simp only [Proofs.Try.f48, svQ, shs, zts, sos, sls, zss, eqs, sx, sb1, sb2, sb3, sb4, sb5, sb6, ↓reduceIte, Nat.reduceAdd, Nat.reduceMul, Nat.reduceDiv, Nat.reduceEqDiff, Nat.reduceLT, Nat.reduceLeDiff, reduceCtorEq, Int.reduceEq, Int.reduceNe, Int.reduceLT, Int.reduceLE, Int.reduceAdd, Int.reduceSub, Int.reduceMul, Int.reduceNeg, Int.reduceToNat, Int.cast_ofNat_Int, Int.natCast_zero, Int.natCast_one, Int.toNat_natCast, Nat.reduceBEq, nzs, g0.1, g0.2]
theorem addC (b : Nat) (t x : Int × Int) (M : Mem) (hb : BoxM M b (encQ t)) : Meets Proofs.Try.prog 42 [svQ x, .v (ptrV b)] M fun r _ _ => r = .v (.bool (decide (x.1 = t.1))) := by
  refine Meets.of_body [0,1,2,3] Proofs.Try.func42 rfl (by kernel_rfl) rfl fun w => ?_
  have g0 := hb.at' (j := 0) rfl
  simp only [Proofs.Try.f42, svQ, shs, zts, sos, sls, zss, eqs, sx, sb1, sb2, sb3, sb4, sb5, sb6, ↓reduceIte, Nat.reduceAdd, Nat.reduceMul, Nat.reduceDiv, Nat.reduceEqDiff, Nat.reduceLT, Nat.reduceLeDiff, reduceCtorEq, Int.reduceEq, Int.reduceNe, Int.reduceLT, Int.reduceLE, Int.reduceAdd, Int.reduceSub, Int.reduceMul, Int.reduceNeg, Int.reduceToNat, Int.cast_ofNat_Int, Int.natCast_zero, Int.natCast_one, Int.toNat_natCast, Nat.reduceBEq, nzs, g0.1, g0.2]
theorem lawC (b : Nat) (t x : Int × Int) (M : Mem) (hb : BoxM M b (encQ t)) : Meets Proofs.Try.prog 18 [svQ x, .v (ptrV b)] M fun r _ _ => r = .v (.bool (decide (x.1 = t.1))) := by
  refine Meets.of_body [0,1,2,3] Proofs.Try.func18 rfl (by kernel_rfl) rfl fun w => ?_
  have g0 := hb.at' (j := 0) rfl
  simp only [Proofs.Try.f18, svQ, shs, zts, sos, sls, zss, eqs, sx, sb1, sb2, sb3, sb4, sb5, sb6, ↓reduceIte, Nat.reduceAdd, Nat.reduceMul, Nat.reduceDiv, Nat.reduceEqDiff, Nat.reduceLT, Nat.reduceLeDiff, reduceCtorEq, Int.reduceEq, Int.reduceNe, Int.reduceLT, Int.reduceLE, Int.reduceAdd, Int.reduceSub, Int.reduceMul, Int.reduceNeg, Int.reduceToNat, Int.cast_ofNat_Int, Int.natCast_zero, Int.natCast_one, Int.toNat_natCast, Nat.reduceBEq, nzs, g0.1, g0.2]
theorem doneC (b : Nat) (t : Int) (x : Int × Int) (M : Mem) (hb : BoxM M b [.int .i64 t]) : Meets Proofs.Try.prog 46 [svQ x, .v (ptrV b)] M fun r _ _ => r = .v (.bool (decide (x.1 = t))) := by
  refine Meets.of_body [0,1,2,3] Proofs.Try.func46 rfl (by kernel_rfl) rfl fun w => ?_
  have g0 := hb.at (j := 0) rfl
  simp only [Proofs.Try.f46, svQ, shs, zts, sos, sls, zss, eqs, sx, sb1, sb2, sb3, sb4, sb5, sb6, ↓reduceIte, Nat.reduceAdd, Nat.reduceMul, Nat.reduceDiv, Nat.reduceEqDiff, Nat.reduceLT, Nat.reduceLeDiff, reduceCtorEq, Int.reduceEq, Int.reduceNe, Int.reduceLT, Int.reduceLE, Int.reduceAdd, Int.reduceSub, Int.reduceMul, Int.reduceNeg, Int.reduceToNat, Int.cast_ofNat_Int, Int.natCast_zero, Int.natCast_one, Int.toNat_natCast, Nat.reduceBEq, nzs, g0.1, g0.2]
theorem mayC (x : Int × Int) (M : Mem) : Meets Proofs.Try.prog 92 [svQ x] M fun r _ _ => r = .v (.bool (!decide (x.2 = 0))) := by
  refine Meets.of_body [0,1,2] Proofs.Try.func92 rfl (by kernel_rfl) rfl fun w => ?_
  simp only [Proofs.Try.f92, svQ, shs, zts, sos, sls, zss, eqs, sx, sb1, sb2, sb3, sb4, sb5, sb6, ↓reduceIte, Nat.reduceAdd, Nat.reduceMul, Nat.reduceDiv, Nat.reduceEqDiff, Nat.reduceLT, Nat.reduceLeDiff, reduceCtorEq, Int.reduceEq, Int.reduceNe, Int.reduceLT, Int.reduceLE, Int.reduceAdd, Int.reduceSub, Int.reduceMul, Int.reduceNeg, Int.reduceToNat, Int.cast_ofNat_Int, Int.natCast_zero, Int.natCast_one, Int.toNat_natCast, Nat.reduceBEq, nzs]

def ck : List (Int × Int) → List (Int × Int) → Int
  | [], _ => 0
  | x :: l, seen => if oneB x = false then 1 else if (seen.any fun u => decide (u.1 = x.1)) = true then 5 else ck l (seen ++ [x])
def tasksE (l : List (Int × Int)) : Int := if 20 < l.length then 2 else ck l []

theorem check (y : Value) (l : List (Int × Int)) (M : Mem) (hy : RowM M y 2 (l.map encQ)) :
    Meets Proofs.Try.prog 11 [.v y] M fun r _ _ => r = .v (.int .i64 (tasksE l)) := by
  refine Meets.of_body [0,2,3,4,7,8,9,10,11,17,22] Proofs.Try.func11 rfl (by kernel_rfl) rfl fun w => ?_
  generalize hc : tasksE l = c
  have hyl := hy.len_le
  rw [List.length_map] at hyl
  by_cases hg : 20 < l.length
  · rw [tasksE, if_pos hg] at hc
    subst hc
    have c1 : (20 < (l.length : Int)) = True := eq_true (by omega)
    simp only [Proofs.Try.f11, shs, zts, sos, sls, zss, eqs, sx, sb1, sb2, sb3, sb4, sb5, sb6, ↓reduceIte, Nat.reduceAdd, Nat.reduceMul, Nat.reduceDiv, Nat.reduceEqDiff, Nat.reduceLT, Nat.reduceLeDiff, reduceCtorEq, Int.reduceEq, Int.reduceNe, Int.reduceLT, Int.reduceLE, Int.reduceAdd, Int.reduceSub, Int.reduceMul, Int.reduceNeg, Int.reduceToNat, Int.cast_ofNat_Int, Int.natCast_zero, Int.natCast_one, Int.toNat_natCast, Nat.reduceBEq, nzs, hy.len, hy.sl, List.length_map, c1]
  rw [tasksE, if_neg hg] at hc
  have c1 : (20 < (l.length : Int)) = False := eq_false (by omega)
  simp only [Proofs.Try.f11, shs, zts, sos, sls, zss, eqs, sx, sb1, sb2, sb3, sb4, sb5, sb6, ↓reduceIte, Nat.reduceAdd, Nat.reduceMul, Nat.reduceDiv, Nat.reduceEqDiff, Nat.reduceLT, Nat.reduceLeDiff, reduceCtorEq, Int.reduceEq, Int.reduceNe, Int.reduceLT, Int.reduceLE, Int.reduceAdd, Int.reduceSub, Int.reduceMul, Int.reduceNeg, Int.reduceToNat, Int.cast_ofNat_Int, Int.natCast_zero, Int.natCast_one, Int.toNat_natCast, Nat.reduceBEq, nzs, hy.len, hy.sl, List.length_map, c1]
  refine LoopK.go (X := Nat × Nat × Mem) (fun x => ([(0, true, .v y), (8, true, .v y), (9, true, .v (.int .i64 l.length)), (10, true, .v (.int .i64 x.2.1))], [], x.2.2))
    (fun x => (x.1 + x.2.1 = l.length ∧ M.le x.2.2) ∧ ck (l.drop x.2.1) (l.take x.2.1) = c) (fun x => x.1) (l.length, 0, M) ⟨⟨rfl, Mem.le.refl M⟩, hc⟩ (Ent.of ?_) ?_
  · simp only [sx, sb1, sb2, sb3, sb4, sb5, sb6, ↓reduceIte, Nat.reduceAdd, Nat.reduceMul, Nat.reduceDiv, Nat.reduceEqDiff, Nat.reduceLT, Nat.reduceLeDiff, reduceCtorEq, Int.reduceEq, Int.reduceNe, Int.reduceLT, Int.reduceLE, Int.reduceAdd, Int.reduceSub, Int.reduceMul, Int.reduceNeg, Int.reduceToNat, Int.cast_ofNat_Int, Int.natCast_zero, Int.natCast_one, Int.toNat_natCast, Nat.reduceBEq]
  rintro ⟨f, i, M1⟩ ⟨⟨h1, hM⟩, h2⟩
  simp only at h1 h2 hM
  have hy1 := hy.le hM
  by_cases hil : i < l.length
  · have d1 : ((i : Int) < (l.length : Int)) = True := eq_true (by omega)
    obtain ⟨⟨a, b⟩, hx, hd⟩ := l_drop_at (l := l) (i := i) hil
    rw [hd] at h2
    simp only [ck] at h2
    have g0 := hy1.cell (i := i) (e := [.int .i64 a, .int .i64 b]) (by rw [List.getElem?_map, hx]; rfl) (off := 0) (by omega)
    have g1 := hy1.cell (i := i) (e := [.int .i64 a, .int .i64 b]) (by rw [List.getElem?_map, hx]; rfl) (off := 1) (by omega)
    have i0 := hy1.ix (i := (i : Int)) (by omega) (by rw [List.length_map]; omega)
    simp only [List.getD_cons_zero, List.getD_cons_succ] at g0 g1
    simp only [shs, zts, sos, sls, zss, eqs, sx, sb1, sb2, sb3, sb4, sb5, sb6, ↓reduceIte, Nat.reduceAdd, Nat.reduceMul, Nat.reduceDiv, Nat.reduceEqDiff, Nat.reduceLT, Nat.reduceLeDiff, reduceCtorEq, Int.reduceEq, Int.reduceNe, Int.reduceLT, Int.reduceLE, Int.reduceAdd, Int.reduceSub, Int.reduceMul, Int.reduceNeg, Int.reduceToNat, Int.cast_ofNat_Int, Int.natCast_zero, Int.natCast_one, Int.toNat_natCast, Nat.reduceBEq, nzs, d1, hy.len, hy.sl, List.length_map, i0, i0.2, g0.1, g0.2.1, g1.1, g1.2.1]
    refine CallK.pure ⟨rfl, rfl⟩ rfl (one (a, b) M1) ?_
    cases ho : oneB (a, b) with
    | false =>
      rw [if_pos ho] at h2
      subst h2
      simp only [shs, zts, sos, sls, zss, eqs, sx, sb1, sb2, sb3, sb4, sb5, sb6, ↓reduceIte, Nat.reduceAdd, Nat.reduceMul, Nat.reduceDiv, Nat.reduceEqDiff, Nat.reduceLT, Nat.reduceLeDiff, reduceCtorEq, Int.reduceEq, Int.reduceNe, Int.reduceLT, Int.reduceLE, Int.reduceAdd, Int.reduceSub, Int.reduceMul, Int.reduceNeg, Int.reduceToNat, Int.cast_ofNat_Int, Int.natCast_zero, Int.natCast_one, Int.toNat_natCast, Nat.reduceBEq, nzs]
    | true =>
      rw [if_neg (by simp [ho])] at h2
      simp only [shs, zts, sos, sls, zss, eqs, sx, sb1, sb2, sb3, sb4, sb5, sb6, ↓reduceIte, Nat.reduceAdd, Nat.reduceMul, Nat.reduceDiv, Nat.reduceEqDiff, Nat.reduceLT, Nat.reduceLeDiff, reduceCtorEq, Int.reduceEq, Int.reduceNe, Int.reduceLT, Int.reduceLE, Int.reduceAdd, Int.reduceSub, Int.reduceMul, Int.reduceNeg, Int.reduceToNat, Int.cast_ofNat_Int, Int.natCast_zero, Int.natCast_one, Int.toNat_natCast, Nat.reduceBEq, nzs, hy.len, hy.sl]
      have hs := hy1.sub (lo := 0) (hi := i) (by omega) (by rw [List.length_map]; omega)
      rw [List.drop_zero, Nat.sub_zero, ← List.map_take] at hs
      have hcap := hy1.1.2.2.1
      rw [hy1.len, List.length_map] at hcap
      refine ⟨by omega, ?_⟩
      refine stepK.mkFn rfl rfl ?_
      simp only [shs, zts, sos, sls, zss, eqs, sx, sb1, sb2, sb3, sb4, sb5, sb6, ↓reduceIte, Nat.reduceAdd, Nat.reduceMul, Nat.reduceDiv, Nat.reduceEqDiff, Nat.reduceLT, Nat.reduceLeDiff, reduceCtorEq, Int.reduceEq, Int.reduceNe, Int.reduceLT, Int.reduceLE, Int.reduceAdd, Int.reduceSub, Int.reduceMul, Int.reduceNeg, Int.reduceToNat, Int.cast_ofNat_Int, Int.natCast_zero, Int.natCast_one, Int.toNat_natCast, Nat.reduceBEq, nzs]
      refine CallK.pubB (k := 32) rfl rfl fun bb M2 hM2 hb => ?_
      have hs2 := hs.le hM2
      simp only [shA1, shA2, shs, zts, sos, sls, zss, eqs, sx, sb1, sb2, sb3, sb4, sb5, sb6, ↓reduceIte, Nat.reduceAdd, Nat.reduceMul, Nat.reduceDiv, Nat.reduceEqDiff, Nat.reduceLT, Nat.reduceLeDiff, reduceCtorEq, Int.reduceEq, Int.reduceNe, Int.reduceLT, Int.reduceLE, Int.reduceAdd, Int.reduceSub, Int.reduceMul, Int.reduceNeg, Int.reduceToNat, Int.cast_ofNat_Int, Int.natCast_zero, Int.natCast_one, Int.toNat_natCast, Nat.reduceBEq]
      refine CallK.pure ⟨rfl, rfl⟩ rfl (ctsQ (α := Int × Int) (fun x => .int .i64 x.1) (fun x => .int .i64 x.2) (fun u => decide (u.1 = a)) _ _ rfl _ (l.take i) M2 hs2 (fun x _ => checkC bb (a, b) x M2 hb)) ?_
      cases ha : (l.take i).any fun u => decide (u.1 = a) with
      | true =>
        rw [if_pos ha] at h2
        subst h2
        simp only [shs, zts, sos, sls, zss, eqs, sx, sb1, sb2, sb3, sb4, sb5, sb6, ↓reduceIte, Nat.reduceAdd, Nat.reduceMul, Nat.reduceDiv, Nat.reduceEqDiff, Nat.reduceLT, Nat.reduceLeDiff, reduceCtorEq, Int.reduceEq, Int.reduceNe, Int.reduceLT, Int.reduceLE, Int.reduceAdd, Int.reduceSub, Int.reduceMul, Int.reduceNeg, Int.reduceToNat, Int.cast_ofNat_Int, Int.natCast_zero, Int.natCast_one, Int.toNat_natCast, Nat.reduceBEq, nzs]
      | false =>
        rw [if_neg (by simp only [ha]; decide)] at h2
        simp only [shs, zts, sos, sls, zss, eqs, sx, sb1, sb2, sb3, sb4, sb5, sb6, ↓reduceIte, Nat.reduceAdd, Nat.reduceMul, Nat.reduceDiv, Nat.reduceEqDiff, Nat.reduceLT, Nat.reduceLeDiff, reduceCtorEq, Int.reduceEq, Int.reduceNe, Int.reduceLT, Int.reduceLE, Int.reduceAdd, Int.reduceSub, Int.reduceMul, Int.reduceNeg, Int.reduceToNat, Int.cast_ofNat_Int, Int.natCast_zero, Int.natCast_one, Int.toNat_natCast, Nat.reduceBEq, nzs, inK, lo, hi]
        refine ⟨by omega, (f - 1, i + 1, M2), ⟨⟨⟨by simp only; omega, hM.trans hM2⟩, ?_⟩, by simp only; omega⟩, Ent.of ?_⟩
        · simp only
          rw [List.take_add_one, hx]
          exact h2
        · simp only [sx, sb1, sb2, sb3, sb4, sb5, sb6, ↓reduceIte, Nat.reduceAdd, Nat.reduceMul, Nat.reduceDiv, Nat.reduceEqDiff, Nat.reduceLT, Nat.reduceLeDiff, reduceCtorEq, Int.reduceEq, Int.reduceNe, Int.reduceLT, Int.reduceLE, Int.reduceAdd, Int.reduceSub, Int.reduceMul, Int.reduceNeg, Int.reduceToNat, Int.cast_ofNat_Int, Int.natCast_zero, Int.natCast_one, Int.toNat_natCast, Nat.reduceBEq, Int.natCast_add]
  · have d1 : ((i : Int) < (l.length : Int)) = False := eq_false (by omega)
    rw [List.drop_eq_nil_of_le (by omega)] at h2
    simp only [ck] at h2
    subst h2
    simp only [shs, zts, sos, sls, zss, eqs, sx, sb1, sb2, sb3, sb4, sb5, sb6, ↓reduceIte, Nat.reduceAdd, Nat.reduceMul, Nat.reduceDiv, Nat.reduceEqDiff, Nat.reduceLT, Nat.reduceLeDiff, reduceCtorEq, Int.reduceEq, Int.reduceNe, Int.reduceLT, Int.reduceLE, Int.reduceAdd, Int.reduceSub, Int.reduceMul, Int.reduceNeg, Int.reduceToNat, Int.cast_ofNat_Int, Int.natCast_zero, Int.natCast_one, Int.toNat_natCast, Nat.reduceBEq, nzs, d1]

theorem any_mem (a : Int) (l : List (Int × Int)) : (l.any fun u => decide (u.1 = a)) = decide (a ∈ l.map (·.1)) := by
  rw [Bool.eq_iff_iff]
  simp only [List.any_eq_true, decide_eq_true_eq, List.mem_map]
theorem tasks (y : Value) (l : List (Int × Int)) (M : Mem) (hy : RowM M y 2 (l.map encQ)) :
    Meets Proofs.Try.prog 10 [.v y] M fun r _ _ => r = .v (.int .i64 (tasksE l)) := by
  refine Meets.of_body [0,2,3,5,8,10,11,12,13,18,22] Proofs.Try.func10 rfl (by kernel_rfl) rfl fun w => ?_
  generalize hc : tasksE l = c
  have hyl := hy.len_le
  rw [List.length_map] at hyl
  by_cases hg : 20 < l.length
  · rw [tasksE, if_pos hg] at hc
    subst hc
    have c1 : (20 < (l.length : Int)) = True := eq_true (by omega)
    simp only [Proofs.Try.f10, shs, zts, sos, sls, zss, eqs, sx, sb1, sb2, sb3, sb4, sb5, sb6, ↓reduceIte, Nat.reduceAdd, Nat.reduceMul, Nat.reduceDiv, Nat.reduceEqDiff, Nat.reduceLT, Nat.reduceLeDiff, reduceCtorEq, Int.reduceEq, Int.reduceNe, Int.reduceLT, Int.reduceLE, Int.reduceAdd, Int.reduceSub, Int.reduceMul, Int.reduceNeg, Int.reduceToNat, Int.cast_ofNat_Int, Int.natCast_zero, Int.natCast_one, Int.toNat_natCast, Nat.reduceBEq, nzs, hy.len, hy.sl, List.length_map, c1]
  rw [tasksE, if_neg hg] at hc
  have c1 : (20 < (l.length : Int)) = False := eq_false (by omega)
  simp only [Proofs.Try.f10, shs, zts, sos, sls, zss, eqs, sx, sb1, sb2, sb3, sb4, sb5, sb6, ↓reduceIte, Nat.reduceAdd, Nat.reduceMul, Nat.reduceDiv, Nat.reduceEqDiff, Nat.reduceLT, Nat.reduceLeDiff, reduceCtorEq, Int.reduceEq, Int.reduceNe, Int.reduceLT, Int.reduceLE, Int.reduceAdd, Int.reduceSub, Int.reduceMul, Int.reduceNeg, Int.reduceToNat, Int.cast_ofNat_Int, Int.natCast_zero, Int.natCast_one, Int.toNat_natCast, Nat.reduceBEq, nzs, hy.len, hy.sl, List.length_map, c1]
  refine ⟨rfl, OpK.makeMap rfl rfl rfl rfl ?_⟩
  simp only [shs, zts, sos, sls, zss, eqs, sx, sb1, sb2, sb3, sb4, sb5, sb6, ↓reduceIte, Nat.reduceAdd, Nat.reduceMul, Nat.reduceDiv, Nat.reduceEqDiff, Nat.reduceLT, Nat.reduceLeDiff, reduceCtorEq, Int.reduceEq, Int.reduceNe, Int.reduceLT, Int.reduceLE, Int.reduceAdd, Int.reduceSub, Int.reduceMul, Int.reduceNeg, Int.reduceToNat, Int.cast_ofNat_Int, Int.natCast_zero, Int.natCast_one, Int.toNat_natCast, Nat.reduceBEq, nzs, hy.len, hy.sl, List.length_map]
  refine LoopK.go (X := Nat × Nat) (fun x => ([(0, true, .v y), (3, true, .own 72), (10, true, .v y), (11, true, .v (.int .i64 l.length)), (12, true, .v (.int .i64 x.2))], [(72, .mp (encL encK (setL ((l.take x.2).map (·.1)))))], M))
    (fun x => (x.1 + x.2 = l.length) ∧ ck (l.drop x.2) (l.take x.2) = c) (fun x => x.1) (l.length, 0) ⟨rfl, hc⟩ (Ent.of ?_) ?_
  · simp only [sx, sb1, sb2, sb3, sb4, sb5, sb6, ↓reduceIte, Nat.reduceAdd, Nat.reduceMul, Nat.reduceDiv, Nat.reduceEqDiff, Nat.reduceLT, Nat.reduceLeDiff, reduceCtorEq, Int.reduceEq, Int.reduceNe, Int.reduceLT, Int.reduceLE, Int.reduceAdd, Int.reduceSub, Int.reduceMul, Int.reduceNeg, Int.reduceToNat, Int.cast_ofNat_Int, Int.natCast_zero, Int.natCast_one, Int.toNat_natCast, Nat.reduceBEq, List.take_zero, List.map_nil]
    rfl
  rintro ⟨f, i⟩ ⟨h1, h2⟩
  simp only at h1 h2
  by_cases hil : i < l.length
  · have d1 : ((i : Int) < (l.length : Int)) = True := eq_true (by omega)
    obtain ⟨⟨a, b⟩, hx, hd⟩ := l_drop_at (l := l) (i := i) hil
    rw [hd] at h2
    simp only [ck, any_mem] at h2
    have g0 := hy.cell (i := i) (e := [.int .i64 a, .int .i64 b]) (by rw [List.getElem?_map, hx]; rfl) (off := 0) (by omega)
    have g1 := hy.cell (i := i) (e := [.int .i64 a, .int .i64 b]) (by rw [List.getElem?_map, hx]; rfl) (off := 1) (by omega)
    have i0 := hy.ix (i := (i : Int)) (by omega) (by rw [List.length_map]; omega)
    simp only [List.getD_cons_zero, List.getD_cons_succ] at g0 g1
    simp only [shs, zts, sos, sls, zss, eqs, sx, sb1, sb2, sb3, sb4, sb5, sb6, ↓reduceIte, Nat.reduceAdd, Nat.reduceMul, Nat.reduceDiv, Nat.reduceEqDiff, Nat.reduceLT, Nat.reduceLeDiff, reduceCtorEq, Int.reduceEq, Int.reduceNe, Int.reduceLT, Int.reduceLE, Int.reduceAdd, Int.reduceSub, Int.reduceMul, Int.reduceNeg, Int.reduceToNat, Int.cast_ofNat_Int, Int.natCast_zero, Int.natCast_one, Int.toNat_natCast, Nat.reduceBEq, nzs, d1, hy.len, hy.sl, List.length_map, i0, i0.2, g0.1, g0.2.1, g1.1, g1.2.1]
    refine CallK.pure ⟨rfl, rfl⟩ rfl (task (a, b) M) ?_
    cases ho : oneB (a, b) with
    | false =>
      rw [if_pos ho] at h2
      subst h2
      simp only [shs, zts, sos, sls, zss, eqs, sx, sb1, sb2, sb3, sb4, sb5, sb6, ↓reduceIte, Nat.reduceAdd, Nat.reduceMul, Nat.reduceDiv, Nat.reduceEqDiff, Nat.reduceLT, Nat.reduceLeDiff, reduceCtorEq, Int.reduceEq, Int.reduceNe, Int.reduceLT, Int.reduceLE, Int.reduceAdd, Int.reduceSub, Int.reduceMul, Int.reduceNeg, Int.reduceToNat, Int.cast_ofNat_Int, Int.natCast_zero, Int.natCast_one, Int.toNat_natCast, Nat.reduceBEq, nzs]
    | true =>
      rw [if_neg (by simp [ho])] at h2
      simp only [shs, zts, sos, sls, zss, eqs, sx, sb1, sb2, sb3, sb4, sb5, sb6, ↓reduceIte, Nat.reduceAdd, Nat.reduceMul, Nat.reduceDiv, Nat.reduceEqDiff, Nat.reduceLT, Nat.reduceLeDiff, reduceCtorEq, Int.reduceEq, Int.reduceNe, Int.reduceLT, Int.reduceLE, Int.reduceAdd, Int.reduceSub, Int.reduceMul, Int.reduceNeg, Int.reduceToNat, Int.cast_ofNat_Int, Int.natCast_zero, Int.natCast_one, Int.toNat_natCast, Nat.reduceBEq, nzs, hy.len, hy.sl]
      refine ⟨rfl, OpK.lookup (KeyT.int (by kernel_rfl)) (key := a) (kt := 3) (et := 4) (z := .bool false) rfl rfl rfl (by kernel_rfl) Proofs.Try.zeroValue4 rfl rfl (fun _ => rfl) rfl ?_⟩
      rw [fnd_set]
      cases ha : decide (a ∈ (l.take i).map (·.1)) with
      | true =>
        rw [if_pos ha] at h2
        subst h2
        simp only [shs, zts, sos, sls, zss, eqs, sx, sb1, sb2, sb3, sb4, sb5, sb6, ↓reduceIte, Nat.reduceAdd, Nat.reduceMul, Nat.reduceDiv, Nat.reduceEqDiff, Nat.reduceLT, Nat.reduceLeDiff, reduceCtorEq, Int.reduceEq, Int.reduceNe, Int.reduceLT, Int.reduceLE, Int.reduceAdd, Int.reduceSub, Int.reduceMul, Int.reduceNeg, Int.reduceToNat, Int.cast_ofNat_Int, Int.natCast_zero, Int.natCast_one, Int.toNat_natCast, Nat.reduceBEq, nzs]
      | false =>
        rw [if_neg (by simp only [ha]; decide)] at h2
        simp only [shs, zts, sos, sls, zss, eqs, sx, sb1, sb2, sb3, sb4, sb5, sb6, ↓reduceIte, Nat.reduceAdd, Nat.reduceMul, Nat.reduceDiv, Nat.reduceEqDiff, Nat.reduceLT, Nat.reduceLeDiff, reduceCtorEq, Int.reduceEq, Int.reduceNe, Int.reduceLT, Int.reduceLE, Int.reduceAdd, Int.reduceSub, Int.reduceMul, Int.reduceNeg, Int.reduceToNat, Int.cast_ofNat_Int, Int.natCast_zero, Int.natCast_one, Int.toNat_natCast, Nat.reduceBEq, nzs, inK, lo, hi]
        refine ⟨rfl, OpK.mapUpd (KeyT.int (by kernel_rfl)) (key := a) (kt := 3) (et := 4) (u := .bool true) rfl rfl (by kernel_rfl) rfl rfl (fun _ => rfl) rfl rfl ?_⟩
        rw [upd_set (of_decide_eq_false ha)]
        simp only [shs, zts, sos, sls, zss, eqs, sx, sb1, sb2, sb3, sb4, sb5, sb6, ↓reduceIte, Nat.reduceAdd, Nat.reduceMul, Nat.reduceDiv, Nat.reduceEqDiff, Nat.reduceLT, Nat.reduceLeDiff, reduceCtorEq, Int.reduceEq, Int.reduceNe, Int.reduceLT, Int.reduceLE, Int.reduceAdd, Int.reduceSub, Int.reduceMul, Int.reduceNeg, Int.reduceToNat, Int.cast_ofNat_Int, Int.natCast_zero, Int.natCast_one, Int.toNat_natCast, Nat.reduceBEq, nzs, inK, lo, hi]
        refine ⟨by omega, (f - 1, i + 1), ⟨⟨by simp only; omega, ?_⟩, by simp only; omega⟩, Ent.of ?_⟩
        · simp only
          rw [List.take_add_one, hx]
          exact h2
        · rw [List.take_add_one, hx]
          simp only [sx, sb1, sb2, sb3, sb4, sb5, sb6, ↓reduceIte, Nat.reduceAdd, Nat.reduceMul, Nat.reduceDiv, Nat.reduceEqDiff, Nat.reduceLT, Nat.reduceLeDiff, reduceCtorEq, Int.reduceEq, Int.reduceNe, Int.reduceLT, Int.reduceLE, Int.reduceAdd, Int.reduceSub, Int.reduceMul, Int.reduceNeg, Int.reduceToNat, Int.cast_ofNat_Int, Int.natCast_zero, Int.natCast_one, Int.toNat_natCast, Nat.reduceBEq, Int.natCast_add, List.map_append, List.map_cons, List.map_nil, Option.toList]
  · have d1 : ((i : Int) < (l.length : Int)) = False := eq_false (by omega)
    rw [List.drop_eq_nil_of_le (by omega)] at h2
    simp only [ck] at h2
    subst h2
    simp only [shs, zts, sos, sls, zss, eqs, sx, sb1, sb2, sb3, sb4, sb5, sb6, ↓reduceIte, Nat.reduceAdd, Nat.reduceMul, Nat.reduceDiv, Nat.reduceEqDiff, Nat.reduceLT, Nat.reduceLeDiff, reduceCtorEq, Int.reduceEq, Int.reduceNe, Int.reduceLT, Int.reduceLE, Int.reduceAdd, Int.reduceSub, Int.reduceMul, Int.reduceNeg, Int.reduceToNat, Int.cast_ofNat_Int, Int.natCast_zero, Int.natCast_one, Int.toNat_natCast, Nat.reduceBEq, nzs, d1]

def freeB (l : List (Int × Int)) (i : Nat) (k : Int) : Bool := decide (k = 2) || (decide (i = 0) || (!((l.take i).any fun u => !decide (u.2 = 0)) && decide (k = 0)))
theorem oneB_kind {x : Int × Int} (h : oneB x = true) : 0 ≤ x.2 ∧ x.2 ≤ 2 := by
  unfold oneB at h
  simp only [Bool.and_eq_true, decide_eq_true_eq] at h
  exact h.2.2
theorem may1 (y : Value) (l : List (Int × Int)) (i : Nat) (a k : Int) (M : Mem) (hy : RowM M y 2 (l.map encQ)) (hx : l[i]? = some (a, k)) (hk : 0 ≤ k ∧ k ≤ 2) :
    Meets Proofs.Try.prog 44 [.v y, .v (.int .i64 i)] M fun r _ _ => r = .v (.bool (freeB l i k)) := by
  refine Meets.of_body [0,1,4,9,10,12] Proofs.Try.func44 rfl (by kernel_rfl) rfl fun w => ?_
  have hil : i < l.length := (List.getElem?_eq_some_iff.1 hx).1
  have hyl := hy.len_le
  rw [List.length_map] at hyl
  have g1 := hy.cell (i := i) (e := [.int .i64 a, .int .i64 k]) (by rw [List.getElem?_map, hx]; rfl) (off := 1) (by omega)
  have i0 := hy.ix (i := (i : Int)) (by omega) (by rw [List.length_map]; omega)
  simp only [List.getD_cons_zero, List.getD_cons_succ] at g1
  unfold freeB
  by_cases h2 : k = 2
  · have d2 : (k = 2) = True := eq_true h2
    simp only [Proofs.Try.f44, shs, zts, sos, sls, zss, eqs, sx, sb1, sb2, sb3, sb4, sb5, sb6, ↓reduceIte, Nat.reduceAdd, Nat.reduceMul, Nat.reduceDiv, Nat.reduceEqDiff, Nat.reduceLT, Nat.reduceLeDiff, reduceCtorEq, Int.reduceEq, Int.reduceNe, Int.reduceLT, Int.reduceLE, Int.reduceAdd, Int.reduceSub, Int.reduceMul, Int.reduceNeg, Int.reduceToNat, Int.cast_ofNat_Int, Int.natCast_zero, Int.natCast_one, Int.toNat_natCast, Nat.reduceBEq, nzs, i0, i0.2, g1.1, g1.2.1, d2]
  have d2 : (k = 2) = False := eq_false h2
  by_cases h1 : k = 1
  · have d1 : (k = 1) = True := eq_true h1
    have d0 : (k = 0) = False := eq_false (by omega)
    simp only [Proofs.Try.f44, shs, zts, sos, sls, zss, eqs, sx, sb1, sb2, sb3, sb4, sb5, sb6, ↓reduceIte, Nat.reduceAdd, Nat.reduceMul, Nat.reduceDiv, Nat.reduceEqDiff, Nat.reduceLT, Nat.reduceLeDiff, reduceCtorEq, Int.reduceEq, Int.reduceNe, Int.reduceLT, Int.reduceLE, Int.reduceAdd, Int.reduceSub, Int.reduceMul, Int.reduceNeg, Int.reduceToNat, Int.cast_ofNat_Int, Int.natCast_zero, Int.natCast_one, Int.toNat_natCast, Nat.reduceBEq, nzs, i0, i0.2, g1.1, g1.2.1, d2, d1, d0]
    simp
  have d1 : (k = 1) = False := eq_false h1
  have d0 : (k = 0) = True := eq_true (by omega)
  have hs := hy.sub (lo := 0) (hi := i) (by omega) (by rw [List.length_map]; omega)
  rw [List.drop_zero, Nat.sub_zero, ← List.map_take] at hs
  have hcap := hy.1.2.2.1
  rw [hy.len, List.length_map] at hcap
  simp only [Proofs.Try.f44, shs, zts, sos, sls, zss, eqs, sx, sb1, sb2, sb3, sb4, sb5, sb6, ↓reduceIte, Nat.reduceAdd, Nat.reduceMul, Nat.reduceDiv, Nat.reduceEqDiff, Nat.reduceLT, Nat.reduceLeDiff, reduceCtorEq, Int.reduceEq, Int.reduceNe, Int.reduceLT, Int.reduceLE, Int.reduceAdd, Int.reduceSub, Int.reduceMul, Int.reduceNeg, Int.reduceToNat, Int.cast_ofNat_Int, Int.natCast_zero, Int.natCast_one, Int.toNat_natCast, Nat.reduceBEq, nzs, i0, i0.2, g1.1, g1.2.1, d2, d1, d0, hy.sl]
  refine ⟨by omega, CallK.pure ⟨rfl, rfl⟩ rfl (ctsQ (α := Int × Int) (fun x => .int .i64 x.1) (fun x => .int .i64 x.2) (fun u => !decide (u.2 = 0)) _ [] rfl _ (l.take i) M hs (fun x _ => mayC x M)) ?_⟩
  simp only [shs, zts, sos, sls, zss, eqs, sx, sb1, sb2, sb3, sb4, sb5, sb6, ↓reduceIte, Nat.reduceAdd, Nat.reduceMul, Nat.reduceDiv, Nat.reduceEqDiff, Nat.reduceLT, Nat.reduceLeDiff, reduceCtorEq, Int.reduceEq, Int.reduceNe, Int.reduceLT, Int.reduceLE, Int.reduceAdd, Int.reduceSub, Int.reduceMul, Int.reduceNeg, Int.reduceToNat, Int.cast_ofNat_Int, Int.natCast_zero, Int.natCast_one, Int.toNat_natCast, Nat.reduceBEq, nzs]
  by_cases hi : i = 0
  · subst hi; simp
  · simp [hi]
theorem free (y : Value) (l : List (Int × Int)) (i : Nat) (a k : Int) (M : Mem) (hy : RowM M y 2 (l.map encQ)) (hx : l[i]? = some (a, k)) (hl : ∀ x ∈ l, 0 ≤ x.2 ∧ x.2 ≤ 2) :
    Meets Proofs.Try.prog 12 [.v y, .v (.int .i64 i)] M fun r _ _ => r = .v (.bool (freeB l i k)) := by
  refine Meets.of_body [0,1,4,6,16,19,20,21,22,27] Proofs.Try.func12 rfl (by kernel_rfl) rfl fun w => ?_
  have hil : i < l.length := (List.getElem?_eq_some_iff.1 hx).1
  have hyl := hy.len_le
  rw [List.length_map] at hyl
  have g1 := hy.cell (i := i) (e := [.int .i64 a, .int .i64 k]) (by rw [List.getElem?_map, hx]; rfl) (off := 1) (by omega)
  have i0 := hy.ix (i := (i : Int)) (by omega) (by rw [List.length_map]; omega)
  simp only [List.getD_cons_zero, List.getD_cons_succ] at g1
  unfold freeB
  by_cases h2 : k = 2
  · have d2 : (k = 2) = True := eq_true h2
    simp only [Proofs.Try.f12, shs, zts, sos, sls, zss, eqs, sx, sb1, sb2, sb3, sb4, sb5, sb6, ↓reduceIte, Nat.reduceAdd, Nat.reduceMul, Nat.reduceDiv, Nat.reduceEqDiff, Nat.reduceLT, Nat.reduceLeDiff, reduceCtorEq, Int.reduceEq, Int.reduceNe, Int.reduceLT, Int.reduceLE, Int.reduceAdd, Int.reduceSub, Int.reduceMul, Int.reduceNeg, Int.reduceToNat, Int.cast_ofNat_Int, Int.natCast_zero, Int.natCast_one, Int.toNat_natCast, Nat.reduceBEq, nzs, i0, i0.2, g1.1, g1.2.1, d2]
  have d2 : (k = 2) = False := eq_false h2
  by_cases h3 : i = 0
  · have d3 : ((i : Int) = 0) = True := eq_true (by omega)
    simp only [Proofs.Try.f12, shs, zts, sos, sls, zss, eqs, sx, sb1, sb2, sb3, sb4, sb5, sb6, ↓reduceIte, Nat.reduceAdd, Nat.reduceMul, Nat.reduceDiv, Nat.reduceEqDiff, Nat.reduceLT, Nat.reduceLeDiff, reduceCtorEq, Int.reduceEq, Int.reduceNe, Int.reduceLT, Int.reduceLE, Int.reduceAdd, Int.reduceSub, Int.reduceMul, Int.reduceNeg, Int.reduceToNat, Int.cast_ofNat_Int, Int.natCast_zero, Int.natCast_one, Int.toNat_natCast, Nat.reduceBEq, nzs, i0, i0.2, g1.1, g1.2.1, d2, d3]
    simp [h3]
  have d3 : ((i : Int) = 0) = False := eq_false (by omega)
  have hs := hy.sub (lo := 0) (hi := i) (by omega) (by rw [List.length_map]; omega)
  rw [List.drop_zero, Nat.sub_zero, ← List.map_take] at hs
  have hcap := hy.1.2.2.1
  rw [hy.len, List.length_map] at hcap
  have hsl := hs.len
  rw [List.length_map, List.length_take, Nat.min_eq_left (by omega)] at hsl
  generalize hcc : (decide (k = 2) || (decide (i = 0) || (!((l.take i).any fun u => !decide (u.2 = 0)) && decide (k = 0)))) = c
  simp only [h2, h3, decide_false, Bool.false_or] at hcc
  simp only [Proofs.Try.f12, shs, zts, sos, sls, zss, eqs, sx, sb1, sb2, sb3, sb4, sb5, sb6, ↓reduceIte, Nat.reduceAdd, Nat.reduceMul, Nat.reduceDiv, Nat.reduceEqDiff, Nat.reduceLT, Nat.reduceLeDiff, reduceCtorEq, Int.reduceEq, Int.reduceNe, Int.reduceLT, Int.reduceLE, Int.reduceAdd, Int.reduceSub, Int.reduceMul, Int.reduceNeg, Int.reduceToNat, Int.cast_ofNat_Int, Int.natCast_zero, Int.natCast_one, Int.toNat_natCast, Nat.reduceBEq, nzs, i0, i0.2, g1.1, g1.2.1, d2, d3, hy.sl, hsl, hs.sl]
  refine ⟨by omega, ?_⟩
  refine LoopK.go (X := Nat × Nat) (fun x => ([(0, true, .v y), (1, true, .v (.int .i64 i)), (19, true, .v (subV y 2 0 i)), (20, true, .v (.int .i64 i)), (21, true, .v (.int .i64 x.2))], [], M))
    (fun x => (x.1 + x.2 = i) ∧ (!((l.take i).drop x.2).any (fun u => !decide (u.2 = 0)) && decide (k = 0)) = c) (fun x => x.1) (i, 0) ⟨rfl, hcc⟩ (Ent.of ?_) ?_
  · simp only [sx, sb1, sb2, sb3, sb4, sb5, sb6, ↓reduceIte, Nat.reduceAdd, Nat.reduceMul, Nat.reduceDiv, Nat.reduceEqDiff, Nat.reduceLT, Nat.reduceLeDiff, reduceCtorEq, Int.reduceEq, Int.reduceNe, Int.reduceLT, Int.reduceLE, Int.reduceAdd, Int.reduceSub, Int.reduceMul, Int.reduceNeg, Int.reduceToNat, Int.cast_ofNat_Int, Int.natCast_zero, Int.natCast_one, Int.toNat_natCast, Nat.reduceBEq]
  rintro ⟨f, j⟩ ⟨h1, h4⟩
  simp only at h1 h4
  by_cases hjl : j < i
  · have d4 : ((j : Int) < (i : Int)) = True := eq_true (by omega)
    obtain ⟨⟨a', b'⟩, hx', hd⟩ := l_drop_at (l := l.take i) (i := j) (by rw [List.length_take]; omega)
    rw [hd] at h4
    have hb := hl _ (List.mem_of_mem_take (List.mem_of_getElem? hx'))
    have q0 := hs.cell (i := j) (e := [.int .i64 a', .int .i64 b']) (by rw [List.getElem?_map, hx']; rfl) (off := 0) (by omega)
    have q1 := hs.cell (i := j) (e := [.int .i64 a', .int .i64 b']) (by rw [List.getElem?_map, hx']; rfl) (off := 1) (by omega)
    have j0 := hs.ix (i := (j : Int)) (by omega) (by rw [List.length_map, List.length_take]; omega)
    simp only [List.getD_cons_zero, List.getD_cons_succ] at q0 q1 hb
    simp only [List.any_cons, Bool.not_or] at h4
    by_cases hz : b' = 0
    · have d5 : (0 < b') = False := eq_false (by omega)
      simp only [hz, decide_true, Bool.not_true, Bool.not_false, Bool.true_and] at h4
      simp only [shs, zts, sos, sls, zss, eqs, sx, sb1, sb2, sb3, sb4, sb5, sb6, ↓reduceIte, Nat.reduceAdd, Nat.reduceMul, Nat.reduceDiv, Nat.reduceEqDiff, Nat.reduceLT, Nat.reduceLeDiff, reduceCtorEq, Int.reduceEq, Int.reduceNe, Int.reduceLT, Int.reduceLE, Int.reduceAdd, Int.reduceSub, Int.reduceMul, Int.reduceNeg, Int.reduceToNat, Int.cast_ofNat_Int, Int.natCast_zero, Int.natCast_one, Int.toNat_natCast, Nat.reduceBEq, nzs, d4, d5, j0, j0.2, q0.1, q0.2.1, q1.1, q1.2.1, inK, lo, hi]
      refine ⟨by omega, (f - 1, j + 1), ⟨⟨by simp only; omega, h4⟩, by simp only; omega⟩, Ent.of ?_⟩
      simp only [sx, sb1, sb2, sb3, sb4, sb5, sb6, ↓reduceIte, Nat.reduceAdd, Nat.reduceMul, Nat.reduceDiv, Nat.reduceEqDiff, Nat.reduceLT, Nat.reduceLeDiff, reduceCtorEq, Int.reduceEq, Int.reduceNe, Int.reduceLT, Int.reduceLE, Int.reduceAdd, Int.reduceSub, Int.reduceMul, Int.reduceNeg, Int.reduceToNat, Int.cast_ofNat_Int, Int.natCast_zero, Int.natCast_one, Int.toNat_natCast, Nat.reduceBEq, Int.natCast_add]
    · have d5 : (0 < b') = True := eq_true (by omega)
      simp only [hz, decide_false, Bool.not_false, Bool.not_true, Bool.false_and] at h4
      subst h4
      simp only [shs, zts, sos, sls, zss, eqs, sx, sb1, sb2, sb3, sb4, sb5, sb6, ↓reduceIte, Nat.reduceAdd, Nat.reduceMul, Nat.reduceDiv, Nat.reduceEqDiff, Nat.reduceLT, Nat.reduceLeDiff, reduceCtorEq, Int.reduceEq, Int.reduceNe, Int.reduceLT, Int.reduceLE, Int.reduceAdd, Int.reduceSub, Int.reduceMul, Int.reduceNeg, Int.reduceToNat, Int.cast_ofNat_Int, Int.natCast_zero, Int.natCast_one, Int.toNat_natCast, Nat.reduceBEq, nzs, d4, d5, j0, j0.2, q0.1, q0.2.1, q1.1, q1.2.1, inK, lo, hi]
  · have d4 : ((j : Int) < (i : Int)) = False := eq_false (by omega)
    rw [List.drop_eq_nil_of_le (by rw [List.length_take]; omega)] at h4
    simp only [List.any_nil, Bool.not_false, Bool.true_and] at h4
    subst h4
    simp only [shs, zts, sos, sls, zss, eqs, sx, sb1, sb2, sb3, sb4, sb5, sb6, ↓reduceIte, Nat.reduceAdd, Nat.reduceMul, Nat.reduceDiv, Nat.reduceEqDiff, Nat.reduceLT, Nat.reduceLeDiff, reduceCtorEq, Int.reduceEq, Int.reduceNe, Int.reduceLT, Int.reduceLE, Int.reduceAdd, Int.reduceSub, Int.reduceMul, Int.reduceNeg, Int.reduceToNat, Int.cast_ofNat_Int, Int.natCast_zero, Int.natCast_one, Int.toNat_natCast, Nat.reduceBEq, nzs, d4, i0, i0.2, g1.1, g1.2.1]

theorem ck_ok : ∀ {l seen : List (Int × Int)}, ck l seen = 0 → ∀ x ∈ l, oneB x = true
  | [], _, _, _, hx => by cases hx
  | y :: l, seen, h, x, hx => by
    simp only [ck] at h
    by_cases h1 : oneB y = false
    · rw [if_pos h1] at h; cases h
    · rw [if_neg h1] at h
      split at h
      · cases h
      · rcases List.mem_cons.1 hx with rfl | hx
        · simpa using h1
        · exact ck_ok h x hx
theorem tasksE_ok {l : List (Int × Int)} (h : tasksE l = 0) : l.length ≤ 20 ∧ ∀ x ∈ l, oneB x = true := by
  unfold tasksE at h
  split at h
  · cases h
  · exact ⟨by omega, ck_ok h⟩
/-- the tags of the tasks that may be done, of the first i -/
def tg (l : List (Int × Int)) : Nat → List Int
  | 0 => []
  | i + 1 => match l[i]? with
    | some x => if freeB l i x.2 = true then tg l i ++ [x.1] else tg l i
    | none => tg l i
theorem tg_len (l : List (Int × Int)) : ∀ i, (tg l i).length ≤ i
  | 0 => Nat.le_refl _
  | i + 1 => by
    have := tg_len l i
    unfold tg
    split
    · split
      · simp; omega
      · omega
    · omega
def nilT : SV := .v (.slice none 0 0)
theorem mayAll (y : Value) (l : List (Int × Int)) (M : Mem) (hy : RowM M y 2 (l.map encQ)) :
    Meets Proofs.Try.prog 8 [.v y] M (RowR (fun s => .tup [s, .v (.int .i64 (tasksE l))]) 1 ((if tasksE l = 0 then tg l l.length else []).map encI)) := by
  refine Meets.of_body [0,2,3,4,5,6,7,11,13,14,15,16,22] Proofs.Try.func8 rfl (by kernel_rfl) rfl fun w => ?_
  have hyl := hy.len_le
  rw [List.length_map] at hyl
  simp only [Proofs.Try.f8, shs, zts, sos, sls, zss, eqs, sx, sb1, sb2, sb3, sb4, sb5, sb6, ↓reduceIte, Nat.reduceAdd, Nat.reduceMul, Nat.reduceDiv, Nat.reduceEqDiff, Nat.reduceLT, Nat.reduceLeDiff, reduceCtorEq, Int.reduceEq, Int.reduceNe, Int.reduceLT, Int.reduceLE, Int.reduceAdd, Int.reduceSub, Int.reduceMul, Int.reduceNeg, Int.reduceToNat, Int.cast_ofNat_Int, Int.natCast_zero, Int.natCast_one, Int.toNat_natCast, Nat.reduceBEq]
  refine CallK.pure ⟨rfl, rfl⟩ rfl (check y l M hy) ?_
  by_cases he : tasksE l = 0
  rotate_left
  · have c1 : (tasksE l = 0) = False := eq_false he
    simp only [shs, zts, sos, sls, zss, eqs, sx, sb1, sb2, sb3, sb4, sb5, sb6, ↓reduceIte, Nat.reduceAdd, Nat.reduceMul, Nat.reduceDiv, Nat.reduceEqDiff, Nat.reduceLT, Nat.reduceLeDiff, reduceCtorEq, Int.reduceEq, Int.reduceNe, Int.reduceLT, Int.reduceLE, Int.reduceAdd, Int.reduceSub, Int.reduceMul, Int.reduceNeg, Int.reduceToNat, Int.cast_ofNat_Int, Int.natCast_zero, Int.natCast_one, Int.toNat_natCast, Nat.reduceBEq, nzs, c1, if_false]
    exact ⟨_, rfl, RowM.nil _ _⟩
  obtain ⟨h20, hok⟩ := tasksE_ok he
  have hk := fun x hx => oneB_kind (hok x hx)
  simp only [shs, zts, sos, sls, zss, eqs, sx, sb1, sb2, sb3, sb4, sb5, sb6, ↓reduceIte, Nat.reduceAdd, Nat.reduceMul, Nat.reduceDiv, Nat.reduceEqDiff, Nat.reduceLT, Nat.reduceLeDiff, reduceCtorEq, Int.reduceEq, Int.reduceNe, Int.reduceLT, Int.reduceLE, Int.reduceAdd, Int.reduceSub, Int.reduceMul, Int.reduceNeg, Int.reduceToNat, Int.cast_ofNat_Int, Int.natCast_zero, Int.natCast_one, Int.toNat_natCast, Nat.reduceBEq, nzs, he, hy.len, hy.sl, List.length_map]
  refine LoopK.nilRow 5 27 1 rfl rfl rfl ?_
  refine LoopK.go (X := Nat × Nat) (fun x => ([(0, true, .v y), (5, true, .own 216), (13, true, .v y), (14, true, .v (.int .i64 l.length)), (15, true, .v (.int .i64 x.2))], [(216, .row 1 ((tg l x.2).map encI))], M))
    (fun x => (x.1 + x.2 = l.length)) (fun x => x.1) (l.length, 0) rfl (Ent.of ?_) ?_
  · simp only [sx, sb1, sb2, sb3, sb4, sb5, sb6, ↓reduceIte, Nat.reduceAdd, Nat.reduceMul, Nat.reduceDiv, Nat.reduceEqDiff, Nat.reduceLT, Nat.reduceLeDiff, reduceCtorEq, Int.reduceEq, Int.reduceNe, Int.reduceLT, Int.reduceLE, Int.reduceAdd, Int.reduceSub, Int.reduceMul, Int.reduceNeg, Int.reduceToNat, Int.cast_ofNat_Int, Int.natCast_zero, Int.natCast_one, Int.toNat_natCast, Nat.reduceBEq, tg, List.map_nil]
  rintro ⟨f, i⟩ h1
  simp only at h1
  by_cases hil : i < l.length
  · have d1 : ((i : Int) < (l.length : Int)) = True := eq_true (by omega)
    obtain ⟨⟨a, b⟩, hx, hd⟩ := l_drop_at (l := l) (i := i) hil
    have g0 := hy.cell (i := i) (e := [.int .i64 a, .int .i64 b]) (by rw [List.getElem?_map, hx]; rfl) (off := 0) (by omega)
    have g1 := hy.cell (i := i) (e := [.int .i64 a, .int .i64 b]) (by rw [List.getElem?_map, hx]; rfl) (off := 1) (by omega)
    have i0 := hy.ix (i := (i : Int)) (by omega) (by rw [List.length_map]; omega)
    simp only [List.getD_cons_zero, List.getD_cons_succ] at g0 g1
    have htl := tg_len l i
    simp only [shs, zts, sos, sls, zss, eqs, sx, sb1, sb2, sb3, sb4, sb5, sb6, ↓reduceIte, Nat.reduceAdd, Nat.reduceMul, Nat.reduceDiv, Nat.reduceEqDiff, Nat.reduceLT, Nat.reduceLeDiff, reduceCtorEq, Int.reduceEq, Int.reduceNe, Int.reduceLT, Int.reduceLE, Int.reduceAdd, Int.reduceSub, Int.reduceMul, Int.reduceNeg, Int.reduceToNat, Int.cast_ofNat_Int, Int.natCast_zero, Int.natCast_one, Int.toNat_natCast, Nat.reduceBEq, nzs, d1, hy.len, hy.sl, List.length_map, i0, i0.2, g0.1, g0.2.1, g1.1, g1.2.1]
    refine CallK.pure ⟨rfl, rfl⟩ rfl (may1 y l i a b M hy hx (hk _ (List.mem_of_getElem? hx))) ?_
    cases hf : freeB l i b with
    | true =>
      simp only [shs, zts, sos, sls, zss, eqs, sx, sb1, sb2, sb3, sb4, sb5, sb6, ↓reduceIte, Nat.reduceAdd, Nat.reduceMul, Nat.reduceDiv, Nat.reduceEqDiff, Nat.reduceLT, Nat.reduceLeDiff, reduceCtorEq, Int.reduceEq, Int.reduceNe, Int.reduceLT, Int.reduceLE, Int.reduceAdd, Int.reduceSub, Int.reduceMul, Int.reduceNeg, Int.reduceToNat, Int.cast_ofNat_Int, Int.natCast_zero, Int.natCast_one, Int.toNat_natCast, Nat.reduceBEq, nzs, inK, lo, hi, List.length_map]
      refine ⟨⟨by omega, by omega⟩, by omega, (f - 1, i + 1), ⟨by simp only; omega, by simp only; omega⟩, Ent.of ?_⟩
      simp only [sx, sb1, sb2, sb3, sb4, sb5, sb6, ↓reduceIte, Nat.reduceAdd, Nat.reduceMul, Nat.reduceDiv, Nat.reduceEqDiff, Nat.reduceLT, Nat.reduceLeDiff, reduceCtorEq, Int.reduceEq, Int.reduceNe, Int.reduceLT, Int.reduceLE, Int.reduceAdd, Int.reduceSub, Int.reduceMul, Int.reduceNeg, Int.reduceToNat, Int.cast_ofNat_Int, Int.natCast_zero, Int.natCast_one, Int.toNat_natCast, Nat.reduceBEq, Int.natCast_add, tg, hx, hf, List.map_append, List.map_cons, List.map_nil, encI]
    | false =>
      simp only [shs, zts, sos, sls, zss, eqs, sx, sb1, sb2, sb3, sb4, sb5, sb6, ↓reduceIte, Nat.reduceAdd, Nat.reduceMul, Nat.reduceDiv, Nat.reduceEqDiff, Nat.reduceLT, Nat.reduceLeDiff, reduceCtorEq, Int.reduceEq, Int.reduceNe, Int.reduceLT, Int.reduceLE, Int.reduceAdd, Int.reduceSub, Int.reduceMul, Int.reduceNeg, Int.reduceToNat, Int.cast_ofNat_Int, Int.natCast_zero, Int.natCast_one, Int.toNat_natCast, Nat.reduceBEq, nzs, inK, lo, hi, List.length_map]
      refine ⟨by omega, (f - 1, i + 1), ⟨by simp only; omega, by simp only; omega⟩, Ent.of ?_⟩
      simp only [sx, sb1, sb2, sb3, sb4, sb5, sb6, ↓reduceIte, Nat.reduceAdd, Nat.reduceMul, Nat.reduceDiv, Nat.reduceEqDiff, Nat.reduceLT, Nat.reduceLeDiff, reduceCtorEq, Int.reduceEq, Int.reduceNe, Int.reduceLT, Int.reduceLE, Int.reduceAdd, Int.reduceSub, Int.reduceMul, Int.reduceNeg, Int.reduceToNat, Int.cast_ofNat_Int, Int.natCast_zero, Int.natCast_one, Int.toNat_natCast, Nat.reduceBEq, Int.natCast_add, tg, hx, hf]
  · have d1 : ((i : Int) < (l.length : Int)) = False := eq_false (by omega)
    have e0 : i = l.length := by omega
    subst e0
    simp only [shs, zts, sos, sls, zss, eqs, sx, sb1, sb2, sb3, sb4, sb5, sb6, ↓reduceIte, Nat.reduceAdd, Nat.reduceMul, Nat.reduceDiv, Nat.reduceEqDiff, Nat.reduceLT, Nat.reduceLeDiff, reduceCtorEq, Int.reduceEq, Int.reduceNe, Int.reduceLT, Int.reduceLE, Int.reduceAdd, Int.reduceSub, Int.reduceMul, Int.reduceNeg, Int.reduceToNat, Int.cast_ofNat_Int, Int.natCast_zero, Int.natCast_one, Int.toNat_natCast, Nat.reduceBEq, nzs, d1, sp1, sp2, sp3]
    exact ⟨.own 216, rfl, rfl⟩

def addE (l : List (Int × Int)) (t : Int × Int) : Int := if tasksE l ≠ 0 then tasksE l else if oneB t = false then 1 else if (l.any fun u => decide (u.1 = t.1)) = true then 5 else if l.length = 20 then 8 else 0
def addL (l : List (Int × Int)) (t : Int × Int) : List (Int × Int) := if addE l t ≠ 0 then [] else if t.2 = 2 then t :: l else l ++ [t]
theorem add (y : Value) (l : List (Int × Int)) (t : Int × Int) (M : Mem) (hy : RowM M y 2 (l.map encQ)) :
    Meets Proofs.Try.prog 7 [.v y, svQ t] M (RowR (fun s => .tup [s, .v (.int .i64 (addE l t))]) 2 ((addL l t).map encQ)) := by
  refine Meets.of_body [0,1,3,4,5,6,10,14,17,20,23] Proofs.Try.func7 rfl (by kernel_rfl) rfl fun w => ?_
  have hyl := hy.len_le
  rw [List.length_map] at hyl
  simp only [Proofs.Try.f7, svQ, shs, zts, sos, sls, zss, eqs, sx, sb1, sb2, sb3, sb4, sb5, sb6, ↓reduceIte, Nat.reduceAdd, Nat.reduceMul, Nat.reduceDiv, Nat.reduceEqDiff, Nat.reduceLT, Nat.reduceLeDiff, reduceCtorEq, Int.reduceEq, Int.reduceNe, Int.reduceLT, Int.reduceLE, Int.reduceAdd, Int.reduceSub, Int.reduceMul, Int.reduceNeg, Int.reduceToNat, Int.cast_ofNat_Int, Int.natCast_zero, Int.natCast_one, Int.toNat_natCast, Nat.reduceBEq, nzs]
  refine CallK.pure ⟨rfl, rfl⟩ rfl (check y l M hy) ?_
  by_cases he : tasksE l = 0
  rotate_left
  · have c1 : (tasksE l = 0) = False := eq_false he
    have e1 : addE l t = tasksE l := by rw [addE, if_pos he]
    have e2 : addL l t = [] := by rw [addL, if_pos (by rw [e1]; exact he)]
    rw [e1, e2]
    simp only [shs, zts, sos, sls, zss, eqs, sx, sb1, sb2, sb3, sb4, sb5, sb6, ↓reduceIte, Nat.reduceAdd, Nat.reduceMul, Nat.reduceDiv, Nat.reduceEqDiff, Nat.reduceLT, Nat.reduceLeDiff, reduceCtorEq, Int.reduceEq, Int.reduceNe, Int.reduceLT, Int.reduceLE, Int.reduceAdd, Int.reduceSub, Int.reduceMul, Int.reduceNeg, Int.reduceToNat, Int.cast_ofNat_Int, Int.natCast_zero, Int.natCast_one, Int.toNat_natCast, Nat.reduceBEq, nzs, c1]
    exact ⟨_, rfl, RowM.nil _ _⟩
  obtain ⟨h20, hok⟩ := tasksE_ok he
  simp only [shs, zts, sos, sls, zss, eqs, sx, sb1, sb2, sb3, sb4, sb5, sb6, ↓reduceIte, Nat.reduceAdd, Nat.reduceMul, Nat.reduceDiv, Nat.reduceEqDiff, Nat.reduceLT, Nat.reduceLeDiff, reduceCtorEq, Int.reduceEq, Int.reduceNe, Int.reduceLT, Int.reduceLE, Int.reduceAdd, Int.reduceSub, Int.reduceMul, Int.reduceNeg, Int.reduceToNat, Int.cast_ofNat_Int, Int.natCast_zero, Int.natCast_one, Int.toNat_natCast, Nat.reduceBEq, nzs, he]
  refine CallK.pure ⟨rfl, rfl⟩ rfl (one t M) ?_
  cases ho : oneB t with
  | false =>
    have e1 : addE l t = 1 := by rw [addE, if_neg (by simp [he]), if_pos ho]
    have e2 : addL l t = [] := by rw [addL, if_pos (by rw [e1]; decide)]
    rw [e1, e2]
    simp only [shs, zts, sos, sls, zss, eqs, sx, sb1, sb2, sb3, sb4, sb5, sb6, ↓reduceIte, Nat.reduceAdd, Nat.reduceMul, Nat.reduceDiv, Nat.reduceEqDiff, Nat.reduceLT, Nat.reduceLeDiff, reduceCtorEq, Int.reduceEq, Int.reduceNe, Int.reduceLT, Int.reduceLE, Int.reduceAdd, Int.reduceSub, Int.reduceMul, Int.reduceNeg, Int.reduceToNat, Int.cast_ofNat_Int, Int.natCast_zero, Int.natCast_one, Int.toNat_natCast, Nat.reduceBEq, nzs]
    exact ⟨_, rfl, RowM.nil _ _⟩
  | true =>
  simp only [shs, zts, sos, sls, zss, eqs, sx, sb1, sb2, sb3, sb4, sb5, sb6, ↓reduceIte, Nat.reduceAdd, Nat.reduceMul, Nat.reduceDiv, Nat.reduceEqDiff, Nat.reduceLT, Nat.reduceLeDiff, reduceCtorEq, Int.reduceEq, Int.reduceNe, Int.reduceLT, Int.reduceLE, Int.reduceAdd, Int.reduceSub, Int.reduceMul, Int.reduceNeg, Int.reduceToNat, Int.cast_ofNat_Int, Int.natCast_zero, Int.natCast_one, Int.toNat_natCast, Nat.reduceBEq, nzs]
  refine stepK.mkFn rfl rfl ?_
  simp only [shs, zts, sos, sls, zss, eqs, sx, sb1, sb2, sb3, sb4, sb5, sb6, ↓reduceIte, Nat.reduceAdd, Nat.reduceMul, Nat.reduceDiv, Nat.reduceEqDiff, Nat.reduceLT, Nat.reduceLeDiff, reduceCtorEq, Int.reduceEq, Int.reduceNe, Int.reduceLT, Int.reduceLE, Int.reduceAdd, Int.reduceSub, Int.reduceMul, Int.reduceNeg, Int.reduceToNat, Int.cast_ofNat_Int, Int.natCast_zero, Int.natCast_one, Int.toNat_natCast, Nat.reduceBEq, nzs]
  refine CallK.pubB (k := 24) rfl rfl fun bb M2 hM2 hb => ?_
  have hy2 := hy.le hM2
  obtain ⟨r1, r2⟩ := hy2.rows (by omega)
  have b0 := hb.at (j := 0) rfl
  have b1 := hb.at (j := 1) rfl
  have b1' := hb.at' (j := 1) rfl
  simp only [SV.val] at b0 b1 b1'
  simp only [shA1, shA2, shs, zts, sos, sls, zss, eqs, sx, sb1, sb2, sb3, sb4, sb5, sb6, ↓reduceIte, Nat.reduceAdd, Nat.reduceMul, Nat.reduceDiv, Nat.reduceEqDiff, Nat.reduceLT, Nat.reduceLeDiff, reduceCtorEq, Int.reduceEq, Int.reduceNe, Int.reduceLT, Int.reduceLE, Int.reduceAdd, Int.reduceSub, Int.reduceMul, Int.reduceNeg, Int.reduceToNat, Int.cast_ofNat_Int, Int.natCast_zero, Int.natCast_one, Int.toNat_natCast, Nat.reduceBEq]
  refine CallK.pure ⟨rfl, rfl⟩ rfl (ctsQ (α := Int × Int) (fun x => .int .i64 x.1) (fun x => .int .i64 x.2) (fun u => decide (u.1 = t.1)) _ _ rfl y l M2 hy2 (fun x _ => addC bb t x M2 hb)) ?_
  cases ha : l.any fun u => decide (u.1 = t.1) with
  | true =>
    have e1 : addE l t = 5 := by rw [addE, if_neg (by simp [he]), if_neg (by simp [ho]), if_pos ha]
    have e2 : addL l t = [] := by rw [addL, if_pos (by rw [e1]; decide)]
    rw [e1, e2]
    simp only [shs, zts, sos, sls, zss, eqs, sx, sb1, sb2, sb3, sb4, sb5, sb6, ↓reduceIte, Nat.reduceAdd, Nat.reduceMul, Nat.reduceDiv, Nat.reduceEqDiff, Nat.reduceLT, Nat.reduceLeDiff, reduceCtorEq, Int.reduceEq, Int.reduceNe, Int.reduceLT, Int.reduceLE, Int.reduceAdd, Int.reduceSub, Int.reduceMul, Int.reduceNeg, Int.reduceToNat, Int.cast_ofNat_Int, Int.natCast_zero, Int.natCast_one, Int.toNat_natCast, Nat.reduceBEq, nzs]
    exact ⟨_, rfl, RowM.nil _ _⟩
  | false =>
  by_cases h20' : l.length = 20
  · have e1 : addE l t = 8 := by rw [addE, if_neg (by simp [he]), if_neg (by simp [ho]), if_neg (by simp only [ha]; decide), if_pos h20']
    have e2 : addL l t = [] := by rw [addL, if_pos (by rw [e1]; decide)]
    rw [e1, e2]
    have c2 : ((l.length : Int) = 20) = True := eq_true (by omega)
    simp only [shs, zts, sos, sls, zss, eqs, sx, sb1, sb2, sb3, sb4, sb5, sb6, ↓reduceIte, Nat.reduceAdd, Nat.reduceMul, Nat.reduceDiv, Nat.reduceEqDiff, Nat.reduceLT, Nat.reduceLeDiff, reduceCtorEq, Int.reduceEq, Int.reduceNe, Int.reduceLT, Int.reduceLE, Int.reduceAdd, Int.reduceSub, Int.reduceMul, Int.reduceNeg, Int.reduceToNat, Int.cast_ofNat_Int, Int.natCast_zero, Int.natCast_one, Int.toNat_natCast, Nat.reduceBEq, nzs, hy.len, hy.sl, List.length_map, c2]
    exact ⟨_, rfl, RowM.nil _ _⟩
  have c2 : ((l.length : Int) = 20) = False := eq_false (by omega)
  have e1 : addE l t = 0 := by rw [addE, if_neg (by simp [he]), if_neg (by simp [ho]), if_neg (by simp only [ha]; decide), if_neg h20']
  rw [addL, e1, if_neg (by decide)]
  by_cases hk : t.2 = 2
  · have c3 : (t.2 = 2) = True := eq_true hk
    rw [if_pos hk]
    simp only [shs, zts, sos, sls, zss, eqs, sx, sb1, sb2, sb3, sb4, sb5, sb6, ↓reduceIte, Nat.reduceAdd, Nat.reduceMul, Nat.reduceDiv, Nat.reduceEqDiff, Nat.reduceLT, Nat.reduceLeDiff, reduceCtorEq, Int.reduceEq, Int.reduceNe, Int.reduceLT, Int.reduceLE, Int.reduceAdd, Int.reduceSub, Int.reduceMul, Int.reduceNeg, Int.reduceToNat, Int.cast_ofNat_Int, Int.natCast_zero, Int.natCast_one, Int.toNat_natCast, Nat.reduceBEq, nzs, hy.len, hy.sl, List.length_map, c2, c3, b0.1, b0.2, b1.1, b1.2, b1'.1, b1'.2]
    refine OpK.pub (k := 200) rfl fun v M3 hM3 hv => OpK.step ?_
    simp only [shs, zts, sos, sls, zss, eqs, sx, sb1, sb2, sb3, sb4, sb5, sb6, ↓reduceIte, Nat.reduceAdd, Nat.reduceMul, Nat.reduceDiv, Nat.reduceEqDiff, Nat.reduceLT, Nat.reduceLeDiff, reduceCtorEq, Int.reduceEq, Int.reduceNe, Int.reduceLT, Int.reduceLE, Int.reduceAdd, Int.reduceSub, Int.reduceMul, Int.reduceNeg, Int.reduceToNat, Int.cast_ofNat_Int, Int.natCast_zero, Int.natCast_one, Int.toNat_natCast, Nat.reduceBEq, sp1, sp2, sp3, nzs]
    refine ⟨⟨hv.one, hy.one⟩, CallK.pub (k := 216) rfl fun tv M4 hM4 htv => ?_⟩
    simp only [shs, zts, sos, sls, zss, eqs, sx, sb1, sb2, sb3, sb4, sb5, sb6, ↓reduceIte, Nat.reduceAdd, Nat.reduceMul, Nat.reduceDiv, Nat.reduceEqDiff, Nat.reduceLT, Nat.reduceLeDiff, reduceCtorEq, Int.reduceEq, Int.reduceNe, Int.reduceLT, Int.reduceLE, Int.reduceAdd, Int.reduceSub, Int.reduceMul, Int.reduceNeg, Int.reduceToNat, Int.cast_ofNat_Int, Int.natCast_zero, Int.natCast_one, Int.toNat_natCast, Nat.reduceBEq, sp1, sp2, sp3, nzs]
    refine CallK.own Ctx.id rfl rfl (concatT encQ tv [(v, [t]), (y, l)] M4 htv (fun r hr => ?_) ?_) rfl fun M5 hM5 => ?_
    · simp only [List.mem_cons, List.not_mem_nil, or_false] at hr
      rcases hr with rfl | rfl
      · exact hv.le hM4
      · exact (hy2.le hM3).le hM4
    · simp; omega
    simp only [shs, zts, sos, sls, zss, eqs, sx, sb1, sb2, sb3, sb4, sb5, sb6, ↓reduceIte, Nat.reduceAdd, Nat.reduceMul, Nat.reduceDiv, Nat.reduceEqDiff, Nat.reduceLT, Nat.reduceLeDiff, reduceCtorEq, Int.reduceEq, Int.reduceNe, Int.reduceLT, Int.reduceLE, Int.reduceAdd, Int.reduceSub, Int.reduceMul, Int.reduceNeg, Int.reduceToNat, Int.cast_ofNat_Int, Int.natCast_zero, Int.natCast_one, Int.toNat_natCast, Nat.reduceBEq, sp1, sp2, sp3, nzs]
    exact ⟨.own 224, rfl, by simp [IsRow, hget]⟩
  · have c3 : (t.2 = 2) = False := eq_false hk
    rw [if_neg hk]
    simp only [shs, zts, sos, sls, zss, eqs, sx, sb1, sb2, sb3, sb4, sb5, sb6, ↓reduceIte, Nat.reduceAdd, Nat.reduceMul, Nat.reduceDiv, Nat.reduceEqDiff, Nat.reduceLT, Nat.reduceLeDiff, reduceCtorEq, Int.reduceEq, Int.reduceNe, Int.reduceLT, Int.reduceLE, Int.reduceAdd, Int.reduceSub, Int.reduceMul, Int.reduceNeg, Int.reduceToNat, Int.cast_ofNat_Int, Int.natCast_zero, Int.natCast_one, Int.toNat_natCast, Nat.reduceBEq, nzs, hy.len, hy.sl, List.length_map, c2, c3, b0.1, b0.2, b1.1, b1.2, b1'.1, b1'.2]
    refine DrawK.plan (tk [0, 2] (.two 1 (ones' [3, 4, 5, 6] .done) 3 (ones' [1, 4, 5, 6] .done))) (by kernel_rfl) (by kernel_rfl) ?_
    simp only [shs, zts, sos, sls, zss, eqs, sx, sb1, sb2, sb3, sb4, sb5, sb6, ↓reduceIte, Nat.reduceAdd, Nat.reduceMul, Nat.reduceDiv, Nat.reduceEqDiff, Nat.reduceLT, Nat.reduceLeDiff, reduceCtorEq, Int.reduceEq, Int.reduceNe, Int.reduceLT, Int.reduceLE, Int.reduceAdd, Int.reduceSub, Int.reduceMul, Int.reduceNeg, Int.reduceToNat, Int.cast_ofNat_Int, Int.natCast_zero, Int.natCast_one, Int.toNat_natCast, Nat.reduceBEq, nzs, se1, se2, tks, b0.1, b0.2, b1.1, b1.2, b1'.1, b1'.2]
    refine ⟨CallK.own Ctx.id rfl rfl (cloneQ y l M2 hy2 (by omega)) rfl fun M5 hM5 => ?_, ?_⟩
    · simp only [shs, zts, sos, sls, zss, eqs, sx, sb1, sb2, sb3, sb4, sb5, sb6, ↓reduceIte, Nat.reduceAdd, Nat.reduceMul, Nat.reduceDiv, Nat.reduceEqDiff, Nat.reduceLT, Nat.reduceLeDiff, reduceCtorEq, Int.reduceEq, Int.reduceNe, Int.reduceLT, Int.reduceLE, Int.reduceAdd, Int.reduceSub, Int.reduceMul, Int.reduceNeg, Int.reduceToNat, Int.cast_ofNat_Int, Int.natCast_zero, Int.natCast_one, Int.toNat_natCast, Nat.reduceBEq, nzs, se1, se2, tks, hM5]
      rw [List.length_map]
      exact ⟨⟨by omega, by omega⟩, .own 264, rfl, by simp [IsRow, hget, encQ]⟩
    · refine CallK.own Ctx.id rfl rfl (cloneQ y l M2 hy2 (by omega)) rfl fun M5 hM5 => ?_
      simp only [shs, zts, sos, sls, zss, eqs, sx, sb1, sb2, sb3, sb4, sb5, sb6, ↓reduceIte, Nat.reduceAdd, Nat.reduceMul, Nat.reduceDiv, Nat.reduceEqDiff, Nat.reduceLT, Nat.reduceLeDiff, reduceCtorEq, Int.reduceEq, Int.reduceNe, Int.reduceLT, Int.reduceLE, Int.reduceAdd, Int.reduceSub, Int.reduceMul, Int.reduceNeg, Int.reduceToNat, Int.cast_ofNat_Int, Int.natCast_zero, Int.natCast_one, Int.toNat_natCast, Nat.reduceBEq, nzs, se1, se2, tks, hM5]
      rw [List.length_map]
      exact ⟨⟨by omega, by omega⟩, .own 264, rfl, by simp [IsRow, hget, encQ]⟩

def doneE (l : List (Int × Int)) (tag : Int) : Int := if tasksE l ≠ 0 then tasksE l else match l[(fidx (fun u : Int × Int => decide (u.1 = tag)) l 0).toNat]? with
  | some x => if fidx (fun u : Int × Int => decide (u.1 = tag)) l 0 < 0 then 4 else if freeB l (fidx (fun u : Int × Int => decide (u.1 = tag)) l 0).toNat x.2 = false then 9 else 0
  | none => 4
def doneL (l : List (Int × Int)) (tag : Int) : List (Int × Int) := if doneE l tag ≠ 0 then [] else l.take (fidx (fun u : Int × Int => decide (u.1 = tag)) l 0).toNat ++ l.drop ((fidx (fun u : Int × Int => decide (u.1 = tag)) l 0).toNat + 1)
theorem fidx_spec {α : Type} (p : α → Bool) : ∀ (l : List α) (i : Nat), (fidx p l i = -1 ∧ ∀ x ∈ l, p x = false) ∨ ∃ j x, fidx p l i = ((i + j : Nat) : Int) ∧ l[j]? = some x ∧ p x = true ∧ ∀ q y, q < j → l[q]? = some y → p y = false
  | [], i => .inl ⟨rfl, fun x hx => by cases hx⟩
  | a :: l, i => by
    cases ha : p a with
    | true => exact .inr ⟨0, a, by simp [fidx, ha], rfl, ha, fun q y hq => by omega⟩
    | false =>
      rcases fidx_spec p l (i + 1) with ⟨h1, h2⟩ | ⟨j, x, h1, h2, h3, h4⟩
      · refine .inl ⟨by simp [fidx, ha, h1], fun x hx => ?_⟩
        rcases List.mem_cons.1 hx with rfl | hx
        · exact ha
        · exact h2 x hx
      · refine .inr ⟨j + 1, x, by simp only [fidx, ha]; simp; rw [h1]; omega, h2, h3, fun q y hq hy => ?_⟩
        cases q with
        | zero => simp at hy; subst hy; exact ha
        | succ q => exact h4 q y (by omega) hy
theorem done (y : Value) (l : List (Int × Int)) (tag : Int) (M : Mem) (hy : RowM M y 2 (l.map encQ)) :
    Meets Proofs.Try.prog 9 [.v y, .v (.int .i64 tag)] M (RowR (fun s => .tup [s, .v (.int .i64 (doneE l tag))]) 2 ((doneL l tag).map encQ)) := by
  refine Meets.of_body [0,1,3,4,5,6,7,11,17,21] Proofs.Try.func9 rfl (by kernel_rfl) rfl fun w => ?_
  have hyl := hy.len_le
  rw [List.length_map] at hyl
  simp only [Proofs.Try.f9, shs, zts, sos, sls, zss, eqs, sx, sb1, sb2, sb3, sb4, sb5, sb6, ↓reduceIte, Nat.reduceAdd, Nat.reduceMul, Nat.reduceDiv, Nat.reduceEqDiff, Nat.reduceLT, Nat.reduceLeDiff, reduceCtorEq, Int.reduceEq, Int.reduceNe, Int.reduceLT, Int.reduceLE, Int.reduceAdd, Int.reduceSub, Int.reduceMul, Int.reduceNeg, Int.reduceToNat, Int.cast_ofNat_Int, Int.natCast_zero, Int.natCast_one, Int.toNat_natCast, Nat.reduceBEq, nzs]
  refine CallK.pure ⟨rfl, rfl⟩ rfl (check y l M hy) ?_
  by_cases he : tasksE l = 0
  rotate_left
  · have c1 : (tasksE l = 0) = False := eq_false he
    have e1 : doneE l tag = tasksE l := by rw [doneE, if_pos he]
    have e2 : doneL l tag = [] := by rw [doneL, if_pos (by rw [e1]; exact he)]
    rw [e1, e2]
    simp only [shs, zts, sos, sls, zss, eqs, sx, sb1, sb2, sb3, sb4, sb5, sb6, ↓reduceIte, Nat.reduceAdd, Nat.reduceMul, Nat.reduceDiv, Nat.reduceEqDiff, Nat.reduceLT, Nat.reduceLeDiff, reduceCtorEq, Int.reduceEq, Int.reduceNe, Int.reduceLT, Int.reduceLE, Int.reduceAdd, Int.reduceSub, Int.reduceMul, Int.reduceNeg, Int.reduceToNat, Int.cast_ofNat_Int, Int.natCast_zero, Int.natCast_one, Int.toNat_natCast, Nat.reduceBEq, nzs, c1]
    exact ⟨_, rfl, RowM.nil _ _⟩
  obtain ⟨h20, hok⟩ := tasksE_ok he
  have hk := fun x hx => oneB_kind (hok x hx)
  simp only [shs, zts, sos, sls, zss, eqs, sx, sb1, sb2, sb3, sb4, sb5, sb6, ↓reduceIte, Nat.reduceAdd, Nat.reduceMul, Nat.reduceDiv, Nat.reduceEqDiff, Nat.reduceLT, Nat.reduceLeDiff, reduceCtorEq, Int.reduceEq, Int.reduceNe, Int.reduceLT, Int.reduceLE, Int.reduceAdd, Int.reduceSub, Int.reduceMul, Int.reduceNeg, Int.reduceToNat, Int.cast_ofNat_Int, Int.natCast_zero, Int.natCast_one, Int.toNat_natCast, Nat.reduceBEq, nzs, he]
  refine stepK.mkFn rfl rfl ?_
  simp only [shs, zts, sos, sls, zss, eqs, sx, sb1, sb2, sb3, sb4, sb5, sb6, ↓reduceIte, Nat.reduceAdd, Nat.reduceMul, Nat.reduceDiv, Nat.reduceEqDiff, Nat.reduceLT, Nat.reduceLeDiff, reduceCtorEq, Int.reduceEq, Int.reduceNe, Int.reduceLT, Int.reduceLE, Int.reduceAdd, Int.reduceSub, Int.reduceMul, Int.reduceNeg, Int.reduceToNat, Int.cast_ofNat_Int, Int.natCast_zero, Int.natCast_one, Int.toNat_natCast, Nat.reduceBEq, nzs]
  refine CallK.pubB (k := 24) rfl rfl fun bb M2 hM2 hb => ?_
  have hy2 := hy.le hM2
  simp only [shA1, shA2, shs, zts, sos, sls, zss, eqs, sx, sb1, sb2, sb3, sb4, sb5, sb6, ↓reduceIte, Nat.reduceAdd, Nat.reduceMul, Nat.reduceDiv, Nat.reduceEqDiff, Nat.reduceLT, Nat.reduceLeDiff, reduceCtorEq, Int.reduceEq, Int.reduceNe, Int.reduceLT, Int.reduceLE, Int.reduceAdd, Int.reduceSub, Int.reduceMul, Int.reduceNeg, Int.reduceToNat, Int.cast_ofNat_Int, Int.natCast_zero, Int.natCast_one, Int.toNat_natCast, Nat.reduceBEq]
  refine CallK.pure ⟨rfl, rfl⟩ rfl (idxQ (α := Int × Int) (fun x => .int .i64 x.1) (fun x => .int .i64 x.2) (fun u => decide (u.1 = tag)) _ _ rfl y l M2 hy2 (fun x _ => doneC bb tag x M2 hb)) ?_
  have hE : doneE l tag = match l[(fidx (fun u : Int × Int => decide (u.1 = tag)) l 0).toNat]? with
    | some x => if fidx (fun u : Int × Int => decide (u.1 = tag)) l 0 < 0 then 4 else if freeB l (fidx (fun u : Int × Int => decide (u.1 = tag)) l 0).toNat x.2 = false then 9 else 0
    | none => 4 := by rw [doneE, if_neg (by simp [he])]
  have hL : doneL l tag = if doneE l tag ≠ 0 then [] else l.take (fidx (fun u : Int × Int => decide (u.1 = tag)) l 0).toNat ++ l.drop ((fidx (fun u : Int × Int => decide (u.1 = tag)) l 0).toNat + 1) := rfl
  rcases fidx_spec (fun u : Int × Int => decide (u.1 = tag)) l 0 with ⟨hf, _⟩ | ⟨j, ⟨a, k⟩, hf, hx, _, _⟩
  · rw [hf] at hE hL ⊢
    have e1 : doneE l tag = 4 := by rw [hE]; split <;> rfl
    rw [hL, e1, if_pos (by decide)]
    simp only [shs, zts, sos, sls, zss, eqs, sx, sb1, sb2, sb3, sb4, sb5, sb6, ↓reduceIte, Nat.reduceAdd, Nat.reduceMul, Nat.reduceDiv, Nat.reduceEqDiff, Nat.reduceLT, Nat.reduceLeDiff, reduceCtorEq, Int.reduceEq, Int.reduceNe, Int.reduceLT, Int.reduceLE, Int.reduceAdd, Int.reduceSub, Int.reduceMul, Int.reduceNeg, Int.reduceToNat, Int.cast_ofNat_Int, Int.natCast_zero, Int.natCast_one, Int.toNat_natCast, Nat.reduceBEq, nzs]
    exact ⟨_, rfl, RowM.nil _ _⟩
  rw [Nat.zero_add] at hf
  rw [hf] at hE hL ⊢
  have hjl : j < l.length := (List.getElem?_eq_some_iff.1 hx).1
  have c0 : ((j : Int) < 0) = False := eq_false (by omega)
  simp only [Int.toNat_natCast, hx, c0, if_false] at hE hL
  simp only [shs, zts, sos, sls, zss, eqs, sx, sb1, sb2, sb3, sb4, sb5, sb6, ↓reduceIte, Nat.reduceAdd, Nat.reduceMul, Nat.reduceDiv, Nat.reduceEqDiff, Nat.reduceLT, Nat.reduceLeDiff, reduceCtorEq, Int.reduceEq, Int.reduceNe, Int.reduceLT, Int.reduceLE, Int.reduceAdd, Int.reduceSub, Int.reduceMul, Int.reduceNeg, Int.reduceToNat, Int.cast_ofNat_Int, Int.natCast_zero, Int.natCast_one, Int.toNat_natCast, Nat.reduceBEq, nzs, c0]
  refine CallK.pure ⟨rfl, rfl⟩ rfl (may1 y l j a k M2 hy2 hx (hk _ (List.mem_of_getElem? hx))) ?_
  cases hfr : freeB l j k with
  | false =>
    simp only [hfr, Int.toNat_natCast, if_true] at hE
    rw [hL, hE, if_pos (by decide)]
    simp only [shs, zts, sos, sls, zss, eqs, sx, sb1, sb2, sb3, sb4, sb5, sb6, ↓reduceIte, Nat.reduceAdd, Nat.reduceMul, Nat.reduceDiv, Nat.reduceEqDiff, Nat.reduceLT, Nat.reduceLeDiff, reduceCtorEq, Int.reduceEq, Int.reduceNe, Int.reduceLT, Int.reduceLE, Int.reduceAdd, Int.reduceSub, Int.reduceMul, Int.reduceNeg, Int.reduceToNat, Int.cast_ofNat_Int, Int.natCast_zero, Int.natCast_one, Int.toNat_natCast, Nat.reduceBEq, nzs]
    exact ⟨_, rfl, RowM.nil _ _⟩
  | true =>
    simp only [hfr, Int.toNat_natCast, Bool.true_eq_false, if_false] at hE
    rw [hL, hE, if_neg (by decide)]
    simp only [shs, zts, sos, sls, zss, eqs, sx, sb1, sb2, sb3, sb4, sb5, sb6, ↓reduceIte, Nat.reduceAdd, Nat.reduceMul, Nat.reduceDiv, Nat.reduceEqDiff, Nat.reduceLT, Nat.reduceLeDiff, reduceCtorEq, Int.reduceEq, Int.reduceNe, Int.reduceLT, Int.reduceLE, Int.reduceAdd, Int.reduceSub, Int.reduceMul, Int.reduceNeg, Int.reduceToNat, Int.cast_ofNat_Int, Int.natCast_zero, Int.natCast_one, Int.toNat_natCast, Nat.reduceBEq, nzs]
    refine CallK.own Ctx.id rfl rfl (cloneQ y l M2 hy2 (by omega)) rfl fun M5 hM5 => ?_
    simp only [shs, zts, sos, sls, zss, eqs, sx, sb1, sb2, sb3, sb4, sb5, sb6, ↓reduceIte, Nat.reduceAdd, Nat.reduceMul, Nat.reduceDiv, Nat.reduceEqDiff, Nat.reduceLT, Nat.reduceLeDiff, reduceCtorEq, Int.reduceEq, Int.reduceNe, Int.reduceLT, Int.reduceLE, Int.reduceAdd, Int.reduceSub, Int.reduceMul, Int.reduceNeg, Int.reduceToNat, Int.cast_ofNat_Int, Int.natCast_zero, Int.natCast_one, Int.toNat_natCast, Nat.reduceBEq, nzs, inK, lo, hi]
    refine ⟨by omega, ?_⟩
    rw [show ((j : Int) + 1) = ((j + 1 : Nat) : Int) from rfl]
    refine CallK.lendR (A := fun s => [s, .v (.int .i64 j), .v (.int .i64 (j + 1 : Nat))]) 184 (Ctxs.cons0 _ rfl) Ctx.id rfl rfl rfl (fun M6 h6 => deleteT (l.map encQ) j (j + 1) M6 (by omega) (by rw [List.length_map]; omega) (by rw [List.length_map]; omega)) rfl ?_
    simp only [shs, zts, sos, sls, zss, eqs, sx, sb1, sb2, sb3, sb4, sb5, sb6, ↓reduceIte, Nat.reduceAdd, Nat.reduceMul, Nat.reduceDiv, Nat.reduceEqDiff, Nat.reduceLT, Nat.reduceLeDiff, reduceCtorEq, Int.reduceEq, Int.reduceNe, Int.reduceLT, Int.reduceLE, Int.reduceAdd, Int.reduceSub, Int.reduceMul, Int.reduceNeg, Int.reduceToNat, Int.cast_ofNat_Int, Int.natCast_zero, Int.natCast_one, Int.toNat_natCast, Nat.reduceBEq, nzs]
    exact ⟨.own 216, rfl, by simp [IsRow, hget]⟩
end Go.X.Qu
