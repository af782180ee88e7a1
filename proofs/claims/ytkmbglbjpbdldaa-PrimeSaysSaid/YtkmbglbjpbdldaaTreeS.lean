/- tree.Levels, tree.Root, tree.Proof and what woolref says of them. Conditions: none. -/
import Derived.Test.YtkmbglbjpbdldaaTreeV
import Derived.Test.YtkmbglbjpbdldaaFwF
set_option linter.unusedSimpArgs false
set_option linter.unusedVariables false
set_option maxHeartbeats 4000000
set_option maxRecDepth 20000
namespace Go.X.Ts
open Go Go.X Go.X.Pol Go.X.Pl Go.X.Rp Go.X.Pd Go.X.Md Go.X.Mv Go.X.Pt Go.X.Tv

def leafP (t : List UInt8) : Nat := prf G (108 :: t) 1
def nodeP (a b : Nat) : Nat := prf G (saidN a b) 1
def upL : List Nat → List Nat
  | [] => []
  | [x] => [x]
  | x :: y :: r => nodeP x y :: upL r
theorem leaf_le (t : List UInt8) : leafP t ≤ 1073741824 := prf_le G (by decide) (by decide) _ 1 (by omega)
theorem node_le (a b : Nat) : nodeP a b ≤ 1073741824 := prf_le G (by decide) (by decide) _ 1 (by omega)
def okL (l : List Nat) : Prop := ∀ x ∈ l, x ≤ 1073741824
theorem upL_ok : ∀ {l : List Nat}, okL l → okL (upL l)
  | [], h => h
  | [x], h => h
  | x :: y :: r, h => fun z hz => by
    rcases List.mem_cons.1 hz with rfl | hz
    · exact node_le x y
    · exact upL_ok (l := r) (fun u hu => h u (by simp [hu])) z hz
theorem upL_len : ∀ l : List Nat, (upL l).length = (l.length + 1) / 2
  | [] => rfl
  | [x] => by simp [upL]
  | x :: y :: r => by
    have := upL_len r
    simp only [upL, List.length_cons, this]
    omega
/-- all levels, the lowest first -/
def levs : Nat → List Nat → List (List Nat)
  | 0, l => [l]
  | f + 1, l => if 1 < l.length then l :: levs f (upL l) else [l]

/-! ### Check -/
theorem idxS {α : Type} (c0 : α → Value) (p : α → Bool) (f : Nat) (caps : List SV) (hcaps : SV.concs caps = true) (y : Value) (l : List α) (M : Mem) (hy : RowM M y 1 (l.map (fun x => [c0 x])))
    (hf : ∀ x ∈ l, Meets Proofs.Try.prog f (.v (c0 x) :: caps) M fun r _ _ => r = .v (.bool (p x))) :
    Meets Proofs.Try.prog 175 [.v y, .fn f caps] M fun r _ _ => r = .v (.int .i64 (fidx p l 0)) := by
  refine Meets.of_body [0,1,4,5,7,8,9,16] Proofs.Try.func175 rfl (by kernel_rfl) (by simp only [SV.concs, SV.conc, hcaps, Bool.and_self]) fun w => ?_
  generalize hc : fidx p l 0 = c
  have hyl := hy.len_le
  rw [List.length_map] at hyl
  simp only [Proofs.Try.f175, shs, zts, sos, sls, zss, eqs, sx, sb1, sb2, sb3, sb4, sb5, ↓reduceIte, Nat.reduceAdd, Nat.reduceMul, Nat.reduceDiv, Nat.reduceEqDiff, Nat.reduceLT, Nat.reduceLeDiff, reduceCtorEq, Int.reduceEq, Int.reduceNe, Int.reduceLT, Int.reduceLE, Int.reduceAdd, Int.reduceSub, Int.reduceMul, Int.reduceNeg, Int.reduceToNat, Int.cast_ofNat_Int, Int.natCast_zero, Int.natCast_one, Int.toNat_natCast, Nat.reduceBEq, hy.len, hy.sl, List.length_map]
  refine LoopK.go (X := Nat × Nat) (fun x => ([(0, true, .v y), (1, true, .fn f caps), (7, true, .v (.int .i64 l.length)), (8, true, .v (.int .i64 x.2))], [], M))
    (fun x => x.1 + x.2 = l.length ∧ fidx p (l.drop x.2) x.2 = c) (fun x => x.1) (l.length, 0) ⟨rfl, hc⟩ (Ent.of ?_) ?_
  · simp only [sx, sb1, sb2, sb3, sb4, sb5, ↓reduceIte, Nat.reduceAdd, Nat.reduceMul, Nat.reduceDiv, Nat.reduceEqDiff, Nat.reduceLT, Nat.reduceLeDiff, reduceCtorEq, Int.reduceEq, Int.reduceNe, Int.reduceLT, Int.reduceLE, Int.reduceAdd, Int.reduceSub, Int.reduceMul, Int.reduceNeg, Int.reduceToNat, Int.cast_ofNat_Int, Int.natCast_zero, Int.natCast_one, Int.toNat_natCast, Nat.reduceBEq]
  rintro ⟨fu, i⟩ ⟨h1, h2⟩
  simp only at h1 h2
  by_cases hil : i < l.length
  · have c1 : ((i : Int) < (l.length : Int)) = True := eq_true (by omega)
    obtain ⟨a, hx, hd⟩ := l_drop_at (l := l) (i := i) hil
    rw [hd] at h2
    simp only [fidx] at h2
    have g0 := hy.cell (i := i) (e := [c0 a]) (by rw [List.getElem?_map, hx]; rfl) (off := 0) (by omega)
    have i0 := hy.ix (i := (i : Int)) (by omega) (by rw [List.length_map]; omega)
    simp only [List.getD_cons_zero, List.getD_cons_succ] at g0
    simp only [shs, zts, sos, sls, zss, eqs, sx, sb1, sb2, sb3, sb4, sb5, ↓reduceIte, Nat.reduceAdd, Nat.reduceMul, Nat.reduceDiv, Nat.reduceEqDiff, Nat.reduceLT, Nat.reduceLeDiff, reduceCtorEq, Int.reduceEq, Int.reduceNe, Int.reduceLT, Int.reduceLE, Int.reduceAdd, Int.reduceSub, Int.reduceMul, Int.reduceNeg, Int.reduceToNat, Int.cast_ofNat_Int, Int.natCast_zero, Int.natCast_one, Int.toNat_natCast, Nat.reduceBEq, nzs, c1, hy.len, hy.sl, List.length_map, i0, i0.2, g0.1, g0.2.1]
    refine CallK.pure ⟨by simp only [SV.concs, SV.conc, hcaps, Bool.and_self], rfl⟩ rfl (hf a (List.mem_of_getElem? hx)) ?_
    cases hp : p a with
    | true =>
      rw [hp, if_pos rfl] at h2
      subst h2
      simp only [shs, zts, sos, sls, zss, eqs, sx, sb1, sb2, sb3, sb4, sb5, ↓reduceIte, Nat.reduceAdd, Nat.reduceMul, Nat.reduceDiv, Nat.reduceEqDiff, Nat.reduceLT, Nat.reduceLeDiff, reduceCtorEq, Int.reduceEq, Int.reduceNe, Int.reduceLT, Int.reduceLE, Int.reduceAdd, Int.reduceSub, Int.reduceMul, Int.reduceNeg, Int.reduceToNat, Int.cast_ofNat_Int, Int.natCast_zero, Int.natCast_one, Int.toNat_natCast, Nat.reduceBEq, nzs]
    | false =>
      rw [hp, if_neg (by simp)] at h2
      simp only [shs, zts, sos, sls, zss, eqs, sx, sb1, sb2, sb3, sb4, sb5, ↓reduceIte, Nat.reduceAdd, Nat.reduceMul, Nat.reduceDiv, Nat.reduceEqDiff, Nat.reduceLT, Nat.reduceLeDiff, reduceCtorEq, Int.reduceEq, Int.reduceNe, Int.reduceLT, Int.reduceLE, Int.reduceAdd, Int.reduceSub, Int.reduceMul, Int.reduceNeg, Int.reduceToNat, Int.cast_ofNat_Int, Int.natCast_zero, Int.natCast_one, Int.toNat_natCast, Nat.reduceBEq, nzs, inK, lo, hi]
      refine ⟨by omega, (fu - 1, i + 1), ⟨⟨by simp only; omega, h2⟩, by simp only; omega⟩, Ent.of ?_⟩
      simp only [sx, sb1, sb2, sb3, sb4, sb5, ↓reduceIte, Nat.reduceAdd, Nat.reduceMul, Nat.reduceDiv, Nat.reduceEqDiff, Nat.reduceLT, Nat.reduceLeDiff, reduceCtorEq, Int.reduceEq, Int.reduceNe, Int.reduceLT, Int.reduceLE, Int.reduceAdd, Int.reduceSub, Int.reduceMul, Int.reduceNeg, Int.reduceToNat, Int.cast_ofNat_Int, Int.natCast_zero, Int.natCast_one, Int.toNat_natCast, Nat.reduceBEq, Int.natCast_add]
  · have c1 : ((i : Int) < (l.length : Int)) = False := eq_false (by omega)
    have hd : l.drop i = [] := List.drop_eq_nil_of_le (by omega)
    rw [hd] at h2
    simp only [fidx] at h2
    subst h2
    simp only [shs, zts, sos, sls, zss, eqs, sx, sb1, sb2, sb3, sb4, sb5, ↓reduceIte, Nat.reduceAdd, Nat.reduceMul, Nat.reduceDiv, Nat.reduceEqDiff, Nat.reduceLT, Nat.reduceLeDiff, reduceCtorEq, Int.reduceEq, Int.reduceNe, Int.reduceLT, Int.reduceLE, Int.reduceAdd, Int.reduceSub, Int.reduceMul, Int.reduceNeg, Int.reduceToNat, Int.cast_ofNat_Int, Int.natCast_zero, Int.natCast_one, Int.toNat_natCast, Nat.reduceBEq, c1]

theorem ctsS {α : Type} (c0 : α → Value) (p : α → Bool) (f : Nat) (caps : List SV) (hcaps : SV.concs caps = true) (y : Value) (l : List α) (M : Mem) (hy : RowM M y 1 (l.map (fun x => [c0 x])))
    (hf : ∀ x ∈ l, Meets Proofs.Try.prog f (.v (c0 x) :: caps) M fun r _ _ => r = .v (.bool (p x))) :
    Meets Proofs.Try.prog 138 [.v y, .fn f caps] M fun r _ _ => r = .v (.bool (l.any p)) := by
  refine Meets.of_body [0,1,4] Proofs.Try.func138 rfl (by kernel_rfl) (by simp only [SV.concs, SV.conc, hcaps, Bool.and_self]) fun w => ?_
  simp only [Proofs.Try.f138, shs, zts, sos, sls, zss, eqs, sx, sb1, sb2, sb3, sb4, sb5, ↓reduceIte, Nat.reduceAdd, Nat.reduceMul, Nat.reduceDiv, Nat.reduceEqDiff, Nat.reduceLT, Nat.reduceLeDiff, reduceCtorEq, Int.reduceEq, Int.reduceNe, Int.reduceLT, Int.reduceLE, Int.reduceAdd, Int.reduceSub, Int.reduceMul, Int.reduceNeg, Int.reduceToNat, Int.cast_ofNat_Int, Int.natCast_zero, Int.natCast_one, Int.toNat_natCast, Nat.reduceBEq]
  refine CallK.pure ⟨by simp only [SV.concs, SV.conc, hcaps, Bool.and_self], rfl⟩ rfl (idxS c0 p f caps hcaps y l M hy hf) ?_
  rw [← fidx_any p l 0]
  simp only [shs, zts, sos, sls, zss, eqs, sx, sb1, sb2, sb3, sb4, sb5, ↓reduceIte, Nat.reduceAdd, Nat.reduceMul, Nat.reduceDiv, Nat.reduceEqDiff, Nat.reduceLT, Nat.reduceLeDiff, reduceCtorEq, Int.reduceEq, Int.reduceNe, Int.reduceLT, Int.reduceLE, Int.reduceAdd, Int.reduceSub, Int.reduceMul, Int.reduceNeg, Int.reduceToNat, Int.cast_ofNat_Int, Int.natCast_zero, Int.natCast_one, Int.toNat_natCast, Nat.reduceBEq]

def encN (k : Nat) : List Value := [.int .i64 (k : Int)]
theorem big (s : List UInt8) (M : Mem) (_ : s.length ≤ maxLen) : Meets Proofs.Try.prog 139 [.v (.string ⟨s.toArray⟩)] M fun r _ _ => r = .v (.bool (decide (64 < (s.length : Int)))) := by
  refine Meets.of_body [0,2] Proofs.Try.func139 rfl (by kernel_rfl) rfl fun w => ?_
  simp only [Proofs.Try.f139, shs, zts, sos, sls, zss, eqs, sx, sb1, sb2, sb3, sb4, sb5, ↓reduceIte, Nat.reduceAdd, Nat.reduceMul, Nat.reduceDiv, Nat.reduceEqDiff, Nat.reduceLT, Nat.reduceLeDiff, reduceCtorEq, Int.reduceEq, Int.reduceNe, Int.reduceLT, Int.reduceLE, Int.reduceAdd, Int.reduceSub, Int.reduceMul, Int.reduceNeg, Int.reduceToNat, Int.cast_ofNat_Int, Int.natCast_zero, Int.natCast_one, Int.toNat_natCast, Nat.reduceBEq]
def bigB (s : List UInt8) : Bool := decide (64 < (s.length : Int))
def lvE (l : List (List UInt8)) : Int := if l.length = 0 then 4 else if 32 < l.length ∨ l.any bigB = true then 2 else 0
theorem check (y : Value) (l : List (List UInt8)) (M : Mem) (hy : RowM M y 1 (l.map encS)) (hl : ∀ s ∈ l, s.length ≤ maxLen) :
    Meets Proofs.Try.prog 78 [.v y] M fun r _ _ => r = .v (.int .i64 (lvE l)) := by
  refine Meets.of_body [0,2,5,12] Proofs.Try.func78 rfl (by kernel_rfl) rfl fun w => ?_
  generalize hc : lvE l = c
  unfold lvE at hc
  by_cases h0 : l.length = 0
  · rw [if_pos h0] at hc
    subst hc
    have d0 : ((l.length : Int) = 0) = True := eq_true (by omega)
    simp only [Proofs.Try.f78, shs, zts, sos, sls, zss, eqs, sx, sb1, sb2, sb3, sb4, sb5, ↓reduceIte, Nat.reduceAdd, Nat.reduceMul, Nat.reduceDiv, Nat.reduceEqDiff, Nat.reduceLT, Nat.reduceLeDiff, reduceCtorEq, Int.reduceEq, Int.reduceNe, Int.reduceLT, Int.reduceLE, Int.reduceAdd, Int.reduceSub, Int.reduceMul, Int.reduceNeg, Int.reduceToNat, Int.cast_ofNat_Int, Int.natCast_zero, Int.natCast_one, Int.toNat_natCast, Nat.reduceBEq, hy.len, hy.sl, List.length_map, d0]
  rw [if_neg h0] at hc
  have d0 : ((l.length : Int) = 0) = False := eq_false (by omega)
  by_cases h1 : 32 < l.length
  · rw [if_pos (.inl h1)] at hc
    subst hc
    have d1 : (32 < (l.length : Int)) = True := eq_true (by omega)
    simp only [Proofs.Try.f78, shs, zts, sos, sls, zss, eqs, sx, sb1, sb2, sb3, sb4, sb5, ↓reduceIte, Nat.reduceAdd, Nat.reduceMul, Nat.reduceDiv, Nat.reduceEqDiff, Nat.reduceLT, Nat.reduceLeDiff, reduceCtorEq, Int.reduceEq, Int.reduceNe, Int.reduceLT, Int.reduceLE, Int.reduceAdd, Int.reduceSub, Int.reduceMul, Int.reduceNeg, Int.reduceToNat, Int.cast_ofNat_Int, Int.natCast_zero, Int.natCast_one, Int.toNat_natCast, Nat.reduceBEq, hy.len, hy.sl, List.length_map, d0, d1]
  have d1 : (32 < (l.length : Int)) = False := eq_false (by omega)
  simp only [Proofs.Try.f78, shs, zts, sos, sls, zss, eqs, sx, sb1, sb2, sb3, sb4, sb5, ↓reduceIte, Nat.reduceAdd, Nat.reduceMul, Nat.reduceDiv, Nat.reduceEqDiff, Nat.reduceLT, Nat.reduceLeDiff, reduceCtorEq, Int.reduceEq, Int.reduceNe, Int.reduceLT, Int.reduceLE, Int.reduceAdd, Int.reduceSub, Int.reduceMul, Int.reduceNeg, Int.reduceToNat, Int.cast_ofNat_Int, Int.natCast_zero, Int.natCast_one, Int.toNat_natCast, Nat.reduceBEq, hy.len, hy.sl, List.length_map, d0, d1]
  refine CallK.pure ⟨rfl, rfl⟩ rfl (ctsS (fun s : List UInt8 => .string ⟨s.toArray⟩) bigB _ [] rfl y l M hy (fun s hs => big s M (hl s hs))) ?_
  cases ha : l.any bigB with
  | true =>
    rw [if_pos (.inr ha)] at hc
    subst hc
    simp only [shs, zts, sos, sls, zss, eqs, sx, sb1, sb2, sb3, sb4, sb5, ↓reduceIte, Nat.reduceAdd, Nat.reduceMul, Nat.reduceDiv, Nat.reduceEqDiff, Nat.reduceLT, Nat.reduceLeDiff, reduceCtorEq, Int.reduceEq, Int.reduceNe, Int.reduceLT, Int.reduceLE, Int.reduceAdd, Int.reduceSub, Int.reduceMul, Int.reduceNeg, Int.reduceToNat, Int.cast_ofNat_Int, Int.natCast_zero, Int.natCast_one, Int.toNat_natCast, Nat.reduceBEq]
  | false =>
    rw [if_neg (by simp [ha, h1])] at hc
    subst hc
    simp only [shs, zts, sos, sls, zss, eqs, sx, sb1, sb2, sb3, sb4, sb5, ↓reduceIte, Nat.reduceAdd, Nat.reduceMul, Nat.reduceDiv, Nat.reduceEqDiff, Nat.reduceLT, Nat.reduceLeDiff, reduceCtorEq, Int.reduceEq, Int.reduceNe, Int.reduceLT, Int.reduceLE, Int.reduceAdd, Int.reduceSub, Int.reduceMul, Int.reduceNeg, Int.reduceToNat, Int.cast_ofNat_Int, Int.natCast_zero, Int.natCast_one, Int.toNat_natCast, Nat.reduceBEq]
theorem rleaves (y : Value) (l : List (List UInt8)) (M : Mem) (hy : RowM M y 1 (l.map encS)) (hl : ∀ s ∈ l, s.length ≤ maxLen) :
    Meets Proofs.Try.prog 29 [.v y] M fun r _ _ => r = .v (.int .i64 (lvE l)) := by
  refine Meets.of_body [0,2,4,7,8,9,10,11,21] Proofs.Try.func29 rfl (by kernel_rfl) rfl fun w => ?_
  generalize hc : lvE l = c
  unfold lvE at hc
  have hyl := hy.len_le
  rw [List.length_map] at hyl
  by_cases h0 : l.length = 0
  · rw [if_pos h0] at hc
    subst hc
    have d0 : ((l.length : Int) < 1) = True := eq_true (by omega)
    simp only [Proofs.Try.f29, shs, zts, sos, sls, zss, eqs, sx, sb1, sb2, sb3, sb4, sb5, ↓reduceIte, Nat.reduceAdd, Nat.reduceMul, Nat.reduceDiv, Nat.reduceEqDiff, Nat.reduceLT, Nat.reduceLeDiff, reduceCtorEq, Int.reduceEq, Int.reduceNe, Int.reduceLT, Int.reduceLE, Int.reduceAdd, Int.reduceSub, Int.reduceMul, Int.reduceNeg, Int.reduceToNat, Int.cast_ofNat_Int, Int.natCast_zero, Int.natCast_one, Int.toNat_natCast, Nat.reduceBEq, hy.len, hy.sl, List.length_map, d0]
  rw [if_neg h0] at hc
  have d0 : ((l.length : Int) < 1) = False := eq_false (by omega)
  simp only [Proofs.Try.f29, shs, zts, sos, sls, zss, eqs, sx, sb1, sb2, sb3, sb4, sb5, ↓reduceIte, Nat.reduceAdd, Nat.reduceMul, Nat.reduceDiv, Nat.reduceEqDiff, Nat.reduceLT, Nat.reduceLeDiff, reduceCtorEq, Int.reduceEq, Int.reduceNe, Int.reduceLT, Int.reduceLE, Int.reduceAdd, Int.reduceSub, Int.reduceMul, Int.reduceNeg, Int.reduceToNat, Int.cast_ofNat_Int, Int.natCast_zero, Int.natCast_one, Int.toNat_natCast, Nat.reduceBEq, hy.len, hy.sl, List.length_map, d0]
  refine LoopK.go (X := Nat × Nat) (fun x => ([(0, true, .v y), (8, true, .v y), (9, true, .v (.int .i64 l.length)), (10, true, .v (.int .i64 x.2))], [], M))
    (fun x => (x.1 + x.2 = l.length ∧ (0 < x.2 → l.length ≤ 32)) ∧ (if 32 < l.length ∨ (l.drop x.2).any bigB = true then 2 else 0) = c) (fun x => x.1) (l.length, 0) ⟨⟨rfl, fun h => by simp at h⟩, hc⟩ (Ent.of ?_) ?_
  · simp only [sx, sb1, sb2, sb3, sb4, sb5, ↓reduceIte, Nat.reduceAdd, Nat.reduceMul, Nat.reduceDiv, Nat.reduceEqDiff, Nat.reduceLT, Nat.reduceLeDiff, reduceCtorEq, Int.reduceEq, Int.reduceNe, Int.reduceLT, Int.reduceLE, Int.reduceAdd, Int.reduceSub, Int.reduceMul, Int.reduceNeg, Int.reduceToNat, Int.cast_ofNat_Int, Int.natCast_zero, Int.natCast_one, Int.toNat_natCast, Nat.reduceBEq]
  rintro ⟨f, i⟩ ⟨⟨h1, h3⟩, h2⟩
  simp only at h1 h2 h3
  by_cases hil : i < l.length
  · have d1 : ((i : Int) < (l.length : Int)) = True := eq_true (by omega)
    obtain ⟨a, hx, hd⟩ := l_drop_at (l := l) (i := i) hil
    have g1 := hy.el1 hx rfl
    have i1 := hy.ix (i := (i : Int)) (by omega) (by rw [List.length_map]; omega)
    rw [hd, List.any_cons] at h2
    simp only [shs, zts, sos, sls, zss, eqs, sx, sb1, sb2, sb3, sb4, sb5, ↓reduceIte, Nat.reduceAdd, Nat.reduceMul, Nat.reduceDiv, Nat.reduceEqDiff, Nat.reduceLT, Nat.reduceLeDiff, reduceCtorEq, Int.reduceEq, Int.reduceNe, Int.reduceLT, Int.reduceLE, Int.reduceAdd, Int.reduceSub, Int.reduceMul, Int.reduceNeg, Int.reduceToNat, Int.cast_ofNat_Int, Int.natCast_zero, Int.natCast_one, Int.toNat_natCast, Nat.reduceBEq, nzs, hy.len, hy.sl, List.length_map, d1, g1.1, g1.2, i1, i1.2, inK, lo, hi]
    refine ⟨fun h => ?_, fun h => ⟨by omega, (f - 1, i + 1), ⟨⟨⟨by simp only; omega, fun _ => by omega⟩, ?_⟩, by simp only; omega⟩, Ent.of ?_⟩⟩
    · have hb : 64 < (a.length : Int) ∨ 32 < l.length := by omega
      rw [if_pos (by rcases hb with hb | hb
                     · right; rw [show bigB a = true from decide_eq_true hb]; rfl
                     · exact .inl hb)] at h2
      rw [h2]
    · simp only
      rw [← h2, show bigB a = false from decide_eq_false (by omega), Bool.false_or]
    · simp only [sx, sb1, sb2, sb3, sb4, sb5, ↓reduceIte, Nat.reduceAdd, Nat.reduceMul, Nat.reduceDiv, Nat.reduceEqDiff, Nat.reduceLT, Nat.reduceLeDiff, reduceCtorEq, Int.reduceEq, Int.reduceNe, Int.reduceLT, Int.reduceLE, Int.reduceAdd, Int.reduceSub, Int.reduceMul, Int.reduceNeg, Int.reduceToNat, Int.cast_ofNat_Int, Int.natCast_zero, Int.natCast_one, Int.toNat_natCast, Nat.reduceBEq, Int.natCast_add]
  · have d1 : ((i : Int) < (l.length : Int)) = False := eq_false (by omega)
    have hd : l.drop i = [] := List.drop_eq_nil_of_le (by omega)
    rw [hd, if_neg (by have := h3 (by omega); simp; omega)] at h2
    subst h2
    simp only [shs, zts, sos, sls, zss, eqs, sx, sb1, sb2, sb3, sb4, sb5, ↓reduceIte, Nat.reduceAdd, Nat.reduceMul, Nat.reduceDiv, Nat.reduceEqDiff, Nat.reduceLT, Nat.reduceLeDiff, reduceCtorEq, Int.reduceEq, Int.reduceNe, Int.reduceLT, Int.reduceLE, Int.reduceAdd, Int.reduceSub, Int.reduceMul, Int.reduceNeg, Int.reduceToNat, Int.cast_ofNat_Int, Int.natCast_zero, Int.natCast_one, Int.toNat_natCast, Nat.reduceBEq, d1]
theorem leaves (y : Value) (l : List (List UInt8)) (M : Mem) (hy : RowM M y 1 (l.map encS)) (h32 : l.length ≤ 32) (hl : ∀ s ∈ l, s.length ≤ 64) :
    Meets Proofs.Try.prog 140 [.v y] M (RowR (fun s => s) 1 ((l.map leafP).map encN)) := by
  refine Meets.of_body [0,2,3,5,6,7,8,9] Proofs.Try.func140 rfl (by kernel_rfl) rfl fun w => ?_
  generalize hc : l.map leafP = c
  simp only [Proofs.Try.f140, shs, zts, sos, sls, zss, eqs, sx, sb1, sb2, sb3, sb4, sb5, ↓reduceIte, Nat.reduceAdd, Nat.reduceMul, Nat.reduceDiv, Nat.reduceEqDiff, Nat.reduceLT, Nat.reduceLeDiff, reduceCtorEq, Int.reduceEq, Int.reduceNe, Int.reduceLT, Int.reduceLE, Int.reduceAdd, Int.reduceSub, Int.reduceMul, Int.reduceNeg, Int.reduceToNat, Int.cast_ofNat_Int, Int.natCast_zero, Int.natCast_one, Int.toNat_natCast, Nat.reduceBEq, hy.len, hy.sl, List.length_map]
  refine LoopK.nilRow 3 17 1 rfl rfl rfl ?_
  simp only [sx, sb1, sb2, sb3, sb4, sb5, ↓reduceIte, Nat.reduceAdd, Nat.reduceMul, Nat.reduceDiv, Nat.reduceEqDiff, Nat.reduceLT, Nat.reduceLeDiff, reduceCtorEq, Int.reduceEq, Int.reduceNe, Int.reduceLT, Int.reduceLE, Int.reduceAdd, Int.reduceSub, Int.reduceMul, Int.reduceNeg, Int.reduceToNat, Int.cast_ofNat_Int, Int.natCast_zero, Int.natCast_one, Int.toNat_natCast, Nat.reduceBEq]
  refine LoopK.go (X := Nat × Nat × List Nat) (fun x => ([(3, true, .own 136), (6, true, .v y), (7, true, .v (.int .i64 l.length)), (8, true, .v (.int .i64 x.2.1))], [(136, .row 1 (x.2.2.map encN))], M))
    (fun x => (x.1 + x.2.1 = l.length ∧ x.2.2.length = x.2.1) ∧ x.2.2 ++ (l.drop x.2.1).map leafP = c) (fun x => x.1) (l.length, 0, []) ⟨⟨rfl, rfl⟩, hc⟩ (Ent.of ?_) ?_
  · simp only [sx, sb1, sb2, sb3, sb4, sb5, ↓reduceIte, Nat.reduceAdd, Nat.reduceMul, Nat.reduceDiv, Nat.reduceEqDiff, Nat.reduceLT, Nat.reduceLeDiff, reduceCtorEq, Int.reduceEq, Int.reduceNe, Int.reduceLT, Int.reduceLE, Int.reduceAdd, Int.reduceSub, Int.reduceMul, Int.reduceNeg, Int.reduceToNat, Int.cast_ofNat_Int, Int.natCast_zero, Int.natCast_one, Int.toNat_natCast, Nat.reduceBEq, List.map_nil]
  rintro ⟨f, i, out⟩ ⟨⟨h1, h3⟩, h2⟩
  simp only at h1 h2 h3
  by_cases hil : i < l.length
  · have d1 : ((i : Int) < (l.length : Int)) = True := eq_true (by omega)
    obtain ⟨a, hx, hd⟩ := l_drop_at (l := l) (i := i) hil
    have g1 := hy.el1 hx rfl
    have i1 := hy.ix (i := (i : Int)) (by omega) (by rw [List.length_map]; omega)
    have ha := hl a (List.mem_of_getElem? hx)
    have d2 : (((1 + a.length : Nat) : Int) ≤ 9223372036854775807) = True := eq_true (by omega)
    rw [hd, List.map_cons] at h2
    simp only [shs, zts, sos, sls, zss, eqs, sx, sb1, sb2, sb3, sb4, sb5, ↓reduceIte, Nat.reduceAdd, Nat.reduceMul, Nat.reduceDiv, Nat.reduceEqDiff, Nat.reduceLT, Nat.reduceLeDiff, reduceCtorEq, Int.reduceEq, Int.reduceNe, Int.reduceLT, Int.reduceLE, Int.reduceAdd, Int.reduceSub, Int.reduceMul, Int.reduceNeg, Int.reduceToNat, Int.cast_ofNat_Int, Int.natCast_zero, Int.natCast_one, Int.toNat_natCast, Nat.reduceBEq, nzs, hy.len, hy.sl, List.length_map, d1, d2, g1.1, g1.2, i1, i1.2, inK, lo, hi]
    refine CallK.pure ⟨rfl, rfl⟩ rfl (plain 1073741907 (108 :: a) M (by omega) (by omega) (by simp only [maxLen, List.length_cons]; omega)) ?_
    simp only [shs, zts, sos, sls, zss, eqs, sx, sb1, sb2, sb3, sb4, sb5, ↓reduceIte, Nat.reduceAdd, Nat.reduceMul, Nat.reduceDiv, Nat.reduceEqDiff, Nat.reduceLT, Nat.reduceLeDiff, reduceCtorEq, Int.reduceEq, Int.reduceNe, Int.reduceLT, Int.reduceLE, Int.reduceAdd, Int.reduceSub, Int.reduceMul, Int.reduceNeg, Int.reduceToNat, Int.cast_ofNat_Int, Int.natCast_zero, Int.natCast_one, Int.toNat_natCast, Nat.reduceBEq, nzs, List.length_map, inK, lo, hi]
    refine ⟨⟨by omega, by omega⟩, by omega, (f - 1, i + 1, out ++ [leafP a]), ⟨⟨⟨by simp only; omega, by simp only [List.length_append, List.length_singleton]; omega⟩, by simpa using h2⟩, by simp only; omega⟩, Ent.of ?_⟩
    simp only [sx, sb1, sb2, sb3, sb4, sb5, ↓reduceIte, Nat.reduceAdd, Nat.reduceMul, Nat.reduceDiv, Nat.reduceEqDiff, Nat.reduceLT, Nat.reduceLeDiff, reduceCtorEq, Int.reduceEq, Int.reduceNe, Int.reduceLT, Int.reduceLE, Int.reduceAdd, Int.reduceSub, Int.reduceMul, Int.reduceNeg, Int.reduceToNat, Int.cast_ofNat_Int, Int.natCast_zero, Int.natCast_one, Int.toNat_natCast, Nat.reduceBEq, Int.natCast_add, List.map_append, encN]
    rfl
  · have d1 : ((i : Int) < (l.length : Int)) = False := eq_false (by omega)
    have hd : l.drop i = [] := List.drop_eq_nil_of_le (by omega)
    rw [hd, List.map_nil, List.append_nil] at h2
    subst h2
    simp only [shs, zts, sos, sls, zss, eqs, sx, sb1, sb2, sb3, sb4, sb5, ↓reduceIte, Nat.reduceAdd, Nat.reduceMul, Nat.reduceDiv, Nat.reduceEqDiff, Nat.reduceLT, Nat.reduceLeDiff, reduceCtorEq, Int.reduceEq, Int.reduceNe, Int.reduceLT, Int.reduceLE, Int.reduceAdd, Int.reduceSub, Int.reduceMul, Int.reduceNeg, Int.reduceToNat, Int.cast_ofNat_Int, Int.natCast_zero, Int.natCast_one, Int.toNat_natCast, Nat.reduceBEq, d1]
    exact ⟨.own 136, rfl, rfl⟩

theorem upL_drop : ∀ {l : List Nat} {i : Nat}, i + 1 < l.length → ∃ a b, l[i]? = some a ∧ l[i + 1]? = some b ∧ l.drop i = a :: b :: l.drop (i + 2) := by
  intro l i h
  obtain ⟨a, h1, h2⟩ := l_drop_at (l := l) (i := i) (by omega)
  obtain ⟨b, h3, h4⟩ := l_drop_at (l := l) (i := i + 1) h
  exact ⟨a, b, h1, h3, by rw [h2, h4]⟩
theorem up (y : Value) (l : List Nat) (M : Mem) (hy : RowM M y 1 (l.map encN)) (h32 : l.length ≤ 32) (hl : okL l) :
    Meets Proofs.Try.prog 141 [.v y] M (RowR (fun s => s) 1 ((upL l).map encN)) := by
  refine Meets.of_body [0,2,3,4,8,15] Proofs.Try.func141 rfl (by kernel_rfl) rfl fun w => ?_
  generalize hc : upL l = c
  simp only [Proofs.Try.f141, shs, zts, sos, sls, zss, eqs, sx, sb1, sb2, sb3, sb4, sb5, ↓reduceIte, Nat.reduceAdd, Nat.reduceMul, Nat.reduceDiv, Nat.reduceEqDiff, Nat.reduceLT, Nat.reduceLeDiff, reduceCtorEq, Int.reduceEq, Int.reduceNe, Int.reduceLT, Int.reduceLE, Int.reduceAdd, Int.reduceSub, Int.reduceMul, Int.reduceNeg, Int.reduceToNat, Int.cast_ofNat_Int, Int.natCast_zero, Int.natCast_one, Int.toNat_natCast, Nat.reduceBEq, hy.len, hy.sl, List.length_map]
  refine LoopK.nilRow 3 36 1 rfl rfl rfl ?_
  simp only [sx, sb1, sb2, sb3, sb4, sb5, ↓reduceIte, Nat.reduceAdd, Nat.reduceMul, Nat.reduceDiv, Nat.reduceEqDiff, Nat.reduceLT, Nat.reduceLeDiff, reduceCtorEq, Int.reduceEq, Int.reduceNe, Int.reduceLT, Int.reduceLE, Int.reduceAdd, Int.reduceSub, Int.reduceMul, Int.reduceNeg, Int.reduceToNat, Int.cast_ofNat_Int, Int.natCast_zero, Int.natCast_one, Int.toNat_natCast, Nat.reduceBEq]
  refine LoopK.go (X := Nat × Nat × List Nat) (fun x => ([(0, true, .v y), (3, true, .own 288), (4, true, .v (.int .i64 x.2.1))], [(288, .row 1 (x.2.2.map encN))], M))
    (fun x => ((x.2.1 ≤ l.length + 1 ∧ l.length + 1 ≤ x.2.1 + x.1) ∧ x.2.2.length ≤ x.2.1) ∧ x.2.2 ++ upL (l.drop x.2.1) = c) (fun x => x.1) (l.length + 1, 0, []) ⟨⟨⟨by simp, by simp⟩, by simp⟩, hc⟩ (Ent.of ?_) ?_
  · simp only [sx, sb1, sb2, sb3, sb4, sb5, ↓reduceIte, Nat.reduceAdd, Nat.reduceMul, Nat.reduceDiv, Nat.reduceEqDiff, Nat.reduceLT, Nat.reduceLeDiff, reduceCtorEq, Int.reduceEq, Int.reduceNe, Int.reduceLT, Int.reduceLE, Int.reduceAdd, Int.reduceSub, Int.reduceMul, Int.reduceNeg, Int.reduceToNat, Int.cast_ofNat_Int, Int.natCast_zero, Int.natCast_one, Int.toNat_natCast, Nat.reduceBEq, List.map_nil]
  rintro ⟨f, i, out⟩ ⟨⟨⟨h1, h4⟩, h3⟩, h2⟩
  simp only at h1 h2 h3 h4
  by_cases hil : i < l.length
  · have d1 : ((i : Int) < (l.length : Int)) = True := eq_true (by omega)
    by_cases hi2 : i + 1 = l.length
    · have d2 : ((i : Int) + 1 = (l.length : Int)) = True := eq_true (by omega)
      obtain ⟨a, hx, hd⟩ := l_drop_at (l := l) (i := i) hil
      have g1 := hy.el1 hx rfl
      have i1 := hy.ix (i := (i : Int)) (by omega) (by rw [List.length_map]; omega)
      have hd' : l.drop (i + 1) = [] := List.drop_eq_nil_of_le (by omega)
      rw [hd, hd'] at h2
      simp only [shs, zts, sos, sls, zss, eqs, sx, sb1, sb2, sb3, sb4, sb5, ↓reduceIte, Nat.reduceAdd, Nat.reduceMul, Nat.reduceDiv, Nat.reduceEqDiff, Nat.reduceLT, Nat.reduceLeDiff, reduceCtorEq, Int.reduceEq, Int.reduceNe, Int.reduceLT, Int.reduceLE, Int.reduceAdd, Int.reduceSub, Int.reduceMul, Int.reduceNeg, Int.reduceToNat, Int.cast_ofNat_Int, Int.natCast_zero, Int.natCast_one, Int.toNat_natCast, Nat.reduceBEq, nzs, hy.len, hy.sl, List.length_map, d1, d2, g1.1, g1.2, i1, i1.2, inK, lo, hi]
      refine ⟨by omega, ⟨by omega, by omega⟩, by omega, (f - 1, i + 2, out ++ [a]), ⟨⟨⟨⟨by simp only; omega, by simp only; omega⟩, by simp only [List.length_append, List.length_singleton]; omega⟩, ?_⟩, by simp only; omega⟩, Ent.rekey 3 36 176 1 _ rfl rfl rfl rfl (Ent.of ?_)⟩
      · simp only
        rw [List.drop_eq_nil_of_le (by omega)]
        simpa [upL] using h2
      · simp only [sx, sb1, sb2, sb3, sb4, sb5, ↓reduceIte, Nat.reduceAdd, Nat.reduceMul, Nat.reduceDiv, Nat.reduceEqDiff, Nat.reduceLT, Nat.reduceLeDiff, reduceCtorEq, Int.reduceEq, Int.reduceNe, Int.reduceLT, Int.reduceLE, Int.reduceAdd, Int.reduceSub, Int.reduceMul, Int.reduceNeg, Int.reduceToNat, Int.cast_ofNat_Int, Int.natCast_zero, Int.natCast_one, Int.toNat_natCast, Nat.reduceBEq, Int.natCast_add, List.map_append, encN]
    · have d2 : ((i : Int) + 1 = (l.length : Int)) = False := eq_false (by omega)
      obtain ⟨a, b, hx, hx2, hd⟩ := upL_drop (l := l) (i := i) (by omega)
      have g1 := hy.el1 hx rfl
      have i1 := hy.ix (i := (i : Int)) (by omega) (by rw [List.length_map]; omega)
      have e2 : (i : Int) + 1 = ((i + 1 : Nat) : Int) := by omega
      have g2 := hy.el1 hx2 rfl
      have i2 := hy.ix (i := ((i + 1 : Nat) : Int)) (by omega) (by rw [List.length_map]; omega)
      have ha := hl a (List.mem_of_getElem? hx)
      have hb := hl b (List.mem_of_getElem? hx2)
      rw [hd, upL] at h2
      simp only [shs, zts, sos, sls, zss, eqs, sx, sb1, sb2, sb3, sb4, sb5, ↓reduceIte, Nat.reduceAdd, Nat.reduceMul, Nat.reduceDiv, Nat.reduceEqDiff, Nat.reduceLT, Nat.reduceLeDiff, reduceCtorEq, Int.reduceEq, Int.reduceNe, Int.reduceLT, Int.reduceLE, Int.reduceAdd, Int.reduceSub, Int.reduceMul, Int.reduceNeg, Int.reduceToNat, Int.cast_ofNat_Int, Int.natCast_zero, Int.natCast_one, Int.toNat_natCast, Nat.reduceBEq, nzs, hy.len, hy.sl, List.length_map, d1, d2, inK, lo, hi]
      refine ⟨by omega, DrawK.plan (tk [0, 1, 2, 3, 4, 5, 6, 7, 8, 9] (ones' [10, 11, 12, 13, 14] .done)) (by kernel_rfl) (by kernel_rfl) ?_⟩
      simp only [shs, zts, sos, sls, zss, eqs, sx, sb1, sb2, sb3, sb4, sb5, ↓reduceIte, Nat.reduceAdd, Nat.reduceMul, Nat.reduceDiv, Nat.reduceEqDiff, Nat.reduceLT, Nat.reduceLeDiff, reduceCtorEq, Int.reduceEq, Int.reduceNe, Int.reduceLT, Int.reduceLE, Int.reduceAdd, Int.reduceSub, Int.reduceMul, Int.reduceNeg, Int.reduceToNat, Int.cast_ofNat_Int, Int.natCast_zero, Int.natCast_one, Int.toNat_natCast, Nat.reduceBEq, nzs, se1, se2, tks, hy.len, hy.sl, List.length_map, e2, g1.1, g1.2, i1, i1.2, g2.1, g2.2, i2, i2.2, inK, lo, hi]
      refine ⟨by omega, CallK.pure ⟨rfl, rfl⟩ rfl (said a b M (by omega) (by omega)) ?_⟩
      simp only [shs, zts, sos, sls, zss, eqs, sx, sb1, sb2, sb3, sb4, sb5, ↓reduceIte, Nat.reduceAdd, Nat.reduceMul, Nat.reduceDiv, Nat.reduceEqDiff, Nat.reduceLT, Nat.reduceLeDiff, reduceCtorEq, Int.reduceEq, Int.reduceNe, Int.reduceLT, Int.reduceLE, Int.reduceAdd, Int.reduceSub, Int.reduceMul, Int.reduceNeg, Int.reduceToNat, Int.cast_ofNat_Int, Int.natCast_zero, Int.natCast_one, Int.toNat_natCast, Nat.reduceBEq, nzs, se1, se2, tks]
      refine CallK.pure ⟨rfl, rfl⟩ rfl (plain 1073741907 (saidN a b) M (by omega) (by omega) (by simp only [maxLen, saidN_len]; omega)) ?_
      simp only [shs, zts, sos, sls, zss, eqs, sx, sb1, sb2, sb3, sb4, sb5, ↓reduceIte, Nat.reduceAdd, Nat.reduceMul, Nat.reduceDiv, Nat.reduceEqDiff, Nat.reduceLT, Nat.reduceLeDiff, reduceCtorEq, Int.reduceEq, Int.reduceNe, Int.reduceLT, Int.reduceLE, Int.reduceAdd, Int.reduceSub, Int.reduceMul, Int.reduceNeg, Int.reduceToNat, Int.cast_ofNat_Int, Int.natCast_zero, Int.natCast_one, Int.toNat_natCast, Nat.reduceBEq, nzs, se1, se2, tks, List.length_map, inK, lo, hi]
      refine ⟨⟨by omega, by omega⟩, by omega, (f - 1, i + 2, out ++ [nodeP a b]), ⟨⟨⟨⟨by simp only; omega, by simp only; omega⟩, by simp only [List.length_append, List.length_singleton]; omega⟩, by simpa using h2⟩, by simp only; omega⟩, Ent.of ?_⟩
      simp only [sx, sb1, sb2, sb3, sb4, sb5, ↓reduceIte, Nat.reduceAdd, Nat.reduceMul, Nat.reduceDiv, Nat.reduceEqDiff, Nat.reduceLT, Nat.reduceLeDiff, reduceCtorEq, Int.reduceEq, Int.reduceNe, Int.reduceLT, Int.reduceLE, Int.reduceAdd, Int.reduceSub, Int.reduceMul, Int.reduceNeg, Int.reduceToNat, Int.cast_ofNat_Int, Int.natCast_zero, Int.natCast_one, Int.toNat_natCast, Nat.reduceBEq, Int.natCast_add, List.map_append, encN]
      rfl
  · have d1 : ((i : Int) < (l.length : Int)) = False := eq_false (by omega)
    have hd : l.drop i = [] := List.drop_eq_nil_of_le (by omega)
    rw [hd, upL, List.append_nil] at h2
    subst h2
    simp only [shs, zts, sos, sls, zss, eqs, sx, sb1, sb2, sb3, sb4, sb5, ↓reduceIte, Nat.reduceAdd, Nat.reduceMul, Nat.reduceDiv, Nat.reduceEqDiff, Nat.reduceLT, Nat.reduceLeDiff, reduceCtorEq, Int.reduceEq, Int.reduceNe, Int.reduceLT, Int.reduceLE, Int.reduceAdd, Int.reduceSub, Int.reduceMul, Int.reduceNeg, Int.reduceToNat, Int.cast_ofNat_Int, Int.natCast_zero, Int.natCast_one, Int.toNat_natCast, Nat.reduceBEq, nzs, hy.len, hy.sl, List.length_map, d1]
    exact ⟨.own 288, rfl, rfl⟩

/-! ### Levels -/
def encV (p : Value × List Nat) : List Value := [p.1]
def LevM (M : Mem) (ps : List (Value × List Nat)) : Prop := ∀ p ∈ ps, RowM M p.1 1 (p.2.map encN)
theorem LevM.le {M M' : Mem} {ps : List (Value × List Nat)} (h : LevM M ps) (hle : M.le M') : LevM M' ps := fun p hp => (h p hp).le hle
/-- all levels, as they lie -/
def Levs (v : Value) (ls : List (List Nat)) (M : Mem) : Prop := ∃ ps : List (Value × List Nat), RowM M v 1 (ps.map encV) ∧ LevM M ps ∧ ps.map (·.2) = ls
theorem levels (y : Value) (l : List (List UInt8)) (M : Mem) (hy : RowM M y 1 (l.map encS)) (h0 : l ≠ []) (h32 : l.length ≤ 32) (hl : ∀ s ∈ l, s.length ≤ 64) :
    Meets Proofs.Try.prog 79 [.v y] M (fun r _ M' => ∃ v, r = .v v ∧ Levs v (levs 32 (l.map leafP)) M') := by
  suffices h : Meets Proofs.Try.prog 79 [.v y] M (fun r H M' => ∃ s es, r = s ∧ IsRow H M' s 1 es ∧ ∃ ps : List (Value × List Nat), es = ps.map encV ∧ LevM M' ps ∧ ps.map (·.2) = levs 32 (l.map leafP)) by
    refine (Meets.pub (T := fun s => s) Ctx.id (fun es M M' hle ⟨ps, h1, h2, h3⟩ => ⟨ps, h1, h2.le hle, h3⟩) h).mono fun s H M' _ ⟨v, es, h1, h2, ps, h3, h4, h5⟩ => ⟨v, h1, ps, by rw [← h3]; exact h2, h4, h5⟩
  refine Meets.of_body [0,2,3,14] Proofs.Try.func79 rfl (by kernel_rfl) rfl fun w => ?_
  generalize hc : levs 32 (l.map leafP) = c
  simp only [Proofs.Try.f79, shs, zts, sos, sls, zss, eqs, sx, sb1, sb2, sb3, sb4, sb5, ↓reduceIte, Nat.reduceAdd, Nat.reduceMul, Nat.reduceDiv, Nat.reduceEqDiff, Nat.reduceLT, Nat.reduceLeDiff, reduceCtorEq, Int.reduceEq, Int.reduceNe, Int.reduceLT, Int.reduceLE, Int.reduceAdd, Int.reduceSub, Int.reduceMul, Int.reduceNeg, Int.reduceToNat, Int.cast_ofNat_Int, Int.natCast_zero, Int.natCast_one, Int.toNat_natCast, Nat.reduceBEq, hy.len, hy.sl, List.length_map]
  refine CallK.row Ctx.id rfl rfl (leaves y l M hy h32 hl) fun v1 M1 hM1 hv1 => ?_
  simp only [shs, zts, sos, sls, zss, eqs, sx, sb1, sb2, sb3, sb4, sb5, ↓reduceIte, Nat.reduceAdd, Nat.reduceMul, Nat.reduceDiv, Nat.reduceEqDiff, Nat.reduceLT, Nat.reduceLeDiff, reduceCtorEq, Int.reduceEq, Int.reduceNe, Int.reduceLT, Int.reduceLE, Int.reduceAdd, Int.reduceSub, Int.reduceMul, Int.reduceNeg, Int.reduceToNat, Int.cast_ofNat_Int, Int.natCast_zero, Int.natCast_one, Int.toNat_natCast, Nat.reduceBEq, hv1.one]
  refine LoopK.go (X := Nat × List (Value × List Nat) × Value × List Nat × Mem) (fun x => ([(3, true, .own 48)], [(48, .row 1 ((x.2.1 ++ [(x.2.2.1, x.2.2.2.1)]).map encV))], x.2.2.2.2))
    (fun x => (((x.2.1.length + x.1 ≤ 32 ∧ (x.2.2.2.1.length ≤ x.1 + 1 ∧ x.2.2.2.1.length ≤ 32)) ∧ 1 ≤ x.2.2.2.1.length) ∧ okL x.2.2.2.1) ∧ LevM x.2.2.2.2 (x.2.1 ++ [(x.2.2.1, x.2.2.2.1)]) ∧ x.2.1.map (·.2) ++ levs x.1 x.2.2.2.1 = c) (fun x => x.1) (32, [], v1, l.map leafP, M1)
    ⟨⟨⟨⟨by simp, by simp only [List.length_map]; omega, by simp only [List.length_map]; omega⟩, by simp only [List.length_map]; exact List.length_pos_iff.2 h0⟩, fun x hx => by obtain ⟨s, _, rfl⟩ := List.mem_map.1 hx; exact leaf_le s⟩, fun p hp => by simp at hp; subst hp; exact hv1, hc⟩ (Ent.of ?_) ?_
  · simp only [sx, sb1, sb2, sb3, sb4, sb5, ↓reduceIte, Nat.reduceAdd, Nat.reduceMul, Nat.reduceDiv, Nat.reduceEqDiff, Nat.reduceLT, Nat.reduceLeDiff, reduceCtorEq, Int.reduceEq, Int.reduceNe, Int.reduceLT, Int.reduceLE, Int.reduceAdd, Int.reduceSub, Int.reduceMul, Int.reduceNeg, Int.reduceToNat, Int.cast_ofNat_Int, Int.natCast_zero, Int.natCast_one, Int.toNat_natCast, Nat.reduceBEq, List.map_nil, encV]
  rintro ⟨f, pre, v, lv, M2⟩ ⟨⟨⟨⟨h1, h2, h2b⟩, h3⟩, h4⟩, h5, h6⟩
  simp only at h1 h2 h2b h3 h4 h5 h6
  have hv := h5 (v, lv) (by simp)
  simp only at hv
  have e1 : ((pre.length + 1 : Nat) : Int) - 1 = (pre.length : Int) := by omega
  have eg : ((pre ++ [(v, lv)]).map encV).getD pre.length [] = [v] := by
    rw [List.getD_eq_getElem?_getD, List.getElem?_map, List.getElem?_append_right (Nat.le_refl _)]
    simp [encV]
  have i1 : inK .i64 ((pre.length : Nat) : Int) := i64N (by omega)
  simp only [shs, zts, sos, sls, zss, eqs, sx, sb1, sb2, sb3, sb4, sb5, ↓reduceIte, Nat.reduceAdd, Nat.reduceMul, Nat.reduceDiv, Nat.reduceEqDiff, Nat.reduceLT, Nat.reduceLeDiff, reduceCtorEq, Int.reduceEq, Int.reduceNe, Int.reduceLT, Int.reduceLE, Int.reduceAdd, Int.reduceSub, Int.reduceMul, Int.reduceNeg, Int.reduceToNat, Int.cast_ofNat_Int, Int.natCast_zero, Int.natCast_one, Int.toNat_natCast, Nat.reduceBEq, nzs, List.length_map, List.length_append, List.length_singleton, e1, eg, List.getD_cons_zero, hv.len, hv.sl, i1]
  refine ⟨by omega, by omega, fun h7 => ⟨by omega, by omega, ?_⟩, fun h7 => ?_⟩
  · refine CallK.row Ctx.id rfl rfl (up v lv M2 hv (by omega) h4) fun v3 M3 hM3 hv3 => ?_
    simp only [shs, zts, sos, sls, zss, eqs, sx, sb1, sb2, sb3, sb4, sb5, ↓reduceIte, Nat.reduceAdd, Nat.reduceMul, Nat.reduceDiv, Nat.reduceEqDiff, Nat.reduceLT, Nat.reduceLeDiff, reduceCtorEq, Int.reduceEq, Int.reduceNe, Int.reduceLT, Int.reduceLE, Int.reduceAdd, Int.reduceSub, Int.reduceMul, Int.reduceNeg, Int.reduceToNat, Int.cast_ofNat_Int, Int.natCast_zero, Int.natCast_one, Int.toNat_natCast, Nat.reduceBEq, nzs, List.length_map, List.length_append, List.length_singleton, hv3.one]
    have hul := upL_len lv
    obtain ⟨f, rfl⟩ : ∃ g, f = g + 1 := ⟨f - 1, by omega⟩
    rw [levs, if_pos (by omega)] at h6
    refine ⟨by omega, (f, pre ++ [(v, lv)], v3, upL lv, M3), ⟨⟨⟨⟨⟨by simp only [List.length_append, List.length_singleton]; omega, by simp only; omega, by simp only; omega⟩, by simp only; omega⟩, upL_ok h4⟩, ?_, by simpa using h6⟩, by simp only; omega⟩, Ent.rekey 3 6 192 1 _ rfl rfl rfl rfl (Ent.of ?_)⟩
    · intro p hp
      simp only at hp
      rcases List.mem_append.1 hp with hp | hp
      · exact (h5 p hp).le hM3
      · simp at hp; subst hp; exact hv3
    · simp only [sx, sb1, sb2, sb3, sb4, sb5, ↓reduceIte, Nat.reduceAdd, Nat.reduceMul, Nat.reduceDiv, Nat.reduceEqDiff, Nat.reduceLT, Nat.reduceLeDiff, reduceCtorEq, Int.reduceEq, Int.reduceNe, Int.reduceLT, Int.reduceLE, Int.reduceAdd, Int.reduceSub, Int.reduceMul, Int.reduceNeg, Int.reduceToNat, Int.cast_ofNat_Int, Int.natCast_zero, Int.natCast_one, Int.toNat_natCast, Nat.reduceBEq, List.map_append, encV]
  · have : levs f lv = [lv] := by
      cases f with
      | zero => rfl
      | succ f => rw [levs, if_neg (by omega)]
    rw [this] at h6
    exact ⟨.own 48, _, rfl, rfl, _, rfl, h5, by simpa using h6⟩
end Go.X.Ts
