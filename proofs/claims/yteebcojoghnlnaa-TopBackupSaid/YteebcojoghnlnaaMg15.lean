/- Contracts of functions and the logic that they are proved in (4 texts in one). Conditions: none. -/
import Derived.Test.YteebcojoghnlnaaMg14
import Derived.Test.YteebcojoghnlnaaMg5
namespace Go.X.Pol
end Go.X.Pol
namespace Go.X.Pl
end Go.X.Pl
namespace Go.X.Rp
end Go.X.Rp
namespace Go.X.Pd
end Go.X.Pd
namespace Go.X.Md
end Go.X.Md
namespace Go.X.Mv
end Go.X.Mv
namespace Go.X.Pt
end Go.X.Pt
namespace Go.X.Tv
end Go.X.Tv
set_option linter.unusedSimpArgs false
set_option linter.unusedVariables false
set_option maxHeartbeats 4000000
set_option maxRecDepth 20000
namespace Go.X.Ts
open Go Go.X Go.X.Pol Go.X.Pl Go.X.Rp Go.X.Pd Go.X.Md Go.X.Mv Go.X.Pt Go.X.Tv

def leafP (t : List UInt8) : Nat := prf G (108 :: t) 1
def nodeP (a b : Nat) : Nat := prf G (saidN a b) 1
def upL : List Nat → List Nat
  | [] => []
  | [x] => [x]
  | x :: y :: r => nodeP x y :: upL r
theorem leaf_le (t : List UInt8) : leafP t ≤ 1073741824 := prf_le G (by decide) (by decide) _ 1 (by omega)
theorem node_le (a b : Nat) : nodeP a b ≤ 1073741824 := prf_le G (by decide) (by decide) _ 1 (by omega)
def okL (l : List Nat) : Prop := ∀ x ∈ l, x ≤ 1073741824
theorem upL_ok : ∀ {l : List Nat}, okL l → okL (upL l)
  | [], h => h
  | [x], h => h
  | x :: y :: r, h => fun z hz => by
    rcases List.mem_cons.1 hz with rfl | hz
    · exact node_le x y
    · exact upL_ok (l := r) (fun u hu => h u (by simp [hu])) z hz
theorem upL_len : ∀ l : List Nat, (upL l).length = (l.length + 1) / 2
  | [] => rfl
  | [x] => by simp [upL]
  | x :: y :: r => by
    have := upL_len r
    simp only [upL, List.length_cons, this]
    omega
/-- all levels, the lowest first -/
def levs : Nat → List Nat → List (List Nat)
  | 0, l => [l]
  | f + 1, l => if 1 < l.length then l :: levs f (upL l) else [l]

/-! ### Check -/
theorem idxS {α : Type} (q0 : α → Value) (p : α → Bool) (f : Nat) (caps : List SV) (hcaps : SV.concs caps = true) (y : Value) (l : List α) (M : Mem) (hy : RowM M y 1 (l.map (fun x => [q0 x])))
    (hf : ∀ x ∈ l, Meets Proofs.Try.prog f (.v (q0 x) :: caps) M fun r _ _ => r = .v (.bool (p x))) :
    Meets Proofs.Try.prog 104 [.v y, .fn f caps] M fun r _ _ => r = .v (.int .i64 (fidx p l 0)) := by
  refine Meets.of_body [0,1,4,5,7,8,9,16] Proofs.Try.func104 rfl (by kernel_rfl) (by simp only [SV.concs, SV.conc, hcaps, Bool.and_self]) fun w => ?_
  generalize hc : fidx p l 0 = c
  have hyl := hy.len_le
  rw [List.length_map] at hyl
  simp only [Proofs.Try.f104, shs, zts, sos, sls, zss, eqs, sx, sb1, sb2, sb3, sb4, sb5, sb6, sb7, ↓reduceIte, Nat.reduceAdd, Nat.reduceMul, Nat.reduceDiv, Nat.reduceEqDiff, Nat.reduceLT, Nat.reduceLeDiff, reduceCtorEq, Int.reduceEq, Int.reduceNe, Int.reduceLT, Int.reduceLE, Int.reduceAdd, Int.reduceSub, Int.reduceMul, Int.reduceNeg, Int.reduceToNat, Int.cast_ofNat_Int, Int.natCast_zero, Int.natCast_one, Int.toNat_natCast, Nat.reduceBEq, hy.len, hy.sl, List.length_map]
  refine LoopK.go (X := Nat × Nat) (fun x => ([(0, true, .v y), (1, true, .fn f caps), (7, true, .v (.int .i64 l.length)), (8, true, .v (.int .i64 x.2))], [], M))
    (fun x => x.1 + x.2 = l.length ∧ fidx p (l.drop x.2) x.2 = c) (fun x => x.1) (l.length, 0) ⟨rfl, hc⟩ (Ent.of ?_) ?_
  · simp only [sx, sb1, sb2, sb3, sb4, sb5, sb6, sb7, ↓reduceIte, Nat.reduceAdd, Nat.reduceMul, Nat.reduceDiv, Nat.reduceEqDiff, Nat.reduceLT, Nat.reduceLeDiff, reduceCtorEq, Int.reduceEq, Int.reduceNe, Int.reduceLT, Int.reduceLE, Int.reduceAdd, Int.reduceSub, Int.reduceMul, Int.reduceNeg, Int.reduceToNat, Int.cast_ofNat_Int, Int.natCast_zero, Int.natCast_one, Int.toNat_natCast, Nat.reduceBEq]
  rintro ⟨fu, i⟩ ⟨h1, h2⟩
  simp only at h1 h2
  by_cases hil : i < l.length
  · have c1 : ((i : Int) < (l.length : Int)) = True := eq_true (by omega)
    obtain ⟨a, hx, hd⟩ := l_drop_at (l := l) (i := i) hil
    rw [hd] at h2
    simp only [fidx] at h2
    have g0 := hy.cell (i := i) (e := [q0 a]) (by rw [List.getElem?_map, hx]; rfl) (off := 0) (by omega)
    have i0 := hy.ix (i := (i : Int)) (by omega) (by rw [List.length_map]; omega)
    simp only [List.getD_cons_zero, List.getD_cons_succ] at g0
    simp only [shs, zts, sos, sls, zss, eqs, sx, sb1, sb2, sb3, sb4, sb5, sb6, sb7, ↓reduceIte, Nat.reduceAdd, Nat.reduceMul, Nat.reduceDiv, Nat.reduceEqDiff, Nat.reduceLT, Nat.reduceLeDiff, reduceCtorEq, Int.reduceEq, Int.reduceNe, Int.reduceLT, Int.reduceLE, Int.reduceAdd, Int.reduceSub, Int.reduceMul, Int.reduceNeg, Int.reduceToNat, Int.cast_ofNat_Int, Int.natCast_zero, Int.natCast_one, Int.toNat_natCast, Nat.reduceBEq, nzs, c1, hy.len, hy.sl, List.length_map, i0, i0.2, g0.1, g0.2.1]
    refine CallK.pure ⟨by simp only [SV.concs, SV.conc, hcaps, Bool.and_self], rfl⟩ rfl (hf a (List.mem_of_getElem? hx)) ?_
    cases hp : p a with
    | true =>
      rw [hp, if_pos rfl] at h2
      subst h2
      simp only [shs, zts, sos, sls, zss, eqs, sx, sb1, sb2, sb3, sb4, sb5, sb6, sb7, ↓reduceIte, Nat.reduceAdd, Nat.reduceMul, Nat.reduceDiv, Nat.reduceEqDiff, Nat.reduceLT, Nat.reduceLeDiff, reduceCtorEq, Int.reduceEq, Int.reduceNe, Int.reduceLT, Int.reduceLE, Int.reduceAdd, Int.reduceSub, Int.reduceMul, Int.reduceNeg, Int.reduceToNat, Int.cast_ofNat_Int, Int.natCast_zero, Int.natCast_one, Int.toNat_natCast, Nat.reduceBEq, nzs]
    | false =>
      rw [hp, if_neg (by simp)] at h2
      simp only [shs, zts, sos, sls, zss, eqs, sx, sb1, sb2, sb3, sb4, sb5, sb6, sb7, ↓reduceIte, Nat.reduceAdd, Nat.reduceMul, Nat.reduceDiv, Nat.reduceEqDiff, Nat.reduceLT, Nat.reduceLeDiff, reduceCtorEq, Int.reduceEq, Int.reduceNe, Int.reduceLT, Int.reduceLE, Int.reduceAdd, Int.reduceSub, Int.reduceMul, Int.reduceNeg, Int.reduceToNat, Int.cast_ofNat_Int, Int.natCast_zero, Int.natCast_one, Int.toNat_natCast, Nat.reduceBEq, nzs, inK, lo, hi]
      refine ⟨by omega, (fu - 1, i + 1), ⟨⟨by simp only; omega, h2⟩, by simp only; omega⟩, Ent.of ?_⟩
      simp only [sx, sb1, sb2, sb3, sb4, sb5, sb6, sb7, ↓reduceIte, Nat.reduceAdd, Nat.reduceMul, Nat.reduceDiv, Nat.reduceEqDiff, Nat.reduceLT, Nat.reduceLeDiff, reduceCtorEq, Int.reduceEq, Int.reduceNe, Int.reduceLT, Int.reduceLE, Int.reduceAdd, Int.reduceSub, Int.reduceMul, Int.reduceNeg, Int.reduceToNat, Int.cast_ofNat_Int, Int.natCast_zero, Int.natCast_one, Int.toNat_natCast, Nat.reduceBEq, Int.natCast_add]
  · have c1 : ((i : Int) < (l.length : Int)) = False := eq_false (by omega)
    have hd : l.drop i = [] := List.drop_eq_nil_of_le (by omega)
    rw [hd] at h2
    simp only [fidx] at h2
    subst h2
    simp only [shs, zts, sos, sls, zss, eqs, sx, sb1, sb2, sb3, sb4, sb5, sb6, sb7, ↓reduceIte, Nat.reduceAdd, Nat.reduceMul, Nat.reduceDiv, Nat.reduceEqDiff, Nat.reduceLT, Nat.reduceLeDiff, reduceCtorEq, Int.reduceEq, Int.reduceNe, Int.reduceLT, Int.reduceLE, Int.reduceAdd, Int.reduceSub, Int.reduceMul, Int.reduceNeg, Int.reduceToNat, Int.cast_ofNat_Int, Int.natCast_zero, Int.natCast_one, Int.toNat_natCast, Nat.reduceBEq, c1]

theorem ctsS {α : Type} (q0 : α → Value) (p : α → Bool) (f : Nat) (caps : List SV) (hcaps : SV.concs caps = true) (y : Value) (l : List α) (M : Mem) (hy : RowM M y 1 (l.map (fun x => [q0 x])))
    (hf : ∀ x ∈ l, Meets Proofs.Try.prog f (.v (q0 x) :: caps) M fun r _ _ => r = .v (.bool (p x))) :
    Meets Proofs.Try.prog 86 [.v y, .fn f caps] M fun r _ _ => r = .v (.bool (l.any p)) := by
  refine Meets.of_body [0,1,4] Proofs.Try.func86 rfl (by kernel_rfl) (by simp only [SV.concs, SV.conc, hcaps, Bool.and_self]) fun w => ?_
  simp only [Proofs.Try.f86, shs, zts, sos, sls, zss, eqs, sx, sb1, sb2, sb3, sb4, sb5, sb6, sb7, ↓reduceIte, Nat.reduceAdd, Nat.reduceMul, Nat.reduceDiv, Nat.reduceEqDiff, Nat.reduceLT, Nat.reduceLeDiff, reduceCtorEq, Int.reduceEq, Int.reduceNe, Int.reduceLT, Int.reduceLE, Int.reduceAdd, Int.reduceSub, Int.reduceMul, Int.reduceNeg, Int.reduceToNat, Int.cast_ofNat_Int, Int.natCast_zero, Int.natCast_one, Int.toNat_natCast, Nat.reduceBEq]
  refine CallK.pure ⟨by simp only [SV.concs, SV.conc, hcaps, Bool.and_self], rfl⟩ rfl (idxS q0 p f caps hcaps y l M hy hf) ?_
  rw [← fidx_any p l 0]
  simp only [shs, zts, sos, sls, zss, eqs, sx, sb1, sb2, sb3, sb4, sb5, sb6, sb7, ↓reduceIte, Nat.reduceAdd, Nat.reduceMul, Nat.reduceDiv, Nat.reduceEqDiff, Nat.reduceLT, Nat.reduceLeDiff, reduceCtorEq, Int.reduceEq, Int.reduceNe, Int.reduceLT, Int.reduceLE, Int.reduceAdd, Int.reduceSub, Int.reduceMul, Int.reduceNeg, Int.reduceToNat, Int.cast_ofNat_Int, Int.natCast_zero, Int.natCast_one, Int.toNat_natCast, Nat.reduceBEq]

def encN (k : Nat) : List Value := [.int .i64 (k : Int)]
theorem big (s : List UInt8) (M : Mem) (_ : s.length ≤ maxLen) : Meets Proofs.Try.prog 87 [.v (.string ⟨s.toArray⟩)] M fun r _ _ => r = .v (.bool (decide (64 < (s.length : Int)))) := by
  refine Meets.of_body [0,2] Proofs.Try.func87 rfl (by kernel_rfl) rfl fun w => ?_
  simp only [Proofs.Try.f87, shs, zts, sos, sls, zss, eqs, sx, sb1, sb2, sb3, sb4, sb5, sb6, sb7, ↓reduceIte, Nat.reduceAdd, Nat.reduceMul, Nat.reduceDiv, Nat.reduceEqDiff, Nat.reduceLT, Nat.reduceLeDiff, reduceCtorEq, Int.reduceEq, Int.reduceNe, Int.reduceLT, Int.reduceLE, Int.reduceAdd, Int.reduceSub, Int.reduceMul, Int.reduceNeg, Int.reduceToNat, Int.cast_ofNat_Int, Int.natCast_zero, Int.natCast_one, Int.toNat_natCast, Nat.reduceBEq]
def bigB (s : List UInt8) : Bool := decide (64 < (s.length : Int))
def lvE (l : List (List UInt8)) : Int := if l.length = 0 then 4 else if 32 < l.length ∨ l.any bigB = true then 2 else 0
theorem check (y : Value) (l : List (List UInt8)) (M : Mem) (hy : RowM M y 1 (l.map encS)) (hl : ∀ s ∈ l, s.length ≤ maxLen) :
    Meets Proofs.Try.prog 45 [.v y] M fun r _ _ => r = .v (.int .i64 (lvE l)) := by
  refine Meets.of_body [0,2,5,12] Proofs.Try.func45 rfl (by kernel_rfl) rfl fun w => ?_
  generalize hc : lvE l = c
  unfold lvE at hc
  by_cases h0 : l.length = 0
  · rw [if_pos h0] at hc
    subst hc
    have d0 : ((l.length : Int) = 0) = True := eq_true (by omega)
    simp only [Proofs.Try.f45, shs, zts, sos, sls, zss, eqs, sx, sb1, sb2, sb3, sb4, sb5, sb6, sb7, ↓reduceIte, Nat.reduceAdd, Nat.reduceMul, Nat.reduceDiv, Nat.reduceEqDiff, Nat.reduceLT, Nat.reduceLeDiff, reduceCtorEq, Int.reduceEq, Int.reduceNe, Int.reduceLT, Int.reduceLE, Int.reduceAdd, Int.reduceSub, Int.reduceMul, Int.reduceNeg, Int.reduceToNat, Int.cast_ofNat_Int, Int.natCast_zero, Int.natCast_one, Int.toNat_natCast, Nat.reduceBEq, hy.len, hy.sl, List.length_map, d0]
  rw [if_neg h0] at hc
  have d0 : ((l.length : Int) = 0) = False := eq_false (by omega)
  by_cases h1 : 32 < l.length
  · rw [if_pos (.inl h1)] at hc
    subst hc
    have d1 : (32 < (l.length : Int)) = True := eq_true (by omega)
    simp only [Proofs.Try.f45, shs, zts, sos, sls, zss, eqs, sx, sb1, sb2, sb3, sb4, sb5, sb6, sb7, ↓reduceIte, Nat.reduceAdd, Nat.reduceMul, Nat.reduceDiv, Nat.reduceEqDiff, Nat.reduceLT, Nat.reduceLeDiff, reduceCtorEq, Int.reduceEq, Int.reduceNe, Int.reduceLT, Int.reduceLE, Int.reduceAdd, Int.reduceSub, Int.reduceMul, Int.reduceNeg, Int.reduceToNat, Int.cast_ofNat_Int, Int.natCast_zero, Int.natCast_one, Int.toNat_natCast, Nat.reduceBEq, hy.len, hy.sl, List.length_map, d0, d1]
  have d1 : (32 < (l.length : Int)) = False := eq_false (by omega)
  simp only [Proofs.Try.f45, shs, zts, sos, sls, zss, eqs, sx, sb1, sb2, sb3, sb4, sb5, sb6, sb7, ↓reduceIte, Nat.reduceAdd, Nat.reduceMul, Nat.reduceDiv, Nat.reduceEqDiff, Nat.reduceLT, Nat.reduceLeDiff, reduceCtorEq, Int.reduceEq, Int.reduceNe, Int.reduceLT, Int.reduceLE, Int.reduceAdd, Int.reduceSub, Int.reduceMul, Int.reduceNeg, Int.reduceToNat, Int.cast_ofNat_Int, Int.natCast_zero, Int.natCast_one, Int.toNat_natCast, Nat.reduceBEq, hy.len, hy.sl, List.length_map, d0, d1]
  refine CallK.pure ⟨rfl, rfl⟩ rfl (ctsS (fun s : List UInt8 => .string ⟨s.toArray⟩) bigB _ [] rfl y l M hy (fun s hs => big s M (hl s hs))) ?_
  cases ha : l.any bigB with
  | true =>
    rw [if_pos (.inr ha)] at hc
    subst hc
    simp only [shs, zts, sos, sls, zss, eqs, sx, sb1, sb2, sb3, sb4, sb5, sb6, sb7, ↓reduceIte, Nat.reduceAdd, Nat.reduceMul, Nat.reduceDiv, Nat.reduceEqDiff, Nat.reduceLT, Nat.reduceLeDiff, reduceCtorEq, Int.reduceEq, Int.reduceNe, Int.reduceLT, Int.reduceLE, Int.reduceAdd, Int.reduceSub, Int.reduceMul, Int.reduceNeg, Int.reduceToNat, Int.cast_ofNat_Int, Int.natCast_zero, Int.natCast_one, Int.toNat_natCast, Nat.reduceBEq]
  | false =>
    rw [if_neg (by simp [ha, h1])] at hc
    subst hc
    simp only [shs, zts, sos, sls, zss, eqs, sx, sb1, sb2, sb3, sb4, sb5, sb6, sb7, ↓reduceIte, Nat.reduceAdd, Nat.reduceMul, Nat.reduceDiv, Nat.reduceEqDiff, Nat.reduceLT, Nat.reduceLeDiff, reduceCtorEq, Int.reduceEq, Int.reduceNe, Int.reduceLT, Int.reduceLE, Int.reduceAdd, Int.reduceSub, Int.reduceMul, Int.reduceNeg, Int.reduceToNat, Int.cast_ofNat_Int, Int.natCast_zero, Int.natCast_one, Int.toNat_natCast, Nat.reduceBEq]
theorem leaves (y : Value) (l : List (List UInt8)) (M : Mem) (hy : RowM M y 1 (l.map encS)) (h32 : l.length ≤ 32) (hl : ∀ s ∈ l, s.length ≤ 64) :
    Meets Proofs.Try.prog 88 [.v y] M (RowR (fun s => s) 1 ((l.map leafP).map encN)) := by
  refine Meets.of_body [0,2,3,5,6,7,8,9] Proofs.Try.func88 rfl (by kernel_rfl) rfl fun w => ?_
  generalize hc : l.map leafP = c
  simp only [Proofs.Try.f88, shs, zts, sos, sls, zss, eqs, sx, sb1, sb2, sb3, sb4, sb5, sb6, sb7, ↓reduceIte, Nat.reduceAdd, Nat.reduceMul, Nat.reduceDiv, Nat.reduceEqDiff, Nat.reduceLT, Nat.reduceLeDiff, reduceCtorEq, Int.reduceEq, Int.reduceNe, Int.reduceLT, Int.reduceLE, Int.reduceAdd, Int.reduceSub, Int.reduceMul, Int.reduceNeg, Int.reduceToNat, Int.cast_ofNat_Int, Int.natCast_zero, Int.natCast_one, Int.toNat_natCast, Nat.reduceBEq, hy.len, hy.sl, List.length_map]
  refine LoopK.nilRow 3 17 1 rfl rfl rfl ?_
  simp only [sx, sb1, sb2, sb3, sb4, sb5, sb6, sb7, ↓reduceIte, Nat.reduceAdd, Nat.reduceMul, Nat.reduceDiv, Nat.reduceEqDiff, Nat.reduceLT, Nat.reduceLeDiff, reduceCtorEq, Int.reduceEq, Int.reduceNe, Int.reduceLT, Int.reduceLE, Int.reduceAdd, Int.reduceSub, Int.reduceMul, Int.reduceNeg, Int.reduceToNat, Int.cast_ofNat_Int, Int.natCast_zero, Int.natCast_one, Int.toNat_natCast, Nat.reduceBEq]
  refine LoopK.go (X := Nat × Nat × List Nat) (fun x => ([(3, true, .own 136), (6, true, .v y), (7, true, .v (.int .i64 l.length)), (8, true, .v (.int .i64 x.2.1))], [(136, .row 1 (x.2.2.map encN))], M))
    (fun x => (x.1 + x.2.1 = l.length ∧ x.2.2.length = x.2.1) ∧ x.2.2 ++ (l.drop x.2.1).map leafP = c) (fun x => x.1) (l.length, 0, []) ⟨⟨rfl, rfl⟩, hc⟩ (Ent.of ?_) ?_
  · simp only [sx, sb1, sb2, sb3, sb4, sb5, sb6, sb7, ↓reduceIte, Nat.reduceAdd, Nat.reduceMul, Nat.reduceDiv, Nat.reduceEqDiff, Nat.reduceLT, Nat.reduceLeDiff, reduceCtorEq, Int.reduceEq, Int.reduceNe, Int.reduceLT, Int.reduceLE, Int.reduceAdd, Int.reduceSub, Int.reduceMul, Int.reduceNeg, Int.reduceToNat, Int.cast_ofNat_Int, Int.natCast_zero, Int.natCast_one, Int.toNat_natCast, Nat.reduceBEq, List.map_nil]
  rintro ⟨f, i, out⟩ ⟨⟨h1, h3⟩, h2⟩
  simp only at h1 h2 h3
  by_cases hil : i < l.length
  · have d1 : ((i : Int) < (l.length : Int)) = True := eq_true (by omega)
    obtain ⟨a, hx, hd⟩ := l_drop_at (l := l) (i := i) hil
    have g1 := hy.el1 hx rfl
    have i1 := hy.ix (i := (i : Int)) (by omega) (by rw [List.length_map]; omega)
    have ha := hl a (List.mem_of_getElem? hx)
    have d2 : (((1 + a.length : Nat) : Int) ≤ 9223372036854775807) = True := eq_true (by omega)
    rw [hd, List.map_cons] at h2
    simp only [shs, zts, sos, sls, zss, eqs, sx, sb1, sb2, sb3, sb4, sb5, sb6, sb7, ↓reduceIte, Nat.reduceAdd, Nat.reduceMul, Nat.reduceDiv, Nat.reduceEqDiff, Nat.reduceLT, Nat.reduceLeDiff, reduceCtorEq, Int.reduceEq, Int.reduceNe, Int.reduceLT, Int.reduceLE, Int.reduceAdd, Int.reduceSub, Int.reduceMul, Int.reduceNeg, Int.reduceToNat, Int.cast_ofNat_Int, Int.natCast_zero, Int.natCast_one, Int.toNat_natCast, Nat.reduceBEq, nzs, hy.len, hy.sl, List.length_map, d1, d2, g1.1, g1.2, i1, i1.2, inK, lo, hi]
    refine CallK.pure ⟨rfl, rfl⟩ rfl (plain 1073741907 (108 :: a) M (by omega) (by omega) (by simp only [maxLen, List.length_cons]; omega)) ?_
    simp only [shs, zts, sos, sls, zss, eqs, sx, sb1, sb2, sb3, sb4, sb5, sb6, sb7, ↓reduceIte, Nat.reduceAdd, Nat.reduceMul, Nat.reduceDiv, Nat.reduceEqDiff, Nat.reduceLT, Nat.reduceLeDiff, reduceCtorEq, Int.reduceEq, Int.reduceNe, Int.reduceLT, Int.reduceLE, Int.reduceAdd, Int.reduceSub, Int.reduceMul, Int.reduceNeg, Int.reduceToNat, Int.cast_ofNat_Int, Int.natCast_zero, Int.natCast_one, Int.toNat_natCast, Nat.reduceBEq, nzs, List.length_map, inK, lo, hi]
    refine ⟨⟨by omega, by omega⟩, by omega, (f - 1, i + 1, out ++ [leafP a]), ⟨⟨⟨by simp only; omega, by simp only [List.length_append, List.length_singleton]; omega⟩, by simpa using h2⟩, by simp only; omega⟩, Ent.of ?_⟩
    simp only [sx, sb1, sb2, sb3, sb4, sb5, sb6, sb7, ↓reduceIte, Nat.reduceAdd, Nat.reduceMul, Nat.reduceDiv, Nat.reduceEqDiff, Nat.reduceLT, Nat.reduceLeDiff, reduceCtorEq, Int.reduceEq, Int.reduceNe, Int.reduceLT, Int.reduceLE, Int.reduceAdd, Int.reduceSub, Int.reduceMul, Int.reduceNeg, Int.reduceToNat, Int.cast_ofNat_Int, Int.natCast_zero, Int.natCast_one, Int.toNat_natCast, Nat.reduceBEq, Int.natCast_add, List.map_append, encN]
    rfl
  · have d1 : ((i : Int) < (l.length : Int)) = False := eq_false (by omega)
    have hd : l.drop i = [] := List.drop_eq_nil_of_le (by omega)
    rw [hd, List.map_nil, List.append_nil] at h2
    subst h2
    simp only [shs, zts, sos, sls, zss, eqs, sx, sb1, sb2, sb3, sb4, sb5, sb6, sb7, ↓reduceIte, Nat.reduceAdd, Nat.reduceMul, Nat.reduceDiv, Nat.reduceEqDiff, Nat.reduceLT, Nat.reduceLeDiff, reduceCtorEq, Int.reduceEq, Int.reduceNe, Int.reduceLT, Int.reduceLE, Int.reduceAdd, Int.reduceSub, Int.reduceMul, Int.reduceNeg, Int.reduceToNat, Int.cast_ofNat_Int, Int.natCast_zero, Int.natCast_one, Int.toNat_natCast, Nat.reduceBEq, d1]
    exact ⟨.own 136, rfl, rfl⟩

theorem upL_drop : ∀ {l : List Nat} {i : Nat}, i + 1 < l.length → ∃ a b, l[i]? = some a ∧ l[i + 1]? = some b ∧ l.drop i = a :: b :: l.drop (i + 2) := by
  intro l i h
  obtain ⟨a, h1, h2⟩ := l_drop_at (l := l) (i := i) (by omega)
  obtain ⟨b, h3, h4⟩ := l_drop_at (l := l) (i := i + 1) h
  exact ⟨a, b, h1, h3, by rw [h2, h4]⟩
theorem up (y : Value) (l : List Nat) (M : Mem) (hy : RowM M y 1 (l.map encN)) (h32 : l.length ≤ 32) (hl : okL l) :
    Meets Proofs.Try.prog 89 [.v y] M (RowR (fun s => s) 1 ((upL l).map encN)) := by
  refine Meets.of_body [0,2,3,4,8,15] Proofs.Try.func89 rfl (by kernel_rfl) rfl fun w => ?_
  generalize hc : upL l = c
  simp only [Proofs.Try.f89, shs, zts, sos, sls, zss, eqs, sx, sb1, sb2, sb3, sb4, sb5, sb6, sb7, ↓reduceIte, Nat.reduceAdd, Nat.reduceMul, Nat.reduceDiv, Nat.reduceEqDiff, Nat.reduceLT, Nat.reduceLeDiff, reduceCtorEq, Int.reduceEq, Int.reduceNe, Int.reduceLT, Int.reduceLE, Int.reduceAdd, Int.reduceSub, Int.reduceMul, Int.reduceNeg, Int.reduceToNat, Int.cast_ofNat_Int, Int.natCast_zero, Int.natCast_one, Int.toNat_natCast, Nat.reduceBEq, hy.len, hy.sl, List.length_map]
  refine LoopK.nilRow 3 36 1 rfl rfl rfl ?_
  simp only [sx, sb1, sb2, sb3, sb4, sb5, sb6, sb7, ↓reduceIte, Nat.reduceAdd, Nat.reduceMul, Nat.reduceDiv, Nat.reduceEqDiff, Nat.reduceLT, Nat.reduceLeDiff, reduceCtorEq, Int.reduceEq, Int.reduceNe, Int.reduceLT, Int.reduceLE, Int.reduceAdd, Int.reduceSub, Int.reduceMul, Int.reduceNeg, Int.reduceToNat, Int.cast_ofNat_Int, Int.natCast_zero, Int.natCast_one, Int.toNat_natCast, Nat.reduceBEq]
  refine LoopK.go (X := Nat × Nat × List Nat) (fun x => ([(0, true, .v y), (3, true, .own 288), (4, true, .v (.int .i64 x.2.1))], [(288, .row 1 (x.2.2.map encN))], M))
    (fun x => ((x.2.1 ≤ l.length + 1 ∧ l.length + 1 ≤ x.2.1 + x.1) ∧ x.2.2.length ≤ x.2.1) ∧ x.2.2 ++ upL (l.drop x.2.1) = c) (fun x => x.1) (l.length + 1, 0, []) ⟨⟨⟨by simp, by simp⟩, by simp⟩, hc⟩ (Ent.of ?_) ?_
  · simp only [sx, sb1, sb2, sb3, sb4, sb5, sb6, sb7, ↓reduceIte, Nat.reduceAdd, Nat.reduceMul, Nat.reduceDiv, Nat.reduceEqDiff, Nat.reduceLT, Nat.reduceLeDiff, reduceCtorEq, Int.reduceEq, Int.reduceNe, Int.reduceLT, Int.reduceLE, Int.reduceAdd, Int.reduceSub, Int.reduceMul, Int.reduceNeg, Int.reduceToNat, Int.cast_ofNat_Int, Int.natCast_zero, Int.natCast_one, Int.toNat_natCast, Nat.reduceBEq, List.map_nil]
  rintro ⟨f, i, out⟩ ⟨⟨⟨h1, h4⟩, h3⟩, h2⟩
  simp only at h1 h2 h3 h4
  by_cases hil : i < l.length
  · have d1 : ((i : Int) < (l.length : Int)) = True := eq_true (by omega)
    by_cases hi2 : i + 1 = l.length
    · have d2 : ((i : Int) + 1 = (l.length : Int)) = True := eq_true (by omega)
      obtain ⟨a, hx, hd⟩ := l_drop_at (l := l) (i := i) hil
      have g1 := hy.el1 hx rfl
      have i1 := hy.ix (i := (i : Int)) (by omega) (by rw [List.length_map]; omega)
      have hd' : l.drop (i + 1) = [] := List.drop_eq_nil_of_le (by omega)
      rw [hd, hd'] at h2
      simp only [shs, zts, sos, sls, zss, eqs, sx, sb1, sb2, sb3, sb4, sb5, sb6, sb7, ↓reduceIte, Nat.reduceAdd, Nat.reduceMul, Nat.reduceDiv, Nat.reduceEqDiff, Nat.reduceLT, Nat.reduceLeDiff, reduceCtorEq, Int.reduceEq, Int.reduceNe, Int.reduceLT, Int.reduceLE, Int.reduceAdd, Int.reduceSub, Int.reduceMul, Int.reduceNeg, Int.reduceToNat, Int.cast_ofNat_Int, Int.natCast_zero, Int.natCast_one, Int.toNat_natCast, Nat.reduceBEq, nzs, hy.len, hy.sl, List.length_map, d1, d2, g1.1, g1.2, i1, i1.2, inK, lo, hi]
      refine ⟨by omega, ⟨by omega, by omega⟩, by omega, (f - 1, i + 2, out ++ [a]), ⟨⟨⟨⟨by simp only; omega, by simp only; omega⟩, by simp only [List.length_append, List.length_singleton]; omega⟩, ?_⟩, by simp only; omega⟩, Ent.rekey 3 36 176 1 _ rfl rfl rfl rfl (Ent.of ?_)⟩
      · simp only
        rw [List.drop_eq_nil_of_le (by omega)]
        simpa [upL] using h2
      · simp only [sx, sb1, sb2, sb3, sb4, sb5, sb6, sb7, ↓reduceIte, Nat.reduceAdd, Nat.reduceMul, Nat.reduceDiv, Nat.reduceEqDiff, Nat.reduceLT, Nat.reduceLeDiff, reduceCtorEq, Int.reduceEq, Int.reduceNe, Int.reduceLT, Int.reduceLE, Int.reduceAdd, Int.reduceSub, Int.reduceMul, Int.reduceNeg, Int.reduceToNat, Int.cast_ofNat_Int, Int.natCast_zero, Int.natCast_one, Int.toNat_natCast, Nat.reduceBEq, Int.natCast_add, List.map_append, encN]
    · have d2 : ((i : Int) + 1 = (l.length : Int)) = False := eq_false (by omega)
      obtain ⟨a, b, hx, hx2, hd⟩ := upL_drop (l := l) (i := i) (by omega)
      have g1 := hy.el1 hx rfl
      have i1 := hy.ix (i := (i : Int)) (by omega) (by rw [List.length_map]; omega)
      have e2 : (i : Int) + 1 = ((i + 1 : Nat) : Int) := by omega
      have g2 := hy.el1 hx2 rfl
      have i2 := hy.ix (i := ((i + 1 : Nat) : Int)) (by omega) (by rw [List.length_map]; omega)
      have ha := hl a (List.mem_of_getElem? hx)
      have hb := hl b (List.mem_of_getElem? hx2)
      rw [hd, upL] at h2
      simp only [shs, zts, sos, sls, zss, eqs, sx, sb1, sb2, sb3, sb4, sb5, sb6, sb7, ↓reduceIte, Nat.reduceAdd, Nat.reduceMul, Nat.reduceDiv, Nat.reduceEqDiff, Nat.reduceLT, Nat.reduceLeDiff, reduceCtorEq, Int.reduceEq, Int.reduceNe, Int.reduceLT, Int.reduceLE, Int.reduceAdd, Int.reduceSub, Int.reduceMul, Int.reduceNeg, Int.reduceToNat, Int.cast_ofNat_Int, Int.natCast_zero, Int.natCast_one, Int.toNat_natCast, Nat.reduceBEq, nzs, hy.len, hy.sl, List.length_map, d1, d2, inK, lo, hi]
      refine ⟨by omega, DrawK.plan (tk [0, 1, 2, 3, 4, 5, 6, 7, 8, 9] (ones' [10, 11, 12, 13, 14] .done)) (by kernel_rfl) (by kernel_rfl) ?_⟩
      simp only [shs, zts, sos, sls, zss, eqs, sx, sb1, sb2, sb3, sb4, sb5, sb6, sb7, ↓reduceIte, Nat.reduceAdd, Nat.reduceMul, Nat.reduceDiv, Nat.reduceEqDiff, Nat.reduceLT, Nat.reduceLeDiff, reduceCtorEq, Int.reduceEq, Int.reduceNe, Int.reduceLT, Int.reduceLE, Int.reduceAdd, Int.reduceSub, Int.reduceMul, Int.reduceNeg, Int.reduceToNat, Int.cast_ofNat_Int, Int.natCast_zero, Int.natCast_one, Int.toNat_natCast, Nat.reduceBEq, nzs, se1, se2, tks, hy.len, hy.sl, List.length_map, e2, g1.1, g1.2, i1, i1.2, g2.1, g2.2, i2, i2.2, inK, lo, hi]
      refine ⟨by omega, CallK.pure ⟨rfl, rfl⟩ rfl (said a b M (by omega) (by omega)) ?_⟩
      simp only [shs, zts, sos, sls, zss, eqs, sx, sb1, sb2, sb3, sb4, sb5, sb6, sb7, ↓reduceIte, Nat.reduceAdd, Nat.reduceMul, Nat.reduceDiv, Nat.reduceEqDiff, Nat.reduceLT, Nat.reduceLeDiff, reduceCtorEq, Int.reduceEq, Int.reduceNe, Int.reduceLT, Int.reduceLE, Int.reduceAdd, Int.reduceSub, Int.reduceMul, Int.reduceNeg, Int.reduceToNat, Int.cast_ofNat_Int, Int.natCast_zero, Int.natCast_one, Int.toNat_natCast, Nat.reduceBEq, nzs, se1, se2, tks]
      refine CallK.pure ⟨rfl, rfl⟩ rfl (plain 1073741907 (saidN a b) M (by omega) (by omega) (by simp only [maxLen, saidN_len]; omega)) ?_
      simp only [shs, zts, sos, sls, zss, eqs, sx, sb1, sb2, sb3, sb4, sb5, sb6, sb7, ↓reduceIte, Nat.reduceAdd, Nat.reduceMul, Nat.reduceDiv, Nat.reduceEqDiff, Nat.reduceLT, Nat.reduceLeDiff, reduceCtorEq, Int.reduceEq, Int.reduceNe, Int.reduceLT, Int.reduceLE, Int.reduceAdd, Int.reduceSub, Int.reduceMul, Int.reduceNeg, Int.reduceToNat, Int.cast_ofNat_Int, Int.natCast_zero, Int.natCast_one, Int.toNat_natCast, Nat.reduceBEq, nzs, se1, se2, tks, List.length_map, inK, lo, hi]
      refine ⟨⟨by omega, by omega⟩, by omega, (f - 1, i + 2, out ++ [nodeP a b]), ⟨⟨⟨⟨by simp only; omega, by simp only; omega⟩, by simp only [List.length_append, List.length_singleton]; omega⟩, by simpa using h2⟩, by simp only; omega⟩, Ent.of ?_⟩
      simp only [sx, sb1, sb2, sb3, sb4, sb5, sb6, sb7, ↓reduceIte, Nat.reduceAdd, Nat.reduceMul, Nat.reduceDiv, Nat.reduceEqDiff, Nat.reduceLT, Nat.reduceLeDiff, reduceCtorEq, Int.reduceEq, Int.reduceNe, Int.reduceLT, Int.reduceLE, Int.reduceAdd, Int.reduceSub, Int.reduceMul, Int.reduceNeg, Int.reduceToNat, Int.cast_ofNat_Int, Int.natCast_zero, Int.natCast_one, Int.toNat_natCast, Nat.reduceBEq, Int.natCast_add, List.map_append, encN]
      rfl
  · have d1 : ((i : Int) < (l.length : Int)) = False := eq_false (by omega)
    have hd : l.drop i = [] := List.drop_eq_nil_of_le (by omega)
    rw [hd, upL, List.append_nil] at h2
    subst h2
    simp only [shs, zts, sos, sls, zss, eqs, sx, sb1, sb2, sb3, sb4, sb5, sb6, sb7, ↓reduceIte, Nat.reduceAdd, Nat.reduceMul, Nat.reduceDiv, Nat.reduceEqDiff, Nat.reduceLT, Nat.reduceLeDiff, reduceCtorEq, Int.reduceEq, Int.reduceNe, Int.reduceLT, Int.reduceLE, Int.reduceAdd, Int.reduceSub, Int.reduceMul, Int.reduceNeg, Int.reduceToNat, Int.cast_ofNat_Int, Int.natCast_zero, Int.natCast_one, Int.toNat_natCast, Nat.reduceBEq, nzs, hy.len, hy.sl, List.length_map, d1]
    exact ⟨.own 288, rfl, rfl⟩

/-! ### Levels -/
def encV (p : Value × List Nat) : List Value := [p.1]
def LevM (M : Mem) (ps : List (Value × List Nat)) : Prop := ∀ p ∈ ps, RowM M p.1 1 (p.2.map encN)
theorem LevM.le {M M' : Mem} {ps : List (Value × List Nat)} (h : LevM M ps) (hle : M.le M') : LevM M' ps := fun p hp => (h p hp).le hle
/-- all levels, as they lie -/
def Levs (v : Value) (ls : List (List Nat)) (M : Mem) : Prop := ∃ ps : List (Value × List Nat), RowM M v 1 (ps.map encV) ∧ LevM M ps ∧ ps.map (·.2) = ls
theorem levels (y : Value) (l : List (List UInt8)) (M : Mem) (hy : RowM M y 1 (l.map encS)) (h0 : l ≠ []) (h32 : l.length ≤ 32) (hl : ∀ s ∈ l, s.length ≤ 64) :
    Meets Proofs.Try.prog 46 [.v y] M (fun r _ M' => ∃ v, r = .v v ∧ Levs v (levs 32 (l.map leafP)) M') := by
  suffices h : Meets Proofs.Try.prog 46 [.v y] M (fun r H M' => ∃ s es, r = s ∧ IsRow H M' s 1 es ∧ ∃ ps : List (Value × List Nat), es = ps.map encV ∧ LevM M' ps ∧ ps.map (·.2) = levs 32 (l.map leafP)) by
    refine (Meets.pub (T := fun s => s) Ctx.id (fun es M M' hle ⟨ps, h1, h2, h3⟩ => ⟨ps, h1, h2.le hle, h3⟩) h).mono fun s H M' _ ⟨v, es, h1, h2, ps, h3, h4, h5⟩ => ⟨v, h1, ps, by rw [← h3]; exact h2, h4, h5⟩
  refine Meets.of_body [0,2,3,14] Proofs.Try.func46 rfl (by kernel_rfl) rfl fun w => ?_
  generalize hc : levs 32 (l.map leafP) = c
  simp only [Proofs.Try.f46, shs, zts, sos, sls, zss, eqs, sx, sb1, sb2, sb3, sb4, sb5, sb6, sb7, ↓reduceIte, Nat.reduceAdd, Nat.reduceMul, Nat.reduceDiv, Nat.reduceEqDiff, Nat.reduceLT, Nat.reduceLeDiff, reduceCtorEq, Int.reduceEq, Int.reduceNe, Int.reduceLT, Int.reduceLE, Int.reduceAdd, Int.reduceSub, Int.reduceMul, Int.reduceNeg, Int.reduceToNat, Int.cast_ofNat_Int, Int.natCast_zero, Int.natCast_one, Int.toNat_natCast, Nat.reduceBEq, hy.len, hy.sl, List.length_map]
  refine CallK.row Ctx.id rfl rfl (leaves y l M hy h32 hl) fun v1 M1 hM1 hv1 => ?_
  simp only [shs, zts, sos, sls, zss, eqs, sx, sb1, sb2, sb3, sb4, sb5, sb6, sb7, ↓reduceIte, Nat.reduceAdd, Nat.reduceMul, Nat.reduceDiv, Nat.reduceEqDiff, Nat.reduceLT, Nat.reduceLeDiff, reduceCtorEq, Int.reduceEq, Int.reduceNe, Int.reduceLT, Int.reduceLE, Int.reduceAdd, Int.reduceSub, Int.reduceMul, Int.reduceNeg, Int.reduceToNat, Int.cast_ofNat_Int, Int.natCast_zero, Int.natCast_one, Int.toNat_natCast, Nat.reduceBEq, hv1.one]
  refine LoopK.go (X := Nat × List (Value × List Nat) × Value × List Nat × Mem) (fun x => ([(3, true, .own 48)], [(48, .row 1 ((x.2.1 ++ [(x.2.2.1, x.2.2.2.1)]).map encV))], x.2.2.2.2))
    (fun x => (((x.2.1.length + x.1 ≤ 32 ∧ (x.2.2.2.1.length ≤ x.1 + 1 ∧ x.2.2.2.1.length ≤ 32)) ∧ 1 ≤ x.2.2.2.1.length) ∧ okL x.2.2.2.1) ∧ LevM x.2.2.2.2 (x.2.1 ++ [(x.2.2.1, x.2.2.2.1)]) ∧ x.2.1.map (·.2) ++ levs x.1 x.2.2.2.1 = c) (fun x => x.1) (32, [], v1, l.map leafP, M1)
    ⟨⟨⟨⟨by simp, by simp only [List.length_map]; omega, by simp only [List.length_map]; omega⟩, by simp only [List.length_map]; exact List.length_pos_iff.2 h0⟩, fun x hx => by obtain ⟨s, _, rfl⟩ := List.mem_map.1 hx; exact leaf_le s⟩, fun p hp => by simp at hp; subst hp; exact hv1, hc⟩ (Ent.of ?_) ?_
  · simp only [sx, sb1, sb2, sb3, sb4, sb5, sb6, sb7, ↓reduceIte, Nat.reduceAdd, Nat.reduceMul, Nat.reduceDiv, Nat.reduceEqDiff, Nat.reduceLT, Nat.reduceLeDiff, reduceCtorEq, Int.reduceEq, Int.reduceNe, Int.reduceLT, Int.reduceLE, Int.reduceAdd, Int.reduceSub, Int.reduceMul, Int.reduceNeg, Int.reduceToNat, Int.cast_ofNat_Int, Int.natCast_zero, Int.natCast_one, Int.toNat_natCast, Nat.reduceBEq, List.map_nil, encV]
  rintro ⟨f, pre, v, lv, M2⟩ ⟨⟨⟨⟨h1, h2, h2b⟩, h3⟩, h4⟩, h5, h6⟩
  simp only at h1 h2 h2b h3 h4 h5 h6
  have hv := h5 (v, lv) (by simp)
  simp only at hv
  have e1 : ((pre.length + 1 : Nat) : Int) - 1 = (pre.length : Int) := by omega
  have eg : ((pre ++ [(v, lv)]).map encV).getD pre.length [] = [v] := by
    rw [List.getD_eq_getElem?_getD, List.getElem?_map, List.getElem?_append_right (Nat.le_refl _)]
    simp [encV]
  have i1 : inK .i64 ((pre.length : Nat) : Int) := i64N (by omega)
  simp only [shs, zts, sos, sls, zss, eqs, sx, sb1, sb2, sb3, sb4, sb5, sb6, sb7, ↓reduceIte, Nat.reduceAdd, Nat.reduceMul, Nat.reduceDiv, Nat.reduceEqDiff, Nat.reduceLT, Nat.reduceLeDiff, reduceCtorEq, Int.reduceEq, Int.reduceNe, Int.reduceLT, Int.reduceLE, Int.reduceAdd, Int.reduceSub, Int.reduceMul, Int.reduceNeg, Int.reduceToNat, Int.cast_ofNat_Int, Int.natCast_zero, Int.natCast_one, Int.toNat_natCast, Nat.reduceBEq, nzs, List.length_map, List.length_append, List.length_singleton, e1, eg, List.getD_cons_zero, hv.len, hv.sl, i1]
  refine ⟨by omega, by omega, fun h7 => ⟨by omega, by omega, ?_⟩, fun h7 => ?_⟩
  · refine CallK.row Ctx.id rfl rfl (up v lv M2 hv (by omega) h4) fun v3 M3 hM3 hv3 => ?_
    simp only [shs, zts, sos, sls, zss, eqs, sx, sb1, sb2, sb3, sb4, sb5, sb6, sb7, ↓reduceIte, Nat.reduceAdd, Nat.reduceMul, Nat.reduceDiv, Nat.reduceEqDiff, Nat.reduceLT, Nat.reduceLeDiff, reduceCtorEq, Int.reduceEq, Int.reduceNe, Int.reduceLT, Int.reduceLE, Int.reduceAdd, Int.reduceSub, Int.reduceMul, Int.reduceNeg, Int.reduceToNat, Int.cast_ofNat_Int, Int.natCast_zero, Int.natCast_one, Int.toNat_natCast, Nat.reduceBEq, nzs, List.length_map, List.length_append, List.length_singleton, hv3.one]
    have hul := upL_len lv
    obtain ⟨f, rfl⟩ : ∃ g, f = g + 1 := ⟨f - 1, by omega⟩
    rw [levs, if_pos (by omega)] at h6
    refine ⟨by omega, (f, pre ++ [(v, lv)], v3, upL lv, M3), ⟨⟨⟨⟨⟨by simp only [List.length_append, List.length_singleton]; omega, by simp only; omega, by simp only; omega⟩, by simp only; omega⟩, upL_ok h4⟩, ?_, by simpa using h6⟩, by simp only; omega⟩, Ent.rekey 3 6 192 1 _ rfl rfl rfl rfl (Ent.of ?_)⟩
    · intro p hp
      simp only at hp
      rcases List.mem_append.1 hp with hp | hp
      · exact (h5 p hp).le hM3
      · simp at hp; subst hp; exact hv3
    · simp only [sx, sb1, sb2, sb3, sb4, sb5, sb6, sb7, ↓reduceIte, Nat.reduceAdd, Nat.reduceMul, Nat.reduceDiv, Nat.reduceEqDiff, Nat.reduceLT, Nat.reduceLeDiff, reduceCtorEq, Int.reduceEq, Int.reduceNe, Int.reduceLT, Int.reduceLE, Int.reduceAdd, Int.reduceSub, Int.reduceMul, Int.reduceNeg, Int.reduceToNat, Int.cast_ofNat_Int, Int.natCast_zero, Int.natCast_one, Int.toNat_natCast, Nat.reduceBEq, List.map_append, encV]
  · have : levs f lv = [lv] := by
      cases f with
      | zero => rfl
      | succ f => rw [levs, if_neg (by omega)]
    rw [this] at h6
    exact ⟨.own 48, _, rfl, rfl, _, rfl, h5, by simpa using h6⟩
end Go.X.Ts

namespace Go.X.Ts
open Go Go.X Go.X.Pol Go.X.Pl Go.X.Rp Go.X.Pd Go.X.Md Go.X.Mv Go.X.Pt Go.X.Tv

def upN : Nat → List Nat → List Nat
  | 0, l => l
  | d + 1, l => upN d (upL l)
theorem upN_one (x : Nat) : ∀ d, upN d [x] = [x]
  | 0 => rfl
  | d + 1 => by simp only [upN, upL]; exact upN_one x d
theorem upL_app : ∀ (l1 l2 : List Nat), l1.length % 2 = 0 → upL (l1 ++ l2) = upL l1 ++ upL l2
  | [], l2, _ => by simp [upL]
  | [x], l2, h => by simp at h
  | x :: y :: r, l2, h => by
    simp only [List.cons_append, upL]
    rw [upL_app r l2 (by simp only [List.length_cons] at h; omega)]
theorem upN_app : ∀ (d : Nat) (l1 l2 : List Nat), l1.length = 2 ^ d → upN d (l1 ++ l2) = upN d l1 ++ upN d l2
  | 0, _, _, _ => rfl
  | d + 1, l1, l2, h => by
    have h2 : l1.length = 2 ^ d * 2 := by rw [h, Nat.pow_succ]
    simp only [upN]
    rw [upL_app l1 l2 (by omega), upN_app d _ _ (by rw [upL_len]; omega)]
theorem upN_add (b : Nat) : ∀ (a : Nat) (l : List Nat), upN (a + b) l = upN b (upN a l)
  | 0, l => by rw [Nat.zero_add]; rfl
  | a + 1, l => by
    rw [show a + 1 + b = (a + b) + 1 by omega]
    simp only [upN]
    exact upN_add b a (upL l)
theorem upN_top : ∀ (d : Nat) (l : List Nat), 1 ≤ l.length → l.length ≤ 2 ^ d → ∃ x, upN d l = [x]
  | 0, [x], _, _ => ⟨x, rfl⟩
  | 0, _ :: _ :: _, _, h => by simp at h
  | d + 1, l, h1, h2 => by
    have h3 := upL_len l
    rw [Nat.pow_succ] at h2
    simp only [upN]
    exact upN_top d (upL l) (by omega) (by omega)
def topV (l : List Nat) : Nat := (upN 5 l).headD 0
theorem upN_topV {d : Nat} {l : List Nat} (h1 : 1 ≤ l.length) (h2 : l.length ≤ 2 ^ d) (hd : d ≤ 5) : upN d l = [topV l] := by
  obtain ⟨x, hx⟩ := upN_top d l h1 h2
  have : upN 5 l = [x] := by
    rw [show 5 = d + (5 - d) by omega, upN_add, hx, upN_one]
  rw [hx, topV, this]
  rfl
theorem sp_pow : ∀ n, n < 33 → 2 ≤ n → ∃ d, d < 5 ∧ spF n 6 1 = 2 ^ d ∧ 2 ^ d < n ∧ n ≤ 2 ^ d + 2 ^ d := by decide +kernel
end Go.X.Ts

namespace Go.X.Ts
open Go Go.X Go.X.Pol Go.X.Pl Go.X.Rp Go.X.Pd Go.X.Md Go.X.Mv Go.X.Pt Go.X.Tv

def lv0 (l : List (List UInt8)) : List Nat := l.map leafP
theorem lv0_len (l : List (List UInt8)) : (lv0 l).length = l.length := List.length_map _
/-- what Check lets by -/
theorem lvE_ok {l : List (List UInt8)} (h : lvE l = 0) : l ≠ [] ∧ l.length ≤ 32 ∧ ∀ s ∈ l, s.length ≤ 64 := by
  unfold lvE at h
  split at h
  · cases h
  · split at h
    · cases h
    · rename_i h1 h2
      refine ⟨fun e => h1 (by rw [e]; rfl), by omega, fun s hs => ?_⟩
      have h3 : ¬ l.any bigB = true := fun e => h2 (.inr e)
      rw [List.any_eq_true] at h3
      rcases Nat.lt_or_ge 64 s.length with h4 | h4
      · exact (h3 ⟨s, hs, decide_eq_true (by omega)⟩).elim
      · exact h4
theorem Levs.get {v : Value} {ls : List (List Nat)} {M : Mem} (h : Levs v ls M) {i : Nat} {lv : List Nat} (hi : ls[i]? = some lv) : ∃ u, (elE M v 1 i 0 = u ∧ okE M v 1 i 0) ∧ RowM M u 1 (lv.map encN) := by
  obtain ⟨ps, h1, h2, rfl⟩ := h
  rw [List.getElem?_map, Option.map_eq_some_iff] at hi
  obtain ⟨p, hp, rfl⟩ := hi
  exact ⟨p.1, h1.el1 hp rfl, h2 p (List.mem_of_getElem? hp)⟩
theorem Levs.len {v : Value} {ls : List (List Nat)} {M : Mem} (h : Levs v ls M) : lenV v = ls.length ∧ isSl v = true := by
  obtain ⟨ps, h1, h2, rfl⟩ := h
  exact ⟨by rw [h1.len, List.length_map, List.length_map], h1.sl⟩
theorem Levs.ix {v : Value} {ls : List (List Nat)} {M : Mem} (h : Levs v ls M) {i : Int} (h0 : 0 ≤ i) (h1 : i < ls.length) : ixOk v i := by
  obtain ⟨ps, h2, _, rfl⟩ := h
  exact h2.ix h0 (by rw [List.length_map] at h1 ⊢; exact h1)

end Go.X.Ts

namespace Go.X.Ts
open Go Go.X Go.X.Pol Go.X.Pl Go.X.Rp Go.X.Pd Go.X.Md Go.X.Mv Go.X.Pt Go.X.Tv

def blk {α : Type} (l : List α) (d i : Nat) : List α := (l.drop (i * 2 ^ d)).take (2 ^ d)
theorem blk_len {α : Type} (l : List α) (d i : Nat) : (blk l d i).length = min (2 ^ d) (l.length - i * 2 ^ d) := by
  unfold blk
  rw [List.length_take, List.length_drop]
def cl : Nat → Nat → Nat
  | 0, n => n
  | d + 1, n => cl d ((n + 1) / 2)
theorem cl_iff : ∀ (d n i : Nat), i < cl d n ↔ i * 2 ^ d < n
  | 0, n, i => by simp [cl]
  | d + 1, n, i => by
    rw [cl, cl_iff d, Nat.pow_succ, ← Nat.mul_assoc]
    omega
theorem upN_len : ∀ (d : Nat) (l : List Nat), (upN d l).length = cl d l.length
  | 0, l => rfl
  | d + 1, l => by
    simp only [upN, cl]
    rw [upN_len d, upL_len]
theorem upN_get {d : Nat} (hd : d ≤ 5) : ∀ (i : Nat) (l : List Nat), i * 2 ^ d < l.length → (upN d l)[i]? = some (topV (blk l d i))
  | i, l, h => by
    have hp := Nat.two_pow_pos d
    by_cases hl : l.length ≤ 2 ^ d
    · have e0 : i = 0 := by
        rcases Nat.eq_zero_or_pos i with h0 | h0
        · exact h0
        · have := Nat.mul_le_mul_right (2 ^ d) h0
          omega
      subst e0
      rw [upN_topV (d := d) (by omega) hl hd]
      simp only [blk, Nat.zero_mul, List.drop_zero]
      rw [List.take_of_length_le hl]
      rfl
    · have e : l = l.take (2 ^ d) ++ l.drop (2 ^ d) := (List.take_append_drop _ _).symm
      have ht : (l.take (2 ^ d)).length = 2 ^ d := by rw [List.length_take]; omega
      have hU : upN d l = topV (l.take (2 ^ d)) :: upN d (l.drop (2 ^ d)) := by
        conv => lhs; rw [e]
        rw [upN_app d _ _ ht, upN_topV (d := d) (l := l.take (2 ^ d)) (by omega) (by omega) hd]
        rfl
      rw [hU]
      cases i with
      | zero => simp only [blk, Nat.zero_mul, List.drop_zero, List.getElem?_cons_zero]
      | succ i =>
        rw [List.getElem?_cons_succ, upN_get hd i _ (by rw [List.length_drop]; rw [Nat.add_mul] at h; omega)]
        simp only [blk, List.drop_drop]
        rw [show 2 ^ d + i * 2 ^ d = (i + 1) * 2 ^ d by rw [Nat.add_mul]; omega]
def tpN : Nat → Nat → Nat
  | 0, _ => 0
  | f + 1, n => if 1 < n then tpN f ((n + 1) / 2) + 1 else 0
theorem levs_len : ∀ (f : Nat) (l : List Nat), (levs f l).length = tpN f l.length + 1
  | 0, l => rfl
  | f + 1, l => by
    simp only [levs, tpN]
    split
    · rw [List.length_cons, levs_len f, upL_len]
    · rfl
theorem levs_get : ∀ (f : Nat) (l : List Nat) (d : Nat), d ≤ tpN f l.length → (levs f l)[d]? = some (upN d l)
  | 0, l, d, h => by
    simp only [tpN, Nat.le_zero_eq] at h
    subst h
    rfl
  | f + 1, l, d, h => by
    simp only [levs, tpN] at h ⊢
    split at h
    · rename_i h1
      rw [if_pos h1]
      cases d with
      | zero => rfl
      | succ d =>
        rw [List.getElem?_cons_succ, levs_get f (upL l) d (by rw [upL_len]; omega)]
        rfl
    · rename_i h1
      have : d = 0 := by omega
      subst this
      rw [if_neg h1]
      rfl
theorem tp_facts : ∀ n, n < 33 → 1 ≤ n → tpN 32 n ≤ 5 ∧ n ≤ 2 ^ tpN 32 n := by decide +kernel
theorem sp_at : ∀ d, d < 5 → ∀ L, L < 33 → 2 ^ d < L → L ≤ 2 ^ (d + 1) → spF L 6 1 = 2 ^ d := by decide +kernel

/-- where two lists of leaves differ, and how many nodes are looked at -/
def rc : Nat → List Nat → List Nat → List Nat × Nat
  | 0, _, _ => ([], 0)
  | f + 1, a, b => if topV a = topV b then ([], 1) else if a.length = 1 then ([0], 1) else
    ((rc f (a.take (spF a.length 6 1)) (b.take (spF a.length 6 1))).1 ++ (rc f (a.drop (spF a.length 6 1)) (b.drop (spF a.length 6 1))).1.map (· + spF a.length 6 1),
      (rc f (a.take (spF a.length 6 1)) (b.take (spF a.length 6 1))).2 + (rc f (a.drop (spF a.length 6 1)) (b.drop (spF a.length 6 1))).2 + 1)
theorem rc_bound : ∀ (f : Nat) (a b : List Nat), 1 ≤ a.length → a.length ≤ 32 → (rc f a b).1.length ≤ a.length ∧ (rc f a b).2 + 1 ≤ 2 * a.length ∧ ∀ x ∈ (rc f a b).1, x < a.length
  | 0, a, b, h, h32 => ⟨by simp [rc], by simp only [rc]; omega, by simp [rc]⟩
  | f + 1, a, b, h, h32 => by
    simp only [rc]
    split
    · exact ⟨by simp, by simp only; omega, by simp⟩
    · split
      · exact ⟨by simpa using h, by simp only; omega, fun x hx => by simp at hx; omega⟩
      · obtain ⟨d, h1, h2, h3, h4⟩ := sp_pow a.length (by omega) (by omega)
        have hp := Nat.two_pow_pos d
        rw [h2]
        obtain ⟨p1, p2, p3⟩ := rc_bound f (a.take (2 ^ d)) (b.take (2 ^ d)) (by rw [List.length_take]; omega) (by rw [List.length_take]; omega)
        obtain ⟨q1, q2, q3⟩ := rc_bound f (a.drop (2 ^ d)) (b.drop (2 ^ d)) (by rw [List.length_drop]; omega) (by rw [List.length_drop]; omega)
        rw [List.length_take] at p1 p2 p3
        rw [List.length_drop] at q1 q2 q3
        refine ⟨by rw [List.length_append, List.length_map]; omega, by simp only; omega, fun x hx => ?_⟩
        rcases List.mem_append.1 hx with hx | hx
        · have := p3 x hx; omega
        · obtain ⟨y, hy, rfl⟩ := List.mem_map.1 hx
          have := q3 y hy
          omega
/-- a block whose upper half is not there is the block one level down -/
theorem blk_down {α : Type} {l : List α} {d i : Nat} (h : l.length ≤ (2 * i + 1) * 2 ^ d) : blk l (d + 1) i = blk l d (2 * i) := by
  unfold blk
  have e : i * 2 ^ (d + 1) = 2 * i * 2 ^ d := by rw [Nat.pow_succ, Nat.mul_comm 2 i, Nat.mul_assoc, Nat.mul_comm (2 ^ d)]
  rw [e]
  rw [Nat.add_mul, Nat.one_mul] at h
  have hp := Nat.two_pow_pos d
  have h1 : (l.drop (2 * i * 2 ^ d)).length ≤ 2 ^ d := by rw [List.length_drop]; omega
  rw [List.take_of_length_le h1, List.take_of_length_le (Nat.le_trans h1 (by rw [Nat.pow_succ]; omega))]
theorem blk_half {α : Type} (l : List α) (d i : Nat) : (blk l (d + 1) i).take (2 ^ d) = blk l d (2 * i) ∧ (blk l (d + 1) i).drop (2 ^ d) = blk l d (2 * i + 1) := by
  have e : i * 2 ^ (d + 1) = 2 * i * 2 ^ d := by rw [Nat.pow_succ, Nat.mul_comm 2 i, Nat.mul_assoc, Nat.mul_comm (2 ^ d)]
  unfold blk
  rw [e]
  constructor
  · rw [List.take_take, Nat.min_eq_left (by rw [Nat.pow_succ]; omega)]
  · rw [List.drop_take, List.drop_drop, Nat.add_mul, Nat.one_mul]
    congr 1
    rw [Nat.pow_succ]; omega
theorem rc_node {f d i : Nat} {a b : List Nat} (hd : d < 5) (hl : a.length ≤ 32) (hm : (2 * i + 1) * 2 ^ d < a.length) (hne : topV (blk a (d + 1) i) ≠ topV (blk b (d + 1) i)) :
    rc (f + 1) (blk a (d + 1) i) (blk b (d + 1) i) = ((rc f (blk a d (2 * i)) (blk b d (2 * i))).1 ++ (rc f (blk a d (2 * i + 1)) (blk b d (2 * i + 1))).1.map (· + 2 ^ d),
      (rc f (blk a d (2 * i)) (blk b d (2 * i))).2 + (rc f (blk a d (2 * i + 1)) (blk b d (2 * i + 1))).2 + 1) := by
  have hp := Nat.two_pow_pos d
  have e : i * 2 ^ (d + 1) = 2 * i * 2 ^ d := by rw [Nat.pow_succ, Nat.mul_comm 2 i, Nat.mul_assoc, Nat.mul_comm (2 ^ d)]
  have hL := blk_len a (d + 1) i
  rw [Nat.add_mul, Nat.one_mul] at hm
  have hs : spF (blk a (d + 1) i).length 6 1 = 2 ^ d := by
    have hL2 := hL
    rw [e, Nat.pow_succ] at hL2
    exact sp_at d hd _ (by omega) (by omega) (by rw [Nat.pow_succ]; omega)
  rw [rc, if_neg hne, if_neg (by rw [hL, e, Nat.pow_succ]; omega), hs, (blk_half a d i).1, (blk_half a d i).2, (blk_half b d i).1, (blk_half b d i).2]
theorem rc_leaf {f i : Nat} {a b : List Nat} (hi : i < a.length) (hne : topV (blk a 0 i) ≠ topV (blk b 0 i)) : rc (f + 1) (blk a 0 i) (blk b 0 i) = ([0], 1) := by
  rw [rc, if_neg hne, if_pos (by rw [blk_len]; simp; omega)]
theorem rc_same {f : Nat} {a b : List Nat} (h : topV a = topV b) : rc (f + 1) a b = ([], 1) := by rw [rc, if_pos h]
/-! ### Clash -/
end Go.X.Ts

