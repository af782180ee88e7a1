/- Contracts of functions and the logic that they are proved in (5 texts in one). Conditions: none. -/
import Derived.Test.YteebcojoghnlnaaMg15
import Derived.Test.YteebcojoghnlnaaMg6
import Derived.Test.YteebcojoghnlnaaMg8
import Derived.Test.YteebcojoghnlnaaMg12
import Derived.Shelf.SlSortFuncK.WholeK
import Derived.Shelf.GgSortFunc.Tiny
namespace Go.X.Pol
end Go.X.Pol
namespace Go.X.Pl
end Go.X.Pl
namespace Go.X.Rp
end Go.X.Rp
namespace Go.X.Pd
end Go.X.Pd
namespace Go.X.Md
end Go.X.Md
namespace Go.X.Mv
end Go.X.Mv
namespace Go.X.Pt
end Go.X.Pt
namespace Go.X.Tv
end Go.X.Tv
namespace Go.X.Bg
end Go.X.Bg
namespace Go.X.Nm
end Go.X.Nm
namespace Go.X.Bp
end Go.X.Bp
set_option linter.unusedSimpArgs false
set_option linter.unusedVariables false
set_option maxHeartbeats 4000000
set_option maxRecDepth 20000
namespace Go.X.Ts
open Go Go.X Go.X.Pol Go.X.Pl Go.X.Rp Go.X.Pd Go.X.Md Go.X.Mv Go.X.Pt Go.X.Tv

/-- a level, and a place in it -/
theorem Levs.at {v : Value} {l : List Nat} {M : Mem} (h : Levs v (levs 32 l) M) {d i : Nat} (hd : d ≤ tpN 32 l.length) (h5 : d ≤ 5) (hi : i * 2 ^ d < l.length) :
    ∃ u, (elE M v 1 d 0 = u ∧ okE M v 1 d 0) ∧ (lenV u = (upN d l).length ∧ isSl u = true) ∧ (∀ d' : Int, d' = d → ixOk v d') ∧ (elE M u 1 i 0 = .int .i64 (topV (blk l d i) : Int) ∧ okE M u 1 i 0) ∧ (∀ i' : Int, i' = i → ixOk u i') := by
  have hL := levs_len 32 l
  obtain ⟨u, h1, h2⟩ := h.get (levs_get 32 l d hd)
  have hg := upN_get h5 i l hi
  refine ⟨u, h1, ⟨by rw [h2.len, List.length_map], h2.sl⟩, fun d' e => h.ix (by omega) (by omega), h2.el1 hg rfl, fun i' e => h2.ix (by omega) (by rw [List.length_map]; have := (List.getElem?_eq_some_iff.1 hg).1; omega)⟩
def boxP (va vb : Value) (b : Nat) (out : List Nat) (many : Nat) (f : Nat → SV) : List PO := [.row 1 (out.map encN), .box [.v va, .v vb, f 0, .v (.int .i64 many)] (some (ptrV b))]
theorem Levs.le {v : Value} {ls : List (List Nat)} {M M' : Mem} (h : Levs v ls M) (hle : M.le M') : Levs v ls M' := by
  obtain ⟨ps, h1, h2, h3⟩ := h
  exact ⟨ps, h1.le hle, h2.le hle, h3⟩
theorem boxP_nat {α : Type} (va vb : Value) (b : Nat) (out : List Nat) (many : Nat) : NatP (fun (_ : α) => boxP va vb b out many) := by
  intro x f f' ν ν' h
  have h0 := h 0 (by omega)
  refine ⟨fun w x hx => hx, fun w x hx => ?_, trivial⟩
  simp only [PO.holds, SV.vals, h0] at hx ⊢
  exact hx
theorem look : ∀ (n : Nat) (va vb : Value) (la lb : List Nat) (b d i : Nat) (out : List Nat) (many : Nat) (M : Mem), Levs va (levs 32 la) M → Levs vb (levs 32 lb) M → la.length = lb.length → la.length ≤ 32 → d ≤ tpN 32 la.length → d ≤ 5 → i * 2 ^ d < la.length → d < n →
    many + 2 * (blk la d i).length ≤ 1000 → out.length + (blk la d i).length ≤ 1000 →
    MeetsH Proofs.Try.prog 47 [.v (ptrV b), .v (.int .i64 d), .v (.int .i64 i)] [(8000, .row 1 (out.map encN)), (8001, .box [.v va, .v vb, .own 8000, .v (.int .i64 many)] (some (ptrV b)))] M
      (OwnN (fun (_ : Unit) _ => .tup []) (fun _ => boxP va vb b (out ++ (rc n (blk la d i) (blk lb d i)).1.map (· + i * 2 ^ d)) (many + (rc n (blk la d i) (blk lb d i)).2)) (fun _ _ => True))
  | 0, _, _, _, _, _, _, _, _, _, _, _, _, _, _, _, _, _, hn, _, _ => by omega
  | n + 1, va, vb, la, lb, b, d, i, out, many, M, ha, hb, hab, h32, hd, h5, hi, hn, hm, ho => by
    refine MeetsH.fix 8001 rfl (MeetsH.of_body [0,1,2,33,50,56] Proofs.Try.func47 rfl (by kernel_rfl) fun w M0 => ?_)
    obtain ⟨ua, ⟨a1, a2⟩, ⟨a3, a4⟩, a5, ⟨a6, a7⟩, a8⟩ := ha.at hd h5 hi
    obtain ⟨ub, ⟨b1, b2⟩, ⟨b3, b4⟩, b5, ⟨b6, b7⟩, b8⟩ := hb.at (by rw [← hab]; exact hd) h5 (i := i) (by rw [← hab]; exact hi)
    have a5 := a5 d rfl
    have a8 := a8 i rfl
    have b5 := b5 d rfl
    have b8 := b8 i rfl
    have hbl := blk_len la d i
    have hpd := Nat.two_pow_pos d
    have im : inK .i64 ((many : Int) + 1) := i64J (by omega)
    simp only [Proofs.Try.f47, shs, zts, sos, sls, zss, eqs, sx, sb1, sb2, sb3, sb4, sb5, sb6, sb7, ↓reduceIte, Nat.reduceAdd, Nat.reduceMul, Nat.reduceDiv, Nat.reduceEqDiff, Nat.reduceLT, Nat.reduceLeDiff, reduceCtorEq, Int.reduceEq, Int.reduceNe, Int.reduceLT, Int.reduceLE, Int.reduceAdd, Int.reduceSub, Int.reduceMul, Int.reduceNeg, Int.reduceToNat, Int.cast_ofNat_Int, Int.natCast_zero, Int.natCast_one, Int.toNat_natCast, Nat.reduceBEq, nzs, im]
    refine DrawK.ent (X := Unit) (fun _ => True) (fun _ => ([(0, true, .ptr 8001 0 0 0), (1, true, .v (.int .i64 d)), (2, true, .v (.int .i64 i)), (33, true, .v (.bool (decide ((topV (blk la d i) : Int) = (topV (blk lb d i) : Int)))))], [(8000, .row 1 (out.map encN)), (8001, .box [.v va, .v vb, .own 8000, .v (.int .i64 ((many : Int) + 1))] (some (ptrV b)))], M)) ?_ ?_
    · refine DrawK.plan (tk [0, 1, 2, 4, 7, 10, 11, 12, 14, 17] (.two 3 (tk [5, 6, 8, 9] (.one 13 (tk [15, 16, 18, 19, 20] .done))) 13 (tk [15, 16, 18, 19] (.one 3 (tk [5, 6, 8, 9, 20] .done))))) (by kernel_rfl) (by kernel_rfl) ?_
      simp only [shs, zts, sos, sls, zss, eqs, sx, sb1, sb2, sb3, sb4, sb5, sb6, sb7, ↓reduceIte, Nat.reduceAdd, Nat.reduceMul, Nat.reduceDiv, Nat.reduceEqDiff, Nat.reduceLT, Nat.reduceLeDiff, reduceCtorEq, Int.reduceEq, Int.reduceNe, Int.reduceLT, Int.reduceLE, Int.reduceAdd, Int.reduceSub, Int.reduceMul, Int.reduceNeg, Int.reduceToNat, Int.cast_ofNat_Int, Int.natCast_zero, Int.natCast_one, Int.toNat_natCast, Nat.reduceBEq, nzs, se1, se2, tks, a1, a2, a4, a5, a6, a7, a8, a5.2, a8.2, b1, b2, b4, b5, b6, b7, b8, b5.2, b8.2]
      exact ⟨⟨(), Ent.of (by simp only [sx, sb1, sb2, sb3, sb4, sb5, sb6, sb7, ↓reduceIte, Nat.reduceAdd, Nat.reduceMul, Nat.reduceDiv, Nat.reduceEqDiff, Nat.reduceLT, Nat.reduceLeDiff, reduceCtorEq, Int.reduceEq, Int.reduceNe, Int.reduceLT, Int.reduceLE, Int.reduceAdd, Int.reduceSub, Int.reduceMul, Int.reduceNeg, Int.reduceToNat, Int.cast_ofNat_Int, Int.natCast_zero, Int.natCast_one, Int.toNat_natCast, Nat.reduceBEq])⟩, ⟨(), Ent.of (by simp only [sx, sb1, sb2, sb3, sb4, sb5, sb6, sb7, ↓reduceIte, Nat.reduceAdd, Nat.reduceMul, Nat.reduceDiv, Nat.reduceEqDiff, Nat.reduceLT, Nat.reduceLeDiff, reduceCtorEq, Int.reduceEq, Int.reduceNe, Int.reduceLT, Int.reduceLE, Int.reduceAdd, Int.reduceSub, Int.reduceMul, Int.reduceNeg, Int.reduceToNat, Int.cast_ofNat_Int, Int.natCast_zero, Int.natCast_one, Int.toNat_natCast, Nat.reduceBEq])⟩⟩
    · intro _ _
      by_cases he : topV (blk la d i) = topV (blk lb d i)
      · have dE : ((topV (blk la d i) : Int) = (topV (blk lb d i) : Int)) = True := eq_true (by omega)
        rw [rc_same he]
        simp only [shs, zts, sos, sls, zss, eqs, sx, sb1, sb2, sb3, sb4, sb5, sb6, sb7, ↓reduceIte, Nat.reduceAdd, Nat.reduceMul, Nat.reduceDiv, Nat.reduceEqDiff, Nat.reduceLT, Nat.reduceLeDiff, reduceCtorEq, Int.reduceEq, Int.reduceNe, Int.reduceLT, Int.reduceLE, Int.reduceAdd, Int.reduceSub, Int.reduceMul, Int.reduceNeg, Int.reduceToNat, Int.cast_ofNat_Int, Int.natCast_zero, Int.natCast_one, Int.toNat_natCast, Nat.reduceBEq, nzs, dE, List.map_nil, List.append_nil]
        exact ⟨(), [8000, 8001], rfl, ⟨by decide, by decide⟩, ⟨rfl, rfl, trivial⟩, trivial⟩
      have dE : ((topV (blk la d i) : Int) = (topV (blk lb d i) : Int)) = False := eq_false (by omega)
      simp only [shs, zts, sos, sls, zss, eqs, sx, sb1, sb2, sb3, sb4, sb5, sb6, sb7, ↓reduceIte, Nat.reduceAdd, Nat.reduceMul, Nat.reduceDiv, Nat.reduceEqDiff, Nat.reduceLT, Nat.reduceLeDiff, reduceCtorEq, Int.reduceEq, Int.reduceNe, Int.reduceLT, Int.reduceLE, Int.reduceAdd, Int.reduceSub, Int.reduceMul, Int.reduceNeg, Int.reduceToNat, Int.cast_ofNat_Int, Int.natCast_zero, Int.natCast_one, Int.toNat_natCast, Nat.reduceBEq, nzs, dE]
      clear a1 a2 a3 a4 a5 a6 a7 a8 b1 b2 b3 b4 b5 b6 b7 b8
      refine LoopK.go (X := Nat × Nat) (fun x => ([(0, true, .ptr 8001 0 0 0), (1, true, .v (.int .i64 x.1)), (2, true, .v (.int .i64 x.2))], [(8000, .row 1 (out.map encN)), (8001, .box [.v va, .v vb, .own 8000, .v (.int .i64 ((many : Int) + 1))] (some (ptrV b)))], M))
        (fun x => ((x.1 ≤ d ∧ x.2 * 2 ^ x.1 = i * 2 ^ d) ∧ blk la x.1 x.2 = blk la d i) ∧ blk lb x.1 x.2 = blk lb d i) (fun x => x.1) (d, i) ⟨⟨⟨Nat.le_refl _, rfl⟩, rfl⟩, rfl⟩ (Ent.of ?_) ?_
      · simp only [sx, sb1, sb2, sb3, sb4, sb5, sb6, sb7, ↓reduceIte, Nat.reduceAdd, Nat.reduceMul, Nat.reduceDiv, Nat.reduceEqDiff, Nat.reduceLT, Nat.reduceLeDiff, reduceCtorEq, Int.reduceEq, Int.reduceNe, Int.reduceLT, Int.reduceLE, Int.reduceAdd, Int.reduceSub, Int.reduceMul, Int.reduceNeg, Int.reduceToNat, Int.cast_ofNat_Int, Int.natCast_zero, Int.natCast_one, Int.toNat_natCast, Nat.reduceBEq]
      rintro ⟨e, j⟩ ⟨⟨⟨h1, h2⟩, h3⟩, h4⟩
      simp only at h1 h2 h3 h4
      rw [← h3, ← h4] at he ⊢
      rw [← h2] at hi ⊢
      rw [← h3] at hbl hm ho
      have hjl : j < 32 := by
        have := Nat.le_mul_of_pos_right j (Nat.two_pow_pos e)
        omega
      cases e with
      | zero =>
        rw [rc_leaf (by simpa using hi) he]
        simp only [shs, zts, sos, sls, zss, eqs, sx, sb1, sb2, sb3, sb4, sb5, sb6, sb7, ↓reduceIte, Nat.reduceAdd, Nat.reduceMul, Nat.reduceDiv, Nat.reduceEqDiff, Nat.reduceLT, Nat.reduceLeDiff, reduceCtorEq, Int.reduceEq, Int.reduceNe, Int.reduceLT, Int.reduceLE, Int.reduceAdd, Int.reduceSub, Int.reduceMul, Int.reduceNeg, Int.reduceToNat, Int.cast_ofNat_Int, Int.natCast_zero, Int.natCast_one, Int.toNat_natCast, Nat.reduceBEq, nzs, List.length_map]
        refine ⟨by omega, (), [512, 8001], rfl, ⟨by decide, by decide⟩, ⟨?_, rfl, trivial⟩, trivial⟩
        rw [List.map_append, Nat.pow_zero, Nat.mul_one]
        rfl
      | succ e =>
        have hpe := Nat.two_pow_pos e
        have ee : j * 2 ^ (e + 1) = 2 * j * 2 ^ e := by rw [Nat.pow_succ, Nat.mul_comm 2 j, Nat.mul_assoc, Nat.mul_comm (2 ^ e)]
        obtain ⟨u, ⟨a1, a2⟩, ⟨a3, a4⟩, a5, _⟩ := ha.at (d := e) (i := 2 * j) (by omega) (by omega) (by rw [← ee]; exact hi)
        have a5 := a5 e rfl
        have hcl := upN_len e la
        rw [hcl] at a3
        have hc1 := cl_iff e la.length (2 * j)
        have hc2 := cl_iff e la.length (2 * j + 1)
        have e0 : (0 < ((e + 1 : Nat) : Int)) = True := eq_true (by omega)
        have e0' : (((e + 1 : Nat) : Int) = 0) = False := eq_false (by omega)
        have e1 : ((e + 1 : Nat) : Int) - 1 = (e : Int) := by omega
        have i1 : inK .i64 ((e : Nat) : Int) := i64J (by omega)
        have ej : 2 * (j : Int) = ((2 * j : Nat) : Int) := by omega
        have ej1 : ((2 * j : Nat) : Int) + 1 = ((2 * j + 1 : Nat) : Int) := by omega
        have em : (many : Int) + 1 = ((many + 1 : Nat) : Int) := by omega
        have i2 : inK .i64 ((2 * j : Nat) : Int) := i64J (by omega)
        have i3 : inK .i64 ((2 * j + 1 : Nat) : Int) := i64J (by omega)
        have hlt : 2 * j < cl e la.length := hc1.2 (by rw [← ee]; exact hi)
        by_cases hq : 2 * j + 1 = cl e la.length
        · have q1 : (((2 * j + 1 : Nat) : Int) = ((cl e la.length : Nat) : Int)) = True := eq_true (by omega)
          have hdn : la.length ≤ (2 * j + 1) * 2 ^ e := by
            rcases Nat.lt_or_ge ((2 * j + 1) * 2 ^ e) la.length with h | h
            · have := hc2.2 h; omega
            · exact h
          simp only [shs, zts, sos, sls, zss, eqs, sx, sb1, sb2, sb3, sb4, sb5, sb6, sb7, ↓reduceIte, Nat.reduceAdd, Nat.reduceMul, Nat.reduceDiv, Nat.reduceEqDiff, Nat.reduceLT, Nat.reduceLeDiff, reduceCtorEq, Int.reduceEq, Int.reduceNe, Int.reduceLT, Int.reduceLE, Int.reduceAdd, Int.reduceSub, Int.reduceMul, Int.reduceNeg, Int.reduceToNat, Int.cast_ofNat_Int, Int.natCast_zero, Int.natCast_one, Int.toNat_natCast, Nat.reduceBEq, nzs, e0, e1, i1, ej, ej1, i2, i3, a1, a2, a3, a4, a5, a5.2, q1]
          refine ⟨(e, 2 * j), ⟨⟨⟨⟨by simp only; omega, by simp only; omega⟩, ?_⟩, ?_⟩, by simp only; omega⟩, Ent.of (by simp only [sx, sb1, sb2, sb3, sb4, sb5, sb6, sb7, ↓reduceIte, Nat.reduceAdd, Nat.reduceMul, Nat.reduceDiv, Nat.reduceEqDiff, Nat.reduceLT, Nat.reduceLeDiff, reduceCtorEq, Int.reduceEq, Int.reduceNe, Int.reduceLT, Int.reduceLE, Int.reduceAdd, Int.reduceSub, Int.reduceMul, Int.reduceNeg, Int.reduceToNat, Int.cast_ofNat_Int, Int.natCast_zero, Int.natCast_one, Int.toNat_natCast, Nat.reduceBEq])⟩
          · exact (blk_down hdn).symm
          · exact (blk_down (by rw [← hab]; exact hdn)).symm
        · have q1 : (((2 * j + 1 : Nat) : Int) = ((cl e la.length : Nat) : Int)) = False := eq_false (by omega)
          have hm2 : (2 * j + 1) * 2 ^ e < la.length := hc2.1 (by omega)
          have em2 : (2 * j + 1) * 2 ^ e = 2 * j * 2 ^ e + 2 ^ e := by rw [Nat.add_mul, Nat.one_mul]
          have l1 := blk_len la e (2 * j)
          have l2 := blk_len la e (2 * j + 1)
          have l3 := blk_len la (e + 1) j
          have pe : 2 ^ (e + 1) = 2 ^ e * 2 := Nat.pow_succ 2 e
          obtain ⟨p1, p2, _⟩ := rc_bound n (blk la e (2 * j)) (blk lb e (2 * j)) (by omega) (by omega)
          have r1 := look n va vb la lb b e (2 * j) out (many + 1) M ha hb hab h32 (by omega) (by omega) (by omega) (by omega) (by omega) (by omega)
          have r2 := fun M' (hM : M.le M') => look n va vb la lb b e (2 * j + 1) (out ++ (rc n (blk la e (2 * j)) (blk lb e (2 * j))).1.map (· + 2 * j * 2 ^ e)) (many + 1 + (rc n (blk la e (2 * j)) (blk lb e (2 * j))).2) M' (ha.le hM) (hb.le hM) hab h32 (by omega) (by omega) (by omega) (by omega) (by omega) (by rw [List.length_append, List.length_map]; omega)
          rw [rc_node (f := n) (d := e) (i := j) (by omega) h32 hm2 he]
          generalize rc n (blk la e (2 * j)) (blk lb e (2 * j)) = X1 at *
          generalize rc n (blk la e (2 * j + 1)) (blk lb e (2 * j + 1)) = X2 at *
          simp only [shs, zts, sos, sls, zss, eqs, sx, sb1, sb2, sb3, sb4, sb5, sb6, sb7, ↓reduceIte, Nat.reduceAdd, Nat.reduceMul, Nat.reduceDiv, Nat.reduceEqDiff, Nat.reduceLT, Nat.reduceLeDiff, reduceCtorEq, Int.reduceEq, Int.reduceNe, Int.reduceLT, Int.reduceLE, Int.reduceAdd, Int.reduceSub, Int.reduceMul, Int.reduceNeg, Int.reduceToNat, Int.cast_ofNat_Int, Int.natCast_zero, Int.natCast_one, Int.toNat_natCast, Nat.reduceBEq, nzs, e0, e0', e1, i1, ej, ej1, i2, i3, em, a1, a2, a3, a4, a5, a5.2, q1]
          refine CallK.fixP 8001 rfl ?_
          simp only [shA1, shA2]
          refine CallK.lendN (A := fun _ => [.v (ptrV b), .v (.int .i64 (e : Int)), .v (.int .i64 ((2 * j : Nat) : Int))]) (Pin := boxP va vb b out (many + 1)) (T := fun (_ : Unit) _ => .tup []) [8000, 8001] (fun _ _ _ _ _ => rfl) (boxP_nat va vb b out (many + 1)) (fun _ _ _ _ _ _ => rfl) (boxP_nat va vb b _ _) rfl rfl ⟨rfl, rfl, trivial⟩ rfl r1 fun _ M2 hM2 _ => ?_
          simp only [shs, zts, sos, sls, zss, eqs, sx, sb1, sb2, sb3, sb4, sb5, sb6, sb7, ↓reduceIte, Nat.reduceAdd, Nat.reduceMul, Nat.reduceDiv, Nat.reduceEqDiff, Nat.reduceLT, Nat.reduceLeDiff, reduceCtorEq, Int.reduceEq, Int.reduceNe, Int.reduceLT, Int.reduceLE, Int.reduceAdd, Int.reduceSub, Int.reduceMul, Int.reduceNeg, Int.reduceToNat, Int.cast_ofNat_Int, Int.natCast_zero, Int.natCast_one, Int.toNat_natCast, Nat.reduceBEq, nzs, shB, boxP, e1, i1, ej, ej1, i2, i3]
          refine CallK.lendN (A := fun _ => [.v (ptrV b), .v (.int .i64 (e : Int)), .v (.int .i64 ((2 * j + 1 : Nat) : Int))]) (Pin := boxP va vb b (out ++ X1.1.map (· + 2 * j * 2 ^ e)) (many + 1 + X1.2)) (T := fun (_ : Unit) _ => .tup []) [576, 577] (fun _ _ _ _ _ => rfl) (boxP_nat va vb b _ _) (fun _ _ _ _ _ _ => rfl) (boxP_nat va vb b _ _) rfl rfl ⟨rfl, rfl, trivial⟩ rfl (r2 M2 hM2) fun _ M3 hM3 _ => ?_
          simp only [shs, zts, sos, sls, zss, eqs, sx, sb1, sb2, sb3, sb4, sb5, sb6, sb7, ↓reduceIte, Nat.reduceAdd, Nat.reduceMul, Nat.reduceDiv, Nat.reduceEqDiff, Nat.reduceLT, Nat.reduceLeDiff, reduceCtorEq, Int.reduceEq, Int.reduceNe, Int.reduceLT, Int.reduceLE, Int.reduceAdd, Int.reduceSub, Int.reduceMul, Int.reduceNeg, Int.reduceToNat, Int.cast_ofNat_Int, Int.natCast_zero, Int.natCast_one, Int.toNat_natCast, Nat.reduceBEq, nzs, shB, boxP]
          have eo : out ++ X1.1.map (· + 2 * j * 2 ^ e) ++ X2.1.map (· + (2 * j + 1) * 2 ^ e) = out ++ ((X1.1 ++ X2.1.map (· + 2 ^ e)).map (· + j * 2 ^ (e + 1))) := by
            rw [List.map_append, List.map_map, ee, em2, List.append_assoc]
            congr 3
            funext x
            simp only [Function.comp_apply]
            omega
          have ev : many + 1 + X1.2 + X2.2 = many + (X1.2 + X2.2 + 1) := by omega
          rw [eo, ev]
          exact ⟨(), [632, 633], rfl, ⟨by decide, by decide⟩, ⟨rfl, rfl, trivial⟩, trivial⟩

end Go.X.Ts

namespace Go.X.Ts
open Go Go.X Go.X.Pol Go.X.Pl Go.X.Rp Go.X.Pd Go.X.Md Go.X.Mv Go.X.Pt Go.X.Tv

theorem oneV_sl {v : Value} (h : isSl v = true) : oneV v = true := by cases v <;> first | rfl | cases h
def cmE (a b : List (List UInt8)) : Int := if lvE a ≠ 0 then lvE a else if lvE b ≠ 0 then lvE b else if a.length ≠ b.length then 11 else 0
def cmR (a b : List (List UInt8)) : List Nat × Nat := if cmE a b = 0 then rc 32 (lv0 a) (lv0 b) else ([], 0)
theorem cmE_ok {a b : List (List UInt8)} (h : cmE a b = 0) : (lvE a = 0 ∧ lvE b = 0) ∧ a.length = b.length := by
  unfold cmE at h
  split at h
  · contradiction
  · split at h
    · contradiction
    · split at h
      · cases h
      · omega
theorem blk_all {α : Type} {l : List α} {d : Nat} (h : l.length ≤ 2 ^ d) : blk l d 0 = l := by
  unfold blk
  rw [Nat.zero_mul, List.drop_zero, List.take_of_length_le h]
theorem map_add0 (l : List Nat) (k : Nat) : l.map (· + 0 * k) = l := by simp
theorem compare (ya yb : Value) (a b : List (List UInt8)) (M : Mem) (ha : RowM M ya 1 (a.map encS)) (hb : RowM M yb 1 (b.map encS)) (hla : ∀ s ∈ a, s.length ≤ maxLen) (hlb : ∀ s ∈ b, s.length ≤ maxLen) :
    Meets Proofs.Try.prog 15 [.v ya, .v yb] M (RowR (fun t => .tup [t, .v (.int .i64 ((cmR a b).2 : Int)), .v (.int .i64 (cmE a b))]) 1 ((cmR a b).1.map encN)) := by
  refine Meets.of_body [0,1,4,5,6,7,8,9,13,18,24] Proofs.Try.func15 rfl (by kernel_rfl) rfl fun w => ?_
  have hCa := check ya a M ha hla
  have hCb := check yb b M hb hlb
  unfold cmR
  by_cases h : cmE a b = 0
  · obtain ⟨⟨ea, eb⟩, hab⟩ := cmE_ok h
    obtain ⟨a0, a32, a64⟩ := lvE_ok ea
    obtain ⟨b0, b32, b64⟩ := lvE_ok eb
    have h0 := List.length_pos_iff.2 a0
    rw [ea] at hCa
    rw [eb] at hCb
    rw [if_pos h, h]
    have d1 : ((a.length : Int) = (b.length : Int)) = True := eq_true (by omega)
    obtain ⟨t1, t2⟩ := tp_facts a.length (by omega) h0
    have hrl := rc_bound 32 (lv0 a) (lv0 b) (by rw [lv0_len]; exact h0) (by rw [lv0_len]; exact a32)
    simp only [Proofs.Try.f15, shs, zts, sos, sls, zss, eqs, sx, sb1, sb2, sb3, sb4, sb5, sb6, sb7, ↓reduceIte, Nat.reduceAdd, Nat.reduceMul, Nat.reduceDiv, Nat.reduceEqDiff, Nat.reduceLT, Nat.reduceLeDiff, reduceCtorEq, Int.reduceEq, Int.reduceNe, Int.reduceLT, Int.reduceLE, Int.reduceAdd, Int.reduceSub, Int.reduceMul, Int.reduceNeg, Int.reduceToNat, Int.cast_ofNat_Int, Int.natCast_zero, Int.natCast_one, Int.toNat_natCast, Nat.reduceBEq]
    refine CallK.pure ⟨rfl, rfl⟩ rfl hCa ?_
    simp only [shs, zts, sos, sls, zss, eqs, sx, sb1, sb2, sb3, sb4, sb5, sb6, sb7, ↓reduceIte, Nat.reduceAdd, Nat.reduceMul, Nat.reduceDiv, Nat.reduceEqDiff, Nat.reduceLT, Nat.reduceLeDiff, reduceCtorEq, Int.reduceEq, Int.reduceNe, Int.reduceLT, Int.reduceLE, Int.reduceAdd, Int.reduceSub, Int.reduceMul, Int.reduceNeg, Int.reduceToNat, Int.cast_ofNat_Int, Int.natCast_zero, Int.natCast_one, Int.toNat_natCast, Nat.reduceBEq]
    refine CallK.pure ⟨rfl, rfl⟩ rfl hCb ?_
    simp only [shs, zts, sos, sls, zss, eqs, sx, sb1, sb2, sb3, sb4, sb5, sb6, sb7, ↓reduceIte, Nat.reduceAdd, Nat.reduceMul, Nat.reduceDiv, Nat.reduceEqDiff, Nat.reduceLT, Nat.reduceLeDiff, reduceCtorEq, Int.reduceEq, Int.reduceNe, Int.reduceLT, Int.reduceLE, Int.reduceAdd, Int.reduceSub, Int.reduceMul, Int.reduceNeg, Int.reduceToNat, Int.cast_ofNat_Int, Int.natCast_zero, Int.natCast_one, Int.toNat_natCast, Nat.reduceBEq, ha.len, ha.sl, hb.len, hb.sl, List.length_map, d1]
    refine CallK.res rfl rfl (levels ya a M ha a0 a32 a64) (fun r M' ⟨v, h, _⟩ => by subst h; rfl) fun r M1 hM1 ⟨va, hr, hva⟩ => ?_
    subst hr
    simp only [shs, zts, sos, sls, zss, eqs, sx, sb1, sb2, sb3, sb4, sb5, sb6, sb7, ↓reduceIte, Nat.reduceAdd, Nat.reduceMul, Nat.reduceDiv, Nat.reduceEqDiff, Nat.reduceLT, Nat.reduceLeDiff, reduceCtorEq, Int.reduceEq, Int.reduceNe, Int.reduceLT, Int.reduceLE, Int.reduceAdd, Int.reduceSub, Int.reduceMul, Int.reduceNeg, Int.reduceToNat, Int.cast_ofNat_Int, Int.natCast_zero, Int.natCast_one, Int.toNat_natCast, Nat.reduceBEq]
    refine CallK.res rfl rfl (levels yb b M1 (hb.le hM1) b0 b32 b64) (fun r M' ⟨v, h, _⟩ => by subst h; rfl) fun r M2 hM2 ⟨vb, hr, hvb⟩ => ?_
    subst hr
    have hva := hva.le hM2
    obtain ⟨s1, s2⟩ := hva.len
    have hL := levs_len 32 (lv0 a)
    rw [lv0_len] at hL
    have hL' : (levs 32 (a.map leafP)).length = tpN 32 a.length + 1 := hL
    rw [hL'] at s1
    have e1 : ((tpN 32 a.length + 1 : Nat) : Int) - 1 = ((tpN 32 a.length : Nat) : Int) := by omega
    have i1 : inK .i64 ((tpN 32 a.length : Nat) : Int) := i64J (by omega)
    have hk := look 32 va vb (lv0 a) (lv0 b)
    simp only [shs, zts, sos, sls, zss, eqs, sx, sb1, sb2, sb3, sb4, sb5, sb6, sb7, ↓reduceIte, Nat.reduceAdd, Nat.reduceMul, Nat.reduceDiv, Nat.reduceEqDiff, Nat.reduceLT, Nat.reduceLeDiff, reduceCtorEq, Int.reduceEq, Int.reduceNe, Int.reduceLT, Int.reduceLE, Int.reduceAdd, Int.reduceSub, Int.reduceMul, Int.reduceNeg, Int.reduceToNat, Int.cast_ofNat_Int, Int.natCast_zero, Int.natCast_one, Int.toNat_natCast, Nat.reduceBEq, nzs, s1, s2, e1, i1]
    refine ⟨⟨oneV_sl s2, oneV_sl hvb.len.2⟩, CallK.nilBox 240 2 900 1 rfl rfl rfl rfl rfl rfl ?_⟩
    refine CallK.tie 240 rfl fun bb => CallK.fixP 240 (b := bb) rfl ?_
    simp only [shA1, shA2, sx, sb1, sb2, sb3, sb4, sb5, sb6, sb7, ↓reduceIte, Nat.reduceAdd, Nat.reduceMul, Nat.reduceDiv, Nat.reduceEqDiff, Nat.reduceLT, Nat.reduceLeDiff, reduceCtorEq, Int.reduceEq, Int.reduceNe, Int.reduceLT, Int.reduceLE, Int.reduceAdd, Int.reduceSub, Int.reduceMul, Int.reduceNeg, Int.reduceToNat, Int.cast_ofNat_Int, Int.natCast_zero, Int.natCast_one, Int.toNat_natCast, Nat.reduceBEq, hset, List.set_cons_succ, List.set_cons_zero]
    have hk := look 32 va vb (lv0 a) (lv0 b) bb (tpN 32 a.length) 0 [] 0 M2 hva hvb (by rw [lv0_len, lv0_len, hab]) (by rw [lv0_len]; exact a32) (by rw [lv0_len]; exact Nat.le_refl _) (by omega) (by rw [lv0_len]; omega) (by omega)
      (by rw [blk_all (by rw [lv0_len]; exact t2), lv0_len]; omega) (by rw [blk_all (by rw [lv0_len]; exact t2), lv0_len, List.length_nil]; omega)
    rw [blk_all (by rw [lv0_len]; exact t2), blk_all (by rw [lv0_len, ← hab]; exact t2), map_add0, List.nil_append, Nat.zero_add] at hk
    refine CallK.lendN (A := fun _ => [.v (ptrV bb), .v (.int .i64 ((tpN 32 a.length : Nat) : Int)), .v (.int .i64 0)]) (Pin := boxP va vb bb [] 0) (T := fun (_ : Unit) _ => .tup []) [7200, 240] (fun _ _ _ _ _ => rfl) (boxP_nat va vb bb _ _) (fun _ _ _ _ _ _ => rfl) (boxP_nat va vb bb _ _) rfl rfl ⟨rfl, rfl, trivial⟩ rfl hk fun _ M3 hM3 _ => ?_
    generalize rc 32 (lv0 a) (lv0 b) = X at *
    generalize tpN 32 a.length = tp at *
    simp only [shs, zts, sos, sls, zss, eqs, sx, sb1, sb2, sb3, sb4, sb5, sb6, sb7, ↓reduceIte, Nat.reduceAdd, Nat.reduceMul, Nat.reduceDiv, Nat.reduceEqDiff, Nat.reduceLT, Nat.reduceLeDiff, reduceCtorEq, Int.reduceEq, Int.reduceNe, Int.reduceLT, Int.reduceLE, Int.reduceAdd, Int.reduceSub, Int.reduceMul, Int.reduceNeg, Int.reduceToNat, Int.cast_ofNat_Int, Int.natCast_zero, Int.natCast_one, Int.toNat_natCast, Nat.reduceBEq, nzs, shB, boxP]
    refine DrawK.unfix 9 305 rfl rfl (DrawK.pub (k := 304) rfl fun vo M4 hM4 hvo => ?_)
    simp only [sp1, sp2, sp3, sx, sb1, sb2, sb3, sb4, sb5, sb6, sb7, ↓reduceIte, Nat.reduceAdd, Nat.reduceMul, Nat.reduceDiv, Nat.reduceEqDiff, Nat.reduceLT, Nat.reduceLeDiff, reduceCtorEq, Int.reduceEq, Int.reduceNe, Int.reduceLT, Int.reduceLE, Int.reduceAdd, Int.reduceSub, Int.reduceMul, Int.reduceNeg, Int.reduceToNat, Int.cast_ofNat_Int, Int.natCast_zero, Int.natCast_one, Int.toNat_natCast, Nat.reduceBEq]
    refine DrawK.pubB (k := 305) rfl rfl fun bo M5 hM5 hbo => ?_
    simp only [shA2, shA1, sx, sb1, sb2, sb3, sb4, sb5, sb6, sb7, ↓reduceIte, Nat.reduceAdd, Nat.reduceMul, Nat.reduceDiv, Nat.reduceEqDiff, Nat.reduceLT, Nat.reduceLeDiff, reduceCtorEq, Int.reduceEq, Int.reduceNe, Int.reduceLT, Int.reduceLE, Int.reduceAdd, Int.reduceSub, Int.reduceMul, Int.reduceNeg, Int.reduceToNat, Int.cast_ofNat_Int, Int.natCast_zero, Int.natCast_one, Int.toNat_natCast, Nat.reduceBEq, SV.vals, SV.val] at hbo ⊢
    have hvo := hvo.le hM5
    have g1 := hbo.at' (j := 2) rfl
    have g2 := hbo.at' (j := 3) rfl
    refine DrawK.plan (tk [0, 1, 2, 3, 4, 5, 6, 7] (ones' [8, 9, 10] .done)) (by kernel_rfl) (by kernel_rfl) ?_
    simp only [shs, zts, sos, sls, zss, eqs, sx, sb1, sb2, sb3, sb4, sb5, sb6, sb7, ↓reduceIte, Nat.reduceAdd, Nat.reduceMul, Nat.reduceDiv, Nat.reduceEqDiff, Nat.reduceLT, Nat.reduceLeDiff, reduceCtorEq, Int.reduceEq, Int.reduceNe, Int.reduceLT, Int.reduceLE, Int.reduceAdd, Int.reduceSub, Int.reduceMul, Int.reduceNeg, Int.reduceToNat, Int.cast_ofNat_Int, Int.natCast_zero, Int.natCast_one, Int.toNat_natCast, Nat.reduceBEq, nzs, se1, se2, tks, g1.1, g1.2, g2.1, g2.2]
    exact ⟨.v vo, rfl, hvo⟩
  · have hE : (if lvE a ≠ 0 then lvE a else if lvE b ≠ 0 then lvE b else if a.length ≠ b.length then (11 : Int) else 0) = cmE a b := rfl
    rw [if_neg h]
    generalize cmE a b = c at hE h ⊢
    simp only [Proofs.Try.f15, shs, zts, sos, sls, zss, eqs, sx, sb1, sb2, sb3, sb4, sb5, sb6, sb7, ↓reduceIte, Nat.reduceAdd, Nat.reduceMul, Nat.reduceDiv, Nat.reduceEqDiff, Nat.reduceLT, Nat.reduceLeDiff, reduceCtorEq, Int.reduceEq, Int.reduceNe, Int.reduceLT, Int.reduceLE, Int.reduceAdd, Int.reduceSub, Int.reduceMul, Int.reduceNeg, Int.reduceToNat, Int.cast_ofNat_Int, Int.natCast_zero, Int.natCast_one, Int.toNat_natCast, Nat.reduceBEq]
    refine CallK.pure ⟨rfl, rfl⟩ rfl hCa ?_
    by_cases ea : lvE a = 0
    · have ea1 : (lvE a = 0) = True := eq_true ea
      rw [if_neg (by simp [ea])] at hE
      simp only [shs, zts, sos, sls, zss, eqs, sx, sb1, sb2, sb3, sb4, sb5, sb6, sb7, ↓reduceIte, Nat.reduceAdd, Nat.reduceMul, Nat.reduceDiv, Nat.reduceEqDiff, Nat.reduceLT, Nat.reduceLeDiff, reduceCtorEq, Int.reduceEq, Int.reduceNe, Int.reduceLT, Int.reduceLE, Int.reduceAdd, Int.reduceSub, Int.reduceMul, Int.reduceNeg, Int.reduceToNat, Int.cast_ofNat_Int, Int.natCast_zero, Int.natCast_one, Int.toNat_natCast, Nat.reduceBEq, ea1]
      refine CallK.pure ⟨rfl, rfl⟩ rfl hCb ?_
      by_cases eb : lvE b = 0
      · have eb1 : (lvE b = 0) = True := eq_true eb
        rw [if_neg (by simp [eb])] at hE
        by_cases hl : a.length = b.length
        · rw [if_neg (by simp [hl])] at hE
          exact (h hE.symm).elim
        · rw [if_pos hl] at hE
          have d1 : ((a.length : Int) = (b.length : Int)) = False := eq_false (by omega)
          subst hE
          simp only [shs, zts, sos, sls, zss, eqs, sx, sb1, sb2, sb3, sb4, sb5, sb6, sb7, ↓reduceIte, Nat.reduceAdd, Nat.reduceMul, Nat.reduceDiv, Nat.reduceEqDiff, Nat.reduceLT, Nat.reduceLeDiff, reduceCtorEq, Int.reduceEq, Int.reduceNe, Int.reduceLT, Int.reduceLE, Int.reduceAdd, Int.reduceSub, Int.reduceMul, Int.reduceNeg, Int.reduceToNat, Int.cast_ofNat_Int, Int.natCast_zero, Int.natCast_one, Int.toNat_natCast, Nat.reduceBEq, eb1, d1, ha.len, ha.sl, hb.len, hb.sl, List.length_map]
          exact ⟨_, rfl, RowM.nil _ _⟩
      · have eb1 : (lvE b = 0) = False := eq_false eb
        rw [if_pos eb] at hE
        subst hE
        simp only [shs, zts, sos, sls, zss, eqs, sx, sb1, sb2, sb3, sb4, sb5, sb6, sb7, ↓reduceIte, Nat.reduceAdd, Nat.reduceMul, Nat.reduceDiv, Nat.reduceEqDiff, Nat.reduceLT, Nat.reduceLeDiff, reduceCtorEq, Int.reduceEq, Int.reduceNe, Int.reduceLT, Int.reduceLE, Int.reduceAdd, Int.reduceSub, Int.reduceMul, Int.reduceNeg, Int.reduceToNat, Int.cast_ofNat_Int, Int.natCast_zero, Int.natCast_one, Int.toNat_natCast, Nat.reduceBEq, eb1]
        exact ⟨_, rfl, RowM.nil _ _⟩
    · have ea1 : (lvE a = 0) = False := eq_false ea
      rw [if_pos ea] at hE
      subst hE
      simp only [shs, zts, sos, sls, zss, eqs, sx, sb1, sb2, sb3, sb4, sb5, sb6, sb7, ↓reduceIte, Nat.reduceAdd, Nat.reduceMul, Nat.reduceDiv, Nat.reduceEqDiff, Nat.reduceLT, Nat.reduceLeDiff, reduceCtorEq, Int.reduceEq, Int.reduceNe, Int.reduceLT, Int.reduceLE, Int.reduceAdd, Int.reduceSub, Int.reduceMul, Int.reduceNeg, Int.reduceToNat, Int.cast_ofNat_Int, Int.natCast_zero, Int.natCast_one, Int.toNat_natCast, Nat.reduceBEq, ea1]
      exact ⟨_, rfl, RowM.nil _ _⟩
end Go.X.Ts

namespace Go.X
open Go Go.RowKit
/-- a row whose whole block is known -/
def RowF (M : Mem) (v : Value) (sz : Nat) (es : List (List Value)) : Prop :=
  (∀ e ∈ es, e.length = sz ∧ ∀ c ∈ e, c.oneCell' = true) ∧ ((v = .slice none 0 0 ∧ es = []) ∨
    ∃ b cap T sp, v = .slice (some ⟨b, 0, none⟩) es.length cap ∧ es.length ≤ cap ∧ cap ≤ maxLen ∧ List.length sp = (cap - es.length) * sz ∧ M b = some (.cells (es.flatten ++ sp).toArray T (0, 0)))
def freshB (M : Mem) (v : Value) : Prop := ∀ b, blk? v = some b → M b = none
/-- two memories that differ at most in v's block -/
def butB (M M' : Mem) (v : Value) : Prop := ∀ c, blk? v ≠ some c → M' c = M c
theorem freshB.of_le {M N : Mem} {v : Value} (h : freshB M v) (hl : N.le M) : freshB N v := fun b hb => by
  cases hN : N b with
  | none => rfl
  | some o => have := hl b o hN; rw [h b hb] at this; cases this
theorem RowF.row {M : Mem} {v : Value} {sz : Nat} {es : List (List Value)} (h : RowF M v sz es) : RowM M v sz es := by
  obtain ⟨g1, ⟨rfl, rfl⟩ | ⟨b, cap, T, sp, rfl, g3, g4, g5, hM⟩⟩ := h
  · exact RowM.nil M sz
  · refine ⟨⟨rfl, rfl, g3, g4⟩, fun _ => rfl, fun i e he => ?_⟩
    have hel := g1 e (List.mem_of_getElem? he)
    refine ⟨hel.1, fun j c hc => ?_⟩
    have hj : j < sz := by rw [← hel.1]; exact (List.getElem?_eq_some_iff.1 hc).1
    refine ⟨?_, hel.2 c (List.mem_of_getElem? hc)⟩
    have hadd : (⟨b, 0, none⟩ : Addr).add (i * sz + j) = ⟨b, i * sz + j, none⟩ := by unfold Addr.add; split <;> simp_all
    simp only [cellE, cellM, hadd, hM]
    simp only [Option.isSome_none, Bool.false_eq_true, if_false, List.getElem?_toArray]
    rw [flatten_get (fun e he => (g1 e he).1) he hj, hc]
theorem RowF.eqM {M M' : Mem} {v : Value} {sz : Nat} {es : List (List Value)} (h : RowF M v sz es) (hM : ∀ b, blk? v = some b → M' b = M b) : RowF M' v sz es := by
  obtain ⟨g1, h0 | ⟨b, cap, T, sp, rfl, g3, g4, g5, hb⟩⟩ := h
  · exact ⟨g1, .inl h0⟩
  · exact ⟨g1, .inr ⟨b, cap, T, sp, rfl, g3, g4, g5, by rw [hM b rfl]; exact hb⟩⟩
theorem RowF.le {M M' : Mem} {v : Value} {sz : Nat} {es : List (List Value)} (h : RowF M v sz es) (hl : M.le M') : RowF M' v sz es := by
  obtain ⟨g1, h0 | ⟨b, cap, T, sp, rfl, g3, g4, g5, hb⟩⟩ := h
  · exact ⟨g1, .inl h0⟩
  · exact ⟨g1, .inr ⟨b, cap, T, sp, rfl, g3, g4, g5, hl _ _ hb⟩⟩
theorem RowF.known {M : Mem} {v : Value} {sz : Nat} {es : List (List Value)} (h : RowF M v sz es) {b : Nat} (hb : blk? v = some b) : M b ≠ none := by
  obtain ⟨_, ⟨rfl, _⟩ | ⟨b', cap, T, sp, rfl, _, _, _, hM⟩⟩ := h
  · cases hb
  · cases hb
    rw [hM]
    exact fun e => by cases e
section
variable {E : Env} {σ : Sig} {H : HS} {M : Mem} {a : Act} {w : World} {ν : Nat → Value} {K : KP} {o : Oper}
theorem pub_heapF {k sz : Nat} {es : List (List Value)} (hh : Heap E ν H M w) (hk : hget H k = some (.row sz es)) : ∃ M', M.le M' ∧ RowF M' (ν k) sz es ∧ freshB M (ν k) ∧ Heap E ν (hpub k (ν k) H) M' w := by
  have hp := hpub_heap hh hk
  obtain ⟨g1, g2⟩ := hh.holds _ (hget_mem hk)
  simp only at g1 g2
  rcases g2 with ⟨hν, rfl⟩ | ⟨b, cap, T, sp, hν, g3, g4, g5, hb⟩
  · exact ⟨M, Mem.le.refl M, ⟨g1, .inl ⟨hν, rfl⟩⟩, fun b hb => (by rw [hν] at hb; cases hb), hp⟩
  · have hkb : blk? (ν k) = some b := by rw [hν]; rfl
    obtain ⟨hMb, hBb⟩ := hh.apart b (List.mem_filterMap.2 ⟨(k, _), hget_mem hk, hkb⟩)
    have hnot : b ∉ fp ν (hpub k (ν k) H) := by
      rw [fp_pub]
      exact fp_hdelk hh hk hkb 0 _ (hdelk_sub k H) (hdelk_ne k H)
    have hle : M.le (updM M b (.cells (es.flatten ++ sp).toArray T (0, 0))) := le_updM (Mem.le.refl M) hMb
    refine ⟨updM M b (.cells (es.flatten ++ sp).toArray T (0, 0)), hle, ⟨g1, .inr ⟨b, cap, T, sp, hν, g3, g4, g5, updM_at _ _ _⟩⟩, fun c hc => (by rw [hkb] at hc; cases hc; exact hMb), ?_⟩
    refine ⟨hp.holds, hp.nodup, fun c hc => ⟨?_, (hp.apart c hc).2⟩, fun c y hc => ?_, hp.below, hp.le0.trans hle, fun c hc => ?_, hp.one⟩
    · unfold updM
      rw [if_neg (fun e => hnot (by rw [← e]; exact hc))]
      exact (hp.apart c hc).1
    · unfold updM at hc
      split at hc
      · rename_i e
        cases hc
        rw [e]; exact hb
      · exact hp.mem c y hc
    · unfold updM at hc
      split at hc
      · rename_i e
        exact .inr (by rw [e]; exact hBb)
      · exact hp.fresh c hc
theorem OpK.pubF {k sz : Nat} {es : List (List Value)} (hk : hget H k = some (.row sz es))
    (h : ∀ v M', M.le M' → RowF M' v sz es → freshB M v → OpK E o K (sigPub k v σ) (hpub k v H) M') : OpK E o K σ H M := by
  rintro a w ⟨ν, hs, hh⟩
  obtain ⟨M', h1, h2, h3, h4⟩ := pub_heapF hh hk
  exact h _ M' h1 h2 h3 a w ⟨ν, pub_slots hs, h4⟩
theorem LoopK.pubF {live : List Nat} {body : Code} {Q : QP} {k sz : Nat} {es : List (List Value)} (hk : hget H k = some (.row sz es))
    (h : ∀ v M', M.le M' → RowF M' v sz es → freshB M v → LoopK E live body Q (sigPub k v σ) (hpub k v H) M') : LoopK E live body Q σ H M := by
  rintro a w ⟨ν, hs, hh⟩
  obtain ⟨M', h1, h2, h3, h4⟩ := pub_heapF hh hk
  exact h _ M' h1 h2 h3 a w ⟨ν, pub_slots hs, h4⟩
theorem DrawK.pubF {id : Nat} {ops : Array Oper} {k sz : Nat} {es : List (List Value)} (hk : hget H k = some (.row sz es))
    (h : ∀ v M', M.le M' → RowF M' v sz es → freshB M v → DrawK E id ops K (sigPub k v σ) (hpub k v H) M') : DrawK E id ops K σ H M := by
  rintro a w ⟨ν, hs, hh⟩
  obtain ⟨M', h1, h2, h3, h4⟩ := pub_heapF hh hk
  exact h _ M' h1 h2 h3 a w ⟨ν, pub_slots hs, h4⟩
theorem CallK.pubF {f d k sz : Nat} {l : List SV} {es : List (List Value)} (hk : hget H k = some (.row sz es))
    (h : ∀ v M', M.le M' → RowF M' v sz es → freshB M v → CallK E f (SV.pubs k v l) d K (sigPub k v σ) (hpub k v H) M') : CallK E f l d K σ H M := by
  intro ν a w hs hh
  obtain ⟨M', h1, h2, h3, h4⟩ := pub_heapF hh hk
  have := h _ M' h1 h2 h3 ν a w (pub_slots hs) h4
  rw [SV.pubs_vals] at this
  exact this
/-- a store into a known block that is the call's own -/
theorem OpK.turnF {t : TypeId} {x y : Operand} {v : Value} {sz i off : Nat} {s : SV} {es : List (List Value)} (ho : o.op = .store t x y) (hd : o.dst = none) (hz : szOk E.P t)
    (hx : opv σ x = some (true, .ea v sz i off)) (hy : opv σ y = some (true, s)) (hc : concB s = true) (h1 : onesV (cellsV s) = true) (hL : layN (lay (shp E.P t)) = some (cellsV s).length)
    (hv : RowF M v sz es) (hf : freshB E.M0 v) (h2 : i < es.length) (h3 : off + (cellsV s).length ≤ sz)
    (hK : ∀ M', butB M M' v → RowF M' v sz (es.set i (putV (es.getD i []) off (cellsV s))) → K σ H M') : OpK E o K σ H M := by
  rintro a w ⟨ν, hs, hh⟩
  have ex := hs.opv hx rfl
  have ey := hs.opv hy rfl
  have hcells := concB_cells ν hc h1
  have hcl : (s.val ν).cells.size = (cellsV s).length := by rw [← hcells]; simp
  obtain ⟨g1, ⟨rfl, rfl⟩ | ⟨b, cap, T, sp, rfl, g3, g4, g5, hM⟩⟩ := hv
  · simp at h2
  have hb := hh.mem b _ hM
  have h0 : E.M0 b = none := hf b rfl
  have hfl := flatten_len (fun e he => (g1 e he).1)
  obtain ⟨n, g, hl, hn⟩ : ∃ n g, lay (shp E.P t) = some (n, g) ∧ (cellsV s).length = n := by
    cases hl : lay (shp E.P t) with
    | none => rw [hl] at hL; cases hL
    | some q => obtain ⟨n, g⟩ := q; rw [hl] at hL; simp only [layN, Option.some.injEq] at hL; exact ⟨n, g, rfl, hL.symm⟩
  obtain ⟨i0, hi0, hsz⟩ := lay_info hz ⟨n, g, hl⟩
  have hle : i * sz + sz ≤ es.length * sz := by
    have := Nat.mul_le_mul_right sz (show i + 1 ≤ es.length by omega)
    rw [Nat.add_mul, Nat.one_mul] at this
    exact this
  have hrun := run_storeVar_box (P := E.P) (t := t) (w := w) (v := s.val ν) (off := i * sz + off) ⟨i0, hi0⟩ (by rw [hsz n g hl, hcl, hn]) hb (by rw [hcl]; simp only [List.size_toArray, List.length_append, hfl]; omega) (by rw [hcells]; exact onesV_mem h1)
  rw [hcells, hcl] at hrun
  have hset := flatten_set (sp := sp) (cs := cellsV s) (fun e he => (g1 e he).1) h2 h3
  rw [hset] at hrun
  have hval : (SV.ea (.slice (some ⟨b, 0, none⟩) es.length cap) sz i off).val ν = .pointer (some ⟨b, i * sz + off, none⟩) := by simp [SV.val, Addr.add_lit]
  have hw' : (execOp a.eval o).run E.P w = .ok .skip (w.setRow b ((es.set i (putV (es.getD i []) off (cellsV s))).flatten ++ sp).toArray) := by
    simp only [execOp, ho, ex, ey, hval, Instr.storeAt, Instr.sureAddr, Sem.run_bind, Sem.run_pure, Result.andThen_ok, hrun]
  unfold Oper.wp
  rw [hw']
  simp only [Oper.upon]
  rw [hd]
  have hgl : (es.getD i []).length = sz ∧ ∀ c ∈ es.getD i [], c.oneCell' = true := by
    rw [List.getD_eq_getElem?_getD, List.getElem?_eq_getElem h2]
    exact g1 _ (List.getElem_mem _)
  refine ⟨_, _, _, ⟨ν, hs, hh.turnM hM h0 (fun j hj => setRow_other w b _ hj) (by simp [World.setRow]) ⟨rfl, rfl, rfl⟩ (setRow_at w b _ _ T _ hb)⟩, hK _ (fun c hc => ?_) ⟨fun e he => ?_, .inr ⟨b, cap, T, sp, by rw [List.length_set], by rw [List.length_set]; exact g3, g4, by rw [List.length_set]; exact g5, updM_at _ _ _⟩⟩⟩
  · unfold updM
    rw [if_neg (fun e => hc (by rw [e]; rfl))]
  · rcases List.mem_or_eq_of_mem_set he with he | rfl
    · exact g1 e he
    · refine ⟨by simp only [putV, List.length_append, List.length_take, List.length_drop]; omega, fun c hc => ?_⟩
      simp only [putV, List.mem_append] at hc
      rcases hc with (hc | hc) | hc
      · exact hgl.2 c (List.mem_of_mem_take hc)
      · exact onesV_mem h1 c hc
      · exact hgl.2 c (List.mem_of_mem_drop hc)
/-- a known row that is the call's own goes back into its hand -/
theorem Rep.claim {e sz : Nat} {v : Value} {es : List (List Value)} (hv : RowF M v sz es) (hf : freshB E.M0 v) (hn : hNoKey e H = true) (hs' : sigNoKey e σ = true) {ν : Nat → Value} (hs : Slots E.N ν σ a) (hh : Heap E ν H M w) :
    ∃ M' ν2, butB M M' v ∧ ν2 (8 * e) = v ∧ (∀ k, k / 8 ≠ e → ν2 k = ν k) ∧ Slots E.N ν2 σ a ∧ Heap E ν2 ((8 * e, .row sz es) :: H) M' w := by
  let ν2 : Nat → Value := fun i => if i / 8 = e then v else ν i
  have hν : ∀ i, i / 8 ≠ e → ν2 i = ν i := fun i hi => by simp [ν2, hi]
  have hν8 : ν2 (8 * e) = v := by simp [ν2, show (8 * e) / 8 = e by omega]
  have hone : v.oneCell' = true := by obtain ⟨_, ⟨rfl, _⟩ | ⟨b, cap, T, sp, rfl, _⟩⟩ := hv <;> rfl
  have hone2 : ∀ i, (ν2 i).oneCell' = true := fun i => by
    by_cases hi : i / 8 = e
    · simp only [ν2, hi, if_true]; exact hone
    · simp only [ν2, hi, if_false]; exact hh.one i
  have hs2 : Slots E.N ν2 σ a := ⟨hs.1, hs.2.1, fun i g s hi => by rw [hs.2.2 i g s hi, SV.val_congr hν s (sigNoKey_lk hs' hi)]⟩
  obtain ⟨g1, ⟨rfl, rfl⟩ | ⟨b, cap, T, sp, rfl, g3, g4, g5, hM⟩⟩ := hv
  · refine ⟨M, ν2, fun _ _ => rfl, hν8, hν, hs2, hh.add hn hν hone2 ?_ (fun c hc => by rw [hν8] at hc; cases hc)⟩
    rw [hν8]
    exact ⟨g1, .inl ⟨rfl, rfl⟩⟩
  · have h0 : E.M0 b = none := hf b rfl
    have hbs : E.w0.heap.size ≤ b := (hh.fresh b (by rw [hM]; exact fun e => by cases e)).resolve_left (fun e => e h0)
    have hnf : b ∉ fp ν H := fun hb => by
      have := (hh.apart b hb).1
      rw [hM] at this
      cases this
    refine ⟨offM M b, ν2, fun c hc => ?_, hν8, hν, hs2, (hh.off h0).add hn hν hone2 ?_ (fun c hc => ?_)⟩
    · unfold offM
      rw [if_neg (fun e => hc (by rw [e]; rfl))]
    · rw [hν8]
      exact ⟨g1, .inr ⟨b, cap, T, sp, rfl, g3, g4, g5, hh.mem b _ hM⟩⟩
    · rw [hν8] at hc
      simp only [blk?, Option.some.injEq] at hc
      subst hc
      exact ⟨hnf, by simp [offM], hbs⟩
theorem OpK.claim (j e : Nat) {sz : Nat} {v : Value} {es : List (List Value)} (hj : lk σ j = some (true, .v v)) (hjN : decide (j < E.N) = true) (hv : RowF M v sz es) (hf : freshB E.M0 v) (hn : hNoKey e H = true) (hs' : sigNoKey e σ = true)
    (h : ∀ M', butB M M' v → OpK E o K ((j, true, .own (8 * e)) :: σ) ((8 * e, .row sz es) :: H) M') : OpK E o K σ H M := by
  rintro a w ⟨ν, hs, hh⟩
  obtain ⟨M', ν2, h1, h2, h3, h4, h5⟩ := Rep.claim hv hf hn hs' hs hh
  refine h M' h1 a w ⟨ν2, ⟨h4.1, h4.2.1, fun i g s hi => ?_⟩, h5⟩
  simp only [lk] at hi
  split at hi
  · rename_i hij
    subst hij
    simp only [Option.some.injEq, Prod.mk.injEq] at hi
    obtain ⟨rfl, rfl⟩ := hi
    rw [h4.2.2 _ _ _ hj]
    simp only [cond_true, SV.val, h2]
  · exact h4.2.2 i g s hi
theorem CallK.claim {f d : Nat} {l : List SV} {A : SV → List SV} (e : Nat) {sz : Nat} {v : Value} {es : List (List Value)} (hA : Ctxs A) (hl : l = A (.v v)) (hv : RowF M v sz es) (hf : freshB E.M0 v) (hn : hNoKey e H = true) (hs' : sigNoKey e σ = true)
    (h : ∀ M', butB M M' v → CallK E f (A (.own (8 * e))) d K σ ((8 * e, .row sz es) :: H) M') : CallK E f l d K σ H M := by
  intro ν a w hs hh
  obtain ⟨M', ν2, h1, h2, h3, h4, h5⟩ := Rep.claim hv hf hn hs' hs hh
  have := h M' h1 ν2 a w h4 h5
  rw [hl, hA (.v v) (.own (8 * e)) ν ν2 (by simp only [SV.val, h2])]
  exact this
end
end Go.X

namespace Go.X.Vo
open Go Go.X Go.RowKit Go.X.Bg Go.X.Nm Go.X.Bp

theorem oneVs {v : Value} (h : isSl v = true) : oneV v = true := by cases v <;> first | rfl | cases h
theorem RowF.nil_or {M : Mem} {v : Value} {sz : Nat} {es : List (List Value)} (h : RowF M v sz es) : (v = .slice none 0 0 ∧ es = []) ∨ ∃ b cap, v = .slice (some ⟨b, 0, none⟩) es.length cap := by
  obtain ⟨_, h | ⟨b, cap, T, sp, rfl, _⟩⟩ := h
  · exact .inl h
  · exact .inr ⟨b, cap, rfl⟩
theorem stRD_ea {K : KP} {σ : Sig} {H : HS} {M : Mem} (d : Option Nat) (L : Option (Nat × Bool)) (st : Prop) (x : Value) (a b c : Nat) (y : Bool × SV) : stRD d L st K σ H M (some (true, .ea x a b c)) (some y) = st := by
  obtain ⟨g, y⟩ := y
  cases d <;> cases L <;> cases g <;> rfl
theorem rowOf_some (H : HS) (sz : Nat) (ad : Addr) (n c : Nat) : rowOf H sz (.v (.slice (some ad) n c)) = none := rfl
def apartB (x y : Value) : Prop := ∀ c, blk? x = some c → blk? y ≠ some c
theorem apartB.symm {x y : Value} (h : apartB x y) : apartB y x := fun c h1 h2 => h c h2 h1
theorem RowF.but {M M' : Mem} {x u : Value} {sz : Nat} {es : List (List Value)} (h : RowF M u sz es) (hb : butB M M' x) (ha : apartB x u) : RowF M' u sz es :=
  h.eqM fun c hc => hb c fun e => ha c e hc
theorem le_but {M0 M M' : Mem} {x : Value} (h : M0.le M) (hf : freshB M0 x) (hb : butB M M' x) : M0.le M' := fun c o hc => by
  rw [hb c (fun e => by have := hf c e; rw [hc] at this; cases this)]
  exact h c o hc
/-- a new block is none of the known ones -/
theorem RowF.apart {M : Mem} {u y : Value} {sz : Nat} {es : List (List Value)} (h : RowF M u sz es) (hf : freshB M y) : apartB y u := fun c hc h2 => h.known h2 (hf c hc)
/-- a state, of which all blocks are new since M0 -/
structure StF (M0 M : Mem) (b v : Value) (bag : List It) (ws : List WV) : Prop where
  bag : RowF M b 4 (bag.map Bg.encT)
  vols : RowF M v 2 (ws.map encV)
  blk : ∀ w ∈ ws, RowF M w.1 3 (w.2.2.map encI3)
  fr : ∀ x ∈ b :: v :: ws.map (·.1), freshB M0 x
  ap : (b :: v :: ws.map (·.1)).Pairwise apartB
section
variable {M0 M M' : Mem} {b v : Value} {bag : List It} {ws : List WV}
theorem StF.volsM (h : StF M0 M b v bag ws) : VolsM M v ws := ⟨h.vols.row, fun w hw => (h.blk w hw).row⟩
theorem StF.le (h : StF M0 M b v bag ws) (hl : M.le M') : StF M0 M' b v bag ws := ⟨h.bag.le hl, h.vols.le hl, fun w hw => (h.blk w hw).le hl, h.fr, h.ap⟩
theorem StF.fb (h : StF M0 M b v bag ws) : freshB M0 b := h.fr _ (by simp)
theorem StF.fv (h : StF M0 M b v bag ws) : freshB M0 v := h.fr _ (by simp)
theorem StF.fw (h : StF M0 M b v bag ws) {w : WV} (hw : w ∈ ws) : freshB M0 w.1 := h.fr _ (by simp only [List.mem_cons, List.mem_map]; exact .inr (.inr ⟨w, hw, rfl⟩))
theorem StF.bv (h : StF M0 M b v bag ws) : apartB b v := (List.pairwise_cons.1 h.ap).1 _ (by simp)
theorem StF.bw (h : StF M0 M b v bag ws) {w : WV} (hw : w ∈ ws) : apartB b w.1 := (List.pairwise_cons.1 h.ap).1 _ (by simp only [List.mem_cons, List.mem_map]; exact .inr ⟨w, hw, rfl⟩)
theorem StF.vw (h : StF M0 M b v bag ws) {w : WV} (hw : w ∈ ws) : apartB v w.1 := (List.pairwise_cons.1 (List.pairwise_cons.1 h.ap).2).1 _ (List.mem_map.2 ⟨w, hw, rfl⟩)
theorem StF.ww (h : StF M0 M b v bag ws) {i j : Nat} {x y : WV} (hx : ws[i]? = some x) (hy : ws[j]? = some y) (hij : i ≠ j) : apartB x.1 y.1 := by
  have hp := (List.pairwise_cons.1 (List.pairwise_cons.1 h.ap).2).2
  rw [List.pairwise_iff_getElem] at hp
  have hil := (List.getElem?_eq_some_iff.1 hx).1
  have hjl := (List.getElem?_eq_some_iff.1 hy).1
  have ex : ws[i] = x := (List.getElem?_eq_some_iff.1 hx).2
  have ey : ws[j] = y := (List.getElem?_eq_some_iff.1 hy).2
  rcases Nat.lt_or_ge i j with h1 | h1
  · have := hp i j (by rw [List.length_map]; omega) (by rw [List.length_map]; omega) h1
    rw [List.getElem_map, List.getElem_map, ex, ey] at this
    exact this
  · have := hp j i (by rw [List.length_map]; omega) (by rw [List.length_map]; omega) (by omega)
    rw [List.getElem_map, List.getElem_map, ex, ey] at this
    exact this.symm
/-- the blocks of a volume are other ones -/
theorem StF.turnB (h : StF M0 M b v bag ws) {i : Nat} {x : WV} {ids : List Id3} (hx : ws[i]? = some x) (hb : butB M M' x.1) (hr : RowF M' x.1 3 (ids.map encI3)) : StF M0 M' b v bag (ws.set i (x.1, x.2.1, ids)) := by
  have hxm := List.mem_of_getElem? hx
  have hil := (List.getElem?_eq_some_iff.1 hx).1
  have e1 : (ws.set i (x.1, x.2.1, ids)).map encV = ws.map encV := by
    rw [List.map_set]
    apply List.ext_getElem?
    intro j
    rw [List.getElem?_set]
    split
    · rename_i e
      subst e
      rw [List.length_map, if_pos hil, List.getElem?_map, hx]
      rfl
    · rfl
  have e2 : (ws.set i (x.1, x.2.1, ids)).map (·.1) = ws.map (·.1) := by
    rw [List.map_set]
    apply List.ext_getElem?
    intro j
    rw [List.getElem?_set]
    split
    · rename_i e
      subst e
      rw [List.length_map, if_pos hil, List.getElem?_map, hx]
      rfl
    · rfl
  refine ⟨RowF.but h.bag hb (h.bw hxm).symm, by rw [e1]; exact RowF.but h.vols hb (h.vw hxm).symm, fun w hw => ?_, by rw [e2]; exact h.fr, by rw [e2]; exact h.ap⟩
  obtain ⟨j, hj⟩ := List.mem_iff_getElem?.1 hw
  rw [List.getElem?_set] at hj
  split at hj
  · rename_i e
    cases hj
    exact hr
  · rename_i e
    exact RowF.but (h.blk w (List.mem_of_getElem? hj)) hb (h.ww hx hj e)
/-- the bag is another one -/
theorem StF.turnBag (h : StF M0 M b v bag ws) {bag' : List It} (hb : butB M M' b) (hr : RowF M' b 4 (bag'.map Bg.encT)) : StF M0 M' b v bag' ws :=
  ⟨hr, RowF.but h.vols hb h.bv, fun w hw => RowF.but (h.blk w hw) hb (h.bw hw), h.fr, h.ap⟩
end
/-- .. what stays known beside the row of volumes -/
theorem StF.offV {M0 M M' : Mem} {b v : Value} {bag : List It} {ws : List WV} (h : StF M0 M b v bag ws) (hb : butB M M' v) : RowF M' b 4 (bag.map Bg.encT) ∧ ∀ w ∈ ws, RowF M' w.1 3 (w.2.2.map encI3) :=
  ⟨RowF.but h.bag hb h.bv.symm, fun w hw => RowF.but (h.blk w hw) hb (h.vw hw)⟩
/-! ### contracts that hand back a state -/
def StM (T : SV → SV) (A : St) : RP := fun r _ M => ∃ (b v : Value) (ws : List WV), r = T (stV b v) ∧ ws.map (·.2) = A.2 ∧ RowM M b 4 (A.1.map Bg.encT) ∧ VolsM M v ws
def StK (M0 : Mem) (T : SV → SV) (A : St) : RP := fun r _ M => ∃ (b v : Value) (ws : List WV), r = T (stV b v) ∧ ws.map (·.2) = A.2 ∧ StF M0 M b v A.1 ws
def IsRowF (M0 : Mem) (H : HS) (M : Mem) (s : SV) (sz : Nat) (es : List (List Value)) : Prop :=
  match s with
  | .v x => RowF M x sz es ∧ freshB M0 x
  | .own k => hget H k = some (.row sz es)
  | _ => False
def known : SV → List Value
  | .v x => [x]
  | _ => []
/-- .. whose rows may still be the call's own -/
def StO (T : SV → SV) (A : St) : RP := fun r H M => ∃ (s1 s2 : SV) (ws : List WV), r = T (.agg [s1, s2]) ∧ ws.map (·.2) = A.2 ∧ (∀ k, s1 = .own k → s2 ≠ .own k) ∧ (IsRow H M s1 4 (A.1.map Bg.encT) ∧ IsRow H M s2 2 (ws.map encV)) ∧ ∀ w ∈ ws, RowM M w.1 3 (w.2.2.map encI3)
def StKO (M0 : Mem) (T : SV → SV) (A : St) : RP := fun r H M => ∃ (s1 s2 : SV) (ws : List WV), r = T (.agg [s1, s2]) ∧ ws.map (·.2) = A.2 ∧ (∀ k, s1 = .own k → s2 ≠ .own k) ∧ (IsRowF M0 H M s1 4 (A.1.map Bg.encT) ∧ IsRowF M0 H M s2 2 (ws.map encV)) ∧ (∀ w ∈ ws, RowF M w.1 3 (w.2.2.map encI3) ∧ freshB M0 w.1) ∧ (known s1 ++ known s2 ++ ws.map (·.1)).Pairwise apartB
section
variable {E : Env} {σ : Sig} {H : HS} {M : Mem} {a : Act} {w : World} {ν : Nat → Value} {K : KP} {P : Program} {f : FuncId} {l : List SV}
theorem IsRow_settle {E : Env} {H : HS} {M : Mem} {w : World} {ν : Nat → Value} {s : SV} {sz : Nat} {es : List (List Value)} (hh : Heap E ν H M w) (h : IsRow H M s sz es) :
    ∃ x M' H', s.val ν = x ∧ M.le M' ∧ RowM M' x sz es ∧ Heap E ν H' M' w ∧ ∀ (k : Nat) (p : Nat × List (List Value)), s ≠ .own k → hget H k = some (.row p.1 p.2) → hget H' k = some (.row p.1 p.2) := by
  cases s with
  | v x => exact ⟨x, M, H, rfl, Mem.le.refl M, h, hh, fun _ _ _ h => h⟩
  | own k =>
    obtain ⟨M', h1, h2, h3⟩ := pub_heap hh h
    exact ⟨_, M', _, rfl, h1, h2, h3, fun j p hj hp => hget_hpub (p := .row p.1 p.2) (fun e => hj (by rw [e])) hp⟩
  | _ => exact h.elim
theorem Meets.settleM {T : SV → SV} {A : St} (hT : Ctx T) (h : Meets P f l M (StO T A)) : Meets P f l M (StM T A) := by
  refine ⟨h.1, fun w hw => (h.2 w hw).mono ?_⟩
  rintro e w' ⟨s, H', M', ν', rfl, hh, s1, s2, ws, rfl, h1, h2, ⟨h3, h4⟩, h5⟩
  obtain ⟨x1, M1, H1, e1, l1, r1, g1, k1⟩ := IsRow_settle hh h3
  have h4' : IsRow H1 M1 s2 2 (ws.map encV) := by
    cases s2 with
    | v x => exact RowM.le h4 l1
    | own k => exact k1 k (2, _) (fun e => h2 k e rfl) h4
    | _ => exact h4.elim
  obtain ⟨x2, M2, H2, e2, l2, r2, g2, _⟩ := IsRow_settle g1 h4'
  refine ⟨T (stV x1 x2), H2, M2, ν', ?_, g2, x1, x2, ws, rfl, h1, r1.le l2, r2, fun w hw => (h5 w hw).le (l1.trans l2)⟩
  rw [hT (.agg [s1, s2]) (stV x1 x2) ν' ν' (by simp only [stV, SV.val, SV.vals, e1, e2])]
theorem IsRowF_settle {E : Env} {H : HS} {M : Mem} {w : World} {ν : Nat → Value} {s : SV} {sz : Nat} {es : List (List Value)} (hh : Heap E ν H M w) (h : IsRowF E.M0 H M s sz es) :
    ∃ x M' H', s.val ν = x ∧ M.le M' ∧ RowF M' x sz es ∧ freshB E.M0 x ∧ (known s = [x] ∨ (known s = [] ∧ freshB M x)) ∧ Heap E ν H' M' w ∧ ∀ (k : Nat) (p : Nat × List (List Value)), s ≠ .own k → hget H k = some (.row p.1 p.2) → hget H' k = some (.row p.1 p.2) := by
  cases s with
  | v x => exact ⟨x, M, H, rfl, Mem.le.refl M, h.1, h.2, .inl rfl, hh, fun _ _ _ h => h⟩
  | own k =>
    obtain ⟨M', h1, h2, h3, h4⟩ := pub_heapF hh h
    exact ⟨_, M', _, rfl, h1, h2, h3.of_le hh.le0, .inr ⟨rfl, h3⟩, h4, fun j p hj hp => hget_hpub (p := .row p.1 p.2) (fun e => hj (by rw [e])) hp⟩
  | _ => exact h.elim
theorem Meets.settleF {T : SV → SV} {A : St} (hT : Ctx T) (h : Meets P f l M (StKO M T A)) : Meets P f l M (StK M T A) := by
  refine ⟨h.1, fun w hw => (h.2 w hw).mono ?_⟩
  rintro e w' ⟨s, H', M', ν', rfl, hh, s1, s2, ws, rfl, h1, h2, ⟨h3, h4⟩, h5, h6⟩
  obtain ⟨x1, M1, H1, e1, l1, r1, f1, c1, g1, k1⟩ := IsRowF_settle hh h3
  have h4' : IsRowF M H1 M1 s2 2 (ws.map encV) := by
    cases s2 with
    | v x => exact ⟨RowF.le h4.1 l1, h4.2⟩
    | own k => exact k1 k (2, _) (fun e => h2 k e rfl) h4
    | _ => exact h4.elim
  obtain ⟨x2, M2, H2, e2, l2, r2, f2, c2, g2, _⟩ := IsRowF_settle g1 h4'
  refine ⟨T (stV x1 x2), H2, M2, ν', ?_, g2, x1, x2, ws, rfl, h1, ?_⟩
  · rw [hT (.agg [s1, s2]) (stV x1 x2) ν' ν' (by simp only [stV, SV.val, SV.vals, e1, e2])]
  have hk1 : ∀ y ∈ known s1, y = x1 := fun y hy => by
    rcases c1 with c1 | ⟨c1, _⟩ <;> rw [c1] at hy
    · exact List.mem_singleton.1 hy
    · cases hy
  have hws : ∀ y ∈ ws.map (·.1), ∃ w ∈ ws, y = w.1 := fun y hy => by
    obtain ⟨w, hw, rfl⟩ := List.mem_map.1 hy
    exact ⟨w, hw, rfl⟩
  rw [List.append_assoc, List.pairwise_append, List.pairwise_append] at h6
  obtain ⟨_, ⟨_, p3, p2⟩, p1⟩ := h6
  refine ⟨r1.le l2, r2, fun w hw => (h5 w hw).1.le (l1.trans l2), fun y hy => ?_, ?_⟩
  · simp only [List.mem_cons] at hy
    rcases hy with rfl | rfl | hy
    · exact f1
    · exact f2
    · obtain ⟨w, hw, rfl⟩ := hws y hy
      exact (h5 w hw).2
  · have q2 : ∀ y ∈ ws.map (·.1), apartB x2 y := fun y hy => by
      obtain ⟨w, hw, rfl⟩ := hws y hy
      rcases c2 with c2 | ⟨_, c2⟩
      · exact p2 x2 (by rw [c2]; simp) w.1 hy
      · exact RowF.apart ((h5 w hw).1.le l1) c2
    have q1 : ∀ y ∈ ws.map (·.1), apartB x1 y := fun y hy => by
      obtain ⟨w, hw, rfl⟩ := hws y hy
      rcases c1 with c1 | ⟨_, c1⟩
      · exact p1 x1 (by rw [c1]; simp) w.1 (by simp [hy])
      · exact RowF.apart (h5 w hw).1 c1
    have q0 : apartB x1 x2 := by
      rcases c2 with c2 | ⟨_, c2⟩
      · rcases c1 with c1 | ⟨_, c1⟩
        · exact p1 x1 (by rw [c1]; simp) x2 (by rw [c2]; simp)
        · have : IsRowF M H' M' s2 2 (ws.map encV) := h4
          cases s2 with
          | v y =>
            simp only [known, List.cons.injEq, and_true] at c2
            subst c2
            exact RowF.apart h4.1 c1
          | _ => cases c2
      · exact (RowF.apart r1 c2).symm
    refine List.pairwise_cons.2 ⟨fun y hy => ?_, List.pairwise_cons.2 ⟨q2, p3⟩⟩
    rcases List.mem_cons.1 hy with rfl | hy
    · exact q0
    · exact q1 y hy
/-- calls that hand back a state -/
theorem CallK.stM {d : Nat} {T : SV → SV} {A : St} (hT : ∀ b v, (T (stV b v)).conc = true) (hl : SV.concs l = true) (hd : decide (d < E.N) = true) (h : Meets E.P f l M (StM T A))
    (hk : ∀ b v ws M', M.le M' → ws.map (·.2) = A.2 → RowM M' b 4 (A.1.map Bg.encT) → VolsM M' v ws → K ((d, true, T (stV b v)) :: σ) H M') : CallK E f l d K σ H M := by
  refine CallK.res (R := fun r M' => ∃ (b v : Value) (ws : List WV), r = T (stV b v) ∧ ws.map (·.2) = A.2 ∧ RowM M' b 4 (A.1.map Bg.encT) ∧ VolsM M' v ws) hl hd h (fun r M' => ?_) (fun r M' hM => ?_)
  · rintro ⟨b, v, ws, rfl, _⟩
    exact hT b v
  · rintro ⟨b, v, ws, rfl, h1, h2, h3⟩
    exact hk b v ws M' hM h1 h2 h3
theorem CallK.stF {d : Nat} {T : SV → SV} {A : St} (hT : ∀ b v, (T (stV b v)).conc = true) (hl : SV.concs l = true) (hd : decide (d < E.N) = true) (h : Meets E.P f l M (StK M T A))
    (hk : ∀ b v ws M', M.le M' → ws.map (·.2) = A.2 → StF M M' b v A.1 ws → K ((d, true, T (stV b v)) :: σ) H M') : CallK E f l d K σ H M := by
  refine CallK.res (R := fun r M' => ∃ (b v : Value) (ws : List WV), r = T (stV b v) ∧ ws.map (·.2) = A.2 ∧ StF M M' b v A.1 ws) hl hd h (fun r M' => ?_) (fun r M' hM => ?_)
  · rintro ⟨b, v, ws, rfl, _⟩
    exact hT b v
  · rintro ⟨b, v, ws, rfl, h1, h2⟩
    exact hk b v ws M' hM h1 h2
/-- a call whose row is known at once, and new -/
theorem CallK.rowF {d sz : Nat} {T : SV → SV} {es : List (List Value)} (hT : Ctx T) (hl : SV.concs l = true) (hd : decide (d < E.N) = true) (h : Meets E.P f l M (OwnR T sz es))
    (hk : ∀ v M', M.le M' → RowF M' v sz es → freshB M v → K ((d, true, T (.v v)) :: σ) H M') : CallK E f l d K σ H M := by
  intro ν a w hs hh
  refine .inl ⟨h.1, ?_⟩
  rw [SV.concs_vals (ν := ν0) (ν' := ν) l hl]
  refine (h.2 w hh.mem).mono ?_
  rintro e w' ⟨s, H', M', ν', rfl, hh', k, rfl, hR⟩
  obtain ⟨M'', h1, h2, h3, h4⟩ := pub_heapF hh' hR
  exact ⟨_, rfl, _, _, _, ⟨ν, hs.put (of_decide_eq_true hd) (by rw [cond_true]; exact hT _ (.v (ν' k)) _ _ rfl), hh.call h4⟩, hk (ν' k) M'' h4.le0 h2 (h3.of_le hh'.le0)⟩
end
theorem StK.weak {M0 M : Mem} {T : SV → SV} {A : St} {r : SV} {H : HS} (h : StK M0 T A r H M) : StM T A r H M := by
  obtain ⟨b, v, ws, h1, h2, h3⟩ := h
  exact ⟨b, v, ws, h1, h2, h3.bag.row, h3.volsM⟩
theorem zero_stK (M0 M : Mem) : StF M0 M (.slice none 0 0) (.slice none 0 0) [] [] := by
  refine ⟨⟨fun e he => (by cases he), .inl ⟨rfl, rfl⟩⟩, ⟨fun e he => (by cases he), .inl ⟨rfl, rfl⟩⟩, fun w hw => (by cases hw), fun x hx c hc => ?_, List.pairwise_cons.2 ⟨fun x hx c hc => (by cases hc), List.pairwise_cons.2 ⟨fun x hx c hc => (by cases hc), .nil⟩⟩⟩
  simp only [List.map_nil, List.mem_cons, List.not_mem_nil, or_false] at hx
  rcases hx with rfl | rfl <;> cases hc
theorem zero_volsM (M : Mem) : RowM M (.slice none 0 0) 4 (([] : List It).map Bg.encT) ∧ VolsM M (.slice none 0 0) [] := ⟨RowM.nil M 4, RowM.nil M 2, fun w hw => (by cases hw)⟩
end Go.X.Vo

namespace Go.X
open Go Go.RowKit
section
variable {E : Env} {σ : Sig} {H : HS} {M : Mem} {a : Act} {w : World} {ν : Nat → Value} {K : KP} {o : Oper}

theorem Meets.closeR {P : Program} {f : FuncId} {args : List SV} {T : SV → SV} {sz : Nat} {es : List (List Value)} (hT : Ctx T) (hes : ∀ e ∈ es, e.length = sz ∧ ∀ c ∈ e, c.oneCell' = true)
    (h : Meets P f args M (fun r H' M' => (r = T (.v (.slice none 0 0)) ∧ es = []) ∨ OwnR T sz es r H' M' ∨ OpenR T sz es r H' M')) : Meets P f args M (OwnR T sz es) := by
  refine ⟨h.1, fun w hw => (h.2 w hw).mono ?_⟩
  rintro e w' ⟨s, H', M', ν', rfl, hh', hcs⟩
  rcases (show OpenR T sz es s H' M' ∨ (s = T (.v (.slice none 0 0)) ∧ es = []) ∨ OwnR T sz es s H' M' from hcs.elim (fun h => .inr (.inl h)) (fun h => h.elim (fun h => .inr (.inr h)) .inl)) with ⟨b, k, cap, sp, rfl, hk, h1, h2, h3⟩ | ⟨rfl, rfl⟩ | hO
  · obtain ⟨⟨b', T', e1, e2⟩, e3⟩ := hh'.holds _ (hget_mem hk)
    have e4 := e3 _ rfl
    simp only at e1 e4
    rw [e4] at e1
    cases e1
    rw [opn_vals] at e2
    refine ⟨T (.own 0), [(0, .row sz es)], M', fun _ => .slice (some ⟨b, 0, none⟩) es.length cap, by rw [hT (.v _) (.own 0) ν' (fun _ => .slice (some ⟨b, 0, none⟩) es.length cap) rfl], ⟨fun p hp => ?_, by simp [fp, blk?], fun c hc => ?_, hh'.mem, hh'.below, hh'.le0, hh'.fresh, fun _ => rfl⟩, 0, rfl, rfl⟩
    · simp only [List.mem_singleton] at hp
      subst hp
      exact ⟨hes, .inr ⟨b, cap, T', sp, rfl, h1, h2, h3, e2⟩⟩
    · simp only [fp, List.filterMap_cons, List.filterMap_nil, blk?, List.mem_singleton] at hc
      subst hc
      exact hh'.apart c (List.mem_filterMap.2 ⟨_, hget_mem hk, by rw [e4]; rfl⟩)
  · refine ⟨T (.own 0), [(0, .row sz [])], M', fun _ => .slice none 0 0, by rw [hT (.v _) (.own 0) ν' (fun _ => .slice none 0 0) rfl], ⟨fun p hp => ?_, by simp [fp, blk?], fun c hc => by simp [fp, blk?] at hc, hh'.mem, hh'.below, hh'.le0, hh'.fresh, fun _ => rfl⟩, 0, rfl, rfl⟩
    simp only [List.mem_singleton] at hp
    subst hp
    exact ⟨hes, .inl ⟨rfl, rfl⟩⟩
  · exact ⟨s, H', M', ν', rfl, hh', hO⟩
end
end Go.X

