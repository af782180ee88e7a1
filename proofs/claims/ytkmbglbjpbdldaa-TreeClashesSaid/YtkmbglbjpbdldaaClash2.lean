/- sync.Compare walks two trees at once. Conditions: none. -/
import Derived.Test.YtkmbglbjpbdldaaClash
set_option linter.unusedSimpArgs false
set_option linter.unusedVariables false
set_option maxHeartbeats 4000000
set_option maxRecDepth 20000
namespace Go.X.Ts
open Go Go.X Go.X.Pol Go.X.Pl Go.X.Rp Go.X.Pd Go.X.Md Go.X.Mv Go.X.Pt Go.X.Tv

/-- a level, and a place in it -/
theorem Levs.at {v : Value} {l : List Nat} {M : Mem} (h : Levs v (levs 32 l) M) {d i : Nat} (hd : d ≤ tpN 32 l.length) (h5 : d ≤ 5) (hi : i * 2 ^ d < l.length) :
    ∃ u, (elE M v 1 d 0 = u ∧ okE M v 1 d 0) ∧ (lenV u = (upN d l).length ∧ isSl u = true) ∧ (∀ d' : Int, d' = d → ixOk v d') ∧ (elE M u 1 i 0 = .int .i64 (topV (blk l d i) : Int) ∧ okE M u 1 i 0) ∧ (∀ i' : Int, i' = i → ixOk u i') := by
  have hL := levs_len 32 l
  obtain ⟨u, h1, h2⟩ := h.get (levs_get 32 l d hd)
  have hg := upN_get h5 i l hi
  refine ⟨u, h1, ⟨by rw [h2.len, List.length_map], h2.sl⟩, fun d' e => h.ix (by omega) (by omega), h2.el1 hg rfl, fun i' e => h2.ix (by omega) (by rw [List.length_map]; have := (List.getElem?_eq_some_iff.1 hg).1; omega)⟩
def boxP (va vb : Value) (b : Nat) (out : List Nat) (many : Nat) (f : Nat → SV) : List PO := [.row 1 (out.map encN), .box [.v va, .v vb, f 0, .v (.int .i64 many)] (some (ptrV b))]
theorem Levs.le {v : Value} {ls : List (List Nat)} {M M' : Mem} (h : Levs v ls M) (hle : M.le M') : Levs v ls M' := by
  obtain ⟨ps, h1, h2, h3⟩ := h
  exact ⟨ps, h1.le hle, h2.le hle, h3⟩
theorem boxP_nat {α : Type} (va vb : Value) (b : Nat) (out : List Nat) (many : Nat) : NatP (fun (_ : α) => boxP va vb b out many) := by
  intro x f f' ν ν' h
  have h0 := h 0 (by omega)
  refine ⟨fun w x hx => hx, fun w x hx => ?_, trivial⟩
  simp only [PO.holds, SV.vals, h0] at hx ⊢
  exact hx
theorem look : ∀ (n : Nat) (va vb : Value) (la lb : List Nat) (b d i : Nat) (out : List Nat) (many : Nat) (M : Mem), Levs va (levs 32 la) M → Levs vb (levs 32 lb) M → la.length = lb.length → la.length ≤ 32 → d ≤ tpN 32 la.length → d ≤ 5 → i * 2 ^ d < la.length → d < n →
    many + 2 * (blk la d i).length ≤ 1000 → out.length + (blk la d i).length ≤ 1000 →
    MeetsH Proofs.Try.prog 81 [.v (ptrV b), .v (.int .i64 d), .v (.int .i64 i)] [(8000, .row 1 (out.map encN)), (8001, .box [.v va, .v vb, .own 8000, .v (.int .i64 many)] (some (ptrV b)))] M
      (OwnN (fun (_ : Unit) _ => .tup []) (fun _ => boxP va vb b (out ++ (rc n (blk la d i) (blk lb d i)).1.map (· + i * 2 ^ d)) (many + (rc n (blk la d i) (blk lb d i)).2)) (fun _ _ => True))
  | 0, _, _, _, _, _, _, _, _, _, _, _, _, _, _, _, _, _, hn, _, _ => by omega
  | n + 1, va, vb, la, lb, b, d, i, out, many, M, ha, hb, hab, h32, hd, h5, hi, hn, hm, ho => by
    refine MeetsH.fix 8001 rfl (MeetsH.of_body [0,1,2,33,50,56] Proofs.Try.func81 rfl (by kernel_rfl) fun w M0 => ?_)
    obtain ⟨ua, ⟨a1, a2⟩, ⟨a3, a4⟩, a5, ⟨a6, a7⟩, a8⟩ := ha.at hd h5 hi
    obtain ⟨ub, ⟨b1, b2⟩, ⟨b3, b4⟩, b5, ⟨b6, b7⟩, b8⟩ := hb.at (by rw [← hab]; exact hd) h5 (i := i) (by rw [← hab]; exact hi)
    have a5 := a5 d rfl
    have a8 := a8 i rfl
    have b5 := b5 d rfl
    have b8 := b8 i rfl
    have hbl := blk_len la d i
    have hpd := Nat.two_pow_pos d
    have im : inK .i64 ((many : Int) + 1) := i64J (by omega)
    simp only [Proofs.Try.f81, shs, zts, sos, sls, zss, eqs, sx, sb1, sb2, sb3, sb4, sb5, ↓reduceIte, Nat.reduceAdd, Nat.reduceMul, Nat.reduceDiv, Nat.reduceEqDiff, Nat.reduceLT, Nat.reduceLeDiff, reduceCtorEq, Int.reduceEq, Int.reduceNe, Int.reduceLT, Int.reduceLE, Int.reduceAdd, Int.reduceSub, Int.reduceMul, Int.reduceNeg, Int.reduceToNat, Int.cast_ofNat_Int, Int.natCast_zero, Int.natCast_one, Int.toNat_natCast, Nat.reduceBEq, nzs, im]
    refine DrawK.ent (X := Unit) (fun _ => True) (fun _ => ([(0, true, .ptr 8001 0 0 0), (1, true, .v (.int .i64 d)), (2, true, .v (.int .i64 i)), (33, true, .v (.bool (decide ((topV (blk la d i) : Int) = (topV (blk lb d i) : Int)))))], [(8000, .row 1 (out.map encN)), (8001, .box [.v va, .v vb, .own 8000, .v (.int .i64 ((many : Int) + 1))] (some (ptrV b)))], M)) ?_ ?_
    · refine DrawK.plan (tk [0, 1, 2, 4, 7, 10, 11, 12, 14, 17] (.two 3 (tk [5, 6, 8, 9] (.one 13 (tk [15, 16, 18, 19, 20] .done))) 13 (tk [15, 16, 18, 19] (.one 3 (tk [5, 6, 8, 9, 20] .done))))) (by kernel_rfl) (by kernel_rfl) ?_
      simp only [shs, zts, sos, sls, zss, eqs, sx, sb1, sb2, sb3, sb4, sb5, ↓reduceIte, Nat.reduceAdd, Nat.reduceMul, Nat.reduceDiv, Nat.reduceEqDiff, Nat.reduceLT, Nat.reduceLeDiff, reduceCtorEq, Int.reduceEq, Int.reduceNe, Int.reduceLT, Int.reduceLE, Int.reduceAdd, Int.reduceSub, Int.reduceMul, Int.reduceNeg, Int.reduceToNat, Int.cast_ofNat_Int, Int.natCast_zero, Int.natCast_one, Int.toNat_natCast, Nat.reduceBEq, nzs, se1, se2, tks, a1, a2, a4, a5, a6, a7, a8, a5.2, a8.2, b1, b2, b4, b5, b6, b7, b8, b5.2, b8.2]
      exact ⟨⟨(), Ent.of (by simp only [sx, sb1, sb2, sb3, sb4, sb5, ↓reduceIte, Nat.reduceAdd, Nat.reduceMul, Nat.reduceDiv, Nat.reduceEqDiff, Nat.reduceLT, Nat.reduceLeDiff, reduceCtorEq, Int.reduceEq, Int.reduceNe, Int.reduceLT, Int.reduceLE, Int.reduceAdd, Int.reduceSub, Int.reduceMul, Int.reduceNeg, Int.reduceToNat, Int.cast_ofNat_Int, Int.natCast_zero, Int.natCast_one, Int.toNat_natCast, Nat.reduceBEq])⟩, ⟨(), Ent.of (by simp only [sx, sb1, sb2, sb3, sb4, sb5, ↓reduceIte, Nat.reduceAdd, Nat.reduceMul, Nat.reduceDiv, Nat.reduceEqDiff, Nat.reduceLT, Nat.reduceLeDiff, reduceCtorEq, Int.reduceEq, Int.reduceNe, Int.reduceLT, Int.reduceLE, Int.reduceAdd, Int.reduceSub, Int.reduceMul, Int.reduceNeg, Int.reduceToNat, Int.cast_ofNat_Int, Int.natCast_zero, Int.natCast_one, Int.toNat_natCast, Nat.reduceBEq])⟩⟩
    · intro _ _
      by_cases he : topV (blk la d i) = topV (blk lb d i)
      · have dE : ((topV (blk la d i) : Int) = (topV (blk lb d i) : Int)) = True := eq_true (by omega)
        rw [rc_same he]
        simp only [shs, zts, sos, sls, zss, eqs, sx, sb1, sb2, sb3, sb4, sb5, ↓reduceIte, Nat.reduceAdd, Nat.reduceMul, Nat.reduceDiv, Nat.reduceEqDiff, Nat.reduceLT, Nat.reduceLeDiff, reduceCtorEq, Int.reduceEq, Int.reduceNe, Int.reduceLT, Int.reduceLE, Int.reduceAdd, Int.reduceSub, Int.reduceMul, Int.reduceNeg, Int.reduceToNat, Int.cast_ofNat_Int, Int.natCast_zero, Int.natCast_one, Int.toNat_natCast, Nat.reduceBEq, nzs, dE, List.map_nil, List.append_nil]
        exact ⟨(), [8000, 8001], rfl, ⟨by decide, by decide⟩, ⟨rfl, rfl, trivial⟩, trivial⟩
      have dE : ((topV (blk la d i) : Int) = (topV (blk lb d i) : Int)) = False := eq_false (by omega)
      simp only [shs, zts, sos, sls, zss, eqs, sx, sb1, sb2, sb3, sb4, sb5, ↓reduceIte, Nat.reduceAdd, Nat.reduceMul, Nat.reduceDiv, Nat.reduceEqDiff, Nat.reduceLT, Nat.reduceLeDiff, reduceCtorEq, Int.reduceEq, Int.reduceNe, Int.reduceLT, Int.reduceLE, Int.reduceAdd, Int.reduceSub, Int.reduceMul, Int.reduceNeg, Int.reduceToNat, Int.cast_ofNat_Int, Int.natCast_zero, Int.natCast_one, Int.toNat_natCast, Nat.reduceBEq, nzs, dE]
      clear a1 a2 a3 a4 a5 a6 a7 a8 b1 b2 b3 b4 b5 b6 b7 b8
      refine LoopK.go (X := Nat × Nat) (fun x => ([(0, true, .ptr 8001 0 0 0), (1, true, .v (.int .i64 x.1)), (2, true, .v (.int .i64 x.2))], [(8000, .row 1 (out.map encN)), (8001, .box [.v va, .v vb, .own 8000, .v (.int .i64 ((many : Int) + 1))] (some (ptrV b)))], M))
        (fun x => ((x.1 ≤ d ∧ x.2 * 2 ^ x.1 = i * 2 ^ d) ∧ blk la x.1 x.2 = blk la d i) ∧ blk lb x.1 x.2 = blk lb d i) (fun x => x.1) (d, i) ⟨⟨⟨Nat.le_refl _, rfl⟩, rfl⟩, rfl⟩ (Ent.of ?_) ?_
      · simp only [sx, sb1, sb2, sb3, sb4, sb5, ↓reduceIte, Nat.reduceAdd, Nat.reduceMul, Nat.reduceDiv, Nat.reduceEqDiff, Nat.reduceLT, Nat.reduceLeDiff, reduceCtorEq, Int.reduceEq, Int.reduceNe, Int.reduceLT, Int.reduceLE, Int.reduceAdd, Int.reduceSub, Int.reduceMul, Int.reduceNeg, Int.reduceToNat, Int.cast_ofNat_Int, Int.natCast_zero, Int.natCast_one, Int.toNat_natCast, Nat.reduceBEq]
      rintro ⟨e, j⟩ ⟨⟨⟨h1, h2⟩, h3⟩, h4⟩
      simp only at h1 h2 h3 h4
      rw [← h3, ← h4] at he ⊢
      rw [← h2] at hi ⊢
      rw [← h3] at hbl hm ho
      have hjl : j < 32 := by
        have := Nat.le_mul_of_pos_right j (Nat.two_pow_pos e)
        omega
      cases e with
      | zero =>
        rw [rc_leaf (by simpa using hi) he]
        simp only [shs, zts, sos, sls, zss, eqs, sx, sb1, sb2, sb3, sb4, sb5, ↓reduceIte, Nat.reduceAdd, Nat.reduceMul, Nat.reduceDiv, Nat.reduceEqDiff, Nat.reduceLT, Nat.reduceLeDiff, reduceCtorEq, Int.reduceEq, Int.reduceNe, Int.reduceLT, Int.reduceLE, Int.reduceAdd, Int.reduceSub, Int.reduceMul, Int.reduceNeg, Int.reduceToNat, Int.cast_ofNat_Int, Int.natCast_zero, Int.natCast_one, Int.toNat_natCast, Nat.reduceBEq, nzs, List.length_map]
        refine ⟨by omega, (), [512, 8001], rfl, ⟨by decide, by decide⟩, ⟨?_, rfl, trivial⟩, trivial⟩
        rw [List.map_append, Nat.pow_zero, Nat.mul_one]
        rfl
      | succ e =>
        have hpe := Nat.two_pow_pos e
        have ee : j * 2 ^ (e + 1) = 2 * j * 2 ^ e := by rw [Nat.pow_succ, Nat.mul_comm 2 j, Nat.mul_assoc, Nat.mul_comm (2 ^ e)]
        obtain ⟨u, ⟨a1, a2⟩, ⟨a3, a4⟩, a5, _⟩ := ha.at (d := e) (i := 2 * j) (by omega) (by omega) (by rw [← ee]; exact hi)
        have a5 := a5 e rfl
        have hcl := upN_len e la
        rw [hcl] at a3
        have hc1 := cl_iff e la.length (2 * j)
        have hc2 := cl_iff e la.length (2 * j + 1)
        have e0 : (0 < ((e + 1 : Nat) : Int)) = True := eq_true (by omega)
        have e0' : (((e + 1 : Nat) : Int) = 0) = False := eq_false (by omega)
        have e1 : ((e + 1 : Nat) : Int) - 1 = (e : Int) := by omega
        have i1 : inK .i64 ((e : Nat) : Int) := i64J (by omega)
        have ej : 2 * (j : Int) = ((2 * j : Nat) : Int) := by omega
        have ej1 : ((2 * j : Nat) : Int) + 1 = ((2 * j + 1 : Nat) : Int) := by omega
        have em : (many : Int) + 1 = ((many + 1 : Nat) : Int) := by omega
        have i2 : inK .i64 ((2 * j : Nat) : Int) := i64J (by omega)
        have i3 : inK .i64 ((2 * j + 1 : Nat) : Int) := i64J (by omega)
        have hlt : 2 * j < cl e la.length := hc1.2 (by rw [← ee]; exact hi)
        by_cases hq : 2 * j + 1 = cl e la.length
        · have q1 : (((2 * j + 1 : Nat) : Int) = ((cl e la.length : Nat) : Int)) = True := eq_true (by omega)
          have hdn : la.length ≤ (2 * j + 1) * 2 ^ e := by
            rcases Nat.lt_or_ge ((2 * j + 1) * 2 ^ e) la.length with h | h
            · have := hc2.2 h; omega
            · exact h
          simp only [shs, zts, sos, sls, zss, eqs, sx, sb1, sb2, sb3, sb4, sb5, ↓reduceIte, Nat.reduceAdd, Nat.reduceMul, Nat.reduceDiv, Nat.reduceEqDiff, Nat.reduceLT, Nat.reduceLeDiff, reduceCtorEq, Int.reduceEq, Int.reduceNe, Int.reduceLT, Int.reduceLE, Int.reduceAdd, Int.reduceSub, Int.reduceMul, Int.reduceNeg, Int.reduceToNat, Int.cast_ofNat_Int, Int.natCast_zero, Int.natCast_one, Int.toNat_natCast, Nat.reduceBEq, nzs, e0, e1, i1, ej, ej1, i2, i3, a1, a2, a3, a4, a5, a5.2, q1]
          refine ⟨(e, 2 * j), ⟨⟨⟨⟨by simp only; omega, by simp only; omega⟩, ?_⟩, ?_⟩, by simp only; omega⟩, Ent.of (by simp only [sx, sb1, sb2, sb3, sb4, sb5, ↓reduceIte, Nat.reduceAdd, Nat.reduceMul, Nat.reduceDiv, Nat.reduceEqDiff, Nat.reduceLT, Nat.reduceLeDiff, reduceCtorEq, Int.reduceEq, Int.reduceNe, Int.reduceLT, Int.reduceLE, Int.reduceAdd, Int.reduceSub, Int.reduceMul, Int.reduceNeg, Int.reduceToNat, Int.cast_ofNat_Int, Int.natCast_zero, Int.natCast_one, Int.toNat_natCast, Nat.reduceBEq])⟩
          · exact (blk_down hdn).symm
          · exact (blk_down (by rw [← hab]; exact hdn)).symm
        · have q1 : (((2 * j + 1 : Nat) : Int) = ((cl e la.length : Nat) : Int)) = False := eq_false (by omega)
          have hm2 : (2 * j + 1) * 2 ^ e < la.length := hc2.1 (by omega)
          have em2 : (2 * j + 1) * 2 ^ e = 2 * j * 2 ^ e + 2 ^ e := by rw [Nat.add_mul, Nat.one_mul]
          have l1 := blk_len la e (2 * j)
          have l2 := blk_len la e (2 * j + 1)
          have l3 := blk_len la (e + 1) j
          have pe : 2 ^ (e + 1) = 2 ^ e * 2 := Nat.pow_succ 2 e
          obtain ⟨p1, p2, _⟩ := rc_bound n (blk la e (2 * j)) (blk lb e (2 * j)) (by omega) (by omega)
          have r1 := look n va vb la lb b e (2 * j) out (many + 1) M ha hb hab h32 (by omega) (by omega) (by omega) (by omega) (by omega) (by omega)
          have r2 := fun M' (hM : M.le M') => look n va vb la lb b e (2 * j + 1) (out ++ (rc n (blk la e (2 * j)) (blk lb e (2 * j))).1.map (· + 2 * j * 2 ^ e)) (many + 1 + (rc n (blk la e (2 * j)) (blk lb e (2 * j))).2) M' (ha.le hM) (hb.le hM) hab h32 (by omega) (by omega) (by omega) (by omega) (by omega) (by rw [List.length_append, List.length_map]; omega)
          rw [rc_node (f := n) (d := e) (i := j) (by omega) h32 hm2 he]
          generalize rc n (blk la e (2 * j)) (blk lb e (2 * j)) = X1 at *
          generalize rc n (blk la e (2 * j + 1)) (blk lb e (2 * j + 1)) = X2 at *
          simp only [shs, zts, sos, sls, zss, eqs, sx, sb1, sb2, sb3, sb4, sb5, ↓reduceIte, Nat.reduceAdd, Nat.reduceMul, Nat.reduceDiv, Nat.reduceEqDiff, Nat.reduceLT, Nat.reduceLeDiff, reduceCtorEq, Int.reduceEq, Int.reduceNe, Int.reduceLT, Int.reduceLE, Int.reduceAdd, Int.reduceSub, Int.reduceMul, Int.reduceNeg, Int.reduceToNat, Int.cast_ofNat_Int, Int.natCast_zero, Int.natCast_one, Int.toNat_natCast, Nat.reduceBEq, nzs, e0, e0', e1, i1, ej, ej1, i2, i3, em, a1, a2, a3, a4, a5, a5.2, q1]
          refine CallK.fixP 8001 rfl ?_
          simp only [shA1, shA2]
          refine CallK.lendN (A := fun _ => [.v (ptrV b), .v (.int .i64 (e : Int)), .v (.int .i64 ((2 * j : Nat) : Int))]) (Pin := boxP va vb b out (many + 1)) (T := fun (_ : Unit) _ => .tup []) [8000, 8001] (fun _ _ _ _ _ => rfl) (boxP_nat va vb b out (many + 1)) (fun _ _ _ _ _ _ => rfl) (boxP_nat va vb b _ _) rfl rfl ⟨rfl, rfl, trivial⟩ rfl r1 fun _ M2 hM2 _ => ?_
          simp only [shs, zts, sos, sls, zss, eqs, sx, sb1, sb2, sb3, sb4, sb5, ↓reduceIte, Nat.reduceAdd, Nat.reduceMul, Nat.reduceDiv, Nat.reduceEqDiff, Nat.reduceLT, Nat.reduceLeDiff, reduceCtorEq, Int.reduceEq, Int.reduceNe, Int.reduceLT, Int.reduceLE, Int.reduceAdd, Int.reduceSub, Int.reduceMul, Int.reduceNeg, Int.reduceToNat, Int.cast_ofNat_Int, Int.natCast_zero, Int.natCast_one, Int.toNat_natCast, Nat.reduceBEq, nzs, shB, boxP, e1, i1, ej, ej1, i2, i3]
          refine CallK.lendN (A := fun _ => [.v (ptrV b), .v (.int .i64 (e : Int)), .v (.int .i64 ((2 * j + 1 : Nat) : Int))]) (Pin := boxP va vb b (out ++ X1.1.map (· + 2 * j * 2 ^ e)) (many + 1 + X1.2)) (T := fun (_ : Unit) _ => .tup []) [576, 577] (fun _ _ _ _ _ => rfl) (boxP_nat va vb b _ _) (fun _ _ _ _ _ _ => rfl) (boxP_nat va vb b _ _) rfl rfl ⟨rfl, rfl, trivial⟩ rfl (r2 M2 hM2) fun _ M3 hM3 _ => ?_
          simp only [shs, zts, sos, sls, zss, eqs, sx, sb1, sb2, sb3, sb4, sb5, ↓reduceIte, Nat.reduceAdd, Nat.reduceMul, Nat.reduceDiv, Nat.reduceEqDiff, Nat.reduceLT, Nat.reduceLeDiff, reduceCtorEq, Int.reduceEq, Int.reduceNe, Int.reduceLT, Int.reduceLE, Int.reduceAdd, Int.reduceSub, Int.reduceMul, Int.reduceNeg, Int.reduceToNat, Int.cast_ofNat_Int, Int.natCast_zero, Int.natCast_one, Int.toNat_natCast, Nat.reduceBEq, nzs, shB, boxP]
          have eo : out ++ X1.1.map (· + 2 * j * 2 ^ e) ++ X2.1.map (· + (2 * j + 1) * 2 ^ e) = out ++ ((X1.1 ++ X2.1.map (· + 2 ^ e)).map (· + j * 2 ^ (e + 1))) := by
            rw [List.map_append, List.map_map, ee, em2, List.append_assoc]
            congr 3
            funext x
            simp only [Function.comp_apply]
            omega
          have ev : many + 1 + X1.2 + X2.2 = many + (X1.2 + X2.2 + 1) := by omega
          rw [eo, ev]
          exact ⟨(), [632, 633], rfl, ⟨by decide, by decide⟩, ⟨rfl, rfl, trivial⟩, trivial⟩

end Go.X.Ts
