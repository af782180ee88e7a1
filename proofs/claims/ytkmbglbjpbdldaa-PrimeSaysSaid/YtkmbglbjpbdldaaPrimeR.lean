/- woolref.Prime, woolref.Next, and factors on both sides. Conditions: none. -/
import Derived.Test.YtkmbglbjpbdldaaPrime
import Derived.Test.YtkmbglbjpbdldaaRefP
set_option linter.unusedSimpArgs false
set_option linter.unusedVariables false
set_option maxHeartbeats 4000000
set_option maxRecDepth 20000
namespace Go.X.Rb
open Go Go.X Go.X.Pol Go.X.Pl Go.X.Rp Go.X.Pd Go.X.Md

theorem sz_mono {a b : Nat} (h : a ≤ b) : sz a ≤ sz b := sz_le.2 (Nat.lt_of_le_of_lt h (lt_two_sz b))
/-- the least that divides -/
def LeastP (m v : Nat) : Prop := (v = m ∧ ∀ f, 2 ≤ f → 2 * sz f ≤ sz m + 1 → ¬ dv f m) ∨ (2 ≤ v ∧ 2 * sz v ≤ sz m + 1 ∧ dv v m ∧ ∀ f, 2 ≤ f → f < v → ¬ dv f m)
theorem LeastP.uniq {m v v' : Nat} (h : LeastP m v) (h' : LeastP m v') : v = v' := by
  rcases h with ⟨h0, h1⟩ | ⟨h0, h1, h2, h3⟩ <;> rcases h' with ⟨g0, g1⟩ | ⟨g0, g1, g2, g3⟩
  · rw [h0, g0]
  · exact (h1 v' g0 g1 g2).elim
  · exact (g1 v h0 h1 h2).elim
  · rcases Nat.lt_trichotomy v v' with h | h | h
    · exact (g3 v h0 h h2).elim
    · exact h
    · exact (h3 v' g0 h g2).elim
theorem LeastP.two {m v : Nat} (h : LeastP m v) (hm : 2 ≤ m) : 2 ≤ v ∧ dv v m := by
  rcases h with ⟨h0, h1⟩ | ⟨h0, h1, h2, h3⟩
  · rw [h0]; exact ⟨hm, dv_refl m⟩
  · exact ⟨h0, h2⟩
theorem LeastP.irr {m v : Nat} (h : LeastP m v) (hm : 2 ≤ m) : v = m ↔ Irr m := by
  constructor
  · intro e
    rcases h with ⟨_, h1⟩ | ⟨h0, h1, h2, h3⟩
    · refine ⟨hm, fun d hd => Classical.byContradiction fun hn => ?_⟩
      obtain ⟨d2, c, ec, c2, es⟩ := dv_two_factor hm hd (fun e => hn (.inl e)) (fun e => hn (.inr e))
      by_cases hs : sz d ≤ sz c
      · exact h1 d d2 (by omega) hd
      · exact h1 c c2 (by omega) ⟨d, by rw [mulp_comm]; exact ec⟩
    · have := sz_two hm
      rw [e] at h1
      omega
  · intro hI
    rcases h with ⟨h0, _⟩ | ⟨h0, h1, h2, _⟩
    · exact h0
    · rcases hI.2 v h2 with e | e
      · omega
      · exact e
theorem blen (x : Nat) (M : Mem) (hx : x < 18446744073709551616) :
    Meets Proofs.Try.prog 146 [.v (.int .u64 (x : Int))] M fun r _ _ => r = .v (.int .i64 ((sz x : Nat) : Int)) := by
  refine Meets.of_body [0,2] Proofs.Try.func146 rfl (by kernel_rfl) rfl fun w => ?_
  simp only [Proofs.Try.f146, shs, zts, sos, sls, zss, eqs, sx, sb1, sb2, sb3, sb4, sb5, ↓reduceIte, Nat.reduceAdd, Nat.reduceMul, Nat.reduceDiv, Nat.reduceEqDiff, Nat.reduceLT, Nat.reduceLeDiff, reduceCtorEq, Int.reduceEq, Int.reduceNe, Int.reduceLT, Int.reduceLE, Int.reduceAdd, Int.reduceSub, Int.reduceMul, Int.reduceNeg, Int.reduceToNat, Int.cast_ofNat_Int, Int.natCast_zero, Int.natCast_one, Int.toNat_natCast, Nat.reduceBEq, uw hx]
  refine CallK.pure ⟨rfl, rfl⟩ rfl (len64 x M hx) ?_
  simp only [shs, zts, sos, sls, zss, eqs, sx, sb1, sb2, sb3, sb4, sb5, ↓reduceIte, Nat.reduceAdd, Nat.reduceMul, Nat.reduceDiv, Nat.reduceEqDiff, Nat.reduceLT, Nat.reduceLeDiff, reduceCtorEq, Int.reduceEq, Int.reduceNe, Int.reduceLT, Int.reduceLE, Int.reduceAdd, Int.reduceSub, Int.reduceMul, Int.reduceNeg, Int.reduceToNat, Int.cast_ofNat_Int, Int.natCast_zero, Int.natCast_one, Int.toNat_natCast, Nat.reduceBEq]
theorem quick (f m : Nat) (M : Mem) (hf : 2 ≤ f) (hf2 : f ≤ 2147483647) (hm : m ≤ 2147483647) :
    Meets Proofs.Try.prog 147 [.v (.int .i64 (f : Int)), .v (.int .i64 (m : Int))] M fun r _ _ => r = .v (.bool (decide (pmod m f = 0))) := by
  refine Meets.of_body [0,1,4,5,6,15] Proofs.Try.func147 rfl (by kernel_rfl) rfl fun w => ?_
  have hf0 : f ≠ 0 := by omega
  have hsf := sz_two hf
  have hsf2 := sz31 hf2
  generalize hc : pmod m f = c
  simp only [Proofs.Try.f147, shs, zts, sos, sls, zss, eqs, sx, sb1, sb2, sb3, sb4, sb5, ↓reduceIte, Nat.reduceAdd, Nat.reduceMul, Nat.reduceDiv, Nat.reduceEqDiff, Nat.reduceLT, Nat.reduceLeDiff, reduceCtorEq, Int.reduceEq, Int.reduceNe, Int.reduceLT, Int.reduceLE, Int.reduceAdd, Int.reduceSub, Int.reduceMul, Int.reduceNeg, Int.reduceToNat, Int.cast_ofNat_Int, Int.natCast_zero, Int.natCast_one, Int.toNat_natCast, Nat.reduceBEq, uw (show f < 18446744073709551616 by omega)]
  refine ⟨(fun h => by cases h), CallK.pure ⟨rfl, rfl⟩ rfl (blen f M (by omega)) ?_⟩
  simp only [shs, zts, sos, sls, zss, eqs, sx, sb1, sb2, sb3, sb4, sb5, ↓reduceIte, Nat.reduceAdd, Nat.reduceMul, Nat.reduceDiv, Nat.reduceEqDiff, Nat.reduceLT, Nat.reduceLeDiff, reduceCtorEq, Int.reduceEq, Int.reduceNe, Int.reduceLT, Int.reduceLE, Int.reduceAdd, Int.reduceSub, Int.reduceMul, Int.reduceNeg, Int.reduceToNat, Int.cast_ofNat_Int, Int.natCast_zero, Int.natCast_one, Int.toNat_natCast, Nat.reduceBEq]
  refine LoopK.go (X := Nat) (fun x => ([(0, true, .v (.int .i64 (f : Int))), (1, true, .v (.int .i64 (x : Int))), (5, true, .v (.int .i64 ((sz f : Nat) : Int)))], [], M))
    (fun x => x ≤ 2147483647 ∧ pmod x f = c) (fun x => sz x) m ⟨hm, hc⟩ (Ent.of ?_) ?_
  · simp only [sx, sb1, sb2, sb3, sb4, sb5, ↓reduceIte, Nat.reduceAdd, Nat.reduceMul, Nat.reduceDiv, Nat.reduceEqDiff, Nat.reduceLT, Nat.reduceLeDiff, reduceCtorEq, Int.reduceEq, Int.reduceNe, Int.reduceLT, Int.reduceLE, Int.reduceAdd, Int.reduceSub, Int.reduceMul, Int.reduceNeg, Int.reduceToNat, Int.cast_ofNat_Int, Int.natCast_zero, Int.natCast_one, Int.toNat_natCast, Nat.reduceBEq]
  rintro x ⟨h1, h2⟩
  have hsx := sz31 h1
  simp only [shs, zts, sos, sls, zss, eqs, sx, sb1, sb2, sb3, sb4, sb5, ↓reduceIte, Nat.reduceAdd, Nat.reduceMul, Nat.reduceDiv, Nat.reduceEqDiff, Nat.reduceLT, Nat.reduceLeDiff, reduceCtorEq, Int.reduceEq, Int.reduceNe, Int.reduceLT, Int.reduceLE, Int.reduceAdd, Int.reduceSub, Int.reduceMul, Int.reduceNeg, Int.reduceToNat, Int.cast_ofNat_Int, Int.natCast_zero, Int.natCast_one, Int.toNat_natCast, Nat.reduceBEq, uw (show x < 18446744073709551616 by omega)]
  refine ⟨(fun h => by cases h), CallK.pure ⟨rfl, rfl⟩ rfl (blen x M (by omega)) ?_⟩
  by_cases hk : sz x < sz f
  · have c1 : (((sz x : Nat) : Int) < ((sz f : Nat) : Int)) = True := eq_true (by omega)
    rw [pmod_small hk] at h2
    subst h2
    have c2 : ((x : Int) = 0) = (x = 0) := by apply propext; omega
    simp only [shs, zts, sos, sls, zss, eqs, sx, sb1, sb2, sb3, sb4, sb5, ↓reduceIte, Nat.reduceAdd, Nat.reduceMul, Nat.reduceDiv, Nat.reduceEqDiff, Nat.reduceLT, Nat.reduceLeDiff, reduceCtorEq, Int.reduceEq, Int.reduceNe, Int.reduceLT, Int.reduceLE, Int.reduceAdd, Int.reduceSub, Int.reduceMul, Int.reduceNeg, Int.reduceToNat, Int.cast_ofNat_Int, Int.natCast_zero, Int.natCast_one, Int.toNat_natCast, Nat.reduceBEq, c1, c2]
  · have c1 : (((sz x : Nat) : Int) < ((sz f : Nat) : Int)) = False := eq_false (by omega)
    have e1 : ((sz x : Nat) : Int) - ((sz f : Nat) : Int) = ((sz x - sz f : Nat) : Int) := by omega
    have i1 : inK .i64 ((sz x - sz f : Nat) : Int) := i64N (by omega)
    have hst := sz_step hf0 (a := x) (by omega)
    have hsm := sz_mul_pow (k := sz x - sz f) hf0
    have hlt : f * 2 ^ (sz x - sz f) < 2 ^ 31 := sz_le.1 (by omega)
    have hlt2 : x ^^^ f * 2 ^ (sz x - sz f) < 2 ^ 31 := Nat.xor_lt_two_pow (by omega) hlt
    have hpm : pmod (x ^^^ f * 2 ^ (sz x - sz f)) f = c := by
      rw [← mulp_pow1 f (sz x - sz f), Nat.xor_comm, pmod_add hf0]
      exact h2
    have i2 : inK .i64 ((f * 2 ^ (sz x - sz f) : Nat) : Int) := i64N (by omega)
    simp only [shs, zts, sos, sls, zss, eqs, sx, sb1, sb2, sb3, sb4, sb5, ↓reduceIte, Nat.reduceAdd, Nat.reduceMul, Nat.reduceDiv, Nat.reduceEqDiff, Nat.reduceLT, Nat.reduceLeDiff, reduceCtorEq, Int.reduceEq, Int.reduceNe, Int.reduceLT, Int.reduceLE, Int.reduceAdd, Int.reduceSub, Int.reduceMul, Int.reduceNeg, Int.reduceToNat, Int.cast_ofNat_Int, Int.natCast_zero, Int.natCast_one, Int.toNat_natCast, Nat.reduceBEq, c1, e1, i1, mw, i2]
    refine ⟨⟨by omega, by rw [b64]; omega⟩, ⟨⟨by omega, by simp only [hi]; omega⟩, ⟨by omega, by simp only [hi]; omega⟩⟩, x ^^^ f * 2 ^ (sz x - sz f), ⟨⟨by omega, hpm⟩, hst⟩, Ent.of ?_⟩
    simp only [sx, sb1, sb2, sb3, sb4, sb5, ↓reduceIte, Nat.reduceAdd, Nat.reduceMul, Nat.reduceDiv, Nat.reduceEqDiff, Nat.reduceLT, Nat.reduceLeDiff, reduceCtorEq, Int.reduceEq, Int.reduceNe, Int.reduceLT, Int.reduceLE, Int.reduceAdd, Int.reduceSub, Int.reduceMul, Int.reduceNeg, Int.reduceToNat, Int.cast_ofNat_Int, Int.natCast_zero, Int.natCast_one, Int.toNat_natCast, Nat.reduceBEq]
theorem least (m : Nat) (M : Mem) (h2 : 2 ≤ m) (hm : m ≤ 2147483647) :
    Meets Proofs.Try.prog 87 [.v (.int .i64 (m : Int))] M fun r _ _ => ∃ v : Nat, r = .v (.int .i64 (v : Int)) ∧ LeastP m v := by
  refine Meets.of_body [0,2,3,12,17] Proofs.Try.func87 rfl (by kernel_rfl) rfl fun w => ?_
  have hsm := sz31 hm
  simp only [Proofs.Try.f87, shs, zts, sos, sls, zss, eqs, sx, sb1, sb2, sb3, sb4, sb5, ↓reduceIte, Nat.reduceAdd, Nat.reduceMul, Nat.reduceDiv, Nat.reduceEqDiff, Nat.reduceLT, Nat.reduceLeDiff, reduceCtorEq, Int.reduceEq, Int.reduceNe, Int.reduceLT, Int.reduceLE, Int.reduceAdd, Int.reduceSub, Int.reduceMul, Int.reduceNeg, Int.reduceToNat, Int.cast_ofNat_Int, Int.natCast_zero, Int.natCast_one, Int.toNat_natCast, Nat.reduceBEq]
  refine LoopK.go (X := Nat) (fun f => ([(0, true, .v (.int .i64 (m : Int))), (3, true, .v (.int .i64 (f : Int)))], [], M))
    (fun f => (2 ≤ f ∧ f ≤ 65536) ∧ ∀ g, 2 ≤ g → g < f → ¬ dv g m) (fun f => 65537 - f) 2 ⟨⟨by omega, by omega⟩, fun g _ _ => by omega⟩ (Ent.of ?_) ?_
  · simp only [sx, sb1, sb2, sb3, sb4, sb5, ↓reduceIte, Nat.reduceAdd, Nat.reduceMul, Nat.reduceDiv, Nat.reduceEqDiff, Nat.reduceLT, Nat.reduceLeDiff, reduceCtorEq, Int.reduceEq, Int.reduceNe, Int.reduceLT, Int.reduceLE, Int.reduceAdd, Int.reduceSub, Int.reduceMul, Int.reduceNeg, Int.reduceToNat, Int.cast_ofNat_Int, Int.natCast_zero, Int.natCast_one, Int.toNat_natCast, Nat.reduceBEq]
  rintro f ⟨⟨f1, f2⟩, f3⟩
  have hsf : sz f ≤ 17 := sz_le.2 (by omega)
  simp only [shs, zts, sos, sls, zss, eqs, sx, sb1, sb2, sb3, sb4, sb5, ↓reduceIte, Nat.reduceAdd, Nat.reduceMul, Nat.reduceDiv, Nat.reduceEqDiff, Nat.reduceLT, Nat.reduceLeDiff, reduceCtorEq, Int.reduceEq, Int.reduceNe, Int.reduceLT, Int.reduceLE, Int.reduceAdd, Int.reduceSub, Int.reduceMul, Int.reduceNeg, Int.reduceToNat, Int.cast_ofNat_Int, Int.natCast_zero, Int.natCast_one, Int.toNat_natCast, Nat.reduceBEq, uw (show f < 18446744073709551616 by omega)]
  refine ⟨(fun h => by cases h), CallK.pure ⟨rfl, rfl⟩ rfl (blen f M (by omega)) ?_⟩
  simp only [shs, zts, sos, sls, zss, eqs, sx, sb1, sb2, sb3, sb4, sb5, ↓reduceIte, Nat.reduceAdd, Nat.reduceMul, Nat.reduceDiv, Nat.reduceEqDiff, Nat.reduceLT, Nat.reduceLeDiff, reduceCtorEq, Int.reduceEq, Int.reduceNe, Int.reduceLT, Int.reduceLE, Int.reduceAdd, Int.reduceSub, Int.reduceMul, Int.reduceNeg, Int.reduceToNat, Int.cast_ofNat_Int, Int.natCast_zero, Int.natCast_one, Int.toNat_natCast, Nat.reduceBEq, uw (show m < 18446744073709551616 by omega)]
  have i1 : inK .i64 (2 * ((sz f : Nat) : Int)) := ⟨by simp only [lo]; omega, by simp only [hi]; omega⟩
  have i2 : inK .i64 (((sz m : Nat) : Int) + 1) := ⟨by simp only [lo]; omega, by simp only [hi]; omega⟩
  refine ⟨i1, (fun h => by cases h), CallK.pure ⟨rfl, rfl⟩ rfl (blen m M (by omega)) ?_⟩
  by_cases hc : 2 * sz f ≤ sz m + 1
  · have c1 : (2 * ((sz f : Nat) : Int) ≤ ((sz m : Nat) : Int) + 1) = True := eq_true (by omega)
    have hf16 : f < 65536 := sz_le.1 (show sz f ≤ 16 by omega)
    have i3 : inK .i64 ((f : Int) + 1) := ⟨by simp only [lo]; omega, by simp only [hi]; omega⟩
    simp only [shs, zts, sos, sls, zss, eqs, sx, sb1, sb2, sb3, sb4, sb5, ↓reduceIte, Nat.reduceAdd, Nat.reduceMul, Nat.reduceDiv, Nat.reduceEqDiff, Nat.reduceLT, Nat.reduceLeDiff, reduceCtorEq, Int.reduceEq, Int.reduceNe, Int.reduceLT, Int.reduceLE, Int.reduceAdd, Int.reduceSub, Int.reduceMul, Int.reduceNeg, Int.reduceToNat, Int.cast_ofNat_Int, Int.natCast_zero, Int.natCast_one, Int.toNat_natCast, Nat.reduceBEq, c1, i2]
    refine CallK.pure ⟨rfl, rfl⟩ rfl (quick f m M f1 (by omega) hm) ?_
    by_cases hd : pmod m f = 0
    · have c2 : (pmod m f = 0) = True := eq_true hd
      simp only [shs, zts, sos, sls, zss, eqs, sx, sb1, sb2, sb3, sb4, sb5, ↓reduceIte, Nat.reduceAdd, Nat.reduceMul, Nat.reduceDiv, Nat.reduceEqDiff, Nat.reduceLT, Nat.reduceLeDiff, reduceCtorEq, Int.reduceEq, Int.reduceNe, Int.reduceLT, Int.reduceLE, Int.reduceAdd, Int.reduceSub, Int.reduceMul, Int.reduceNeg, Int.reduceToNat, Int.cast_ofNat_Int, Int.natCast_zero, Int.natCast_one, Int.toNat_natCast, Nat.reduceBEq, c2]
      exact ⟨f, rfl, .inr ⟨f1, hc, (dv_pmod (by omega)).2 hd, f3⟩⟩
    · have c2 : (pmod m f = 0) = False := eq_false hd
      simp only [shs, zts, sos, sls, zss, eqs, sx, sb1, sb2, sb3, sb4, sb5, ↓reduceIte, Nat.reduceAdd, Nat.reduceMul, Nat.reduceDiv, Nat.reduceEqDiff, Nat.reduceLT, Nat.reduceLeDiff, reduceCtorEq, Int.reduceEq, Int.reduceNe, Int.reduceLT, Int.reduceLE, Int.reduceAdd, Int.reduceSub, Int.reduceMul, Int.reduceNeg, Int.reduceToNat, Int.cast_ofNat_Int, Int.natCast_zero, Int.natCast_one, Int.toNat_natCast, Nat.reduceBEq, c2, i3]
      refine ⟨f + 1, ⟨⟨⟨by omega, by omega⟩, fun g g1 g2 => ?_⟩, by omega⟩, Ent.of ?_⟩
      · rcases Nat.lt_or_ge g f with h | h
        · exact f3 g g1 h
        · have : g = f := by omega
          rw [this]
          exact fun h => hd ((dv_pmod (by omega)).1 h)
      · simp only [sx, sb1, sb2, sb3, sb4, sb5, ↓reduceIte, Nat.reduceAdd, Nat.reduceMul, Nat.reduceDiv, Nat.reduceEqDiff, Nat.reduceLT, Nat.reduceLeDiff, reduceCtorEq, Int.reduceEq, Int.reduceNe, Int.reduceLT, Int.reduceLE, Int.reduceAdd, Int.reduceSub, Int.reduceMul, Int.reduceNeg, Int.reduceToNat, Int.cast_ofNat_Int, Int.natCast_zero, Int.natCast_one, Int.toNat_natCast, Nat.reduceBEq, Int.natCast_add]
  · have c1 : (2 * ((sz f : Nat) : Int) ≤ ((sz m : Nat) : Int) + 1) = False := eq_false (by omega)
    simp only [shs, zts, sos, sls, zss, eqs, sx, sb1, sb2, sb3, sb4, sb5, ↓reduceIte, Nat.reduceAdd, Nat.reduceMul, Nat.reduceDiv, Nat.reduceEqDiff, Nat.reduceLT, Nat.reduceLeDiff, reduceCtorEq, Int.reduceEq, Int.reduceNe, Int.reduceLT, Int.reduceLE, Int.reduceAdd, Int.reduceSub, Int.reduceMul, Int.reduceNeg, Int.reduceToNat, Int.cast_ofNat_Int, Int.natCast_zero, Int.natCast_one, Int.toNat_natCast, Nat.reduceBEq, c1, i2]
    refine ⟨m, rfl, .inl ⟨rfl, fun g g1 g2 => ?_⟩⟩
    rcases Nat.lt_or_ge g f with h | h
    · exact f3 g g1 h
    · have := sz_mono h
      omega
theorem rprime (m : Nat) (M : Mem) (hm : m ≤ 2147483647) :
    Meets Proofs.Try.prog 37 [.v (.int .i64 (m : Int))] M fun r _ _ => r = .v (.bool (irB m)) := by
  refine Meets.of_body [0,2] Proofs.Try.func37 rfl (by kernel_rfl) rfl fun w => ?_
  by_cases h2 : 2 ≤ m
  · have c1 : (2 ≤ (m : Int)) = True := eq_true (by omega)
    simp only [Proofs.Try.f37, shs, zts, sos, sls, zss, eqs, sx, sb1, sb2, sb3, sb4, sb5, ↓reduceIte, Nat.reduceAdd, Nat.reduceMul, Nat.reduceDiv, Nat.reduceEqDiff, Nat.reduceLT, Nat.reduceLeDiff, reduceCtorEq, Int.reduceEq, Int.reduceNe, Int.reduceLT, Int.reduceLE, Int.reduceAdd, Int.reduceSub, Int.reduceMul, Int.reduceNeg, Int.reduceToNat, Int.cast_ofNat_Int, Int.natCast_zero, Int.natCast_one, Int.toNat_natCast, Nat.reduceBEq, c1]
    refine CallK.res rfl rfl (least m M h2 hm) (fun r M' ⟨v, h, _⟩ => by subst h; rfl) fun r M' hM ⟨v, hr, hv⟩ => ?_
    subst hr
    have hI := hv.irr h2
    by_cases hvm : v = m
    · have c2 : ((v : Int) = (m : Int)) = True := eq_true (by omega)
      rw [irB_true (hI.1 hvm)]
      simp only [shs, zts, sos, sls, zss, eqs, sx, sb1, sb2, sb3, sb4, sb5, ↓reduceIte, Nat.reduceAdd, Nat.reduceMul, Nat.reduceDiv, Nat.reduceEqDiff, Nat.reduceLT, Nat.reduceLeDiff, reduceCtorEq, Int.reduceEq, Int.reduceNe, Int.reduceLT, Int.reduceLE, Int.reduceAdd, Int.reduceSub, Int.reduceMul, Int.reduceNeg, Int.reduceToNat, Int.cast_ofNat_Int, Int.natCast_zero, Int.natCast_one, Int.toNat_natCast, Nat.reduceBEq, c2]
    · have c2 : ((v : Int) = (m : Int)) = False := eq_false (by omega)
      rw [irB_false (fun h => hvm (hI.2 h))]
      simp only [shs, zts, sos, sls, zss, eqs, sx, sb1, sb2, sb3, sb4, sb5, ↓reduceIte, Nat.reduceAdd, Nat.reduceMul, Nat.reduceDiv, Nat.reduceEqDiff, Nat.reduceLT, Nat.reduceLeDiff, reduceCtorEq, Int.reduceEq, Int.reduceNe, Int.reduceLT, Int.reduceLE, Int.reduceAdd, Int.reduceSub, Int.reduceMul, Int.reduceNeg, Int.reduceToNat, Int.cast_ofNat_Int, Int.natCast_zero, Int.natCast_one, Int.toNat_natCast, Nat.reduceBEq, c2]
  · have c1 : (2 ≤ (m : Int)) = False := eq_false (by omega)
    rw [irB_false (irr_no (by omega))]
    simp only [Proofs.Try.f37, shs, zts, sos, sls, zss, eqs, sx, sb1, sb2, sb3, sb4, sb5, ↓reduceIte, Nat.reduceAdd, Nat.reduceMul, Nat.reduceDiv, Nat.reduceEqDiff, Nat.reduceLT, Nat.reduceLeDiff, reduceCtorEq, Int.reduceEq, Int.reduceNe, Int.reduceLT, Int.reduceLE, Int.reduceAdd, Int.reduceSub, Int.reduceMul, Int.reduceNeg, Int.reduceToNat, Int.cast_ofNat_Int, Int.natCast_zero, Int.natCast_one, Int.toNat_natCast, Nat.reduceBEq, c1]
theorem rnext (m : Nat) (M : Mem) (hm : m ≤ 2147483647) : Meets Proofs.Try.prog 38 [.v (.int .i64 (m : Int))] M fun r _ _ => ∃ v : Nat, r = .v (.int .i64 (v : Int)) ∧ NextP m v := by
  refine Meets.of_body [0,2,4,8] Proofs.Try.func38 rfl (by kernel_rfl) rfl fun w => ?_
  simp only [Proofs.Try.f38, shs, zts, sos, sls, zss, eqs, sx, sb1, sb2, sb3, sb4, sb5, ↓reduceIte, Nat.reduceAdd, Nat.reduceMul, Nat.reduceDiv, Nat.reduceEqDiff, Nat.reduceLT, Nat.reduceLeDiff, reduceCtorEq, Int.reduceEq, Int.reduceNe, Int.reduceLT, Int.reduceLE, Int.reduceAdd, Int.reduceSub, Int.reduceMul, Int.reduceNeg, Int.reduceToNat, Int.cast_ofNat_Int, Int.natCast_zero, Int.natCast_one, Int.toNat_natCast, Nat.reduceBEq]
  refine LoopK.go (X := Nat) (fun u => ([(0, true, .v (.int .i64 (u : Int)))], [], M))
    (fun u => (m ≤ u ∧ u ≤ 2147483648) ∧ ∀ x, m ≤ x → x < u → ¬ Irr x) (fun u => 2147483649 - u) m ⟨⟨by omega, by omega⟩, fun x _ _ => by omega⟩ (Ent.of ?_) ?_
  · simp only [sx, sb1, sb2, sb3, sb4, sb5, ↓reduceIte, Nat.reduceAdd, Nat.reduceMul, Nat.reduceDiv, Nat.reduceEqDiff, Nat.reduceLT, Nat.reduceLeDiff, reduceCtorEq, Int.reduceEq, Int.reduceNe, Int.reduceLT, Int.reduceLE, Int.reduceAdd, Int.reduceSub, Int.reduceMul, Int.reduceNeg, Int.reduceToNat, Int.cast_ofNat_Int, Int.natCast_zero, Int.natCast_one, Int.toNat_natCast, Nat.reduceBEq]
  rintro u ⟨⟨h1, h2⟩, h3⟩
  by_cases hu : u ≤ 2147483647
  · have c1 : ((u : Int) ≤ 2147483647) = True := eq_true (by omega)
    have i2 : inK .i64 ((u : Int) + 1) := ⟨by simp only [lo]; omega, by simp only [hi]; omega⟩
    simp only [shs, zts, sos, sls, zss, eqs, sx, sb1, sb2, sb3, sb4, sb5, ↓reduceIte, Nat.reduceAdd, Nat.reduceMul, Nat.reduceDiv, Nat.reduceEqDiff, Nat.reduceLT, Nat.reduceLeDiff, reduceCtorEq, Int.reduceEq, Int.reduceNe, Int.reduceLT, Int.reduceLE, Int.reduceAdd, Int.reduceSub, Int.reduceMul, Int.reduceNeg, Int.reduceToNat, Int.cast_ofNat_Int, Int.natCast_zero, Int.natCast_one, Int.toNat_natCast, Nat.reduceBEq, c1]
    refine CallK.pure ⟨rfl, rfl⟩ rfl (rprime u M hu) ?_
    cases hb : irB u with
    | true =>
      have hI := irB_iff.1 hb
      simp only [shs, zts, sos, sls, zss, eqs, sx, sb1, sb2, sb3, sb4, sb5, ↓reduceIte, Nat.reduceAdd, Nat.reduceMul, Nat.reduceDiv, Nat.reduceEqDiff, Nat.reduceLT, Nat.reduceLeDiff, reduceCtorEq, Int.reduceEq, Int.reduceNe, Int.reduceLT, Int.reduceLE, Int.reduceAdd, Int.reduceSub, Int.reduceMul, Int.reduceNeg, Int.reduceToNat, Int.cast_ofNat_Int, Int.natCast_zero, Int.natCast_one, Int.toNat_natCast, Nat.reduceBEq]
      exact ⟨u, rfl, .inl ⟨by have := hI.1; omega, h1, hu, hI, h3⟩⟩
    | false =>
      simp only [shs, zts, sos, sls, zss, eqs, sx, sb1, sb2, sb3, sb4, sb5, ↓reduceIte, Nat.reduceAdd, Nat.reduceMul, Nat.reduceDiv, Nat.reduceEqDiff, Nat.reduceLT, Nat.reduceLeDiff, reduceCtorEq, Int.reduceEq, Int.reduceNe, Int.reduceLT, Int.reduceLE, Int.reduceAdd, Int.reduceSub, Int.reduceMul, Int.reduceNeg, Int.reduceToNat, Int.cast_ofNat_Int, Int.natCast_zero, Int.natCast_one, Int.toNat_natCast, Nat.reduceBEq, i2]
      refine ⟨u + 1, ⟨⟨⟨by omega, by omega⟩, fun x hx1 hx2 => ?_⟩, by omega⟩, Ent.of ?_⟩
      · rcases Nat.lt_or_ge x u with h | h
        · exact h3 x hx1 h
        · have : x = u := by omega
          rw [this]
          intro hI
          rw [irB_true hI] at hb
          cases hb
      · simp only [sx, sb1, sb2, sb3, sb4, sb5, ↓reduceIte, Nat.reduceAdd, Nat.reduceMul, Nat.reduceDiv, Nat.reduceEqDiff, Nat.reduceLT, Nat.reduceLeDiff, reduceCtorEq, Int.reduceEq, Int.reduceNe, Int.reduceLT, Int.reduceLE, Int.reduceAdd, Int.reduceSub, Int.reduceMul, Int.reduceNeg, Int.reduceToNat, Int.cast_ofNat_Int, Int.natCast_zero, Int.natCast_one, Int.toNat_natCast, Nat.reduceBEq, Int.natCast_add]
  · have c1 : ((u : Int) ≤ 2147483647) = False := eq_false (by omega)
    simp only [shs, zts, sos, sls, zss, eqs, sx, sb1, sb2, sb3, sb4, sb5, ↓reduceIte, Nat.reduceAdd, Nat.reduceMul, Nat.reduceDiv, Nat.reduceEqDiff, Nat.reduceLT, Nat.reduceLeDiff, reduceCtorEq, Int.reduceEq, Int.reduceNe, Int.reduceLT, Int.reduceLE, Int.reduceAdd, Int.reduceSub, Int.reduceMul, Int.reduceNeg, Int.reduceToNat, Int.cast_ofNat_Int, Int.natCast_zero, Int.natCast_one, Int.toNat_natCast, Nat.reduceBEq, c1]
    exact ⟨0, rfl, .inr ⟨rfl, fun x hx1 hx2 => h3 x hx1 (by omega)⟩⟩
end Go.X.Rb
