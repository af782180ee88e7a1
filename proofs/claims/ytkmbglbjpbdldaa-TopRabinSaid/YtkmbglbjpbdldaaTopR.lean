/- wooltop.TopRabin returns true. Conditions: none. -/
import Derived.Test.YtkmbglbjpbdldaaPrime
import Derived.Test.YtkmbglbjpbdldaaPrint
set_option linter.unusedSimpArgs false
set_option linter.unusedVariables false
set_option maxHeartbeats 4000000
set_option maxRecDepth 20000
namespace Go.X.Rb
open Go Go.X Go.X.Pol Go.X.Pl Go.X.Rp Go.X.Pd Go.X.Md Go.X.Mv Go.X.Pt

/-- a text as one polynomial -/
def full (s : List UInt8) (p : Nat) : Nat := s.foldl (fun p c => p * 2 ^ 8 ^^^ c.toNat) p
theorem stp_full {m p : Nat} (hm : m ≠ 0) (x : Nat) (c : UInt8) (h : p = pmod x m) : stp m p c.toNat = pmod (x * 2 ^ 8 ^^^ c.toNat) m := by
  subst h
  unfold stp
  rw [← xor_low (p := pmod x m) (c := c.toNat) (k := 8) (UInt8.toNat_lt c), pmod_xor hm, pmod_xor hm (a := x * 2 ^ 8)]
  congr 1
  rw [← mulp_pow1, ← mulp_pow1, pmod_mul_right hm]
theorem prf_full {m : Nat} (hm : m ≠ 0) : ∀ (s : List UInt8) (p x : Nat), p = pmod x m → prf m s p = pmod (full s x) m
  | [], p, x, h => h
  | c :: s, p, x, h => by
    show prf m s (stp m p c.toNat) = pmod (full s (x * 2 ^ 8 ^^^ c.toNat)) m
    exact prf_full hm s _ _ (stp_full hm x c h)
theorem prf_one {m : Nat} (h2 : 2 ≤ m) (s : List UInt8) : prf m s 1 = pmod (full s 1) m := by
  refine prf_full (by omega) s 1 1 (pmod_small ?_).symm
  have h3 : sz 1 = 1 := rfl
  have h4 := sz_two h2
  omega
theorem prf_eq {m : Nat} (h2 : 2 ≤ m) (s t : List UInt8) : prf m s 1 = prf m t 1 ↔ dv m (full s 1 ^^^ full t 1) := by
  rw [prf_one h2, prf_one h2]
  exact pmod_eq (by omega)
theorem irr_4105 : Irr 4105 := by
  have h : ∀ f, f < 128 → 2 ≤ f → pmod 4105 f ≠ 0 := by decide +kernel
  have hs : sz 4105 = 13 := by decide +kernel
  have hL : ∀ f, 2 ≤ f → 2 * sz f ≤ 14 → ¬ dv f 4105 := fun f f2 hf hd => by
    have : f < 2 ^ 7 := sz_le.1 (by omega)
    exact h f (by omega) f2 ((dv_pmod (by omega)).1 hd)
  refine ⟨by omega, fun d hd => Classical.byContradiction fun hn => ?_⟩
  obtain ⟨d2, c, ec, c2, es⟩ := dv_two_factor (by omega) hd (fun e => hn (.inl e)) (fun e => hn (.inr e))
  rw [hs] at es
  by_cases hsz : sz d ≤ sz c
  · exact hL d d2 (by omega) hd
  · exact hL c c2 (by omega) ⟨d, by rw [mulp_comm]; exact ec⟩
theorem next_small {m v : Nat} (h : NextP m v) (hm : m ≤ 4105) : Irr v ∧ v ≤ 4105 := by
  rcases h with ⟨h0, h1, h2, h3, h4⟩ | ⟨h0, h1⟩
  · refine ⟨h3, ?_⟩
    rcases Nat.lt_or_ge 4105 v with h | h
    · exact (h4 4105 hm h irr_4105).elim
    · exact h
  · exact (h1 4105 hm (by omega) irr_4105).elim
theorem both {p q D : Nat} (hp : Irr p) (hq : Irr q) (hne : p ≠ q) : dv (mulp p q) D ↔ dv p D ∧ dv q D := by
  constructor
  · intro h
    exact ⟨dv_trans ⟨q, by rw [mulp_comm]⟩ h, dv_trans ⟨p, rfl⟩ h⟩
  · rintro ⟨⟨c, rfl⟩, h⟩
    rcases euclid hq h with ⟨e, rfl⟩ | h
    · exact ⟨e, by rw [mulp_assoc, mulp_comm q p]⟩
    · rcases hp.2 q h with e | e
      · have := hq.1; omega
      · exact (hne e.symm).elim
theorem begun (M : Mem) : Meets Proofs.Try.prog 10 [] M fun r _ _ => r = .v (.bool true) := by
  refine Meets.of_body [0,1,2] Proofs.Try.func10 rfl (by kernel_rfl) rfl fun w => ?_
  have h := Mul 3 3 M (by omega) (by omega)
  have e : mulp 3 3 = 5 := by decide +kernel
  rw [mulV, e] at h
  simp only [Proofs.Try.f10, shs, zts, sos, sls, zss, eqs, sx, sb1, sb2, sb3, sb4, sb5, ↓reduceIte, Nat.reduceAdd, Nat.reduceMul, Nat.reduceDiv, Nat.reduceEqDiff, Nat.reduceLT, Nat.reduceLeDiff, reduceCtorEq, Int.reduceEq, Int.reduceNe, Int.reduceLT, Int.reduceLE, Int.reduceAdd, Int.reduceSub, Int.reduceMul, Int.reduceNeg, Int.reduceToNat, Int.cast_ofNat_Int, Int.natCast_zero, Int.natCast_one, Int.toNat_natCast, Nat.reduceBEq]
  refine CallK.pure ⟨rfl, rfl⟩ rfl h ?_
  simp only [shs, zts, sos, sls, zss, eqs, sx, sb1, sb2, sb3, sb4, sb5, ↓reduceIte, Nat.reduceAdd, Nat.reduceMul, Nat.reduceDiv, Nat.reduceEqDiff, Nat.reduceLT, Nat.reduceLeDiff, reduceCtorEq, Int.reduceEq, Int.reduceNe, Int.reduceLT, Int.reduceLE, Int.reduceAdd, Int.reduceSub, Int.reduceMul, Int.reduceNeg, Int.reduceToNat, Int.cast_ofNat_Int, Int.natCast_zero, Int.natCast_one, Int.toNat_natCast, Nat.reduceBEq]
theorem wrapU (a : Int) : ∃ u : Nat, IntKind.u64.wrap a = (u : Int) ∧ u < 18446744073709551616 := by
  have h : IntKind.u64.wrap a = a % 18446744073709551616 := by simp [IntKind.wrap, IntKind.bits, IntKind.signed]
  refine ⟨(a % 18446744073709551616).toNat, ?_, ?_⟩
  · rw [h]
    omega
  · omega
theorem keepW (a : Int) (M : Mem) : ∃ k : Nat, k < 4096 ∧ Meets Proofs.Try.prog 12 [.v (.int .i64 a), .v (.int .i64 4096)] M fun r _ _ => r = .v (.int .i64 (k : Int)) := by
  obtain ⟨u, hu, hlt⟩ := wrapU a
  refine ⟨u % 4096, Nat.mod_lt _ (by omega), ?_⟩
  refine Meets.of_body [0,1,4] Proofs.Try.func12 rfl (by kernel_rfl) rfl fun w => ?_
  have e1 : (u : Int).tmod 4096 = ((u % 4096 : Nat) : Int) := tmN u 4096
  have e2 : IntKind.u64.wrap 4096 = 4096 := uw (a := 4096) (by omega)
  have hm := Nat.mod_lt u (show 4096 > 0 by omega)
  simp only [Proofs.Try.f12, shs, zts, sos, sls, zss, eqs, sx, sb1, sb2, sb3, sb4, sb5, ↓reduceIte, Nat.reduceAdd, Nat.reduceMul, Nat.reduceDiv, Nat.reduceEqDiff, Nat.reduceLT, Nat.reduceLeDiff, reduceCtorEq, Int.reduceEq, Int.reduceNe, Int.reduceLT, Int.reduceLE, Int.reduceAdd, Int.reduceSub, Int.reduceMul, Int.reduceNeg, Int.reduceToNat, Int.cast_ofNat_Int, Int.natCast_zero, Int.natCast_one, Int.toNat_natCast, Nat.reduceBEq, nzs, hu, e1, e2, iw (show u % 4096 < 9223372036854775808 by omega)]
theorem topR (a b : Int) (s t : List UInt8) (M : Mem) (hs : s.length ≤ maxLen) (ht : t.length ≤ maxLen) :
    Meets Proofs.Try.prog 3 [.v (.int .i64 a), .v (.int .i64 b), .v (.string ⟨s.toArray⟩), .v (.string ⟨t.toArray⟩)] M fun r _ _ => r = .v (.bool true) := by
  refine Meets.of_body [0,1,2,3,8,9,10,11,12,13,14,15,16,17,18,19,20,21,22,23,24,26,56,105,125,128] Proofs.Try.func3 rfl (by kernel_rfl) rfl fun w => ?_
  obtain ⟨k1, hk1, hw1⟩ := keepW a M
  simp only [Proofs.Try.f3, shs, zts, sos, sls, zss, eqs, sx, sb1, sb2, sb3, sb4, sb5, ↓reduceIte, Nat.reduceAdd, Nat.reduceMul, Nat.reduceDiv, Nat.reduceEqDiff, Nat.reduceLT, Nat.reduceLeDiff, reduceCtorEq, Int.reduceEq, Int.reduceNe, Int.reduceLT, Int.reduceLE, Int.reduceAdd, Int.reduceSub, Int.reduceMul, Int.reduceNeg, Int.reduceToNat, Int.cast_ofNat_Int, Int.natCast_zero, Int.natCast_one, Int.toNat_natCast, Nat.reduceBEq]
  refine CallK.pure ⟨rfl, rfl⟩ rfl (begun M) ?_
  simp only [shs, zts, sos, sls, zss, eqs, sx, sb1, sb2, sb3, sb4, sb5, ↓reduceIte, Nat.reduceAdd, Nat.reduceMul, Nat.reduceDiv, Nat.reduceEqDiff, Nat.reduceLT, Nat.reduceLeDiff, reduceCtorEq, Int.reduceEq, Int.reduceNe, Int.reduceLT, Int.reduceLE, Int.reduceAdd, Int.reduceSub, Int.reduceMul, Int.reduceNeg, Int.reduceToNat, Int.cast_ofNat_Int, Int.natCast_zero, Int.natCast_one, Int.toNat_natCast, Nat.reduceBEq]
  refine CallK.pure ⟨rfl, rfl⟩ rfl hw1 ?_
  have e1 : 2 + (k1 : Int) = ((2 + k1 : Nat) : Int) := by omega
  have i1 : inK .i64 ((2 + k1 : Nat) : Int) := i64N (by omega)
  simp only [shs, zts, sos, sls, zss, eqs, sx, sb1, sb2, sb3, sb4, sb5, ↓reduceIte, Nat.reduceAdd, Nat.reduceMul, Nat.reduceDiv, Nat.reduceEqDiff, Nat.reduceLT, Nat.reduceLeDiff, reduceCtorEq, Int.reduceEq, Int.reduceNe, Int.reduceLT, Int.reduceLE, Int.reduceAdd, Int.reduceSub, Int.reduceMul, Int.reduceNeg, Int.reduceToNat, Int.cast_ofNat_Int, Int.natCast_zero, Int.natCast_one, Int.toNat_natCast, Nat.reduceBEq, e1, i1]
  refine CallK.res rfl rfl (Next (2 + k1) M (by omega)) (fun r M' ⟨v, h, _⟩ => by subst h; rfl) fun r M1 hM1 ⟨p, hr, hp⟩ => ?_
  subst hr
  obtain ⟨pI, pL⟩ := next_small hp (by omega)
  have p2 := pI.1
  have ep : nextE p = 0 := if_neg (by omega)
  obtain ⟨k2, hk2, hw2⟩ := keepW b M1
  simp only [shs, zts, sos, sls, zss, eqs, sx, sb1, sb2, sb3, sb4, sb5, ↓reduceIte, Nat.reduceAdd, Nat.reduceMul, Nat.reduceDiv, Nat.reduceEqDiff, Nat.reduceLT, Nat.reduceLeDiff, reduceCtorEq, Int.reduceEq, Int.reduceNe, Int.reduceLT, Int.reduceLE, Int.reduceAdd, Int.reduceSub, Int.reduceMul, Int.reduceNeg, Int.reduceToNat, Int.cast_ofNat_Int, Int.natCast_zero, Int.natCast_one, Int.toNat_natCast, Nat.reduceBEq, ep]
  refine CallK.pure ⟨rfl, rfl⟩ rfl hw2 ?_
  have e2 : 2 + (k2 : Int) = ((2 + k2 : Nat) : Int) := by omega
  have i2 : inK .i64 ((2 + k2 : Nat) : Int) := i64N (by omega)
  simp only [shs, zts, sos, sls, zss, eqs, sx, sb1, sb2, sb3, sb4, sb5, ↓reduceIte, Nat.reduceAdd, Nat.reduceMul, Nat.reduceDiv, Nat.reduceEqDiff, Nat.reduceLT, Nat.reduceLeDiff, reduceCtorEq, Int.reduceEq, Int.reduceNe, Int.reduceLT, Int.reduceLE, Int.reduceAdd, Int.reduceSub, Int.reduceMul, Int.reduceNeg, Int.reduceToNat, Int.cast_ofNat_Int, Int.natCast_zero, Int.natCast_one, Int.toNat_natCast, Nat.reduceBEq, e2, i2]
  refine CallK.res rfl rfl (Next (2 + k2) M1 (by omega)) (fun r M' ⟨v, h, _⟩ => by subst h; rfl) fun r M2 hM2 ⟨q, hr, hq⟩ => ?_
  subst hr
  obtain ⟨qI, qL⟩ := next_small hq (by omega)
  have q2 := qI.1
  have eq : nextE q = 0 := if_neg (by omega)
  have hsz := sz_mulp (a := p) (b := q) (by omega) (by omega)
  have sp : sz p ≤ 13 := sz_le.2 (by omega)
  have sq : sz q ≤ 13 := sz_le.2 (by omega)
  have sp2 := sz_two p2
  have sq2 := sz_two q2
  have hmL : mulp p q < 2 ^ 25 := sz_le.1 (by omega)
  have hm2 : 2 ^ 1 ≤ mulp p q := lt_sz.1 (by omega)
  have hMul := Mul p q M2 (by omega) (by omega)
  rw [mulV, if_pos (by omega)] at hMul
  have hb := both (D := full (s.take (min s.length t.length)) 1 ^^^ full (t.take (min s.length t.length)) 1) pI qI
  have hpp : dv (mulp p p) (full (s.take (min s.length t.length)) 1 ^^^ full (t.take (min s.length t.length)) 1) → dv p (full (s.take (min s.length t.length)) 1 ^^^ full (t.take (min s.length t.length)) 1) := fun h => dv_trans ⟨p, rfl⟩ h
  rw [← prf_eq (m := mulp p q) (by omega), ← prf_eq p2, ← prf_eq q2] at hb
  have hpp' : p = q → prf (mulp p q) (s.take (min s.length t.length)) 1 = prf (mulp p q) (t.take (min s.length t.length)) 1 → prf p (s.take (min s.length t.length)) 1 = prf p (t.take (min s.length t.length)) 1 := fun e => by
    subst e
    rw [prf_eq (by omega), prf_eq p2]
    exact hpp
  have ln : min ((s.length : Nat) : Int) ((t.length : Nat) : Int) = ((min s.length t.length : Nat) : Int) := by omega
  have lS : (s.take (min s.length t.length)).length = min s.length t.length := by rw [List.length_take]; omega
  have lT : (t.take (min s.length t.length)).length = min s.length t.length := by rw [List.length_take]; omega
  clear hpp hk1 hk2 hw1 hw2
  generalize hm : mulp p q = m at *
  simp only [shs, zts, sos, sls, zss, eqs, sx, sb1, sb2, sb3, sb4, sb5, ↓reduceIte, Nat.reduceAdd, Nat.reduceMul, Nat.reduceDiv, Nat.reduceEqDiff, Nat.reduceLT, Nat.reduceLeDiff, reduceCtorEq, Int.reduceEq, Int.reduceNe, Int.reduceLT, Int.reduceLE, Int.reduceAdd, Int.reduceSub, Int.reduceMul, Int.reduceNeg, Int.reduceToNat, Int.cast_ofNat_Int, Int.natCast_zero, Int.natCast_one, Int.toNat_natCast, Nat.reduceBEq, eq]
  refine CallK.pure ⟨rfl, rfl⟩ rfl hMul ?_
  simp only [shs, zts, sos, sls, zss, eqs, sx, sb1, sb2, sb3, sb4, sb5, ↓reduceIte, Nat.reduceAdd, Nat.reduceMul, Nat.reduceDiv, Nat.reduceEqDiff, Nat.reduceLT, Nat.reduceLeDiff, reduceCtorEq, Int.reduceEq, Int.reduceNe, Int.reduceLT, Int.reduceLE, Int.reduceAdd, Int.reduceSub, Int.reduceMul, Int.reduceNeg, Int.reduceToNat, Int.cast_ofNat_Int, Int.natCast_zero, Int.natCast_one, Int.toNat_natCast, Nat.reduceBEq, ln]
  refine DrawK.plan (tk [0, 1, 2, 3, 4, 5] (ones' [6, 7] .done)) (by kernel_rfl) (by kernel_rfl) ?_
  simp only [shs, zts, sos, sls, zss, eqs, sx, sb1, sb2, sb3, sb4, sb5, ↓reduceIte, Nat.reduceAdd, Nat.reduceMul, Nat.reduceDiv, Nat.reduceEqDiff, Nat.reduceLT, Nat.reduceLeDiff, reduceCtorEq, Int.reduceEq, Int.reduceNe, Int.reduceLT, Int.reduceLE, Int.reduceAdd, Int.reduceSub, Int.reduceMul, Int.reduceNeg, Int.reduceToNat, Int.cast_ofNat_Int, Int.natCast_zero, Int.natCast_one, Int.toNat_natCast, Nat.reduceBEq, nzs, se1, se2, tks, List.drop_zero, Nat.sub_zero]
  refine ⟨by omega, by omega, ?_⟩
  generalize s.take (min s.length t.length) = s' at *
  generalize t.take (min s.length t.length) = t' at *
  generalize min s.length t.length = n at *
  by_cases hn : 600 < n
  · have em : ∀ (x : Nat) (u : List UInt8), 2 ≤ x → x ≤ 2147483647 → u.length = n → ofE (x : Int) u = 2 := fun x u h1 h2 h3 => by
      unfold ofE
      rw [if_neg (by omega), if_pos (by omega)]
    have o := fun (x : Nat) (u : List UInt8) (h1 : 2 ≤ x) (h2 : x ≤ 2147483647) (h3 : u.length = n) => by
      have := of_bad (x : Int) u M2 (by rw [em x u h1 h2 h3]; omega)
      rw [em x u h1 h2 h3] at this
      exact this
    refine CallK.pure ⟨rfl, rfl⟩ rfl (o m s' (by omega) (by omega) lS) ?_
    simp only [shs, zts, sos, sls, zss, eqs, sx, sb1, sb2, sb3, sb4, sb5, ↓reduceIte, Nat.reduceAdd, Nat.reduceMul, Nat.reduceDiv, Nat.reduceEqDiff, Nat.reduceLT, Nat.reduceLeDiff, reduceCtorEq, Int.reduceEq, Int.reduceNe, Int.reduceLT, Int.reduceLE, Int.reduceAdd, Int.reduceSub, Int.reduceMul, Int.reduceNeg, Int.reduceToNat, Int.cast_ofNat_Int, Int.natCast_zero, Int.natCast_one, Int.toNat_natCast, Nat.reduceBEq]
    refine CallK.pure ⟨rfl, rfl⟩ rfl (o m t' (by omega) (by omega) lT) ?_
    simp only [shs, zts, sos, sls, zss, eqs, sx, sb1, sb2, sb3, sb4, sb5, ↓reduceIte, Nat.reduceAdd, Nat.reduceMul, Nat.reduceDiv, Nat.reduceEqDiff, Nat.reduceLT, Nat.reduceLeDiff, reduceCtorEq, Int.reduceEq, Int.reduceNe, Int.reduceLT, Int.reduceLE, Int.reduceAdd, Int.reduceSub, Int.reduceMul, Int.reduceNeg, Int.reduceToNat, Int.cast_ofNat_Int, Int.natCast_zero, Int.natCast_one, Int.toNat_natCast, Nat.reduceBEq]
    refine CallK.pure ⟨rfl, rfl⟩ rfl (o p s' (by omega) (by omega) lS) ?_
    simp only [shs, zts, sos, sls, zss, eqs, sx, sb1, sb2, sb3, sb4, sb5, ↓reduceIte, Nat.reduceAdd, Nat.reduceMul, Nat.reduceDiv, Nat.reduceEqDiff, Nat.reduceLT, Nat.reduceLeDiff, reduceCtorEq, Int.reduceEq, Int.reduceNe, Int.reduceLT, Int.reduceLE, Int.reduceAdd, Int.reduceSub, Int.reduceMul, Int.reduceNeg, Int.reduceToNat, Int.cast_ofNat_Int, Int.natCast_zero, Int.natCast_one, Int.toNat_natCast, Nat.reduceBEq]
    refine CallK.pure ⟨rfl, rfl⟩ rfl (o p t' (by omega) (by omega) lT) ?_
    simp only [shs, zts, sos, sls, zss, eqs, sx, sb1, sb2, sb3, sb4, sb5, ↓reduceIte, Nat.reduceAdd, Nat.reduceMul, Nat.reduceDiv, Nat.reduceEqDiff, Nat.reduceLT, Nat.reduceLeDiff, reduceCtorEq, Int.reduceEq, Int.reduceNe, Int.reduceLT, Int.reduceLE, Int.reduceAdd, Int.reduceSub, Int.reduceMul, Int.reduceNeg, Int.reduceToNat, Int.cast_ofNat_Int, Int.natCast_zero, Int.natCast_one, Int.toNat_natCast, Nat.reduceBEq]
    refine CallK.pure ⟨rfl, rfl⟩ rfl (o q s' (by omega) (by omega) lS) ?_
    simp only [shs, zts, sos, sls, zss, eqs, sx, sb1, sb2, sb3, sb4, sb5, ↓reduceIte, Nat.reduceAdd, Nat.reduceMul, Nat.reduceDiv, Nat.reduceEqDiff, Nat.reduceLT, Nat.reduceLeDiff, reduceCtorEq, Int.reduceEq, Int.reduceNe, Int.reduceLT, Int.reduceLE, Int.reduceAdd, Int.reduceSub, Int.reduceMul, Int.reduceNeg, Int.reduceToNat, Int.cast_ofNat_Int, Int.natCast_zero, Int.natCast_one, Int.toNat_natCast, Nat.reduceBEq]
    refine CallK.pure ⟨rfl, rfl⟩ rfl (o q t' (by omega) (by omega) lT) ?_
    simp only [shs, zts, sos, sls, zss, eqs, sx, sb1, sb2, sb3, sb4, sb5, ↓reduceIte, Nat.reduceAdd, Nat.reduceMul, Nat.reduceDiv, Nat.reduceEqDiff, Nat.reduceLT, Nat.reduceLeDiff, reduceCtorEq, Int.reduceEq, Int.reduceNe, Int.reduceLT, Int.reduceLE, Int.reduceAdd, Int.reduceSub, Int.reduceMul, Int.reduceNeg, Int.reduceToNat, Int.cast_ofNat_Int, Int.natCast_zero, Int.natCast_one, Int.toNat_natCast, Nat.reduceBEq]
  · have o := fun (x : Nat) (u : List UInt8) (h1 : 2 ≤ x) (h2 : x ≤ 2147483647) (h3 : u.length = n) => of_ok x u M2 h1 h2 (by omega)
    refine CallK.pure ⟨rfl, rfl⟩ rfl (o m s' (by omega) (by omega) lS) ?_
    simp only [shs, zts, sos, sls, zss, eqs, sx, sb1, sb2, sb3, sb4, sb5, ↓reduceIte, Nat.reduceAdd, Nat.reduceMul, Nat.reduceDiv, Nat.reduceEqDiff, Nat.reduceLT, Nat.reduceLeDiff, reduceCtorEq, Int.reduceEq, Int.reduceNe, Int.reduceLT, Int.reduceLE, Int.reduceAdd, Int.reduceSub, Int.reduceMul, Int.reduceNeg, Int.reduceToNat, Int.cast_ofNat_Int, Int.natCast_zero, Int.natCast_one, Int.toNat_natCast, Nat.reduceBEq]
    refine CallK.pure ⟨rfl, rfl⟩ rfl (o m t' (by omega) (by omega) lT) ?_
    simp only [shs, zts, sos, sls, zss, eqs, sx, sb1, sb2, sb3, sb4, sb5, ↓reduceIte, Nat.reduceAdd, Nat.reduceMul, Nat.reduceDiv, Nat.reduceEqDiff, Nat.reduceLT, Nat.reduceLeDiff, reduceCtorEq, Int.reduceEq, Int.reduceNe, Int.reduceLT, Int.reduceLE, Int.reduceAdd, Int.reduceSub, Int.reduceMul, Int.reduceNeg, Int.reduceToNat, Int.cast_ofNat_Int, Int.natCast_zero, Int.natCast_one, Int.toNat_natCast, Nat.reduceBEq]
    refine CallK.pure ⟨rfl, rfl⟩ rfl (o p s' (by omega) (by omega) lS) ?_
    simp only [shs, zts, sos, sls, zss, eqs, sx, sb1, sb2, sb3, sb4, sb5, ↓reduceIte, Nat.reduceAdd, Nat.reduceMul, Nat.reduceDiv, Nat.reduceEqDiff, Nat.reduceLT, Nat.reduceLeDiff, reduceCtorEq, Int.reduceEq, Int.reduceNe, Int.reduceLT, Int.reduceLE, Int.reduceAdd, Int.reduceSub, Int.reduceMul, Int.reduceNeg, Int.reduceToNat, Int.cast_ofNat_Int, Int.natCast_zero, Int.natCast_one, Int.toNat_natCast, Nat.reduceBEq]
    refine CallK.pure ⟨rfl, rfl⟩ rfl (o p t' (by omega) (by omega) lT) ?_
    simp only [shs, zts, sos, sls, zss, eqs, sx, sb1, sb2, sb3, sb4, sb5, ↓reduceIte, Nat.reduceAdd, Nat.reduceMul, Nat.reduceDiv, Nat.reduceEqDiff, Nat.reduceLT, Nat.reduceLeDiff, reduceCtorEq, Int.reduceEq, Int.reduceNe, Int.reduceLT, Int.reduceLE, Int.reduceAdd, Int.reduceSub, Int.reduceMul, Int.reduceNeg, Int.reduceToNat, Int.cast_ofNat_Int, Int.natCast_zero, Int.natCast_one, Int.toNat_natCast, Nat.reduceBEq]
    refine CallK.pure ⟨rfl, rfl⟩ rfl (o q s' (by omega) (by omega) lS) ?_
    simp only [shs, zts, sos, sls, zss, eqs, sx, sb1, sb2, sb3, sb4, sb5, ↓reduceIte, Nat.reduceAdd, Nat.reduceMul, Nat.reduceDiv, Nat.reduceEqDiff, Nat.reduceLT, Nat.reduceLeDiff, reduceCtorEq, Int.reduceEq, Int.reduceNe, Int.reduceLT, Int.reduceLE, Int.reduceAdd, Int.reduceSub, Int.reduceMul, Int.reduceNeg, Int.reduceToNat, Int.cast_ofNat_Int, Int.natCast_zero, Int.natCast_one, Int.toNat_natCast, Nat.reduceBEq]
    refine CallK.pure ⟨rfl, rfl⟩ rfl (o q t' (by omega) (by omega) lT) ?_
    generalize prf m s' 1 = x1 at *
    generalize prf m t' 1 = x2 at *
    generalize prf p s' 1 = x3 at *
    generalize prf p t' 1 = x4 at *
    generalize prf q s' 1 = x5 at *
    generalize prf q t' 1 = x6 at *
    have n1 : ((x1 : Int) = (x2 : Int)) = (x1 = x2) := by apply propext; omega
    have n2 : ((x3 : Int) = (x4 : Int)) = (x3 = x4) := by apply propext; omega
    have n3 : ((x5 : Int) = (x6 : Int)) = (x5 = x6) := by apply propext; omega
    by_cases hpq : p = q
    · have c1 : ((p : Int) = (q : Int)) = True := eq_true (by omega)
      have h9 := hpp' hpq
      simp only [shs, zts, sos, sls, zss, eqs, sx, sb1, sb2, sb3, sb4, sb5, ↓reduceIte, Nat.reduceAdd, Nat.reduceMul, Nat.reduceDiv, Nat.reduceEqDiff, Nat.reduceLT, Nat.reduceLeDiff, reduceCtorEq, Int.reduceEq, Int.reduceNe, Int.reduceLT, Int.reduceLE, Int.reduceAdd, Int.reduceSub, Int.reduceMul, Int.reduceNeg, Int.reduceToNat, Int.cast_ofNat_Int, Int.natCast_zero, Int.natCast_one, Int.toNat_natCast, Nat.reduceBEq, c1, n1, n2, n3]
      by_cases g : x1 = x2
      · have e3 := h9 g
        simp only [g, e3, decide_true, Bool.or_true]
      · simp only [g, decide_false, Bool.not_false, Bool.true_or]
    · have c1 : ((p : Int) = (q : Int)) = False := eq_false (by omega)
      have h9 := hb hpq
      simp only [shs, zts, sos, sls, zss, eqs, sx, sb1, sb2, sb3, sb4, sb5, ↓reduceIte, Nat.reduceAdd, Nat.reduceMul, Nat.reduceDiv, Nat.reduceEqDiff, Nat.reduceLT, Nat.reduceLeDiff, reduceCtorEq, Int.reduceEq, Int.reduceNe, Int.reduceLT, Int.reduceLE, Int.reduceAdd, Int.reduceSub, Int.reduceMul, Int.reduceNeg, Int.reduceToNat, Int.cast_ofNat_Int, Int.natCast_zero, Int.natCast_one, Int.toNat_natCast, Nat.reduceBEq, c1, n1, n2, n3]
      have : decide (x1 = x2) = (decide (x3 = x4) && decide (x5 = x6)) := by
        rw [← Bool.decide_and]
        exact decide_eq_decide.2 h9
      rw [this, beq_self_eq_true]
theorem topRL (a b : Int) (s t : List UInt8) (M : Mem) (_ : inK .i64 a) (_ : inK .i64 b) (hs : s.length ≤ maxLen) (ht : t.length ≤ maxLen) :
    Meets Proofs.Try.prog 3 [.v (.int .i64 a), .v (.int .i64 b), .v (.string ⟨s.toArray⟩), .v (.string ⟨t.toArray⟩)] M fun r _ _ => r = .v (.bool true) := topR a b s t M hs ht
end Go.X.Rb
