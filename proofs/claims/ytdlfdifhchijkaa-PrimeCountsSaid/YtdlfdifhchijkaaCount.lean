/- woollaw.PrimeCounts returns true. Conditions: none. -/
import Derived.Test.YtdlfdifhchijkaaTy
set_option linter.unusedSimpArgs false
set_option linter.unusedVariables false
set_option maxHeartbeats 4000000
namespace Go.X.Ct
open Go Go.X

theorem tdiv_rng {a b : Int} (ha : 0 ≤ a) (hb : 0 < b) : 0 ≤ a.tdiv b ∧ a.tdiv b ≤ a := by
  rw [Int.tdiv_eq_ediv_of_nonneg ha]
  exact ⟨Int.ediv_nonneg ha (by omega), Int.ediv_le_self _ ha⟩
theorem tdiv_rng2 {a b B : Int} (hb : 0 < b) (h1 : -B ≤ a) (h2 : a ≤ B) : -B ≤ a.tdiv b ∧ a.tdiv b ≤ B := by
  rcases Int.le_total 0 a with h | h
  · have := tdiv_rng h hb; omega
  · have h3 := tdiv_rng (show 0 ≤ -a by omega) hb
    rw [Int.neg_tdiv] at h3
    omega
theorem mul_rng {a b A C : Int} (h1 : 0 ≤ a) (h2 : a ≤ A) (h3 : 0 ≤ b) (h4 : b ≤ C) : 0 ≤ a * b ∧ a * b ≤ A * C :=
  ⟨Int.mul_nonneg h1 h3, Int.mul_le_mul h2 h4 h3 (by omega)⟩

def mo : Nat → Int → Int → Int → Int
  | 0, _, out, _ => out
  | f+1, n, out, p => if p ≤ n then (if 0 < n.tmod p then mo f n out (p+1) else if (n.tdiv p).tmod p = 0 then 0 else mo f (n.tdiv p) (-out) (p+1)) else out
theorem mo_abs : ∀ f n out p, -1 ≤ out → out ≤ 1 → -1 ≤ mo f n out p ∧ mo f n out p ≤ 1
  | 0, n, out, p, h1, h2 => ⟨h1, h2⟩
  | f+1, n, out, p, h1, h2 => by
    simp only [mo]
    split
    · split
      · exact mo_abs f _ _ _ h1 h2
      · split
        · omega
        · exact mo_abs f _ _ _ (by omega) (by omega)
    · exact ⟨h1, h2⟩

theorem moebius (n : Int) (M : Mem) (h0 : 1 ≤ n) (h1 : n ≤ 30) :
    Meets Proofs.Try.prog 140 [.v (.int .i64 n)] M fun r _ _ => r = .v (.int .i64 (mo 31 n 1 2)) := by
  refine Meets.of_body [0,2,3,4,7,13,20] Proofs.Try.func140 rfl (by kernel_rfl) rfl fun w => ?_
  generalize hc : mo 31 n 1 2 = c
  simp only [Proofs.Try.f140, shs, sx, sb1, sb2, sb3, sb4, sb5, ↓reduceIte, Nat.reduceAdd, Nat.reduceMul, Nat.reduceDiv, Nat.reduceEqDiff, Nat.reduceLT, Nat.reduceLeDiff, reduceCtorEq, Int.reduceEq, Int.reduceNe, Int.reduceLT, Int.reduceLE, Int.reduceAdd, Int.reduceSub, Int.reduceMul, Int.reduceNeg, Int.reduceToNat]
  refine LoopK.go (X := Nat × Int × Int × Int) (fun x => ([(0, true, .v (.int .i64 x.2.1)), (2, true, .v (.int .i64 0)), (3, true, .v (.int .i64 x.2.2.1)), (4, true, .v (.int .i64 x.2.2.2))], [], M))
    (fun x => (((0 ≤ x.2.1 ∧ x.2.1 ≤ 30) ∧ -1 ≤ x.2.2.1 ∧ x.2.2.1 ≤ 1) ∧ 2 ≤ x.2.2.2 ∧ x.2.2.2 + x.1 = 33) ∧ mo x.1 x.2.1 x.2.2.1 x.2.2.2 = c) (fun x => x.1) (31, n, 1, 2) ⟨⟨⟨⟨by simp only; omega, by simp only; omega⟩, by simp, by simp⟩, by simp, by simp⟩, hc⟩ (Ent.of ?_) ?_
  · simp only [sx, sb1, sb2, sb3, sb4, sb5, ↓reduceIte, Nat.reduceAdd, Nat.reduceMul, Nat.reduceDiv, Nat.reduceEqDiff, Nat.reduceLT, Nat.reduceLeDiff, reduceCtorEq, Int.reduceEq, Int.reduceNe, Int.reduceLT, Int.reduceLE, Int.reduceAdd, Int.reduceSub, Int.reduceMul, Int.reduceNeg, Int.reduceToNat]
  rintro ⟨f, m, out, p⟩ ⟨⟨⟨h2, h3⟩, h4, h5⟩, h6⟩
  simp only at h2 h3 h4 h5 h6
  simp only [shs, sx, sb1, sb2, sb3, sb4, sb5, ↓reduceIte, Nat.reduceAdd, Nat.reduceMul, Nat.reduceDiv, Nat.reduceEqDiff, Nat.reduceLT, Nat.reduceLeDiff, reduceCtorEq, Int.reduceEq, Int.reduceNe, Int.reduceLT, Int.reduceLE, Int.reduceAdd, Int.reduceSub, Int.reduceMul, Int.reduceNeg, Int.reduceToNat, inK, lo, hi]
  refine ⟨fun hp => ?_, fun hp => ?_⟩
  · obtain ⟨f, rfl⟩ : ∃ g, f = g + 1 := ⟨f - 1, by omega⟩
    have hd := tdiv_rng h2.1 (show 0 < p by omega)
    simp only [mo, if_pos hp] at h6
    refine ⟨by omega, fun hr => ⟨by omega, (f, m, out, p+1), ⟨⟨⟨⟨h2, h3⟩, by simp only; omega⟩, by simp only; rw [if_pos hr] at h6; exact h6⟩, by simp⟩, Ent.of ?_⟩, fun hr => ?_⟩
    · simp only [sx, sb1, sb2, sb3, sb4, sb5, ↓reduceIte, Nat.reduceAdd, Nat.reduceMul, Nat.reduceDiv, Nat.reduceEqDiff, Nat.reduceLT, Nat.reduceLeDiff, reduceCtorEq, Int.reduceEq, Int.reduceNe, Int.reduceLT, Int.reduceLE, Int.reduceAdd, Int.reduceSub, Int.reduceMul, Int.reduceNeg, Int.reduceToNat]
    · rw [if_neg (by omega)] at h6
      refine ⟨⟨by omega, by omega⟩, by omega, fun hr2 => ?_, fun hr2 => ⟨by omega, by omega, (f, m.tdiv p, -out, p+1), ⟨⟨⟨⟨by simp only; omega, by simp only; omega⟩, by simp only; omega⟩, by simp only; rw [if_neg hr2] at h6; exact h6⟩, by simp⟩, Ent.of ?_⟩⟩
      · rw [if_pos hr2] at h6; rw [h6]
      · simp only [sx, sb1, sb2, sb3, sb4, sb5, ↓reduceIte, Nat.reduceAdd, Nat.reduceMul, Nat.reduceDiv, Nat.reduceEqDiff, Nat.reduceLT, Nat.reduceLeDiff, reduceCtorEq, Int.reduceEq, Int.reduceNe, Int.reduceLT, Int.reduceLE, Int.reduceAdd, Int.reduceSub, Int.reduceMul, Int.reduceNeg, Int.reduceToNat]
  · have : mo f m out p = out := by cases f with
      | zero => rfl
      | succ f => simp only [mo]; rw [if_neg (by omega)]
    rw [← h6, this]

def cs (n : Int) : Nat → Int → Int → Int
  | 0, _, sum => sum
  | f+1, d, sum => if d ≤ n then cs n f (d+1) (if n.tmod d = 0 then sum + mo 31 d 1 2 * 2 ^ (n.tdiv d).toNat else sum) else sum

theorem pow_rng (k : Nat) (h : k ≤ 30) : (1 : Int) ≤ 2 ^ k ∧ (2 : Int) ^ k ≤ 1073741824 := by
  have h1 : 2 ^ k ≤ 2 ^ 30 := Nat.pow_le_pow_right (by omega) h
  have h2 : 1 ≤ 2 ^ k := Nat.one_le_two_pow
  have e : ((2 ^ k : Nat) : Int) = 2 ^ k := by simp
  omega
theorem mo_pow (d : Int) (k : Nat) (h : k ≤ 30) : -1073741824 ≤ mo 31 d 1 2 * 2 ^ k ∧ mo 31 d 1 2 * 2 ^ k ≤ 1073741824 := by
  obtain ⟨h1, h2⟩ := mo_abs 31 d 1 2 (by omega) (by omega)
  obtain ⟨h3, h4⟩ := pow_rng k h
  generalize mo 31 d 1 2 = c at *
  have : c = -1 ∨ c = 0 ∨ c = 1 := by omega
  rcases this with rfl | rfl | rfl <;> omega

theorem count (n : Int) (M : Mem) (h0 : 1 ≤ n) (h1 : n ≤ 30) :
    Meets Proofs.Try.prog 30 [.v (.int .i64 n)] M fun r _ _ => r = .tup [.v (.int .i64 ((cs n 31 1 0).tdiv n)), .v (.int .i64 0)] := by
  refine Meets.of_body [0,2,3,4,5,11,14,20] Proofs.Try.func30 rfl (by kernel_rfl) rfl fun w => ?_
  generalize hc : cs n 31 1 0 = c
  simp only [Proofs.Try.f30, shs, sx, sb1, sb2, sb3, sb4, sb5, ↓reduceIte, Nat.reduceAdd, Nat.reduceMul, Nat.reduceDiv, Nat.reduceEqDiff, Nat.reduceLT, Nat.reduceLeDiff, reduceCtorEq, Int.reduceEq, Int.reduceNe, Int.reduceLT, Int.reduceLE, Int.reduceAdd, Int.reduceSub, Int.reduceMul, Int.reduceNeg, Int.reduceToNat]
  refine ⟨fun h => by omega, fun h => ?_⟩
  refine LoopK.go (X := Nat × Int × Int) (fun x => ([(0, true, .v (.int .i64 n)), (4, true, .v (.int .i64 x.2.2)), (5, true, .v (.int .i64 x.2.1))], [], M))
    (fun x => ((1 ≤ x.2.1 ∧ x.2.1 + x.1 = 32) ∧ -1073741824 * x.2.1 ≤ x.2.2 ∧ x.2.2 ≤ 1073741824 * x.2.1) ∧ cs n x.1 x.2.1 x.2.2 = c) (fun x => x.1) (31, 1, 0) ⟨⟨⟨by simp, by simp⟩, by simp, by simp⟩, hc⟩ (Ent.of ?_) ?_
  · simp only [sx, sb1, sb2, sb3, sb4, sb5, ↓reduceIte, Nat.reduceAdd, Nat.reduceMul, Nat.reduceDiv, Nat.reduceEqDiff, Nat.reduceLT, Nat.reduceLeDiff, reduceCtorEq, Int.reduceEq, Int.reduceNe, Int.reduceLT, Int.reduceLE, Int.reduceAdd, Int.reduceSub, Int.reduceMul, Int.reduceNeg, Int.reduceToNat]
  rintro ⟨f, d, sum⟩ ⟨⟨h2, h4, h5⟩, h6⟩
  simp only at h2 h4 h5 h6
  simp only [shs, sx, sb1, sb2, sb3, sb4, sb5, ↓reduceIte, Nat.reduceAdd, Nat.reduceMul, Nat.reduceDiv, Nat.reduceEqDiff, Nat.reduceLT, Nat.reduceLeDiff, reduceCtorEq, Int.reduceEq, Int.reduceNe, Int.reduceLT, Int.reduceLE, Int.reduceAdd, Int.reduceSub, Int.reduceMul, Int.reduceNeg, Int.reduceToNat, inK, lo, hi]
  refine ⟨fun hp => ?_, fun hp => ?_⟩
  · obtain ⟨f, rfl⟩ : ∃ g, f = g + 1 := ⟨f - 1, by omega⟩
    have hd := tdiv_rng (show 0 ≤ n by omega) (show 0 < d by omega)
    simp only [cs, if_pos hp] at h6
    refine ⟨by omega, fun hr => ?_, fun hr => ⟨by omega, (f, d+1, sum), ⟨⟨⟨by simp only; omega, by simp only; omega⟩, by simp only; rw [if_neg hr] at h6; exact h6⟩, by simp⟩, Ent.of ?_⟩⟩
    · refine DrawK.quiet (by kernel_rfl) (by kernel_rfl) ?_
      rw [if_pos hr] at h6
      have hb := mo_pow d (n.tdiv d).toNat (by omega)
      simp only [shs, sx, sb1, sb2, sb3, sb4, sb5, ↓reduceIte, Nat.reduceAdd, Nat.reduceMul, Nat.reduceDiv, Nat.reduceEqDiff, Nat.reduceLT, Nat.reduceLeDiff, reduceCtorEq, Int.reduceEq, Int.reduceNe, Int.reduceLT, Int.reduceLE, Int.reduceAdd, Int.reduceSub, Int.reduceMul, Int.reduceNeg, Int.reduceToNat, inK, lo, hi]
      refine ⟨_, ⟨⟨rfl, rfl⟩, moebius d M (by omega) (by omega)⟩, ?_⟩
      simp only [shs, sx, sb1, sb2, sb3, sb4, sb5, ↓reduceIte, Nat.reduceAdd, Nat.reduceMul, Nat.reduceDiv, Nat.reduceEqDiff, Nat.reduceLT, Nat.reduceLeDiff, reduceCtorEq, Int.reduceEq, Int.reduceNe, Int.reduceLT, Int.reduceLE, Int.reduceAdd, Int.reduceSub, Int.reduceMul, Int.reduceNeg, Int.reduceToNat, inK, lo, hi]
      rw [show ((IntKind.i64.bits : Nat) : Int) = 64 from rfl]
      refine ⟨by omega, by omega, by omega, by omega, (f, d+1, _), ⟨⟨⟨⟨by simp only; omega, by simp only; omega⟩, by simp only; omega, by simp only; omega⟩, h6⟩, by simp⟩, Ent.of ?_⟩
      simp only [sx, sb1, sb2, sb3, sb4, sb5, ↓reduceIte, Nat.reduceAdd, Nat.reduceMul, Nat.reduceDiv, Nat.reduceEqDiff, Nat.reduceLT, Nat.reduceLeDiff, reduceCtorEq, Int.reduceEq, Int.reduceNe, Int.reduceLT, Int.reduceLE, Int.reduceAdd, Int.reduceSub, Int.reduceMul, Int.reduceNeg, Int.reduceToNat]
    · simp only [sx, sb1, sb2, sb3, sb4, sb5, ↓reduceIte, Nat.reduceAdd, Nat.reduceMul, Nat.reduceDiv, Nat.reduceEqDiff, Nat.reduceLT, Nat.reduceLeDiff, reduceCtorEq, Int.reduceEq, Int.reduceNe, Int.reduceLT, Int.reduceLE, Int.reduceAdd, Int.reduceSub, Int.reduceMul, Int.reduceNeg, Int.reduceToNat]
  · have : cs n f d sum = sum := by cases f with
      | zero => rfl
      | succ f => simp only [cs]; rw [if_neg (by omega)]
    rw [this] at h6
    subst h6
    have := tdiv_rng2 (a := sum) (b := n) (B := 34359738368) (by omega) (by omega) (by omega)
    exact ⟨⟨by omega, by omega⟩, rfl⟩

/-- the counts, as the document's recursion gives them -/
def T : List Int := [0, 2, 1, 2, 3, 6, 9, 18, 30, 56, 99, 186, 335, 630, 1161, 2182, 4080, 7710, 14532, 27594, 52377, 99858, 190557, 364722, 698870, 1342176, 2580795, 4971008, 9586395, 18512790, 35790267]
def Tn (d : Int) : Int := T.getD d.toNat 0
def ra (n : Int) : Nat → Int → Int → Int
  | 0, _, all => all
  | f+1, d, all => if d < n then ra n f (d+1) (if n.tmod d = 0 then all - d * Tn d else all) else all
theorem T_rng (d : Int) : 0 ≤ Tn d ∧ Tn d ≤ 35790267 := by
  have : ∀ k, 0 ≤ T.getD k 0 ∧ T.getD k 0 ≤ 35790267 := fun k => by
    rcases Nat.lt_or_ge k 31 with h | h
    · exact (show ∀ k, k < 31 → 0 ≤ T.getD k 0 ∧ T.getD k 0 ≤ 35790267 by decide) k h
    · rw [List.getD_eq_getElem?_getD, List.getElem?_eq_none (show T.length ≤ k from h)]; simp
  exact this _
theorem T_ra : ∀ k : Nat, k < 31 → 1 ≤ k → (ra k 30 1 (2 ^ k)).tdiv k = T.getD k 0 := by decide +kernel
theorem T_cs : ∀ k : Nat, k < 31 → 1 ≤ k → (cs k 31 1 0).tdiv k = T.getD k 0 := by decide +kernel

theorem rcount : ∀ (N : Nat) (n : Int) (M : Mem), 1 ≤ n → n ≤ 30 → n ≤ N →
    Meets Proofs.Try.prog 31 [.v (.int .i64 n)] M fun r _ _ => r = .v (.int .i64 (Tn n))
  | 0, n, M, h0, h1, hN => by omega
  | N+1, n, M, h0, h1, hN => by
    refine Meets.of_body [0,2,3,4,9,15] Proofs.Try.func31 rfl (by kernel_rfl) rfl fun w => ?_
    have hT : (ra n 30 1 (2 ^ n.toNat)).tdiv n = Tn n := by
      have := T_ra n.toNat (by omega) (by omega)
      rw [Int.toNat_of_nonneg (by omega)] at this
      exact this
    generalize hc : ra n 30 1 (2 ^ n.toNat) = c at hT
    obtain ⟨hp1, hp2⟩ := pow_rng n.toNat (by omega)
    simp only [Proofs.Try.f31, shs, sx, sb1, sb2, sb3, sb4, sb5, ↓reduceIte, Nat.reduceAdd, Nat.reduceMul, Nat.reduceDiv, Nat.reduceEqDiff, Nat.reduceLT, Nat.reduceLeDiff, reduceCtorEq, Int.reduceEq, Int.reduceNe, Int.reduceLT, Int.reduceLE, Int.reduceAdd, Int.reduceSub, Int.reduceMul, Int.reduceNeg, Int.reduceToNat, inK, lo, hi]
    rw [show ((IntKind.i64.bits : Nat) : Int) = 64 from rfl]
    refine ⟨by omega, ?_⟩
    refine LoopK.go (X := Nat × Int × Int) (fun x => ([(0, true, .v (.int .i64 n)), (3, true, .v (.int .i64 x.2.2)), (4, true, .v (.int .i64 x.2.1))], [], M))
      (fun x => ((1 ≤ x.2.1 ∧ x.2.1 + x.1 = 31) ∧ 1073741824 - 1073741824 * x.2.1 ≤ x.2.2 ∧ x.2.2 ≤ 1073741824 * x.2.1) ∧ ra n x.1 x.2.1 x.2.2 = c) (fun x => x.1) (30, 1, 2 ^ n.toNat) ⟨⟨⟨by simp, by simp⟩, by simp only; omega, by simp only; omega⟩, hc⟩ (Ent.of ?_) ?_
    · simp only [sx, sb1, sb2, sb3, sb4, sb5, ↓reduceIte, Nat.reduceAdd, Nat.reduceMul, Nat.reduceDiv, Nat.reduceEqDiff, Nat.reduceLT, Nat.reduceLeDiff, reduceCtorEq, Int.reduceEq, Int.reduceNe, Int.reduceLT, Int.reduceLE, Int.reduceAdd, Int.reduceSub, Int.reduceMul, Int.reduceNeg, Int.reduceToNat]; rw [Int.one_mul]
    rintro ⟨f, d, all⟩ ⟨⟨h2, h4, h5⟩, h6⟩
    simp only at h2 h4 h5 h6
    simp only [shs, sx, sb1, sb2, sb3, sb4, sb5, ↓reduceIte, Nat.reduceAdd, Nat.reduceMul, Nat.reduceDiv, Nat.reduceEqDiff, Nat.reduceLT, Nat.reduceLeDiff, reduceCtorEq, Int.reduceEq, Int.reduceNe, Int.reduceLT, Int.reduceLE, Int.reduceAdd, Int.reduceSub, Int.reduceMul, Int.reduceNeg, Int.reduceToNat, inK, lo, hi]
    refine ⟨fun hp => ?_, fun hp => ?_⟩
    · obtain ⟨f, rfl⟩ : ∃ g, f = g + 1 := ⟨f - 1, by omega⟩
      simp only [ra, if_pos hp] at h6
      refine ⟨by omega, fun hr => ?_, fun hr => ⟨by omega, (f, d+1, all), ⟨⟨⟨by simp only; omega, by simp only; omega⟩, by simp only; rw [if_neg hr] at h6; exact h6⟩, by simp⟩, Ent.of ?_⟩⟩
      · rw [if_pos hr] at h6
        refine CallK.pure ⟨rfl, rfl⟩ rfl (rcount N d M (by omega) (by omega) (by omega)) ?_
        have hm := mul_rng (show 0 ≤ d by omega) (show d ≤ 30 by omega) (T_rng d).1 (T_rng d).2
        simp only [shs, sx, sb1, sb2, sb3, sb4, sb5, ↓reduceIte, Nat.reduceAdd, Nat.reduceMul, Nat.reduceDiv, Nat.reduceEqDiff, Nat.reduceLT, Nat.reduceLeDiff, reduceCtorEq, Int.reduceEq, Int.reduceNe, Int.reduceLT, Int.reduceLE, Int.reduceAdd, Int.reduceSub, Int.reduceMul, Int.reduceNeg, Int.reduceToNat, inK, lo, hi]
        refine ⟨by omega, by omega, by omega, (f, d+1, _), ⟨⟨⟨⟨by simp only; omega, by simp only; omega⟩, by simp only; omega, by simp only; omega⟩, h6⟩, by simp⟩, Ent.of ?_⟩
        simp only [sx, sb1, sb2, sb3, sb4, sb5, ↓reduceIte, Nat.reduceAdd, Nat.reduceMul, Nat.reduceDiv, Nat.reduceEqDiff, Nat.reduceLT, Nat.reduceLeDiff, reduceCtorEq, Int.reduceEq, Int.reduceNe, Int.reduceLT, Int.reduceLE, Int.reduceAdd, Int.reduceSub, Int.reduceMul, Int.reduceNeg, Int.reduceToNat]
      · simp only [sx, sb1, sb2, sb3, sb4, sb5, ↓reduceIte, Nat.reduceAdd, Nat.reduceMul, Nat.reduceDiv, Nat.reduceEqDiff, Nat.reduceLT, Nat.reduceLeDiff, reduceCtorEq, Int.reduceEq, Int.reduceNe, Int.reduceLT, Int.reduceLE, Int.reduceAdd, Int.reduceSub, Int.reduceMul, Int.reduceNeg, Int.reduceToNat]
    · have : ra n f d all = all := by cases f with
        | zero => rfl
        | succ f => simp only [ra]; rw [if_neg (by omega)]
      rw [this] at h6
      subst h6
      have := tdiv_rng2 (a := all) (b := n) (B := 34359738368) (by omega) (by omega) (by omega)
      exact ⟨⟨by omega, by omega⟩, by rw [hT]⟩

theorem count_arg (n : Int) (M : Mem) (h : n < 1 ∨ 30 < n) :
    Meets Proofs.Try.prog 30 [.v (.int .i64 n)] M fun r _ _ => r = .tup [.v (.int .i64 0), .v (.int .i64 1)] := by
  refine Meets.of_body [0,2,3,4,5,11,14,20] Proofs.Try.func30 rfl (by kernel_rfl) rfl fun w => ?_
  simp only [Proofs.Try.f30, shs, sx, sb1, sb2, sb3, sb4, sb5, ↓reduceIte, Nat.reduceAdd, Nat.reduceMul, Nat.reduceDiv, Nat.reduceEqDiff, Nat.reduceLT, Nat.reduceLeDiff, reduceCtorEq, Int.reduceEq, Int.reduceNe, Int.reduceLT, Int.reduceLE, Int.reduceAdd, Int.reduceSub, Int.reduceMul, Int.reduceNeg, Int.reduceToNat]
  exact fun h => by omega

theorem says (n : Int) (M : Mem) (_ : inK .i64 n) :
    Meets Proofs.Try.prog 5 [.v (.int .i64 n)] M fun r _ _ => r = .v (.bool true) := by
  refine Meets.of_body [0,2,3,4,15] Proofs.Try.func5 rfl (by kernel_rfl) rfl fun w => ?_
  simp only [Proofs.Try.f5, shs, sx, sb1, sb2, sb3, sb4, sb5, ↓reduceIte, Nat.reduceAdd, Nat.reduceMul, Nat.reduceDiv, Nat.reduceEqDiff, Nat.reduceLT, Nat.reduceLeDiff, reduceCtorEq, Int.reduceEq, Int.reduceNe, Int.reduceLT, Int.reduceLE, Int.reduceAdd, Int.reduceSub, Int.reduceMul, Int.reduceNeg, Int.reduceToNat]
  by_cases h : n < 1 ∨ 30 < n
  · refine CallK.pure ⟨rfl, rfl⟩ rfl (count_arg n M h) ?_
    simp only [shs, sx, sb1, sb2, sb3, sb4, sb5, ↓reduceIte, Nat.reduceAdd, Nat.reduceMul, Nat.reduceDiv, Nat.reduceEqDiff, Nat.reduceLT, Nat.reduceLeDiff, reduceCtorEq, Int.reduceEq, Int.reduceNe, Int.reduceLT, Int.reduceLE, Int.reduceAdd, Int.reduceSub, Int.reduceMul, Int.reduceNeg, Int.reduceToNat]
    exact fun h => by omega
  · refine CallK.pure ⟨rfl, rfl⟩ rfl (count n M (by omega) (by omega)) ?_
    simp only [shs, sx, sb1, sb2, sb3, sb4, sb5, ↓reduceIte, Nat.reduceAdd, Nat.reduceMul, Nat.reduceDiv, Nat.reduceEqDiff, Nat.reduceLT, Nat.reduceLeDiff, reduceCtorEq, Int.reduceEq, Int.reduceNe, Int.reduceLT, Int.reduceLE, Int.reduceAdd, Int.reduceSub, Int.reduceMul, Int.reduceNeg, Int.reduceToNat]
    refine ⟨fun h => by omega, fun h => ?_⟩
    refine CallK.pure ⟨rfl, rfl⟩ rfl (rcount 30 n M (by omega) (by omega) (by omega)) ?_
    have : (cs n 31 1 0).tdiv n = Tn n := by
      have := T_cs n.toNat (by omega) (by omega)
      rw [Int.toNat_of_nonneg (by omega)] at this
      exact this
    rw [this]
    simp only [shs, sx, sb1, sb2, sb3, sb4, sb5, ↓reduceIte, Nat.reduceAdd, Nat.reduceMul, Nat.reduceDiv, Nat.reduceEqDiff, Nat.reduceLT, Nat.reduceLeDiff, reduceCtorEq, Int.reduceEq, Int.reduceNe, Int.reduceLT, Int.reduceLE, Int.reduceAdd, Int.reduceSub, Int.reduceMul, Int.reduceNeg, Int.reduceToNat]
end Go.X.Ct
