/- tree.Verify and what woolref says of it. Conditions: none. -/
import Derived.Test.YtkhclplinfobdaaDoorPrint
set_option linter.unusedSimpArgs false
set_option linter.unusedVariables false
set_option maxHeartbeats 4000000
set_option maxRecDepth 20000
namespace Go.X.Tv
open Go Go.X Go.X.Pol Go.X.Pl Go.X.Rp Go.X.Pd Go.X.Md Go.X.Mv Go.X.Pt

def be4 (p : Nat) : List UInt8 := [UInt8.ofNat (p / 16777216), UInt8.ofNat (p / 65536), UInt8.ofNat (p / 256), UInt8.ofNat p]
theorem ofNat_mod (x : Nat) : UInt8.ofNat (x % 256) = UInt8.ofNat x := by
  apply UInt8.toNat_inj.1
  simp
theorem byteW (x : Nat) : UInt8.ofNat (IntKind.u8.wrap (x : Int)).toNat = UInt8.ofNat x := by
  have h : (IntKind.u8.wrap (x : Int)).toNat = x % 256 := by
    rw [IntKind.wrap_u8]
    omega
  rw [h, ofNat_mod]
def saidN (a b : Nat) : List UInt8 := 110 :: (be4 a ++ be4 b)

theorem be4_len (p : Nat) : (be4 p).length = 4 := rfl
theorem rfour (p : Nat) (M : Mem) (hp : p ≤ 2147483647) :
    Meets Proofs.Tryd.prog 44 [.v (.int .i64 (p : Int))] M fun r _ _ => r = .v (.string ⟨(be4 p).toArray⟩) := by
  refine Meets.of_body [0,2] Proofs.Tryd.func44 rfl (by kernel_rfl) rfl fun w => ?_
  have e1 : (p : Int).tdiv 16777216 = ((p / 16777216 : Nat) : Int) := (Int.ofNat_tdiv p 16777216).symm
  have e2 : (p : Int).tdiv 65536 = ((p / 65536 : Nat) : Int) := (Int.ofNat_tdiv p 65536).symm
  have e3 : (p : Int).tdiv 256 = ((p / 256 : Nat) : Int) := (Int.ofNat_tdiv p 256).symm
  have e4 : ∀ x : Nat, (x : Int).tmod 256 = ((x % 256 : Nat) : Int) := fun x => (Int.ofNat_tmod x 256).symm
  simp only [Proofs.Tryd.f44, shs, zts, sos, sls, zss, eqs, sx, sb1, sb2, sb3, sb4, sb5, sb6, sb7, ↓reduceIte, Nat.reduceAdd, Nat.reduceMul, Nat.reduceDiv, Nat.reduceEqDiff, Nat.reduceLT, Nat.reduceLeDiff, reduceCtorEq, Int.reduceEq, Int.reduceNe, Int.reduceLT, Int.reduceLE, Int.reduceAdd, Int.reduceSub, Int.reduceMul, Int.reduceNeg, Int.reduceToNat, Int.cast_ofNat_Int, Int.natCast_zero, Int.natCast_one, Int.toNat_natCast, Nat.reduceBEq, byteOf, e1, e2, e3, e4, byteW, ofNat_mod, inK, lo, hi]
  exact ⟨by omega, (fun h => by cases h), by omega, (fun h => by cases h), by omega, (fun h => by cases h), (fun h => by cases h), rfl⟩
theorem prf_le (m : Nat) (h0 : m ≠ 0) (hm : m ≤ 2147483647) : ∀ (s : List UInt8) (p : Nat), p ≤ 1073741824 → prf m s p ≤ 1073741824
  | [], p, h => h
  | b :: s, p, h => by
    simp only [prf, List.foldl_cons]
    exact prf_le m h0 hm s _ (red_le h0 hm)
theorem saidN_len (a b : Nat) : (saidN a b).length = 9 := rfl

/-! ### verifying -/
def encSt (s : Bool × Int) : List Value := [.bool s.1, .int .i64 s.2]
def G : Nat := 1073741907
def stepP (b : Bool) (s : Int) (p : Nat) : Nat := if b then prf G (saidN s.toNat p) 1 else prf G (saidN p s.toNat) 1
def good (s : Int) : Prop := 0 ≤ s ∧ s ≤ 2147483647
instance (s : Int) : Decidable (good s) := inferInstanceAs (Decidable (_ ∧ _))
/-- the steps' sides, from below -/
def bu : Nat → Nat → Nat → List Bool
  | 0, _, _ => []
  | f + 1, n, i => if 1 < n then (if i ^^^ 1 < n then [decide (i ^^^ 1 < i)] else []) ++ bu f ((n + 1) / 2) (i / 2) else []
def rf (root : Int) : List Bool → List (Bool × Int) → Nat → Bool
  | [], [], p => decide ((p : Int) = root)
  | b :: sd, (c, s) :: l, p => if c = b ∧ good s then rf root sd l (stepP c s p) else false
  | [], _ :: _, _ => false
  | _ :: _, [], _ => false

def tvE (n i : Int) (t : List UInt8) : Int := if ((n < 1 ∨ 32 < n) ∨ i < 0) ∨ n ≤ i then 1 else if 64 < (t.length : Int) then 2 else 0
/-! ### the document's sides -/
def spF (n : Nat) : Nat → Nat → Nat
  | 0, k => k
  | f + 1, k => if k * 2 < n then spF n f (k * 2) else k
def sd : Nat → Nat → Nat → List Bool
  | 0, _, _ => []
  | f + 1, n, i => if n = 1 then [] else if i < spF n 6 1 then sd f (spF n 6 1) i ++ [false] else sd f (n - spF n 6 1) (i - spF n 6 1) ++ [true]
theorem sd_len : ∀ f n i, (sd f n i).length ≤ f
  | 0, _, _ => Nat.le_refl _
  | f + 1, n, i => by
    simp only [sd]
    split
    · simp
    · split
      · have := sd_len f (spF n 6 1) i
        simp only [List.length_append, List.length_singleton]; omega
      · have := sd_len f (n - spF n 6 1) (i - spF n 6 1)
        simp only [List.length_append, List.length_singleton]; omega
theorem sd_one (f i : Nat) : sd f 1 i = [] := by cases f <;> simp [sd]
theorem sp_rng : ∀ n, n < 33 → 2 ≤ n → 1 ≤ spF n 6 1 ∧ spF n 6 1 < n := by decide +kernel
theorem bu_sd : ∀ n, n < 33 → ∀ i, i < 33 → 1 ≤ n → i < n → bu 32 n i = sd 32 n i := by decide +kernel

theorem rf_len (root : Int) : ∀ (s : List Bool) (l : List (Bool × Int)) (p : Nat), s.length ≠ l.length → rf root s l p = false
  | [], [], _, h => (h rfl).elim
  | _ :: s, (c, x) :: l, p, h => by
    simp only [rf]
    split
    · exact rf_len root s l _ (by simpa using h)
    · rfl
  | [], _ :: _, _, _ => rfl
  | _ :: _, [], _, _ => rfl

end Go.X.Tv
