/- What woolref says of polynomials: what each function returns. Conditions: none. -/
import Derived.Test.YtbnbimncladflaaPoly
set_option linter.unusedSimpArgs false
set_option linter.unusedVariables false
set_option maxHeartbeats 4000000
set_option maxRecDepth 20000
namespace Go.X.Rp
open Go Go.X Go.X.Pol Go.X.Pl

theorem within (x a b : Int) (M : Mem) : Meets Proofs.Try.prog 66 [.v (.int .i64 x), .v (.int .i64 a), .v (.int .i64 b)] M fun r _ _ => r = .v (.bool (decide (a ≤ x ∧ x ≤ b))) := by
  refine Meets.of_body [0,1,2,6] Proofs.Try.func66 rfl (by kernel_rfl) rfl fun w => ?_
  simp only [Proofs.Try.f66, shs, zts, sos, sls, zss, eqs, sx, sb1, sb2, sb3, sb4, sb5, sb6, sb7, ↓reduceIte, Nat.reduceAdd, Nat.reduceMul, Nat.reduceDiv, Nat.reduceEqDiff, Nat.reduceLT, Nat.reduceLeDiff, reduceCtorEq, Int.reduceEq, Int.reduceNe, Int.reduceLT, Int.reduceLE, Int.reduceAdd, Int.reduceSub, Int.reduceMul, Int.reduceNeg, Int.reduceToNat, Int.cast_ofNat_Int, Int.natCast_zero, Int.natCast_one, Int.toNat_natCast, Nat.reduceBEq]
  by_cases h : a ≤ x <;> by_cases h' : x ≤ b <;> simp [h, h']

def pe : List Int → Int
  | [] => 0
  | a :: l => if a < 0 ∨ 2147483647 < a then 1 else pe l

theorem drop_at {α : Type} {l : List α} {i : Nat} (h : i < l.length) : ∃ x, l[i]? = some x ∧ l.drop i = x :: l.drop (i + 1) :=
  ⟨_, List.getElem?_eq_getElem h, List.drop_eq_getElem_cons h⟩

theorem tm2 (x : Nat) : (x : Int).tmod 2 = ((x % 2 : Nat) : Int) := (Int.ofNat_tmod x 2).symm
theorem td2 (x : Nat) : (x : Int).tdiv 2 = ((x / 2 : Nat) : Int) := (Int.ofNat_tdiv x 2).symm
theorem pm2 (a k : Nat) : a / 2 ^ k / 2 = a / 2 ^ (k + 1) := by rw [Nat.div_div_eq_div_mul, Nat.pow_succ]

theorem i64N {x : Nat} (h : x ≤ 9223372036854775807) : (-9223372036854775808 : Int) ≤ (x : Int) ∧ (x : Int) ≤ 9223372036854775807 := by omega

theorem subV_full {M : Mem} {v : Value} {sz : Nat} {es : List (List Value)} (h : RowM M v sz es) : subV v sz 0 es.length = v := by
  have h1 := h.sl
  have h2 := h.len
  cases v <;> simp only [isSl, reduceCtorEq, Bool.false_eq_true] at h1
  rename_i ad n c
  simp only [lenV] at h2
  subst h2
  simp only [subV, Nat.sub_zero, Nat.zero_mul]
  congr 1
  split
  · rfl
  · cases ad with
    | none => rfl
    | some ad => simp only [Option.map_some, Addr.add_zero']
theorem subV_sub (v : Value) (sz k j : Nat) : subV (subV v sz 0 k) sz 0 j = subV v sz 0 j := by
  cases v <;> try rfl
  rename_i ad n c
  simp only [subV, Nat.sub_zero, Nat.zero_mul]
  congr 1
  split
  · rename_i h; simp only [h, if_true]
  · rename_i h
    cases ad with
    | none => rfl
    | some ad => simp only [Option.map_some, Addr.add_zero', ite_self]
theorem pre {M : Mem} {v : Value} {sz k : Nat} {es : List (List Value)} (h : RowM M v sz es) (hk : k ≤ es.length) : RowM M (subV v sz 0 k) sz (es.take k) := by
  have := h.sub (Nat.zero_le k) hk
  simpa using this
theorem preB {M : Mem} {v : Value} {n x k : Nat} (h : RowM M v 1 ((bitsL n x).map encT)) (hk : k ≤ n) : RowM M (subV v 1 0 k) 1 ((bitsL k x).map encT) := by
  have := pre h (k := k) (by rw [List.length_map, bitsL_len]; exact hk)
  rwa [← List.map_take, bitsL_take hk] at this

theorem gD {n z j : Nat} (h : j < n) : ((bitsL n z).map encT).getD j [] = [.bool (z.testBit j)] := by
  rw [List.getD_eq_getElem?_getD, List.getElem?_map, bitsL_get h]
  rfl
theorem setT {n z j : Nat} : ((bitsL n z).map encT).set j [.bool (!z.testBit j)] = (bitsL n (z ^^^ 2 ^ j)).map encT := by
  rw [← bitsL_flip, List.map_set]
  rfl
theorem setTrue {n z j : Nat} (h : z.testBit j = false) : ((bitsL n z).map encT).set j [.bool true] = (bitsL n (z ^^^ 2 ^ j)).map encT := by
  rw [← setT, h]
  rfl
theorem repF (n : Nat) : List.replicate n [Value.bool false] = (bitsL n 0).map encT := by
  induction n with
  | zero => rfl
  | succ n ih => rw [bitsL_succ, List.map_append, ← ih, List.replicate_succ']; simp [encT]
theorem sz_mulp_lt {a b n m : Nat} (h1 : sz a ≤ n) (h2 : sz b ≤ m) (hn : 1 ≤ n) : sz (mulp a b) ≤ n + m - 1 := by
  by_cases ha : a = 0
  · subst ha; rw [mulp_zero]; simp [sz_zero]
  by_cases hb : b = 0
  · subst hb; rw [mulp_zero_right]; simp [sz_zero]
  have := sz_mulp ha hb
  omega
theorem xor_right (a b c : Nat) : (a ^^^ b) ^^^ c = a ^^^ (b ^^^ c) := Nat.xor_assoc a b c
theorem mod_mul (b k i : Nat) : b % 2 ^ (k + 1) * 2 ^ i = b % 2 ^ k * 2 ^ i ^^^ (if b.testBit k then 2 ^ (i + k) else 0) := by
  rw [mod_succ, xor_pow]
  congr 1
  split
  · rw [← Nat.pow_add, Nat.add_comm]
  · rw [Nat.zero_mul]

theorem len_nil : lenV (.slice none 0 0) = 0 := rfl
/-! ### greatest common divisors -/
end Go.X.Rp
