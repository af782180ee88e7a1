/- The tokens that lz.Parse makes, expanded, are the text. Conditions: none. -/
import Derived.Test.YtbnbimncladflaaDoorLzI
set_option linter.unusedSimpArgs false
set_option linter.unusedVariables false
set_option maxHeartbeats 4000000
set_option maxRecDepth 20000
namespace Go.X.Lz
open Go Go.X Go.RowKit Go.X.Lm

theorem take_snoc {s : List UInt8} {i : Nat} (h : i < s.length) : s.take i ++ [s.getD i 0] = s.take (i + 1) := by
  rw [List.take_add_one, List.getElem?_eq_getElem h, List.getD_eq_getElem?_getD, List.getElem?_eq_getElem h]
  rfl
theorem cpy_eq (s : List UInt8) (d : Nat) : ∀ (m i : Nat), i + m ≤ s.length → 1 ≤ d → d ≤ i → (∀ k, k < m → s.getD (i + k) 0 = s.getD (i + k - d) 0) → cpy m d (s.take i) = s.take (i + m)
  | 0, i, _, _, _, _ => rfl
  | m + 1, i, h, h1, h2, hk => by
    rw [cpy]
    have hlen : (s.take i).length = i := by rw [List.length_take]; omega
    have hg : (s.take i).getD (i - d) 0 = s.getD i 0 := by
      have := hk 0 (by omega)
      rw [Nat.add_zero] at this
      rw [this, List.getD_eq_getElem?_getD, List.getD_eq_getElem?_getD, List.getElem?_take, if_pos (by omega)]
    rw [hlen, hg, take_snoc (by omega), cpy_eq s d m (i + 1) (by omega) h1 (by omega) (fun k hkm => by
      have := hk (k + 1) (by omega)
      rw [show i + (k + 1) = i + 1 + k by omega] at this
      exact this)]
    congr 1
    omega
theorem exp_parse (s : List UInt8) (win : Nat) (hs : s.length ≤ 600) (hw : 1 ≤ win) (hw2 : win ≤ 256) : ∀ (f i : Nat), i ≤ s.length → s.length - i ≤ f → exp (parse s win f i) (s.take i) = (s, 0)
  | 0, i, hi, hf => by
    rw [parse, exp, List.take_of_length_le (by omega)]
  | f + 1, i, hi, hf => by
    rw [parse]
    have hlen : (s.take i).length = i := by rw [List.length_take]; omega
    split
    · rename_i hlt
      rw [exp]
      have hu := (s.getD i 0).toNat_lt
      by_cases h2 : (lgA s win i).2 < 2
      · have ht : tok s win i = (0, 0, ((s.getD i 0).toNat : Int)) := by unfold tok; rw [if_pos h2]
        have ha : adv s win i = 1 := by unfold adv; rw [if_pos h2]
        have hb : tkB (0, 0, ((s.getD i 0).toNat : Int)) = true := by
          unfold tkB
          rw [if_pos rfl, decide_eq_true_eq]
          exact ⟨rfl, by simp only; omega, by simp only; omega⟩
        rw [ht, ha, hb, if_neg (by decide), if_neg (by rw [hlen]; simp only; omega), if_neg (by rw [hlen]; simp only; omega), if_pos rfl]
        have : UInt8.ofNat ((s.getD i 0).toNat : Int).toNat = s.getD i 0 := by
          rw [Int.toNat_natCast]
          exact UInt8.ofNat_toNat
        simp only
        rw [this, take_snoc hlt]
        exact exp_parse s win hs hw hw2 f (i + 1) (by omega) (by omega)
      · rcases lg_spec s i (min win i) 1 0 0 with ⟨h3, _⟩ | ⟨D, m, h3, h4, h5, h6, _, _⟩
        · exact absurd (show (lgA s win i).2 < 2 by unfold lgA; rw [h3]; decide) h2
        · have hr : lgA s win i = (D, m) := h3
          rw [hr] at h2
          simp only at h2
          have ht : tok s win i = ((D : Int), (m : Int), 0) := by unfold tok; rw [hr, if_neg h2]
          have ha : adv s win i = m := by unfold adv; rw [hr, if_neg h2]
          obtain ⟨e1, e2, e3⟩ := ext_le s i D 64 0 (by omega)
          obtain ⟨e4, _⟩ := ext_eq s i D 64 0
          rw [h6] at e2 e3 e4
          have hb : tkB ((D : Int), (m : Int), 0) = true := by
            unfold tkB
            rw [if_neg (by simp only; omega), decide_eq_true_eq]
            exact ⟨⟨by simp only; omega, by simp only; omega⟩, ⟨by simp only; omega, by simp only; omega⟩, rfl⟩
          rw [ht, ha, hb, if_neg (by decide), if_neg (by rw [hlen]; simp only; omega), if_neg (by rw [hlen]; simp only; omega), if_neg (by simp only; omega)]
          simp only [Int.toNat_natCast]
          rw [cpy_eq s D m i e3 (by omega) (by omega) (fun k hk => e4 k (Nat.zero_le _) hk)]
          exact exp_parse s win hs hw hw2 f (i + m) (by omega) (by omega)
    · rw [exp, List.take_of_length_le (by omega)]
end Go.X.Lz
