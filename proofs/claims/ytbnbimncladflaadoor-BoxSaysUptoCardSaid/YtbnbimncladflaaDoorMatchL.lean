/- The plain law of match: Lm.lg and Lm.rl are one. Conditions: the index lies in the string. -/
import Derived.Test.YtbnbimncladflaaDoorMatchR
set_option linter.unusedSimpArgs false
set_option linter.unusedVariables false
set_option maxHeartbeats 4000000
set_option maxRecDepth 20000
namespace Go.X.Lm
open Go Go.X

theorem ext_le (s : List UInt8) (i d : Nat) : ∀ f n, i + n ≤ s.length → n ≤ ext s i d f n ∧ ext s i d f n ≤ n + f ∧ i + ext s i d f n ≤ s.length
  | 0, n, h => by simp only [ext]; omega
  | f+1, n, h => by
    simp only [ext]
    split
    · rename_i hc
      have := ext_le s i d f (n+1) (by omega)
      omega
    · omega

theorem ext_eq (s : List UInt8) (i d : Nat) : ∀ f n, (∀ k, n ≤ k → k < ext s i d f n → s.getD (i+k) 0 = s.getD (i+k-d) 0) ∧
    (ext s i d f n < n + f → i + ext s i d f n < s.length → s.getD (i + ext s i d f n) 0 ≠ s.getD (i + ext s i d f n - d) 0)
  | 0, n => by simp only [ext]; exact ⟨fun k h1 h2 => by omega, fun h => by omega⟩
  | f+1, n => by
    simp only [ext]
    split
    · rename_i hc
      obtain ⟨h1, h2⟩ := ext_eq s i d f (n+1)
      refine ⟨fun k hk hk2 => ?_, fun h => h2 (by omega)⟩
      rcases Nat.lt_or_ge n k with h | h
      · exact h1 k h hk2
      · obtain rfl : k = n := by omega
        exact hc.2
    · rename_i hc
      exact ⟨fun k h1 h2 => by omega, fun _ hl he => hc ⟨hl, he⟩⟩

theorem take_iff (s : List UInt8) (i d n : Nat) (hd : d ≤ i) (hn : i + n ≤ s.length) : (s.drop (i-d)).take n = (s.drop i).take n ↔ ∀ k, k < n → s.getD (i+k) 0 = s.getD (i+k-d) 0 := by
  constructor
  · intro h k hk
    have h1 := congrArg (fun l => l[k]?) h
    simp only [List.getElem?_take, hk, if_true, List.getElem?_drop] at h1
    simp only [List.getD, ← h1, show i + k - d = i - d + k from by omega]
  · intro h
    apply List.ext_getElem?
    intro k
    simp only [List.getElem?_take, List.getElem?_drop]
    split
    · rename_i hk
      have := h k hk
      rw [List.getD, List.getD, List.getElem?_eq_getElem (show i + k < s.length by omega), List.getElem?_eq_getElem (show i + k - d < s.length by omega)] at this
      rw [List.getElem?_eq_getElem (show i + k < s.length by omega), List.getElem?_eq_getElem (show i - d + k < s.length by omega)]
      simp only [Option.getD_some] at this
      rw [this]
      congr 2
      omega
    · rfl

/-- a match of n bytes at distance d, if the longest has as many -/
theorem take_ext (s : List UInt8) (i d n : Nat) (hd : d ≤ i) (hn : n ≤ min 64 (s.length - i)) (hi : i ≤ s.length) : (s.drop (i-d)).take n = (s.drop i).take n ↔ n ≤ ext s i d 64 0 := by
  rw [take_iff s i d n hd (by omega)]
  obtain ⟨h1, h2⟩ := ext_eq s i d 64 0
  obtain ⟨h3, h4, h5⟩ := ext_le s i d 64 0 (by omega)
  constructor
  · intro h
    rcases Nat.lt_or_ge (ext s i d 64 0) n with hlt | hge
    · exact absurd (h _ hlt) (h2 (by omega) (by omega))
    · exact hge
  · intro h k hk
    exact h1 k (by omega) (by omega)

theorem rd_none (s : List UInt8) (i n : Nat) : ∀ f d, (∀ d', d ≤ d' → d' < d + f → ¬ (s.drop (i-d')).take n = (s.drop i).take n) → rd s i n f d = none
  | 0, d, _ => rfl
  | f+1, d, h => by
    simp only [rd, if_neg (h d (by omega) (by omega))]
    exact rd_none s i n f (d+1) fun d' h1 h2 => h d' (by omega) (by omega)
theorem rd_some (s : List UInt8) (i n D : Nat) : ∀ f d, d ≤ D → D < d + f → (s.drop (i-D)).take n = (s.drop i).take n → (∀ d', d ≤ d' → d' < D → ¬ (s.drop (i-d')).take n = (s.drop i).take n) → rd s i n f d = some D
  | 0, d, h1, h2, _, _ => by omega
  | f+1, d, h1, h2, h3, h4 => by
    simp only [rd]
    split
    · rename_i he
      rcases Nat.lt_or_ge d D with h | h
      · exact absurd he (h4 d (by omega) h)
      · have : d = D := by omega
        rw [this]
    · rename_i he
      rcases Nat.lt_or_ge d D with h | h
      · exact rd_some s i n D f (d+1) h (by omega) h3 fun d' h5 h6 => h4 d' (by omega) h6
      · have : d = D := by omega
        rw [this] at he; exact absurd h3 he

theorem lg_spec (s : List UInt8) (i : Nat) : ∀ f d di mo, (lg s i f d di mo = (di, mo) ∧ ∀ d', d ≤ d' → d' < d + f → ext s i d' 64 0 ≤ mo) ∨
    ∃ D m, lg s i f d di mo = (D, m) ∧ mo < m ∧ (d ≤ D ∧ D < d + f) ∧ ext s i D 64 0 = m ∧ (∀ d', d ≤ d' → d' < d + f → ext s i d' 64 0 ≤ m) ∧ ∀ d', d ≤ d' → d' < D → ext s i d' 64 0 < m
  | 0, d, di, mo => .inl ⟨rfl, fun d' _ _ => by omega⟩
  | f+1, d, di, mo => by
    simp only [lg]
    split
    · rename_i hc
      rcases lg_spec s i f (d+1) d (ext s i d 64 0) with ⟨h1, h2⟩ | ⟨D, m, h1, h2, h3, h4, h5, h6⟩
      · refine .inr ⟨d, _, h1, hc, by omega, rfl, fun d' h3 h4 => ?_, fun d' h3 h4 => by omega⟩
        rcases Nat.lt_or_ge d d' with h | h
        · exact h2 d' h (by omega)
        · have : d' = d := by omega
          rw [this]; exact Nat.le_refl _
      · refine .inr ⟨D, m, h1, by omega, by omega, h4, fun d' h7 h8 => ?_, fun d' h7 h8 => ?_⟩
        · rcases Nat.lt_or_ge d d' with h | h
          · exact h5 d' h (by omega)
          · have : d' = d := by omega
            rw [this]; omega
        · rcases Nat.lt_or_ge d d' with h | h
          · exact h6 d' h h8
          · have : d' = d := by omega
            rw [this]; omega
    · rename_i hc
      rcases lg_spec s i f (d+1) di mo with ⟨h1, h2⟩ | ⟨D, m, h1, h2, h3, h4, h5, h6⟩
      · refine .inl ⟨h1, fun d' h3 h4 => ?_⟩
        rcases Nat.lt_or_ge d d' with h | h
        · exact h2 d' h (by omega)
        · have : d' = d := by omega
          rw [this]; omega
      · refine .inr ⟨D, m, h1, by omega, by omega, h4, fun d' h7 h8 => ?_, fun d' h7 h8 => ?_⟩
        · rcases Nat.lt_or_ge d d' with h | h
          · exact h5 d' h (by omega)
          · have : d' = d := by omega
            rw [this]; omega
        · rcases Nat.lt_or_ge d d' with h | h
          · exact h6 d' h h8
          · have : d' = d := by omega
            rw [this]; omega

theorem lg_rl (s : List UInt8) (i M : Nat) (hi : i ≤ s.length) (hM : M ≤ i) : lg s i M 1 0 0 = rl s i M (min 64 (s.length - i)) := by
  have hle : ∀ d, ext s i d 64 0 ≤ min 64 (s.length - i) := fun d => by have := ext_le s i d 64 0 (by omega); omega
  rcases lg_spec s i M 1 0 0 with ⟨h1, h2⟩ | ⟨D, m, h1, h2, h3, h4, h5, h6⟩
  · rw [h1]
    have key : ∀ n, n ≤ min 64 (s.length - i) → rl s i M n = (0, 0) := by
      intro n
      induction n with
      | zero => intro _; rfl
      | succ n ih =>
        intro hn
        have hr : rd s i (n+1) M 1 = none := rd_none s i (n+1) M 1 fun d' h3 h4 he => by
          have := (take_ext s i d' (n+1) (by omega) hn hi).1 he
          have := h2 d' h3 h4
          omega
        simp only [rl, hr]
        exact ih (by omega)
    exact (key _ (Nat.le_refl _)).symm
  · rw [h1]
    have hm : m ≤ min 64 (s.length - i) := by rw [← h4]; exact hle D
    have key : ∀ n, m ≤ n → n ≤ min 64 (s.length - i) → rl s i M n = (D, m) := by
      intro n
      induction n with
      | zero => intro h; omega
      | succ n ih =>
        intro hmn hn
        rcases Nat.lt_or_ge m (n+1) with h | h
        · have hr : rd s i (n+1) M 1 = none := rd_none s i (n+1) M 1 fun d' h7 h8 he => by
            have := (take_ext s i d' (n+1) (by omega) hn hi).1 he
            have := h5 d' h7 h8
            omega
          simp only [rl, hr]
          exact ih (by omega) (by omega)
        · have hmn' : m = n + 1 := by omega
          have hr : rd s i (n+1) M 1 = some D := rd_some s i (n+1) D M 1 h3.1 h3.2 ((take_ext s i D (n+1) (by omega) hn hi).2 (by omega)) fun d' h7 h8 he => by
            have := (take_ext s i d' (n+1) (by omega) hn hi).1 he
            have := h6 d' h7 h8
            omega
          simp only [rl, hr, hmn']
    exact (key _ hm (Nat.le_refl _)).symm
end Go.X.Lm
