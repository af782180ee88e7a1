/- Registrations, as lists: sorted by hand; keys set and struck. Conditions: none. -/
import Derived.Test.YtolifffhoahioaaResvB
import Derived.Test.YtolifffhoahioaaSlR
set_option linter.unusedSimpArgs false
set_option linter.unusedVariables false
set_option maxHeartbeats 4000000
set_option maxRecDepth 20000
namespace Go.X.Rv
open Go Go.X Go.X.Rp Go.X.Sl

/-- sorted by hands from a to 7, keys from 1 to 1000 -/
def srt : Int → List (Int × Int) → Prop
  | _, [] => True
  | a, x :: l => (a ≤ x.1 ∧ x.1 ≤ 7) ∧ (1 ≤ x.2 ∧ x.2 ≤ 1000) ∧ srt (x.1 + 1) l
theorem srt_mono {a b : Int} : ∀ {l : List (Int × Int)}, a ≤ b → srt b l → srt a l
  | [], _, _ => trivial
  | x :: l, h, ⟨h1, h2, h3⟩ => ⟨⟨by omega, h1.2⟩, h2, h3⟩
theorem srt_ck : ∀ {l : List (Int × Int)} {last : Int}, -1 ≤ last → ck l last = 0 → srt (last + 1) l
  | [], _, _, _ => trivial
  | x :: l, last, h0, h => by
    simp only [ck] at h
    split at h
    · cases h
    · split at h
      · cases h
      · exact ⟨by omega, by omega, srt_ck (by omega) h⟩
theorem ky_lt {w : Int} : ∀ {l : List (Int × Int)} {a : Int}, srt a l → w < a → ky w l = 0
  | [], _, _, _ => rfl
  | x :: l, a, ⟨h1, h2, h3⟩, h => by
    rw [ky, if_neg (by omega)]
    exact ky_lt h3 (by omega)
theorem ky_pos {w : Int} : ∀ {l : List (Int × Int)} {a : Int}, srt a l → 0 ≤ ky w l ∧ ky w l ≤ 1000
  | [], _, _ => ⟨by simp [ky], by simp [ky]⟩
  | x :: l, a, ⟨h1, h2, h3⟩ => by
    rw [ky]
    split
    · omega
    · exact ky_pos h3
/-- what is listed of a table of keys -/
def gen (f : Int → Int) : Nat → Int → List (Int × Int)
  | 0, _ => []
  | n + 1, a => if 0 < f a then (a, f a) :: gen f n (a + 1) else gen f n (a + 1)
theorem gen_congr {f g : Int → Int} : ∀ {n : Nat} {a : Int}, (∀ h, a ≤ h → h < a + n → f h = g h) → gen f n a = gen g n a
  | 0, _, _ => rfl
  | n + 1, a, h => by
    rw [gen, gen, h a (by omega) (by omega), gen_congr (n := n) (a := a + 1) (fun q h1 h2 => h q (by omega) (by omega))]
theorem gen_srt : ∀ {n : Nat} {a : Int} {l : List (Int × Int)}, a + n = 8 → srt a l → gen (fun h => ky h l) n a = l
  | 0, a, [], _, _ => rfl
  | 0, a, x :: l, h, ⟨h1, _, _⟩ => by omega
  | n + 1, a, [], h, _ => by
    rw [gen, if_neg (by simp [ky])]
    exact gen_srt (by omega) trivial
  | n + 1, a, x :: l, h, ⟨h1, h2, h3⟩ => by
    by_cases hx : x.1 = a
    · rw [gen]
      have e1 : ky a (x :: l) = x.2 := by rw [ky, if_pos hx]
      rw [e1, if_pos (by omega), gen_congr (g := fun h => ky h l) (fun q h4 h5 => by simp only [ky]; rw [if_neg (by omega)]), gen_srt (by omega) (srt_mono (by omega) h3)]
      rw [← hx]
    · rw [gen]
      have e1 : ky a (x :: l) = 0 := ky_lt (a := a + 1) ⟨⟨by omega, h1.2⟩, h2, h3⟩ (by omega)
      rw [e1, if_neg (by omega)]
      exact gen_srt (by omega) ⟨⟨by omega, h1.2⟩, h2, h3⟩
/-- the listed keys, one hand's turned -/
def kr (l : List (Int × Int)) (w key : Int) : List (Int × Int) := gen (fun h => if h = w then key else ky h l) 8 0
theorem kr_of {l l' : List (Int × Int)} {w key : Int} (hs : srt 0 l') (h : ∀ q, 0 ≤ q → q ≤ 7 → ky q l' = if q = w then key else ky q l) : kr l w key = l' := by
  unfold kr
  rw [gen_congr (g := fun q => ky q l') (fun q h1 h2 => (h q h1 (by omega)).symm)]
  exact gen_srt rfl hs
theorem kr_same {l : List (Int × Int)} (hs : srt 0 l) : kr l (-1) 0 = l := kr_of hs (fun q h1 h2 => by rw [if_neg (by omega)])
/-- struck -/
theorem srt_filter {w : Int} : ∀ {l : List (Int × Int)} {a : Int}, srt a l → srt a (l.filter fun x => !decide (x.1 = w))
  | [], _, _ => trivial
  | x :: l, a, ⟨h1, h2, h3⟩ => by
    by_cases hx : x.1 = w
    · rw [List.filter_cons_of_neg (by simp [hx])]
      exact srt_mono (by omega) (srt_filter h3)
    · rw [List.filter_cons_of_pos (by simp [hx])]
      exact ⟨h1, h2, srt_filter h3⟩
theorem ky_filter {w q : Int} : ∀ {l : List (Int × Int)} {a : Int}, srt a l → ky q (l.filter fun x => !decide (x.1 = w)) = if q = w then 0 else ky q l
  | [], _, _ => by simp [ky]
  | x :: l, a, ⟨h1, h2, h3⟩ => by
    have ih := ky_filter (w := w) (q := q) h3
    by_cases hx : x.1 = w
    · rw [List.filter_cons_of_neg (by simp [hx]), ih]
      by_cases hq : q = w
      · rw [if_pos hq, if_pos hq]
      · rw [if_neg hq, if_neg hq, ky, if_neg (by omega)]
    · rw [List.filter_cons_of_pos (by simp [hx]), ky]
      by_cases hxq : x.1 = q
      · rw [if_pos hxq, if_neg (by omega), ky, if_pos hxq]
      · rw [if_neg hxq, ih]
        by_cases hq : q = w
        · rw [if_pos hq, if_pos hq]
        · rw [if_neg hq, if_neg hq, ky, if_neg hxq]
theorem kr_del {l : List (Int × Int)} (w : Int) (hs : srt 0 l) : kr l w 0 = l.filter fun x => !decide (x.1 = w) := kr_of (srt_filter hs) (fun _ _ _ => ky_filter hs)
/-- turned -/
theorem fi_some {w : Int} : ∀ {l : List (Int × Int)} {i : Nat}, (fi w l i = -1 ∧ ∀ x ∈ l, x.1 ≠ w) ∨ ∃ j x, fi w l i = ((i + j : Nat) : Int) ∧ l[j]? = some x ∧ x.1 = w ∧ ky w l = x.2
  | [], i => .inl ⟨rfl, fun x hx => by cases hx⟩
  | y :: l, i => by
    by_cases hy : y.1 = w
    · exact .inr ⟨0, y, by simp [fi, hy], rfl, hy, by simp [ky, hy]⟩
    · rcases fi_some (w := w) (l := l) (i := i + 1) with ⟨h1, h2⟩ | ⟨j, x, h1, h2, h3, h4⟩
      · refine .inl ⟨by rw [fi, if_neg hy]; exact h1, fun x hx => ?_⟩
        rcases List.mem_cons.1 hx with rfl | hx
        · exact hy
        · exact h2 x hx
      · exact .inr ⟨j + 1, x, by rw [fi, if_neg hy, h1]; omega, h2, h3, by rw [ky, if_neg hy]; exact h4⟩
theorem srt_set {w key k0 : Int} (hk : 1 ≤ key ∧ key ≤ 1000) : ∀ {l : List (Int × Int)} {a : Int} {j : Nat}, srt a l → l[j]? = some (w, k0) → srt a (l.set j (w, key)) ∧ ∀ q, ky q (l.set j (w, key)) = if q = w then key else ky q l
  | [], _, _, _, h => by simp at h
  | x :: l, a, 0, ⟨h1, h2, h3⟩, h => by
    simp only [List.getElem?_cons_zero, Option.some.injEq] at h
    subst h
    refine ⟨⟨h1, hk, h3⟩, fun q => ?_⟩
    rw [List.set_cons_zero, ky, ky]
    by_cases hq : w = q
    · simp only [hq, if_true]
    · simp only [hq, if_false]
      rw [if_neg (fun e => hq e.symm)]
  | x :: l, a, j + 1, ⟨h1, h2, h3⟩, h => by
    obtain ⟨g1, g2⟩ := srt_set (w := w) (k0 := k0) (j := j) hk h3 (by simpa using h)
    refine ⟨⟨h1, h2, g1⟩, fun q => ?_⟩
    rw [List.set_cons_succ, ky, ky, g2 q]
    by_cases hq : x.1 = q
    · rw [if_pos hq, if_pos hq]
      have hlt : x.1 < w := by
        have hm : ∀ {m : List (Int × Int)} {b : Int}, srt b m → ∀ y ∈ m, b ≤ y.1 := by
          intro m
          induction m with
          | nil => intro b _ y hy; cases hy
          | cons z m ih =>
            intro b ⟨g3, _, g5⟩ y hy
            rcases List.mem_cons.1 hy with rfl | hy
            · exact g3.1
            · have := ih g5 y hy; omega
        have := hm h3 (w, k0) (List.mem_of_getElem? (by simpa using h))
        simp only at this
        omega
      rw [if_neg (by omega)]
    · rw [if_neg hq, if_neg hq]
/-- laid in -/
theorem srt_ins {w key : Int} (hk : 1 ≤ key ∧ key ≤ 1000) : ∀ {l : List (Int × Int)} {a : Int}, srt a l → a ≤ w → w ≤ 7 → (∀ x ∈ l, x.1 ≠ w) →
    srt a (l.take (bk (fun x => x.1 - w) l) ++ (w, key) :: l.drop (bk (fun x => x.1 - w) l)) ∧ ∀ q, ky q (l.take (bk (fun x => x.1 - w) l) ++ (w, key) :: l.drop (bk (fun x => x.1 - w) l)) = if q = w then key else ky q l
  | [], a, _, h1, h2, _ => by
    refine ⟨⟨⟨h1, h2⟩, hk, trivial⟩, fun q => ?_⟩
    simp only [bk, List.take_nil, List.drop_nil, List.nil_append, ky]
    by_cases hq : w = q
    · simp [hq]
    · rw [if_neg hq, if_neg (fun e => hq e.symm)]
  | x :: l, a, ⟨g1, g2, g3⟩, h1, h2, h3 => by
    have hx := h3 x List.mem_cons_self
    by_cases hlt : x.1 - w < 0
    · have ⟨i1, i2⟩ := srt_ins hk g3 (a := x.1 + 1) (by omega) h2 (fun y hy => h3 y (List.mem_cons_of_mem _ hy))
      rw [bk, if_pos hlt]
      refine ⟨⟨g1, g2, i1⟩, fun q => ?_⟩
      have := i2 q
      simp only [List.take_succ_cons, List.drop_succ_cons, List.cons_append, ky]
      rw [this]
      by_cases hq : x.1 = q
      · rw [if_pos hq, if_neg (fun e => hx (by omega)), if_pos hq]
      · rw [if_neg hq, if_neg hq]
    · rw [bk, if_neg hlt]
      simp only [List.take_zero, List.drop_zero, List.nil_append]
      refine ⟨⟨⟨h1, h2⟩, hk, ⟨⟨by simp only; omega, g1.2⟩, g2, g3⟩⟩, fun q => ?_⟩
      rw [ky]
      simp only
      by_cases hq : w = q
      · simp [hq]
      · rw [if_neg hq, if_neg (fun e => hq e.symm)]
theorem srt_cmp {w : Int} : ∀ {l : List (Int × Int)} {a : Int}, srt a l → ∀ (i j : Nat) (x y : Int × Int), i ≤ j → l[i]? = some x → l[j]? = some y → x.1 ≤ y.1
  | [], _, _, _, _, _, _, _, h, _ => by simp at h
  | z :: l, a, ⟨g1, g2, g3⟩, 0, 0, x, y, _, hx, hy => by rw [hx] at hy; cases hy; exact Int.le_refl _
  | z :: l, a, ⟨g1, g2, g3⟩, 0, j + 1, x, y, _, hx, hy => by
    simp only [List.getElem?_cons_zero, Option.some.injEq] at hx
    subst hx
    have hm : ∀ {m : List (Int × Int)} {b : Int}, srt b m → ∀ y ∈ m, b ≤ y.1 := by
      intro m
      induction m with
      | nil => intro b _ y hy; cases hy
      | cons z m ih =>
        intro b ⟨g3, _, g5⟩ y hy
        rcases List.mem_cons.1 hy with rfl | hy
        · exact g3.1
        · have := ih g5 y hy; omega
    have := hm g3 y (List.mem_of_getElem? (by simpa using hy))
    omega
  | z :: l, a, _, i + 1, 0, _, _, h, _, _ => by omega
  | z :: l, a, ⟨_, _, g3⟩, i + 1, j + 1, x, y, h, hx, hy => srt_cmp (w := w) g3 i j x y (by omega) (by simpa using hx) (by simpa using hy)
theorem srt_len : ∀ {l : List (Int × Int)} {a : Int}, 0 ≤ a → srt a l → (l.length : Int) + a ≤ 8 ∨ l = []
  | [], _, _, _ => .inr rfl
  | x :: l, a, h0, ⟨h1, h2, h3⟩ => by
    rcases srt_len (a := x.1 + 1) (by omega) h3 with h | rfl
    · exact .inl (by simp only [List.length_cons]; omega)
    · exact .inl (by simp; omega)
end Go.X.Rv
