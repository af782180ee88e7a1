/- Contracts of functions and the logic that they are proved in (4 texts in one). Conditions: none. -/
import Derived.Test.YtoohifeidifocaaMg9
import Derived.Test.YtoohifeidifocaaMg8
import Derived.Test.YtoohifeidifocaaBag
namespace Go.X.Bg
end Go.X.Bg
set_option linter.unusedSimpArgs false
set_option linter.unusedVariables false
set_option maxHeartbeats 4000000
set_option maxRecDepth 20000
namespace Go.X
open Go Go.RowKit

theorem beqB (a b : List UInt8) : ((⟨a.toArray⟩ : ByteArray) == ⟨b.toArray⟩) = decide (a = b) := by
  show (a.toArray == b.toArray) = _
  by_cases hab : a = b
  · subst hab; simp
  · rw [decide_eq_false hab, beq_eq_false_iff_ne]
    intro e
    exact hab (by simpa using congrArg Array.toList e)
theorem KeyT.string {P : Program} {kt : TypeId} (hd : P.underlying kt = some .string) : KeyT P kt (fun s : List UInt8 => Value.string ⟨s.toArray⟩) where
  known := ⟨_, hd⟩
  check := fun e w a => MapKept.run_checkKey hd (by simp [MapKept.IsKey]) e 9999
  eq := fun w a b => by
    have h := flat_run (P := P) (w := w) 1 9999 kt [.str] (by simp [flatT, hd]) [.string ⟨a.toArray⟩] [.string ⟨b.toArray⟩] ⟨trivial, trivial⟩
    have hg : aggT P kt = false := by simp [aggT, hd]
    simp only [packV, hg, eqLv, eqV, bl, Bool.and_true] at h
    exact h
  now := fun d a b h => by
    rw [hd] at h
    cases h
    left
    show some ((⟨a.toArray⟩ : ByteArray) == ⟨b.toArray⟩) = _
    congr 1
    exact beqB a b
  same := fun a => by
    have := beqB a a
    rw [decide_eq_true rfl] at this
    exact this
abbrev Id3 := Bool × Int × Int
def encId (i : Id3) : Value := .agg #[.bool i.1, .int .i64 i.2.1, .int .i64 i.2.2]
theorem ck3 (e : Bool) (n : Nat) (w : World) (a : Id3) : (Instr.checkKey e (n + 2) 48 (encId a)).run Proofs.Try.prog w = .ok () w := by
  have hu := Proofs.Try.underlying48
  have hb := Proofs.Try.underlying4
  have hi := Proofs.Try.underlying3
  have c0 : ∀ x : Bool, (Instr.checkKey e (n + 1) 4 (.bool x)).run Proofs.Try.prog w = .ok () w := fun x => by simp only [Instr.checkKey, Sem.run_bind, run_underlying hb, Result.andThen_ok, Sem.run_pure]
  have c1 : ∀ x : Int, (Instr.checkKey e (n + 1) 3 (.int .i64 x)).run Proofs.Try.prog w = .ok () w := fun x => by simp only [Instr.checkKey, Sem.run_bind, run_underlying hi, Result.andThen_ok, Sem.run_pure]
  rw [Instr.checkKey]
  simp only [encId, Sem.run_bind, run_underlying hu, Result.andThen_ok]
  have pb : ∀ off, off < 3 → (part 4 #[.bool a.1, .int .i64 a.2.1, .int .i64 a.2.2] off).run Proofs.Try.prog w = .ok ([.bool a.1, .int .i64 a.2.1, .int .i64 a.2.2].getD off undef) w := fun off ho =>
    run_part_list (n := 1) (g := false) (l := [.bool a.1, .int .i64 a.2.1, .int .i64 a.2.2]) (Option.isSome_iff_exists.1 (by kernel_rfl)) ⟨_, hb⟩ (by kernel_rfl) (by kernel_rfl) (by simpa using ho)
  have pi : ∀ off, off < 3 → (part 3 #[.bool a.1, .int .i64 a.2.1, .int .i64 a.2.2] off).run Proofs.Try.prog w = .ok ([.bool a.1, .int .i64 a.2.1, .int .i64 a.2.2].getD off undef) w := fun off ho =>
    run_part_list (n := 1) (g := false) (l := [.bool a.1, .int .i64 a.2.1, .int .i64 a.2.2]) (Option.isSome_iff_exists.1 (by kernel_rfl)) ⟨_, hi⟩ (by kernel_rfl) (by kernel_rfl) (by simpa using ho)
  simp [pb, pi, c0, c1, Result.andThen]
theorem KeyT.id : KeyT Proofs.Try.prog 48 encId where
  known := ⟨_, Proofs.Try.underlying48⟩
  check := fun e w a => ck3 e 9998 w a
  eq := fun w a b => by
    obtain ⟨a0, a1, a2⟩ := a
    obtain ⟨b0, b1, b2⟩ := b
    have h := flat_run (P := Proofs.Try.prog) (w := w) 8 9992 48 [.bool, .int .i64, .int .i64] (by kernel_rfl) [.bool a0, .int .i64 a1, .int .i64 a2] [.bool b0, .int .i64 b1, .int .i64 b2] ⟨trivial, ⟨rfl, rfl⟩, ⟨rfl, rfl⟩, trivial⟩
    have hg : aggT Proofs.Try.prog 48 = true := by kernel_rfl
    simp only [packV, hg, if_true] at h
    refine Eq.trans h ?_
    congr 1
    simp only [eqLv, eqV, Bool.and_true, Prod.mk.injEq, Bool.decide_and, Bool.beq_eq_decide_eq]
  now := fun d a b h => by
    rw [Proofs.Try.underlying48] at h
    cases h
    right
    rfl
  same := fun a => by
    show (Instr.sameBits (9999 + 1) _ _) = true
    rw [encId, Instr.sameBits]
    simp [Instr.sameBits]
end Go.X

namespace Go.X.Sg
open Go Go.X Go.X.Bg

theorem fidx_find {α : Type} (p : α → Bool) : ∀ (l : List α) (i : Nat), (fidx p l i = -1 ∧ l.find? p = none) ∨ ∃ (j : Nat) (x : α), fidx p l i = ((i + j : Nat) : Int) ∧ l[j]? = some x ∧ l.find? p = some x
  | [], i => .inl ⟨rfl, rfl⟩
  | x :: l, i => by
    cases hp : p x with
    | true => exact .inr ⟨0, x, by simp [fidx, hp], rfl, by simp [List.find?, hp]⟩
    | false =>
      rcases fidx_find p l (i + 1) with ⟨h1, h2⟩ | ⟨j, y, h1, h2, h3⟩
      · exact .inl ⟨by simp [fidx, hp, h1], by simp [List.find?, hp, h2]⟩
      · exact .inr ⟨j + 1, y, by simp only [fidx, hp, Bool.false_eq_true, if_false, h1]; omega, by simpa using h2, by simp [List.find?, hp, h3]⟩
def eligB (b : List It) (r : Rc) : Bool := match b.find? (isId r.1) with
  | some x => decide (x.2.2.1 = r.2)
  | none => false
theorem elig_eq {b : List It} {r r' : Rc} (h : eligB b r = true) (h' : eligB b r' = true) (e : r.1 = r'.1) : r = r' := by
  unfold eligB at h h'
  rw [← e] at h'
  cases hf : b.find? (isId r.1) with
  | none => rw [hf] at h; cases h
  | some x =>
    rw [hf] at h h'
    simp only [decide_eq_true_eq] at h h'
    exact Prod.ext e (h.symm.trans h')
def liveR (b : List It) : List Rc → List Rc → List Bool
  | [], _ => []
  | r :: s, t => (eligB b r && !decide (r ∈ s ++ t)) :: liveR b s t
def liveL (b : List It) : List (List Rc) → List (List Bool)
  | [] => []
  | s :: l => liveR b s l.flatten :: liveL b l
def pickR : List Rc → List Bool → List Rc
  | r :: s, true :: f => r :: pickR s f
  | _ :: s, false :: f => pickR s f
  | _, _ => []
def aliveL (b : List It) : List (List Rc) → List (List Rc)
  | [] => []
  | s :: l => pickR s (liveR b s l.flatten) :: aliveL b l
theorem liveR_len (b : List It) : ∀ (s t : List Rc), (liveR b s t).length = s.length
  | [], _ => rfl
  | r :: s, t => by simp only [liveR, List.length_cons, liveR_len b s t]
theorem liveL_len (b : List It) : ∀ (l : List (List Rc)), (liveL b l).length = l.length
  | [] => rfl
  | s :: l => by simp only [liveL, List.length_cons, liveL_len b l]
theorem aliveL_len (b : List It) : ∀ (l : List (List Rc)), (aliveL b l).length = l.length
  | [] => rfl
  | s :: l => by simp only [aliveL, List.length_cons, aliveL_len b l]
theorem liveL_drop (b : List It) : ∀ (l : List (List Rc)) (i : Nat), (liveL b l).drop i = liveL b (l.drop i)
  | [], i => by simp [liveL]
  | s :: l, 0 => rfl
  | s :: l, i + 1 => by simp only [liveL, List.drop_succ_cons, liveL_drop b l i]
theorem aliveL_drop (b : List It) : ∀ (l : List (List Rc)) (i : Nat), (aliveL b l).drop i = aliveL b (l.drop i)
  | [], i => by simp [aliveL]
  | s :: l, 0 => rfl
  | s :: l, i + 1 => by simp only [aliveL, List.drop_succ_cons, aliveL_drop b l i]
theorem liveL_at (b : List It) {l : List (List Rc)} {i : Nat} {s : List Rc} (h : l[i]? = some s) : (liveL b l)[i]? = some (liveR b s (l.drop (i + 1)).flatten) := by
  have h1 := liveL_drop b l i
  have hi := (List.getElem?_eq_some_iff.1 h).1
  have h2 : l.drop i = s :: l.drop (i + 1) := by
    rw [List.drop_eq_getElem_cons hi]
    congr 1
    exact (List.getElem?_eq_some_iff.1 h).2
  rw [h2, liveL] at h1
  have := congrArg (fun z => z[0]?) h1
  simpa [List.getElem?_drop] using this
theorem aliveL_at (b : List It) {l : List (List Rc)} {i : Nat} {s : List Rc} (h : l[i]? = some s) : (aliveL b l)[i]? = some (pickR s (liveR b s (l.drop (i + 1)).flatten)) := by
  have h1 := aliveL_drop b l i
  have hi := (List.getElem?_eq_some_iff.1 h).1
  have h2 : l.drop i = s :: l.drop (i + 1) := by
    rw [List.drop_eq_getElem_cons hi]
    congr 1
    exact (List.getElem?_eq_some_iff.1 h).2
  rw [h2, aliveL] at h1
  have := congrArg (fun z => z[0]?) h1
  simpa [List.getElem?_drop] using this
/-- what is in the map -/
def Seen (b : List It) (ids : List (Bool × Int × Int)) (t : List Rc) : Prop := ∀ id, id ∈ ids ↔ ∃ r ∈ t, r.1 = id ∧ eligB b r = true
theorem Seen.nil (b : List It) : Seen b [] [] := fun id => by simp
theorem Seen.test {b : List It} {ids : List (Bool × Int × Int)} {t : List Rc} (h : Seen b ids t) {r : Rc} (he : eligB b r = true) : r.1 ∈ ids ↔ r ∈ t := by
  rw [h r.1]
  constructor
  · rintro ⟨r', h1, h2, h3⟩
    rw [elig_eq he h3 h2.symm]
    exact h1
  · exact fun h1 => ⟨r, h1, rfl, he⟩
theorem Seen.add {b : List It} {ids : List (Bool × Int × Int)} {t : List Rc} (h : Seen b ids t) {r : Rc} (he : eligB b r = true) : Seen b (ids ++ [r.1]) (r :: t) := fun id => by
  rw [List.mem_append, h id, List.mem_singleton]
  constructor
  · rintro (⟨r', h1, h2⟩ | rfl)
    · exact ⟨r', List.mem_cons_of_mem _ h1, h2⟩
    · exact ⟨r, List.mem_cons_self, rfl, he⟩
  · rintro ⟨r', h1, h2, h3⟩
    rcases List.mem_cons.1 h1 with rfl | h1
    · exact .inr h2.symm
    · exact .inl ⟨r', h1, h2, h3⟩
theorem Seen.keep {b : List It} {ids : List (Bool × Int × Int)} {t : List Rc} (h : Seen b ids t) {r : Rc} (he : (eligB b r && !decide (r ∈ t)) = false) : Seen b ids (r :: t) := fun id => by
  rw [h id]
  constructor
  · rintro ⟨r', h1, h2⟩
    exact ⟨r', List.mem_cons_of_mem _ h1, h2⟩
  · rintro ⟨r', h1, h2, h3⟩
    rcases List.mem_cons.1 h1 with rfl | h1
    · refine ⟨r', ?_, h2, h3⟩
      rw [h3, Bool.true_and, Bool.not_eq_false', decide_eq_true_eq] at he
      exact he
    · exact ⟨r', h1, h2, h3⟩
/-- the test of the code -/
theorem elig_test (b : List It) (r : Rc) : (fidx (isId r.1) b 0 < 0 ∧ eligB b r = false) ∨ ∃ (j : Nat) (x : It), fidx (isId r.1) b 0 = (j : Int) ∧ b[j]? = some x ∧ eligB b r = decide (x.2.2.1 = r.2) := by
  unfold eligB
  rcases fidx_find (isId r.1) b 0 with ⟨h1, h2⟩ | ⟨j, x, h1, h2, h3⟩
  · left
    rw [h1, h2]
    exact ⟨by decide, rfl⟩
  · right
    refine ⟨j, x, by rw [h1, Nat.zero_add], h2, by rw [h3]⟩

/-! ### sizes, the least -/
theorem pick_sub : ∀ (s : List Rc) (f : List Bool), (pickR s f).Sublist s
  | [], [] => List.Sublist.refl _
  | [], _ :: _ => List.Sublist.refl _
  | _ :: _, [] => List.nil_sublist _
  | r :: s, true :: f => (pick_sub s f).cons_cons r
  | r :: s, false :: f => (pick_sub s f).cons r
theorem full_sub {l l' : List Rc} (h : l.Sublist l') : fullR l ≤ fullR l' := by
  induction h with
  | slnil => exact Nat.le_refl _
  | cons a _ ih => rw [fullR_cons]; omega
  | cons_cons a _ ih => rw [fullR_cons, fullR_cons]; omega
def isBest (l : List Nat) (b : Nat) : Prop := ∃ m, l[b]? = some m ∧ (∀ x ∈ l, m ≤ x) ∧ ∀ (j x : Nat), j < b → l[j]? = some x → m < x
theorem best_uniq {l : List Nat} {a b : Nat} (h : isBest l a) (h' : isBest l b) : a = b := by
  obtain ⟨m, h1, h2, h3⟩ := h
  obtain ⟨n, k1, k2, k3⟩ := h'
  have e1 := h2 n (List.mem_of_getElem? k1)
  have e2 := k2 m (List.mem_of_getElem? h1)
  rcases Nat.lt_trichotomy a b with h | h | h
  · have := k3 a m h h1; omega
  · exact h
  · have := h3 b n h k1; omega
/-- the first place of the least -/
theorem best_idx {l : List Nat} {m : Nat} (hm : m ∈ l) (hl : ∀ x ∈ l, m ≤ x) : ∃ b : Nat, fidx (fun x => decide (x = m)) l 0 = (b : Int) ∧ b < l.length ∧ isBest l b := by
  have key : ∀ (l : List Nat) (i : Nat), m ∈ l → ∃ b : Nat, fidx (fun x => decide (x = m)) l i = ((i + b : Nat) : Int) ∧ l[b]? = some m ∧ ∀ (j x : Nat), j < b → l[j]? = some x → x ≠ m := by
    intro l
    induction l with
    | nil => intro i h; cases h
    | cons a l ih =>
      intro i h
      by_cases ha : a = m
      · exact ⟨0, by simp [fidx, ha], by simp [ha], fun j x hj => by omega⟩
      · obtain ⟨b, h1, h2, h3⟩ := ih (i + 1) (by
          rcases List.mem_cons.1 h with h | h
          · exact absurd h.symm ha
          · exact h)
        refine ⟨b + 1, by simp only [fidx, decide_eq_true_eq, if_neg ha, h1]; omega, by simpa using h2, fun j x hj hx => ?_⟩
        cases j with
        | zero => simp at hx; omega
        | succ j => exact h3 j x (by omega) (by simpa using hx)
  obtain ⟨b, h1, h2, h3⟩ := key l 0 hm
  refine ⟨b, by rw [h1, Nat.zero_add], (List.getElem?_eq_some_iff.1 h2).1, m, h2, hl, fun j x hj hx => ?_⟩
  have := h3 j x hj hx
  have := hl x (List.mem_of_getElem? hx)
  omega
/-- the law's round -/
theorem best_step {l : List Nat} {b x : Nat} (hb : isBest l b) : isBest (l ++ [x]) (if x < (l[b]?).getD 0 then l.length else b) := by
  obtain ⟨m, h1, h2, h3⟩ := hb
  have hbl := (List.getElem?_eq_some_iff.1 h1).1
  rw [h1, Option.getD_some]
  split
  · rename_i hx
    refine ⟨x, by simp, fun y hy => ?_, fun j y hj hy => ?_⟩
    · rcases List.mem_append.1 hy with hy | hy
      · have := h2 y hy; omega
      · simp at hy; omega
    · rw [List.getElem?_append_left hj] at hy
      have := h2 y (List.mem_of_getElem? hy)
      omega
  · rename_i hx
    refine ⟨m, by rw [List.getElem?_append_left hbl]; exact h1, fun y hy => ?_, fun j y hj hy => ?_⟩
    · rcases List.mem_append.1 hy with hy | hy
      · exact h2 y hy
      · simp at hy; omega
    · rw [List.getElem?_append_left (by omega)] at hy
      exact h3 j y hj hy
theorem best_one (x : Nat) : isBest [x] 0 := ⟨x, rfl, fun y hy => by simp at hy; omega, fun j y hj => by omega⟩

/-! ### records that are put one by one -/
def fits (cur : List (List Rc)) (n : Nat) : Prop := n ≤ 200 ∧ (cur.length ≤ 15 ∨ (cur.length = 16 ∧ ∃ i s, cur = i ++ [s] ∧ fullR s + n ≤ 200))
theorem stand_fits {cur : List (List Rc)} {r : Rc} {n : Nat} (h : fits cur (sizeR r + n)) : fits (standL cur r) n := by
  obtain ⟨h1, h2⟩ := h
  refine ⟨by omega, ?_⟩
  rcases List.eq_nil_or_concat cur with rfl | ⟨i, s, rfl⟩
  · left
    simp [standL_nil]
  · rw [List.concat_eq_append] at *
    rw [standL_app]
    unfold standR
    rcases h2 with h2 | ⟨h2, i', s', he, h3⟩
    · simp only [List.length_append, List.length_singleton] at h2
      split
      · left; simp only [List.length_append, List.length_singleton]; omega
      · by_cases h4 : i.length ≤ 13
        · left; simp only [List.length_append, List.length_singleton]; omega
        · right
          refine ⟨by simp only [List.length_append, List.length_singleton]; omega, i ++ [s], [r], rfl, ?_⟩
          simp only [fullR, List.map_cons, List.map_nil, List.sum_cons, List.sum_nil]
          omega
    · obtain ⟨e1, e2⟩ := List.append_inj' he rfl
      injection e2 with e2 _
      subst e1 e2
      rw [if_pos (by omega)]
      right
      refine ⟨by simp only [List.length_append, List.length_singleton] at h2 ⊢; omega, i, s ++ [r], rfl, ?_⟩
      rw [fullR_app]
      simp only [fullR, List.map_cons, List.map_nil, List.sum_cons, List.sum_nil] at h3 ⊢
      omega
theorem fits_room {cur : List (List Rc)} {i : List (List Rc)} {s : List Rc} {r : Rc} {n : Nat} (h : fits cur (sizeR r + n)) (he : cur = i ++ [s]) : i.length ≤ 15 ∧ (fullR s + sizeR r ≤ 200 ∨ i.length + 1 ≠ 16) := by
  obtain ⟨h1, h2⟩ := h
  subst he
  simp only [List.length_append, List.length_singleton] at h2
  rcases h2 with h2 | ⟨h2, i', s', he, h3⟩
  · exact ⟨by omega, .inr (by omega)⟩
  · obtain ⟨e1, e2⟩ := List.append_inj' he rfl
    injection e2 with e2 _
    subst e1 e2
    exact ⟨by omega, .inl (by omega)⟩
end Go.X.Sg

namespace Go.X
open Go Go.RowKit
section
variable {E : Env} {σ : Sig} {H : HS} {M : Mem} {a : Act} {w : World} {ν : Nat → Value} {K : KP} {o : Oper}
theorem Heap.tabSet (hh : Heap E ν H M w) {k j sz : Nat} {es : List (List SV)} {s s0 : SV} (hk : hget H k = some (.tab sz es)) (hj : es[j]? = some [s0]) (hv : s.val ν = s0.val ν) : Heap E ν (hset k (.tab sz (es.set j [s])) H) M w := by
  refine hh.setPO (p := .tab sz es) hk (fun hx => ?_)
  rw [PO.tab_row] at hx ⊢
  have he : (es.set j [s]).map (SV.vals ν) = es.map (SV.vals ν) := by
    rw [List.map_set]
    apply List.ext_getElem?
    intro i
    rw [List.getElem?_set]
    split
    · rename_i ei
      subst ei
      have hjl : j < es.length := (List.getElem?_eq_some_iff.1 hj).1
      rw [List.length_map, if_pos hjl, List.getElem?_map, hj]
      simp only [Option.map_some, SV.vals, hv]
    · rfl
  rw [he]
  exact hx
theorem Rep.nilTab (k j e sz sz2 : Nat) {es : List (List SV)} (hk : hget H k = some (.tab sz es)) (hj : es[j]? = some [.v (.slice none 0 0)]) (hke : (k / 8 == e) = false) (hn : hNoKey e H = true) (hs' : sigNoKey e σ = true) (hr : Rep E σ H M a w) :
    Rep E σ ((8 * e, .row sz2 []) :: hset k (.tab sz (es.set j [.own (8 * e)])) H) M a w := by
  obtain ⟨ν, hs, hh⟩ := hr
  let ν2 : Nat → Value := fun i => if i / 8 = e then .slice none 0 0 else ν i
  have hν : ∀ i, i / 8 ≠ e → ν2 i = ν i := fun i hi => by simp [ν2, hi]
  have hν8 : ν2 (8 * e) = .slice none 0 0 := by simp [ν2, show (8 * e) / 8 = e by omega]
  have hke' : k / 8 ≠ e := by simpa using hke
  have h1 : Heap E ν2 ((8 * e, .row sz2 []) :: H) M w := by
    refine hh.add hn hν (fun i => ?_) ?_ (fun b hb => by rw [hν8] at hb; simp [blk?] at hb)
    · by_cases hi : i / 8 = e
      · simp [ν2, hi, Value.oneCell']
      · simp only [ν2, hi, if_false]; exact hh.one i
    · rw [hν8]
      exact ⟨fun e he => by simp at he, .inl ⟨rfl, rfl⟩⟩
  have hne : ¬ 8 * e = k := fun he => hke' (by omega)
  have h3 := h1.tabSet (k := k) (j := j) (s := .own (8 * e)) (by simp only [hget]; rw [if_neg (fun e' => hne e'.symm)]; exact hk) hj (by simp only [SV.val, hν8])
  simp only [hset, if_neg hne] at h3
  exact ⟨ν2, ⟨hs.1, hs.2.1, fun i g s hi => by rw [hs.2.2 i g s hi, SV.val_congr hν s (sigNoKey_lk hs' hi)]⟩, h3⟩
theorem LoopK.nilTab {live : List Nat} {body : Code} {Q : QP} (k j e sz sz2 : Nat) {es : List (List SV)} (hk : hget H k = some (.tab sz es)) (hj : es[j]? = some [.v (.slice none 0 0)]) (hke : (k / 8 == e) = false) (hn : hNoKey e H = true) (hs' : sigNoKey e σ = true)
    (h : LoopK E live body Q σ ((8 * e, .row sz2 []) :: hset k (.tab sz (es.set j [.own (8 * e)])) H) M) : LoopK E live body Q σ H M :=
  fun a w hr => h a w (hr.nilTab k j e sz sz2 hk hj hke hn hs')
theorem CodeK.pub {c : Code} {Q : QP} {k sz : Nat} {es : List (List Value)} (hk : hget H k = some (.row sz es))
    (h : ∀ v M', M.le M' → RowM M' v sz es → CodeK E c Q (sigPub k v σ) (hpub k v H) M') : CodeK E c Q σ H M := by
  rintro a w ⟨ν, hs, hh⟩
  obtain ⟨M', h1, h2, h3⟩ := pub_heap hh hk
  exact h _ M' h1 h2 a w ⟨ν, pub_slots hs, h3⟩
theorem CodeK.heap {c : Code} {Q : QP} {H' : HS} (h : HEnt E H M H') (hk : CodeK E c Q σ H' M) : CodeK E c Q σ H M := by
  rintro a w ⟨ν, hs, hh⟩
  exact hk a w ⟨ν, hs, h ν w hh⟩
/-- a row in a row gets another key -/
theorem Ent.rekeyT {S : Sig × HS × Mem} (kb j k1 e sz sz2 : Nat) (es : List (List Value)) {cs : List (List SV)} (hk1 : hget H k1 = some (.row sz es)) (hkb : hget ((8 * e, .row sz es) :: hdelk k1 (hdel e H)) kb = some (.tab sz2 cs)) (hj : cs[j]? = some [.own k1]) (hke : (k1 / 8 == e) = false) (hn : hNoKey e (hdelk k1 (hdel e H)) = true)
    (h : Ent E (sigDrop e σ) (hset kb (.tab sz2 (cs.set j [.own (8 * e)])) ((8 * e, .row sz es) :: hdelk k1 (hdel e H))) M S) : Ent E σ H M S := by
  rintro a w ⟨ν, hs, hh⟩
  refine h a w ?_
  have hke' : k1 / 8 ≠ e := by simpa using hke
  let ν2 : Nat → Value := fun i => if i / 8 = e then ν k1 else ν i
  have hν : ∀ i, i / 8 ≠ e → ν2 i = ν i := fun i hi => by simp [ν2, hi]
  have hν8 : ν2 (8 * e) = ν k1 := by simp [ν2, show (8 * e) / 8 = e by omega]
  have hsub : (hdelk k1 (hdel e H)).Sublist H := (hdelk_sub k1 _).trans (hdel_sub e H)
  have h1 : Heap E ν2 ((8 * e, .row sz es) :: hdelk k1 (hdel e H)) M w := by
    refine (hh.sublist hsub).add hn hν (fun i => ?_) ?_ (fun b hb => ?_)
    · by_cases hi : i / 8 = e
      · simp only [ν2, hi, if_true]; exact hh.one k1
      · simp only [ν2, hi, if_false]; exact hh.one i
    · rw [hν8]
      exact hh.holds _ (hget_mem hk1)
    · rw [hν8] at hb
      obtain ⟨g1, g2⟩ := hh.apart b (List.mem_filterMap.2 ⟨(k1, _), hget_mem hk1, hb⟩)
      exact ⟨fp_hdelk hh hk1 hb e _ hsub (hdelk_ne k1 _), g1, g2⟩
  exact ⟨ν2, hs.drop hν, h1.tabSet hkb hj (by simp only [SV.val, hν8, hν k1 hke'])⟩
/-- several rows get other keys; all else that is the call's own is let go -/
theorem Ent.rekeyN {S : Sig × HS × Mem} {Pin : (Nat → SV) → List PO} (j i d : Nat) (kin : List Nat) (hPin : NatP (fun (_ : Unit) => Pin)) (hj : lk σ j = some (true, .own (kin.getD i 0)))
    (hc : ((decide (j < E.N) && decide (i < 8)) && (decide kin.Nodup && decide (kin.length ≤ 8))) = true) (hheld : heldL H kin (Pin (ksv kin)))
    (h : Ent E ((j, true, .own (8 * d + i)) :: sigConc σ) (enumK (8 * d) (Pin (kd (8 * d)))) M S) : Ent E σ H M S := by
  simp only [Bool.and_eq_true, decide_eq_true_eq] at hc
  rintro a w ⟨ν, hs, hh⟩
  refine h a w ?_
  let ν1 : Nat → Value := fun j => if j / 8 = d then ν (kin.getD (j % 8) 0) else .bool false
  have hν1 : ∀ i, i < 8 → ν1 (8 * d + i) = ν (kin.getD i 0) := fun i hi => by
    have e1 : (8 * d + i) / 8 = d := by omega
    have e2 : (8 * d + i) % 8 = i := by omega
    simp only [ν1, e1, if_true, e2]
  have hone1 : ∀ k, (ν1 k).oneCell' = true := fun j => by
    by_cases hj : j / 8 = d
    · simp only [ν1, hj, if_true]; exact hh.one _
    · simp only [ν1, hj, if_false]; rfl
  have hs1 : same8 (ksv kin) (kd (8 * d)) ν ν1 := fun i hi => by simp only [ksv, kd, SV.val, hν1 i hi]
  have hp1 := hh.pick (N := E.N) hc.2.1 hheld (hPin () _ _ _ _ hs1) (base := 8 * d) (fun i hi => hν1 i (by omega)) hone1
  have hs2 := hs.concs (ν' := ν1)
  refine ⟨ν1, ⟨hs2.1, hs2.2.1, fun k g s hk => ?_⟩, hp1⟩
  simp only [lk] at hk
  split at hk
  · rename_i e
    subst e
    simp only [Option.some.injEq, Prod.mk.injEq] at hk
    obtain ⟨rfl, rfl⟩ := hk
    rw [hs.2.2 k true _ hj]
    simp only [cond_true, SV.val, hν1 i hc.1.2]
  · exact hs2.2.2 k g s hk
end
end Go.X

namespace Go.X.Sg
open Go Go.X

def encF (b : Bool) : List Value := [.bool b]
def encO (p : Value × List Bool) : List Value := [p.1]
def OutM (M : Mem) (os : List (Value × List Bool)) : Prop := ∀ p ∈ os, RowM M p.1 1 (p.2.map encF)
theorem OutM.le {M M' : Mem} {os : List (Value × List Bool)} (h : OutM M os) (hl : M.le M') : OutM M' os := fun p hp => (h p hp).le hl
abbrev Id3 := Bool × Int × Int
def rep (i : Nat) : List (List Value) := List.replicate i [.slice none 0 0]
def tabO (i : Nat) (k : Nat) (es : List (List Value)) : List (List SV) := vv (rep i) ++ [.own k] :: vv es
theorem tabO_get (i k : Nat) (es : List (List Value)) : (tabO i k es).getD i [] = [.own k] := by
  unfold tabO rep
  rw [List.getD_eq_getElem?_getD, List.getElem?_append_right (by simp [vv])]
  simp [vv]
theorem rep_set (i k : Nat) (es : List (List Value)) : (vv (rep (i + 1) ++ es)).set i [.own k] = tabO i k es := by
  unfold tabO rep vv
  rw [List.replicate_succ', List.append_assoc, List.map_append, List.map_append, List.set_append_right _ _ (by simp)]
  simp
theorem rep_st (i k : Nat) (es : List (List Value)) : (vv (rep (i + 1) ++ es)).set i (((vv (rep (i + 1) ++ es)).getD i []).set 0 (.own k)) = tabO i k es := by
  have : (vv (rep (i + 1) ++ es)).getD i [] = [.v (.slice none 0 0)] := by
    unfold rep vv
    rw [List.replicate_succ', List.append_assoc, List.map_append, List.getD_eq_getElem?_getD, List.getElem?_append_right (by simp)]
    simp
  rw [this, List.set_cons_zero, rep_set]
theorem tabO_pub (i k : Nat) (es : List (List Value)) (v : Value) : pubss k v (tabO i k es) = vv (rep i ++ [v] :: es) := by
  unfold tabO
  rw [pubss_app, pubss_vv]
  have : pubss k v ([SV.own k] :: vv es) = vv ([v] :: es) := by
    rw [show ([SV.own k] :: vv es) = [[SV.own k]] ++ vv es from rfl, pubss_app, pubss_vv]
    simp [pubss, SV.pubs, SV.pub, vv]
  rw [this]
  unfold vv
  rw [List.map_append]
theorem noKeyss_vvapp (d : Nat) (l : List (List SV)) : ∀ es : List (List Value), noKeyss d (vv es ++ l) = noKeyss d l
  | [] => rfl
  | e :: es => by
    have : SV.noKeys d (e.map .v) = true := by
      induction e with
      | nil => rfl
      | cons a e ih => simp only [List.map_cons, SV.noKeys, SV.noKey, ih, Bool.and_self]
    have h2 : vv (e :: es) ++ l = e.map .v :: (vv es ++ l) := rfl
    rw [h2, noKeyss, this, noKeyss_vvapp d l es, Bool.true_and]
theorem tabO_len (i k : Nat) (es : List (List Value)) : (tabO i k es).length = i + 1 + es.length := by
  unfold tabO rep vv
  simp only [List.length_append, List.length_map, List.length_replicate, List.length_cons]
  omega
theorem tabO_nk (d i k : Nat) (es : List (List Value)) (h : (k / 8 == d) = false) : noKeyss d (tabO i k es) = true := by
  unfold tabO
  have h2 := noKeyss_vvapp d [] es
  rw [List.append_nil] at h2
  rw [noKeyss_vvapp, noKeyss, h2]
  simp only [SV.noKeys, SV.noKey, h, Bool.not_false, Bool.and_self, noKeyss]
def flg (k : Nat) (r : List Bool) : List (List Value) := (List.replicate k false ++ r).map encF
theorem flg_succ (k : Nat) (r : List Bool) : flg (k + 1) r = flg k (false :: r) := by
  unfold flg
  rw [List.replicate_succ', List.append_assoc]
  rfl
theorem flg_set (k : Nat) (r : List Bool) : (flg (k + 1) r).set k [.bool true] = flg k (true :: r) := by
  rw [flg_succ]
  unfold flg
  rw [List.map_append, List.set_append_right _ _ (by simp)]
  simp [encF]
theorem flg_len (k : Nat) (r : List Bool) : (flg k r).length = k + r.length := by simp [flg]
/-- live, of each segment -/
theorem live (y z : Value) (ps : List (Value × List Rc)) (b : List Bg.It) (M : Mem) (hy : RowM M y 1 (ps.map encV)) (hM : SegM M ps) (hz : RowM M z 4 (b.map Bg.encT)) (h16 : ps.length ≤ 16) (hg : ∀ p ∈ ps, p.2.length ≤ 25) :
    Meets Proofs.Try.prog 16 [.v y, .v z] M (fun r _ M' => ∃ v es, r = .v v ∧ RowM M' v 1 es ∧ ∃ os, es = os.map encO ∧ OutM M' os ∧ os.map (·.2) = liveL b (ps.map (·.2))) := by
  refine Meets.pub (T := fun s => s) Ctx.id (fun es M M' hle ⟨os, h1, h2, h3⟩ => ⟨os, h1, h2.le hle, h3⟩) ?_
  refine Meets.of_body [0,1,4,5,6,7,8,9,10,19,38,70] Proofs.Try.func16 rfl (by kernel_rfl) rfl fun w => ?_
  simp only [Proofs.Try.f16, shs, zts, sos, sls, zss, eqs, sx, sb1, sb2, sb3, sb4, sb5, sb6, sb7, ↓reduceIte, Nat.reduceAdd, Nat.reduceMul, Nat.reduceDiv, Nat.reduceEqDiff, Nat.reduceLT, Nat.reduceLeDiff, reduceCtorEq, Int.reduceEq, Int.reduceNe, Int.reduceLT, Int.reduceLE, Int.reduceAdd, Int.reduceSub, Int.reduceMul, Int.reduceNeg, Int.reduceToNat, Int.cast_ofNat_Int, Int.natCast_zero, Int.natCast_one, Int.toNat_natCast, Nat.reduceBEq, nzs, hy.len, hy.sl, List.length_map, Int.toNat_natCast]
  refine ⟨⟨by omega, by omega, by omega⟩, ?_⟩
  refine ⟨rfl, OpK.makeMap (by rfl) rfl rfl rfl ?_⟩
  simp only [shs, zts, sos, sls, zss, eqs, sx, sb1, sb2, sb3, sb4, sb5, sb6, sb7, ↓reduceIte, Nat.reduceAdd, Nat.reduceMul, Nat.reduceDiv, Nat.reduceEqDiff, Nat.reduceLT, Nat.reduceLeDiff, reduceCtorEq, Int.reduceEq, Int.reduceNe, Int.reduceLT, Int.reduceLE, Int.reduceAdd, Int.reduceSub, Int.reduceMul, Int.reduceNeg, Int.reduceToNat, Int.cast_ofNat_Int, Int.natCast_zero, Int.natCast_one, Int.toNat_natCast, Nat.reduceBEq, nzs, hy.len, hy.sl, List.length_map, inK, lo, hi]
  refine ⟨by omega, ?_⟩
  refine LoopK.go (X := Nat × List (Value × List Bool) × List Id3 × Mem) (fun x => ([(0, true, .v y), (1, true, .v z), (5, true, .own 104), (6, true, .own 112), (7, true, .v (.int .i64 ((x.1 : Int) - 1)))], [(112, .mp (encL encId (setL x.2.2.1))), (104, .row 1 (rep x.1 ++ x.2.1.map encO))], x.2.2.2))
    (fun x => (x.1 ≤ ps.length ∧ M.le x.2.2.2) ∧ (OutM x.2.2.2 x.2.1 ∧ x.2.1.map (·.2) = liveL b ((ps.map (·.2)).drop x.1)) ∧ Seen b x.2.2.1 ((ps.map (·.2)).drop x.1).flatten) (fun x => x.1) (ps.length, [], [], M)
    ⟨⟨Nat.le_refl _, Mem.le.refl M⟩, ⟨fun p hp => by simp at hp, ?_⟩, ?_⟩ (Ent.of ?_) ?_
  · simp only
    rw [List.drop_eq_nil_of_le (by simp)]
    rfl
  · simp only
    rw [List.drop_eq_nil_of_le (by simp)]
    exact Seen.nil b
  · simp only [sx, sb1, sb2, sb3, sb4, sb5, sb6, sb7, ↓reduceIte, Nat.reduceAdd, Nat.reduceMul, Nat.reduceDiv, Nat.reduceEqDiff, Nat.reduceLT, Nat.reduceLeDiff, reduceCtorEq, Int.reduceEq, Int.reduceNe, Int.reduceLT, Int.reduceLE, Int.reduceAdd, Int.reduceSub, Int.reduceMul, Int.reduceNeg, Int.reduceToNat, Int.cast_ofNat_Int, Int.natCast_zero, Int.natCast_one, Int.toNat_natCast, Nat.reduceBEq, encL, setL, List.map_nil, List.append_nil, rep]
  rintro ⟨i, os, ids, M1⟩ ⟨⟨h1, h2⟩, ⟨h3, h4⟩, h5⟩
  simp only at h1 h2 h3 h4 h5
  rcases i with _ | i
  · simp only [shs, zts, sos, sls, zss, eqs, sx, sb1, sb2, sb3, sb4, sb5, sb6, sb7, ↓reduceIte, Nat.reduceAdd, Nat.reduceMul, Nat.reduceDiv, Nat.reduceEqDiff, Nat.reduceLT, Nat.reduceLeDiff, reduceCtorEq, Int.reduceEq, Int.reduceNe, Int.reduceLT, Int.reduceLE, Int.reduceAdd, Int.reduceSub, Int.reduceMul, Int.reduceNeg, Int.reduceToNat, Int.cast_ofNat_Int, Int.natCast_zero, Int.natCast_one, Int.toNat_natCast, Nat.reduceBEq, nzs, Int.natCast_zero]
    exact ⟨_, _, rfl, rfl, os, by simp [rep], h3, by simpa using h4⟩
  have c1 : (0 ≤ (i : Int)) = True := eq_true (by omega)
  have e1 : ((i + 1 : Nat) : Int) - 1 = (i : Int) := by omega
  obtain ⟨p, hx, hd⟩ := l_drop_at (l := ps) (i := i) (by omega)
  obtain ⟨v, s⟩ := p
  have hv := hM _ (List.mem_of_getElem? hx)
  have hsl := hg _ (List.mem_of_getElem? hx)
  simp only at hv hsl
  have hv1 := hv.le h2
  have hy1 := hy.le h2
  have hz1 := hz.le h2
  have g := hy1.el1 hx rfl
  have ix := hy1.ix (i := (i : Int)) (by omega) (by rw [List.length_map]; omega)
  have hol : os.length + (i + 1) = ps.length := by
    have := congrArg List.length h4
    rw [liveL_len] at this
    simp at this
    omega
  have hdf : (ps.map (·.2)).drop i = s :: (ps.map (·.2)).drop (i + 1) := by rw [← List.map_drop, hd, List.map_cons, List.map_drop]
  have hrl : (rep (i + 1) ++ os.map encO).length = i + 1 + os.length := by simp [rep]
  generalize hT : ((ps.map (·.2)).drop (i + 1)).flatten = T at h5
  simp only [shs, zts, sos, sls, zss, eqs, sx, sb1, sb2, sb3, sb4, sb5, sb6, sb7, ↓reduceIte, Nat.reduceAdd, Nat.reduceMul, Nat.reduceDiv, Nat.reduceEqDiff, Nat.reduceLT, Nat.reduceLeDiff, reduceCtorEq, Int.reduceEq, Int.reduceNe, Int.reduceLT, Int.reduceLE, Int.reduceAdd, Int.reduceSub, Int.reduceMul, Int.reduceNeg, Int.reduceToNat, Int.cast_ofNat_Int, Int.natCast_zero, Int.natCast_one, Int.toNat_natCast, Nat.reduceBEq, nzs, e1, c1, g.1, g.2, ix, ix.2, hv1.one, hv1.len, hv1.sl, List.length_map, Int.toNat_natCast, hrl]
  refine ⟨⟨by omega, by omega, by omega⟩, by omega, ?_⟩
  refine OpK.heap (HEnt.rowTab (k := 104) rfl) (OpK.stTab rfl rfl (of_eq_true so51) rfl rfl rfl rfl (by rw [sh51]; rfl) (by rw [vv_len, hrl]; omega) (by decide) ?_)
  simp only [shs, zts, sos, sls, zss, eqs, sx, sb1, sb2, sb3, sb4, sb5, sb6, sb7, ↓reduceIte, Nat.reduceAdd, Nat.reduceMul, Nat.reduceDiv, Nat.reduceEqDiff, Nat.reduceLT, Nat.reduceLeDiff, reduceCtorEq, Int.reduceEq, Int.reduceNe, Int.reduceLT, Int.reduceLE, Int.reduceAdd, Int.reduceSub, Int.reduceMul, Int.reduceNeg, Int.reduceToNat, Int.cast_ofNat_Int, Int.natCast_zero, Int.natCast_one, Int.toNat_natCast, Nat.reduceBEq, nzs, rep_st, g.1, g.2, ix, ix.2, hv1.one, hv1.len, hv1.sl, List.length_map, inK, lo, hi]
  refine ⟨by omega, ?_⟩
  refine LoopK.goS (X := Nat × List Id3) (fun x => ([(0, true, .v y), (1, true, .v z), (5, true, .own 104), (6, true, .own 112), (7, true, .v (.int .i64 (i : Int))), (8, true, .v (.int .i64 ((x.1 : Int) - 1)))], [(232, .row 1 (flg x.1 (liveR b (s.drop x.1) T))), (112, .mp (encL encId (setL x.2))), (104, .tab 1 (tabO i 232 (os.map encO)))], M1))
    (fun x => x.1 ≤ s.length ∧ Seen b x.2 (s.drop x.1 ++ T)) (fun x => x.1) (s.length, ids) ⟨Nat.le_refl _, by simpa using h5⟩ (Ent.of ?_) ?_
  · simp only [sx, sb1, sb2, sb3, sb4, sb5, sb6, sb7, ↓reduceIte, Nat.reduceAdd, Nat.reduceMul, Nat.reduceDiv, Nat.reduceEqDiff, Nat.reduceLT, Nat.reduceLeDiff, reduceCtorEq, Int.reduceEq, Int.reduceNe, Int.reduceLT, Int.reduceLE, Int.reduceAdd, Int.reduceSub, Int.reduceMul, Int.reduceNeg, Int.reduceToNat, Int.cast_ofNat_Int, Int.natCast_zero, Int.natCast_one, Int.toNat_natCast, Nat.reduceBEq, flg, List.drop_length, liveR, List.append_nil, List.map_replicate, encF]
  rintro ⟨k, id2⟩ ⟨m1, m2⟩
  simp only at m1 m2
  rcases k with _ | k
  · refine CodeK.pub (k := 232) rfl fun v5 M5 hM5 hv5 => CodeK.ofW (live := [0,1,4,5,6,7,8,9,10,19,38,70]) ?_
    simp only [sp1, sp2, sp3, tabO_pub, shs, zts, sos, sls, zss, eqs, sx, sb1, sb2, sb3, sb4, sb5, sb6, sb7, ↓reduceIte, Nat.reduceAdd, Nat.reduceMul, Nat.reduceDiv, Nat.reduceEqDiff, Nat.reduceLT, Nat.reduceLeDiff, reduceCtorEq, Int.reduceEq, Int.reduceNe, Int.reduceLT, Int.reduceLE, Int.reduceAdd, Int.reduceSub, Int.reduceMul, Int.reduceNeg, Int.reduceToNat, Int.cast_ofNat_Int, Int.natCast_zero, Int.natCast_one, Int.toNat_natCast, Nat.reduceBEq, nzs, Int.natCast_zero, inK, lo, hi]
    refine ⟨⟨by omega, by omega⟩, (i, (v5, liveR b s T) :: os, id2, M5), ⟨⟨⟨by simp only; omega, h2.trans hM5⟩, ⟨fun p hp => ?_, ?_⟩, ?_⟩, by simp only; omega⟩, Ent.heap (HEnt.tabRow (k := 104) rfl) (Ent.of ?_)⟩
    · rcases List.mem_cons.1 hp with rfl | hp
      · exact hv5
      · exact (h3 p hp).le hM5
    · simp only
      rw [hdf, liveL, hT, List.map_cons, h4]
    · simp only
      rw [hdf, List.flatten_cons, hT]
      simpa using m2
    · simp only [sx, sb1, sb2, sb3, sb4, sb5, sb6, sb7, ↓reduceIte, Nat.reduceAdd, Nat.reduceMul, Nat.reduceDiv, Nat.reduceEqDiff, Nat.reduceLT, Nat.reduceLeDiff, reduceCtorEq, Int.reduceEq, Int.reduceNe, Int.reduceLT, Int.reduceLE, Int.reduceAdd, Int.reduceSub, Int.reduceMul, Int.reduceNeg, Int.reduceToNat, Int.cast_ofNat_Int, Int.natCast_zero, Int.natCast_one, Int.toNat_natCast, Nat.reduceBEq, hset, List.map_cons, encO]
  refine CodeK.ofW (live := [0,1,4,5,6,7,8,9,10,19,38,70]) ?_
  have c2 : (0 ≤ (k : Int)) = True := eq_true (by omega)
  have e2 : ((k + 1 : Nat) : Int) - 1 = (k : Int) := by omega
  obtain ⟨r, hr, hdr⟩ := l_drop_at (l := s) (i := k) (by omega)
  obtain ⟨⟨⟨g0, o0⟩, g1, o1⟩, ⟨⟨g2, o2⟩, g3, o3⟩, ixr⟩ := rec_at hv1 hr
  have hF := Bg.find z b r.1 M1 hz1
  simp only [Bg.idV] at hF
  have hlv : ∀ v, (eligB b r && !decide (r ∈ s.drop (k + 1) ++ T)) = v → liveR b (s.drop k) T = v :: liveR b (s.drop (k + 1)) T := fun v hv => by rw [hdr, liveR, hv]
  have hsn : ∀ ids, Seen b ids (r :: (s.drop (k + 1) ++ T)) → Seen b ids (s.drop k ++ T) := fun ids h => by rw [hdr]; exact h
  simp only [shs, zts, sos, sls, zss, eqs, sx, sb1, sb2, sb3, sb4, sb5, sb6, sb7, ↓reduceIte, Nat.reduceAdd, Nat.reduceMul, Nat.reduceDiv, Nat.reduceEqDiff, Nat.reduceLT, Nat.reduceLeDiff, reduceCtorEq, Int.reduceEq, Int.reduceNe, Int.reduceLT, Int.reduceLE, Int.reduceAdd, Int.reduceSub, Int.reduceMul, Int.reduceNeg, Int.reduceToNat, Int.cast_ofNat_Int, Int.natCast_zero, Int.natCast_one, Int.toNat_natCast, Nat.reduceBEq, nzs, e2, c2, g.1, g.2, ix, ix.2, hv1.one, hv1.len, hv1.sl, List.length_map, g0, g1, g2, g3, o0, o1, o2, o3, ixr, ixr.2, one_int, one_bool, one_string, tabO_nk 9 i 232 _ rfl]
  refine CallK.pure ⟨rfl, rfl⟩ rfl hF ?_
  rcases elig_test b r with ⟨f1, f2⟩ | ⟨j, x, f1, f2, f3⟩
  · have c3 := eq_false (Int.not_le.2 f1)
    simp only [shs, zts, sos, sls, zss, eqs, sx, sb1, sb2, sb3, sb4, sb5, sb6, sb7, ↓reduceIte, Nat.reduceAdd, Nat.reduceMul, Nat.reduceDiv, Nat.reduceEqDiff, Nat.reduceLT, Nat.reduceLeDiff, reduceCtorEq, Int.reduceEq, Int.reduceNe, Int.reduceLT, Int.reduceLE, Int.reduceAdd, Int.reduceSub, Int.reduceMul, Int.reduceNeg, Int.reduceToNat, Int.cast_ofNat_Int, Int.natCast_zero, Int.natCast_one, Int.toNat_natCast, Nat.reduceBEq, nzs, c3]
    refine DrawK.held [72] (tk [0, 1, 2, 3, 4, 8, 5, 9, 6, 7, 10, 11, 12, 13, 14, 15, 16, 17, 18] .done) (by kernel_rfl) (by kernel_rfl) fun xs => ?_
    simp only [shs, zts, sos, sls, zss, eqs, sx, sb1, sb2, sb3, sb4, sb5, sb6, sb7, ↓reduceIte, Nat.reduceAdd, Nat.reduceMul, Nat.reduceDiv, Nat.reduceEqDiff, Nat.reduceLT, Nat.reduceLeDiff, reduceCtorEq, Int.reduceEq, Int.reduceNe, Int.reduceLT, Int.reduceLE, Int.reduceAdd, Int.reduceSub, Int.reduceMul, Int.reduceNeg, Int.reduceToNat, Int.cast_ofNat_Int, Int.natCast_zero, Int.natCast_one, Int.toNat_natCast, Nat.reduceBEq, nzs, se1, se2, tks, st1, c3, inK, lo, hi]
    refine ⟨⟨by omega, by omega⟩, (k, id2), ⟨⟨by simp only; omega, hsn _ (m2.keep (by rw [f2]; rfl))⟩, by simp only; omega⟩, Ent.of ?_⟩
    rw [hlv false (by rw [f2]; rfl), flg_succ]
    simp only [sx, sb1, sb2, sb3, sb4, sb5, sb6, sb7, ↓reduceIte, Nat.reduceAdd, Nat.reduceMul, Nat.reduceDiv, Nat.reduceEqDiff, Nat.reduceLT, Nat.reduceLeDiff, reduceCtorEq, Int.reduceEq, Int.reduceNe, Int.reduceLT, Int.reduceLE, Int.reduceAdd, Int.reduceSub, Int.reduceMul, Int.reduceNeg, Int.reduceToNat, Int.cast_ofNat_Int, Int.natCast_zero, Int.natCast_one, Int.toNat_natCast, Nat.reduceBEq, hset]
  have c3 : (0 ≤ (j : Int)) = True := eq_true (by omega)
  obtain ⟨⟨b0, b1⟩, ⟨b2, b3⟩, ib⟩ := Bg.it_at hz1 f2
  rw [f1]
  simp only [shs, zts, sos, sls, zss, eqs, sx, sb1, sb2, sb3, sb4, sb5, sb6, sb7, ↓reduceIte, Nat.reduceAdd, Nat.reduceMul, Nat.reduceDiv, Nat.reduceEqDiff, Nat.reduceLT, Nat.reduceLeDiff, reduceCtorEq, Int.reduceEq, Int.reduceNe, Int.reduceLT, Int.reduceLE, Int.reduceAdd, Int.reduceSub, Int.reduceMul, Int.reduceNeg, Int.reduceToNat, Int.cast_ofNat_Int, Int.natCast_zero, Int.natCast_one, Int.toNat_natCast, Nat.reduceBEq, nzs, c3]
  by_cases hxr : x.2.2.1 = r.2
  rotate_left
  · have c4 := decide_eq_false hxr
    have f4 : eligB b r = false := by rw [f3]; exact c4
    refine DrawK.held [72] (tk [0, 1, 2, 3, 4, 8, 5, 9, 6, 7, 10, 11, 12, 13, 14, 15, 16, 17, 18] .done) (by kernel_rfl) (by kernel_rfl) fun xs => ?_
    simp only [shs, zts, sos, sls, zss, eqs, sx, sb1, sb2, sb3, sb4, sb5, sb6, sb7, ↓reduceIte, Nat.reduceAdd, Nat.reduceMul, Nat.reduceDiv, Nat.reduceEqDiff, Nat.reduceLT, Nat.reduceLeDiff, reduceCtorEq, Int.reduceEq, Int.reduceNe, Int.reduceLT, Int.reduceLE, Int.reduceAdd, Int.reduceSub, Int.reduceMul, Int.reduceNeg, Int.reduceToNat, Int.cast_ofNat_Int, Int.natCast_zero, Int.natCast_one, Int.toNat_natCast, Nat.reduceBEq, nzs, se1, se2, tks, st1, c3, c4, inK, lo, hi, ib, ib.2, b0.1, b0.2, b1.1, b1.2, b2.1, b2.2, b3.1, b3.2]
    refine ⟨⟨by omega, by omega⟩, (k, id2), ⟨⟨by simp only; omega, hsn _ (m2.keep (by rw [f4]; rfl))⟩, by simp only; omega⟩, Ent.of ?_⟩
    rw [hlv false (by rw [f4]; rfl), flg_succ]
    simp only [sx, sb1, sb2, sb3, sb4, sb5, sb6, sb7, ↓reduceIte, Nat.reduceAdd, Nat.reduceMul, Nat.reduceDiv, Nat.reduceEqDiff, Nat.reduceLT, Nat.reduceLeDiff, reduceCtorEq, Int.reduceEq, Int.reduceNe, Int.reduceLT, Int.reduceLE, Int.reduceAdd, Int.reduceSub, Int.reduceMul, Int.reduceNeg, Int.reduceToNat, Int.cast_ofNat_Int, Int.natCast_zero, Int.natCast_one, Int.toNat_natCast, Nat.reduceBEq, hset]
  have c4 := decide_eq_true hxr
  have f4 : eligB b r = true := by rw [f3]; exact c4
  refine DrawK.held [72] (tk [0, 1, 2, 3, 4, 8, 5, 9, 6, 7, 10, 11, 12, 13, 14, 15] (.one 16 (tk [17, 18] .done))) (by kernel_rfl) (by kernel_rfl) fun xs => ?_
  simp only [shs, zts, sos, sls, zss, eqs, sx, sb1, sb2, sb3, sb4, sb5, sb6, sb7, ↓reduceIte, Nat.reduceAdd, Nat.reduceMul, Nat.reduceDiv, Nat.reduceEqDiff, Nat.reduceLT, Nat.reduceLeDiff, reduceCtorEq, Int.reduceEq, Int.reduceNe, Int.reduceLT, Int.reduceLE, Int.reduceAdd, Int.reduceSub, Int.reduceMul, Int.reduceNeg, Int.reduceToNat, Int.cast_ofNat_Int, Int.natCast_zero, Int.natCast_one, Int.toNat_natCast, Nat.reduceBEq, nzs, se1, se2, tks, st1, c3, c4, inK, lo, hi, ib, ib.2, b0.1, b0.2, b1.1, b1.2, b2.1, b2.2, b3.1, b3.2]
  refine ⟨rfl, OpK.lookup KeyT.id (key := r.1) (kt := 48) (et := 4) (z := .bool false) rfl rfl rfl (by kernel_rfl) Proofs.Try.zeroValue4 rfl rfl (fun _ => rfl) rfl ?_⟩
  rw [fnd_set]
  have hin := m2.test f4
  rw [List.mem_append, ← List.mem_append] at hin
  by_cases hr1 : r.1 ∈ id2
  · have hr2 := hin.1 hr1
    have c5 : ∀ inst : Decidable (r.1 ∈ id2), @decide _ inst = true := fun inst => decide_eq_true hr1
    have c6 := decide_eq_true hr2
    rw [c5]
    simp only [shs, zts, sos, sls, zss, eqs, sx, sb1, sb2, sb3, sb4, sb5, sb6, sb7, ↓reduceIte, Nat.reduceAdd, Nat.reduceMul, Nat.reduceDiv, Nat.reduceEqDiff, Nat.reduceLT, Nat.reduceLeDiff, reduceCtorEq, Int.reduceEq, Int.reduceNe, Int.reduceLT, Int.reduceLE, Int.reduceAdd, Int.reduceSub, Int.reduceMul, Int.reduceNeg, Int.reduceToNat, Int.cast_ofNat_Int, Int.natCast_zero, Int.natCast_one, Int.toNat_natCast, Nat.reduceBEq, nzs, se1, se2, tks, st1, inK, lo, hi]
    refine ⟨⟨by omega, by omega⟩, (k, id2), ⟨⟨by simp only; omega, hsn _ (m2.keep (by rw [f4, c6]; rfl))⟩, by simp only; omega⟩, Ent.of ?_⟩
    rw [hlv false (by rw [f4, c6]; rfl), flg_succ]
    simp only [sx, sb1, sb2, sb3, sb4, sb5, sb6, sb7, ↓reduceIte, Nat.reduceAdd, Nat.reduceMul, Nat.reduceDiv, Nat.reduceEqDiff, Nat.reduceLT, Nat.reduceLeDiff, reduceCtorEq, Int.reduceEq, Int.reduceNe, Int.reduceLT, Int.reduceLE, Int.reduceAdd, Int.reduceSub, Int.reduceMul, Int.reduceNeg, Int.reduceToNat, Int.cast_ofNat_Int, Int.natCast_zero, Int.natCast_one, Int.toNat_natCast, Nat.reduceBEq, hset]
  have hr2 : r ∉ s.drop (k + 1) ++ T := fun h => hr1 (hin.2 h)
  have c5 : ∀ inst : Decidable (r.1 ∈ id2), @decide _ inst = false := fun inst => decide_eq_false hr1
  have c6 := decide_eq_false hr2
  rw [c5]
  have hll := flg_len (k + 1) (liveR b (s.drop (k + 1)) T)
  simp only [shs, zts, sos, sls, zss, eqs, sx, sb1, sb2, sb3, sb4, sb5, sb6, sb7, ↓reduceIte, Nat.reduceAdd, Nat.reduceMul, Nat.reduceDiv, Nat.reduceEqDiff, Nat.reduceLT, Nat.reduceLeDiff, reduceCtorEq, Int.reduceEq, Int.reduceNe, Int.reduceLT, Int.reduceLE, Int.reduceAdd, Int.reduceSub, Int.reduceMul, Int.reduceNeg, Int.reduceToNat, Int.cast_ofNat_Int, Int.natCast_zero, Int.natCast_one, Int.toNat_natCast, Nat.reduceBEq, nzs, se1, se2, tks, st1, inK, lo, hi]
  refine DrawK.held [72] (tk [0, 1, 4, 5, 6, 7] (.one 2 (.one 3 (.one 8 (.one 9 (.one 10 .done)))))) (by kernel_rfl) (by kernel_rfl) fun xs => ?_
  simp only [shs, zts, sos, sls, zss, eqs, sx, sb1, sb2, sb3, sb4, sb5, sb6, sb7, ↓reduceIte, Nat.reduceAdd, Nat.reduceMul, Nat.reduceDiv, Nat.reduceEqDiff, Nat.reduceLT, Nat.reduceLeDiff, reduceCtorEq, Int.reduceEq, Int.reduceNe, Int.reduceLT, Int.reduceLE, Int.reduceAdd, Int.reduceSub, Int.reduceMul, Int.reduceNeg, Int.reduceToNat, Int.cast_ofNat_Int, Int.natCast_zero, Int.natCast_one, Int.toNat_natCast, Nat.reduceBEq, nzs, se1, se2, tks, st1, tabO_get, tabO_len, getSV, List.getD_cons_zero, hll, flg_set, inK, lo, hi]
  refine ⟨⟨by omega, by omega⟩, by omega, ⟨by omega, by omega⟩, by omega, rfl, OpK.mapUpd KeyT.id (key := r.1) (kt := 48) (et := 4) (u := .bool true) rfl rfl (by kernel_rfl) rfl rfl (fun _ => rfl) rfl rfl ?_⟩
  rw [upd_set hr1]
  simp only [shs, zts, sos, sls, zss, eqs, sx, sb1, sb2, sb3, sb4, sb5, sb6, sb7, ↓reduceIte, Nat.reduceAdd, Nat.reduceMul, Nat.reduceDiv, Nat.reduceEqDiff, Nat.reduceLT, Nat.reduceLeDiff, reduceCtorEq, Int.reduceEq, Int.reduceNe, Int.reduceLT, Int.reduceLE, Int.reduceAdd, Int.reduceSub, Int.reduceMul, Int.reduceNeg, Int.reduceToNat, Int.cast_ofNat_Int, Int.natCast_zero, Int.natCast_one, Int.toNat_natCast, Nat.reduceBEq, nzs, se1, se2, tks, st1, inK, lo, hi]
  refine ⟨⟨by omega, by omega⟩, (k, id2 ++ [r.1]), ⟨⟨by simp only; omega, hsn _ (m2.add f4)⟩, by simp only; omega⟩, Ent.of ?_⟩
  rw [hlv true (by rw [f4, c6]; rfl)]
  simp only [sx, sb1, sb2, sb3, sb4, sb5, sb6, sb7, ↓reduceIte, Nat.reduceAdd, Nat.reduceMul, Nat.reduceDiv, Nat.reduceEqDiff, Nat.reduceLT, Nat.reduceLeDiff, reduceCtorEq, Int.reduceEq, Int.reduceNe, Int.reduceLT, Int.reduceLE, Int.reduceAdd, Int.reduceSub, Int.reduceMul, Int.reduceNeg, Int.reduceToNat, Int.cast_ofNat_Int, Int.natCast_zero, Int.natCast_one, Int.toNat_natCast, Nat.reduceBEq, hset]
/-- what stands as rows -/
def Outs (M : Mem) (v : Value) (l : List (List Bool)) : Prop := ∃ os : List (Value × List Bool), RowM M v 1 (os.map encO) ∧ OutM M os ∧ os.map (·.2) = l
theorem live' (y z : Value) (ps : List (Value × List Rc)) (b : List Bg.It) (M : Mem) (hy : RowM M y 1 (ps.map encV)) (hM : SegM M ps) (hz : RowM M z 4 (b.map Bg.encT)) (h16 : ps.length ≤ 16) (hg : ∀ p ∈ ps, p.2.length ≤ 25) :
    Meets Proofs.Try.prog 16 [.v y, .v z] M (fun r _ M' => ∃ v, r = .v v ∧ Outs M' v (liveL b (ps.map (·.2)))) :=
  (live y z ps b M hy hM hz h16 hg).mono fun s H M' _ ⟨v, es, h1, h2, os, h3, h4, h5⟩ => ⟨v, h1, os, by rw [← h3]; exact h2, h4, h5⟩
theorem pick_drop {s : List Rc} {f : List Bool} {k : Nat} {r : Rc} {v : Bool} (hr : s[k]? = some r) (hf : f[k]? = some v) : pickR (s.drop k) (f.drop k) = if v = true then r :: pickR (s.drop (k + 1)) (f.drop (k + 1)) else pickR (s.drop (k + 1)) (f.drop (k + 1)) := by
  have h1 := (List.getElem?_eq_some_iff.1 hr)
  have h2 := (List.getElem?_eq_some_iff.1 hf)
  obtain ⟨a, rfl⟩ := h1
  obtain ⟨c, rfl⟩ := h2
  rw [List.drop_eq_getElem_cons a, List.drop_eq_getElem_cons c]
  cases f[k] <;> simp [pickR]
def usedL : List (List Rc) → List (List Bool) → List Nat
  | s :: l, f :: fs => fullR (pickR s f) :: usedL l fs
  | _, _ => []
theorem used_alive (b : List Bg.It) : ∀ l : List (List Rc), usedL l (liveL b l) = (aliveL b l).map fullR
  | [] => rfl
  | s :: l => by simp only [usedL, liveL, aliveL, List.map_cons, used_alive b l]
def encN (n : Nat) : List Value := [.int .i64 (n : Int)]
theorem used (y z : Value) (ps : List (Value × List Rc)) (fs : List (List Bool)) (M : Mem) (hy : RowM M y 1 (ps.map encV)) (hM : SegM M ps) (hz : Outs M z fs) (h16 : ps.length ≤ 16) (hg : ∀ p ∈ ps, p.2.length ≤ 25 ∧ ∀ r ∈ p.2, r.2.length ≤ 64)
    (hl : fs.length = ps.length) (hll : ∀ (i : Nat) (p : Value × List Rc) (f : List Bool), ps[i]? = some p → fs[i]? = some f → f.length = p.2.length) :
    Meets Proofs.Try.prog 15 [.v y, .v z] M (OwnR (fun s => s) 1 ((usedL (ps.map (·.2)) fs).map encN)) := by
  obtain ⟨os, hz0, hz1, rfl⟩ := hz
  refine Meets.of_body [0,1,4,5,6,7,8,9,10,11,12,13,14,18,19,20,21,31] Proofs.Try.func15 rfl (by kernel_rfl) rfl fun w => ?_
  rw [List.length_map] at hl
  simp only [Proofs.Try.f15, shs, zts, sos, sls, zss, eqs, sx, sb1, sb2, sb3, sb4, sb5, sb6, sb7, ↓reduceIte, Nat.reduceAdd, Nat.reduceMul, Nat.reduceDiv, Nat.reduceEqDiff, Nat.reduceLT, Nat.reduceLeDiff, reduceCtorEq, Int.reduceEq, Int.reduceNe, Int.reduceLT, Int.reduceLE, Int.reduceAdd, Int.reduceSub, Int.reduceMul, Int.reduceNeg, Int.reduceToNat, Int.cast_ofNat_Int, Int.natCast_zero, Int.natCast_one, Int.toNat_natCast, Nat.reduceBEq, nzs, hy.len, hy.sl, List.length_map]
  refine LoopK.nilRow 5 50 1 rfl rfl rfl ?_
  simp only [sx, sb1, sb2, sb3, sb4, sb5, sb6, sb7, ↓reduceIte, Nat.reduceAdd, Nat.reduceMul, Nat.reduceDiv, Nat.reduceEqDiff, Nat.reduceLT, Nat.reduceLeDiff, reduceCtorEq, Int.reduceEq, Int.reduceNe, Int.reduceLT, Int.reduceLE, Int.reduceAdd, Int.reduceSub, Int.reduceMul, Int.reduceNeg, Int.reduceToNat, Int.cast_ofNat_Int, Int.natCast_zero, Int.natCast_one, Int.toNat_natCast, Nat.reduceBEq]
  refine LoopK.go (X := Nat × Nat × List Nat) (fun x => ([(0, true, .v y), (1, true, .v z), (5, true, .own 400), (11, true, .v y), (12, true, .v (.int .i64 ps.length)), (13, true, .v (.int .i64 x.2.1))], [(400, .row 1 (x.2.2.map encN))], M))
    (fun x => (x.1 + x.2.1 = ps.length ∧ x.2.2.length ≤ x.2.1) ∧ x.2.2 ++ usedL ((ps.map (·.2)).drop x.2.1) ((os.map (·.2)).drop x.2.1) = usedL (ps.map (·.2)) (os.map (·.2))) (fun x => x.1) (ps.length, 0, []) ⟨⟨rfl, Nat.le_refl _⟩, by simp⟩ (Ent.of ?_) ?_
  · simp only [sx, sb1, sb2, sb3, sb4, sb5, sb6, sb7, ↓reduceIte, Nat.reduceAdd, Nat.reduceMul, Nat.reduceDiv, Nat.reduceEqDiff, Nat.reduceLT, Nat.reduceLeDiff, reduceCtorEq, Int.reduceEq, Int.reduceNe, Int.reduceLT, Int.reduceLE, Int.reduceAdd, Int.reduceSub, Int.reduceMul, Int.reduceNeg, Int.reduceToNat, Int.cast_ofNat_Int, Int.natCast_zero, Int.natCast_one, Int.toNat_natCast, Nat.reduceBEq, List.map_nil]
  rintro ⟨f, i, out⟩ ⟨⟨h1, h3⟩, h2⟩
  simp only at h1 h2 h3
  by_cases hil : i < ps.length
  rotate_left
  · have c1 : ((i : Int) < (ps.length : Int)) = False := eq_false (by omega)
    rw [List.drop_eq_nil_of_le (by simp; omega)] at h2
    simp only [usedL, List.append_nil] at h2
    subst h2
    simp only [shs, zts, sos, sls, zss, eqs, sx, sb1, sb2, sb3, sb4, sb5, sb6, sb7, ↓reduceIte, Nat.reduceAdd, Nat.reduceMul, Nat.reduceDiv, Nat.reduceEqDiff, Nat.reduceLT, Nat.reduceLeDiff, reduceCtorEq, Int.reduceEq, Int.reduceNe, Int.reduceLT, Int.reduceLE, Int.reduceAdd, Int.reduceSub, Int.reduceMul, Int.reduceNeg, Int.reduceToNat, Int.cast_ofNat_Int, Int.natCast_zero, Int.natCast_one, Int.toNat_natCast, Nat.reduceBEq, nzs, c1]
    exact ⟨400, rfl, rfl⟩
  have c1 : ((i : Int) < (ps.length : Int)) = True := eq_true (by omega)
  obtain ⟨p, hx, hd⟩ := l_drop_at (l := ps) (i := i) hil
  obtain ⟨q, hq, hdq⟩ := l_drop_at (l := os) (i := i) (by omega)
  have hv := hM _ (List.mem_of_getElem? hx)
  have hw := hz1 _ (List.mem_of_getElem? hq)
  have hp := hg _ (List.mem_of_getElem? hx)
  have hpq := hll i p q.2 hx (by rw [List.getElem?_map, hq]; rfl)
  obtain ⟨v, s⟩ := p
  obtain ⟨u, fl⟩ := q
  simp only at hv hw hp hpq
  have g := hy.el1 hx rfl
  have ix := hy.ix (i := (i : Int)) (by omega) (by rw [List.length_map]; omega)
  have gz := hz0.el1 hq rfl
  have iz := hz0.ix (i := (i : Int)) (by omega) (by rw [List.length_map]; omega)
  rw [← List.map_drop, hd, List.map_cons, ← List.map_drop, hdq, List.map_cons] at h2
  simp only [usedL] at h2
  simp only [shs, zts, sos, sls, zss, eqs, sx, sb1, sb2, sb3, sb4, sb5, sb6, sb7, ↓reduceIte, Nat.reduceAdd, Nat.reduceMul, Nat.reduceDiv, Nat.reduceEqDiff, Nat.reduceLT, Nat.reduceLeDiff, reduceCtorEq, Int.reduceEq, Int.reduceNe, Int.reduceLT, Int.reduceLE, Int.reduceAdd, Int.reduceSub, Int.reduceMul, Int.reduceNeg, Int.reduceToNat, Int.cast_ofNat_Int, Int.natCast_zero, Int.natCast_one, Int.toNat_natCast, Nat.reduceBEq, nzs, c1, g.1, g.2, ix, ix.2, hv.one, hv.len, hv.sl, List.length_map]
  refine LoopK.go (X := Nat × Nat × Nat) (fun x => ([(0, true, .v y), (1, true, .v z), (5, true, .own 400), (6, true, .v (.int .i64 i)), (8, true, .v (.int .i64 x.2.2)), (11, true, .v y), (12, true, .v (.int .i64 ps.length)), (13, true, .v (.int .i64 i)), (18, true, .v v), (19, true, .v (.int .i64 s.length)), (20, true, .v (.int .i64 x.2.1))], [(400, .row 1 (out.map encN))], M))
    (fun x => (x.1 + x.2.1 = s.length ∧ x.2.2 ≤ 72 * x.2.1) ∧ x.2.2 + fullR (pickR (s.drop x.2.1) (fl.drop x.2.1)) = fullR (pickR s fl)) (fun x => x.1) (s.length, 0, 0) ⟨⟨rfl, Nat.le_refl _⟩, by simp⟩ (Ent.of ?_) ?_
  · simp only [sx, sb1, sb2, sb3, sb4, sb5, sb6, sb7, ↓reduceIte, Nat.reduceAdd, Nat.reduceMul, Nat.reduceDiv, Nat.reduceEqDiff, Nat.reduceLT, Nat.reduceLeDiff, reduceCtorEq, Int.reduceEq, Int.reduceNe, Int.reduceLT, Int.reduceLE, Int.reduceAdd, Int.reduceSub, Int.reduceMul, Int.reduceNeg, Int.reduceToNat, Int.cast_ofNat_Int, Int.natCast_zero, Int.natCast_one, Int.toNat_natCast, Nat.reduceBEq, Int.natCast_zero]
  rintro ⟨f', k, n⟩ ⟨⟨m1, m3⟩, m2⟩
  simp only at m1 m2 m3
  by_cases hkl : k < s.length
  rotate_left
  · have c2 : ((k : Int) < (s.length : Int)) = False := eq_false (by omega)
    rw [List.drop_eq_nil_of_le (by omega), List.drop_eq_nil_of_le (by omega)] at m2
    simp only [pickR, fullR, List.map_nil, List.sum_nil] at m2
    have hn : n = fullR (pickR s fl) := by simpa [fullR] using m2
    simp only [shs, zts, sos, sls, zss, eqs, sx, sb1, sb2, sb3, sb4, sb5, sb6, sb7, ↓reduceIte, Nat.reduceAdd, Nat.reduceMul, Nat.reduceDiv, Nat.reduceEqDiff, Nat.reduceLT, Nat.reduceLeDiff, reduceCtorEq, Int.reduceEq, Int.reduceNe, Int.reduceLT, Int.reduceLE, Int.reduceAdd, Int.reduceSub, Int.reduceMul, Int.reduceNeg, Int.reduceToNat, Int.cast_ofNat_Int, Int.natCast_zero, Int.natCast_one, Int.toNat_natCast, Nat.reduceBEq, nzs, c2, List.length_map, inK, lo, hi]
    refine ⟨⟨by omega, by omega⟩, ⟨by omega, by omega⟩, (f - 1, i + 1, out ++ [n]), ⟨⟨⟨by simp only; omega, by simp only [List.length_append, List.length_singleton]; omega⟩, ?_⟩, by simp only; omega⟩, Ent.rekey 5 50 320 1 _ rfl rfl rfl rfl (Ent.of ?_)⟩
    · simp only
      rw [hn, ← h2, List.append_assoc, List.map_drop, List.map_drop]
      rfl
    · simp only [sx, sb1, sb2, sb3, sb4, sb5, sb6, sb7, ↓reduceIte, Nat.reduceAdd, Nat.reduceMul, Nat.reduceDiv, Nat.reduceEqDiff, Nat.reduceLT, Nat.reduceLeDiff, reduceCtorEq, Int.reduceEq, Int.reduceNe, Int.reduceLT, Int.reduceLE, Int.reduceAdd, Int.reduceSub, Int.reduceMul, Int.reduceNeg, Int.reduceToNat, Int.cast_ofNat_Int, Int.natCast_zero, Int.natCast_one, Int.toNat_natCast, Nat.reduceBEq, List.map_append, List.map_cons, List.map_nil, Int.natCast_add, encN]
  have c2 : ((k : Int) < (s.length : Int)) = True := eq_true (by omega)
  obtain ⟨r, hr, hdr⟩ := l_drop_at (l := s) (i := k) hkl
  obtain ⟨t, ht, hdt⟩ := l_drop_at (l := fl) (i := k) (by omega)
  obtain ⟨⟨⟨g0, o0⟩, g1, o1⟩, ⟨⟨g2, o2⟩, g3, o3⟩, ixr⟩ := rec_at hv hr
  have gt := hw.el1 ht rfl
  have it := hw.ix (i := (k : Int)) (by omega) (by rw [List.length_map]; omega)
  have hr64 := hp.2 r (List.mem_of_getElem? hr)
  have hsz : sizeR r ≤ 72 := by unfold sizeR; omega
  rw [pick_drop hr ht] at m2
  cases t with
  | false =>
    rw [if_neg (by decide)] at m2
    simp only [shs, zts, sos, sls, zss, eqs, sx, sb1, sb2, sb3, sb4, sb5, sb6, sb7, ↓reduceIte, Nat.reduceAdd, Nat.reduceMul, Nat.reduceDiv, Nat.reduceEqDiff, Nat.reduceLT, Nat.reduceLeDiff, reduceCtorEq, Int.reduceEq, Int.reduceNe, Int.reduceLT, Int.reduceLE, Int.reduceAdd, Int.reduceSub, Int.reduceMul, Int.reduceNeg, Int.reduceToNat, Int.cast_ofNat_Int, Int.natCast_zero, Int.natCast_one, Int.toNat_natCast, Nat.reduceBEq, nzs, c2, g0, g1, g2, g3, o0, o1, o2, o3, ixr, ixr.2, one_int, one_bool, one_string, gz.1, gz.2, iz, iz.2, hw.one, gt.1, gt.2, it, it.2, inK, lo, hi]
    refine ⟨⟨by omega, by omega⟩, (f' - 1, k + 1, n), ⟨⟨⟨by simp only; omega, by simp only; omega⟩, m2⟩, by simp only; omega⟩, Ent.of ?_⟩
    simp only [sx, sb1, sb2, sb3, sb4, sb5, sb6, sb7, ↓reduceIte, Nat.reduceAdd, Nat.reduceMul, Nat.reduceDiv, Nat.reduceEqDiff, Nat.reduceLT, Nat.reduceLeDiff, reduceCtorEq, Int.reduceEq, Int.reduceNe, Int.reduceLT, Int.reduceLE, Int.reduceAdd, Int.reduceSub, Int.reduceMul, Int.reduceNeg, Int.reduceToNat, Int.cast_ofNat_Int, Int.natCast_zero, Int.natCast_one, Int.toNat_natCast, Nat.reduceBEq, Int.natCast_add]
  | true =>
    rw [if_pos rfl, fullR_cons] at m2
    simp only [shs, zts, sos, sls, zss, eqs, sx, sb1, sb2, sb3, sb4, sb5, sb6, sb7, ↓reduceIte, Nat.reduceAdd, Nat.reduceMul, Nat.reduceDiv, Nat.reduceEqDiff, Nat.reduceLT, Nat.reduceLeDiff, reduceCtorEq, Int.reduceEq, Int.reduceNe, Int.reduceLT, Int.reduceLE, Int.reduceAdd, Int.reduceSub, Int.reduceMul, Int.reduceNeg, Int.reduceToNat, Int.cast_ofNat_Int, Int.natCast_zero, Int.natCast_one, Int.toNat_natCast, Nat.reduceBEq, nzs, c2, g0, g1, g2, g3, o0, o1, o2, o3, ixr, ixr.2, one_int, one_bool, one_string, gz.1, gz.2, iz, iz.2, hw.one, gt.1, gt.2, it, it.2, inK, lo, hi]
    refine CallK.pure ⟨rfl, rfl⟩ rfl (size r M (by omega)) ?_
    simp only [shs, zts, sos, sls, zss, eqs, sx, sb1, sb2, sb3, sb4, sb5, sb6, sb7, ↓reduceIte, Nat.reduceAdd, Nat.reduceMul, Nat.reduceDiv, Nat.reduceEqDiff, Nat.reduceLT, Nat.reduceLeDiff, reduceCtorEq, Int.reduceEq, Int.reduceNe, Int.reduceLT, Int.reduceLE, Int.reduceAdd, Int.reduceSub, Int.reduceMul, Int.reduceNeg, Int.reduceToNat, Int.cast_ofNat_Int, Int.natCast_zero, Int.natCast_one, Int.toNat_natCast, Nat.reduceBEq, nzs, inK, lo, hi]
    refine ⟨⟨by omega, by omega⟩, ⟨by omega, by omega⟩, (f' - 1, k + 1, n + sizeR r), ⟨⟨⟨by simp only; omega, by simp only; omega⟩, by simp only; omega⟩, by simp only; omega⟩, Ent.of ?_⟩
    simp only [sx, sb1, sb2, sb3, sb4, sb5, sb6, sb7, ↓reduceIte, Nat.reduceAdd, Nat.reduceMul, Nat.reduceDiv, Nat.reduceEqDiff, Nat.reduceLT, Nat.reduceLeDiff, reduceCtorEq, Int.reduceEq, Int.reduceNe, Int.reduceLT, Int.reduceLE, Int.reduceAdd, Int.reduceSub, Int.reduceMul, Int.reduceNeg, Int.reduceToNat, Int.cast_ofNat_Int, Int.natCast_zero, Int.natCast_one, Int.toNat_natCast, Nat.reduceBEq, Int.natCast_add]
end Go.X.Sg

