/- The logic: known memory that turns (a string's iterator); known blocks that become the call's own again. Conditions: none. -/
import Derived.Test.YtbnbimncladflaaDoorFwR
import Derived.Laws.RangeString
import Derived.Lib.OthersKept
set_option linter.unusedSimpArgs false
set_option linter.unusedVariables false
set_option maxHeartbeats 4000000
set_option maxRecDepth 20000
namespace Go.X
open Go Go.RowKit
/-- known memory, block b another one -/
def updM (M : Mem) (b : Nat) (o : Obj) : Mem := fun c => if c = b then some o else M c
/-- known memory without block b -/
def offM (M : Mem) (b : Nat) : Mem := fun c => if c = b then none else M c
theorem updM_at (M : Mem) (b : Nat) (o : Obj) : updM M b o b = some o := by simp [updM]
theorem updM_upd (M : Mem) (b : Nat) (o o' : Obj) : updM (updM M b o) b o' = updM M b o' := by
  funext c
  unfold updM
  split <;> rfl
theorem le_updM {M N : Mem} {b : Nat} {o : Obj} (h : N.le M) (hb : N b = none) : N.le (updM M b o) := fun c x hc => by
  unfold updM
  rw [if_neg (fun e => by rw [e, hb] at hc; cases hc)]
  exact h c x hc
theorem offM_le (M : Mem) (b : Nat) : (offM M b).le M := fun c x hc => by
  unfold offM at hc
  split at hc
  · cases hc
  · exact hc
theorem le_offM {M N : Mem} {b : Nat} (h : N.le M) (hb : N b = none) : N.le (offM M b) := fun c x hc => by
  unfold offM
  rw [if_neg (fun e => by rw [e, hb] at hc; cases hc)]
  exact h c x hc
section
variable {E : Env} {σ : Sig} {H : HS} {M : Mem} {a : Act} {w : World} {ν : Nat → Value} {K : KP} {o : Oper}

theorem Heap.off (hh : Heap E ν H M w) {b : Nat} (h0 : E.M0 b = none) : Heap E ν H (offM M b) w := by
  refine ⟨hh.holds, hh.nodup, fun c hc => ⟨?_, (hh.apart c hc).2⟩, fun c x hc => hh.mem c x (offM_le M b c x hc), hh.below, le_offM hh.le0 h0, fun c hc => hh.fresh c ?_, hh.one⟩
  · unfold offM
    split
    · rfl
    · exact (hh.apart c hc).1
  · intro e
    unfold offM at hc
    split at hc
    · exact hc rfl
    · exact hc e
/-- a known block is another one -/
theorem Heap.turnM (hh : Heap E ν H M w) {b : Nat} {x x' : Obj} (hb : M b = some x) (h0 : E.M0 b = none) {w' : World} (hw : ∀ j, j ≠ b → w'.heap[j]? = w.heap[j]?) (hz : w'.heap.size = w.heap.size) (ho : w'.os = w.os ∧ w'.tape = w.tape ∧ w'.output = w.output) (hn : w'.heap[b]? = some x') :
    Heap E ν H (updM M b x') w' := by
  have hbs : E.w0.heap.size ≤ b := (hh.fresh b (by rw [hb]; exact fun e => by cases e)).resolve_left (fun e => e h0)
  have hf : ∀ c ∈ fp ν H, c ≠ b := fun c hc e => by
    have := (hh.apart c hc).1
    rw [e, hb] at this
    cases this
  have h1 := (hh.off h0).moved (w' := w') (fun c hc => hw c (hf c hc)) (fun c y hc => by
      have hne : c ≠ b := fun e => by simp [offM, e] at hc
      rw [hw c hne]
      exact hh.mem c y (offM_le M b c y hc))
    (hh.below.trans ⟨ho.1, ho.2.1, ho.2.2, Nat.le_of_eq hz.symm, fun k hk => hw k (by omega)⟩)
  refine ⟨h1.holds, h1.nodup, fun c hc => ⟨?_, (h1.apart c hc).2⟩, fun c y hc => ?_, h1.below, le_updM hh.le0 h0, fun c hc => ?_, h1.one⟩
  · unfold updM
    rw [if_neg (hf c hc)]
    exact (hh.apart c hc).1
  · unfold updM at hc
    split at hc
    · rename_i e
      cases hc
      rw [e]; exact hn
    · rename_i e
      rw [hw c e]
      exact hh.mem c y hc
  · unfold updM at hc
    split at hc
    · rename_i e
      exact .inr (by omega)
    · exact hh.fresh c hc
/-! ### a range over a string: its iterator -/
theorem OpK.rangeStr {t d : Nat} {x : Operand} {s : ByteArray} (ho : o.op = .range t x) (hd : o.dst = some d) (hN : decide (d < E.N) = true) (ht : E.P.underlying t = some .string) (hx : opv σ x = some (true, .v (.string s)))
    (hK : ∀ b, M b = none → E.M0 b = none → K ((d, true, .v (ptrV b)) :: σ) H (updM M b (.stringIter s 0))) : OpK E o K σ H M := by
  refine opK_of fun ν a w hs hh => ?_
  have ex := hs.opv hx rfl
  have hMn : M w.heap.size = none := by
    cases hM : M w.heap.size with
    | none => rfl
    | some o => have := hh.mem.lt hM; omega
  have h0 : E.M0 w.heap.size = none := by
    cases hM : E.M0 w.heap.size with
    | none => rfl
    | some y => rw [hh.le0 _ _ hM] at hMn; cases hMn
  obtain ⟨M', h1, h2, h3⟩ := hh.known (w' := w.iter s 0) (below_alloc w _) (World.iter_heap w s 0)
  refine ⟨.pointer (some ⟨w.heap.size, 0, none⟩), w.iter s 0, ?_, (d, true, .v (ptrV w.heap.size)) :: σ, H, updM M w.heap.size (.stringIter s 0), ?_, hK _ hMn h0⟩
  · simp only [execOp, ho, ex, SV.val, Sem.run_bind, run_range_string w t s ht, Result.andThen_ok, Sem.run_pure]
  · rw [hd]
    refine ⟨ν, hs.put (of_decide_eq_true hN) rfl, ?_⟩
    have h4 := hh.grow (below_alloc w (.stringIter s 0))
    refine ⟨h4.holds, h4.nodup, fun c hc => ⟨?_, (h4.apart c hc).2⟩, fun c y hc => ?_, h4.below, le_updM h4.le0 h0, fun c hc => ?_, h4.one⟩
    · unfold updM
      rw [if_neg (by have := hh.fp_lt hc; omega)]
      exact (h4.apart c hc).1
    · unfold updM at hc
      split at hc
      · rename_i e
        cases hc
        rw [e]; exact World.iter_heap w s 0
      · exact h4.mem c y hc
    · unfold updM at hc
      split at hc
      · rename_i e
        exact .inr (by rw [e]; exact hh.below.size)
      · exact h4.fresh c hc
theorem OpK.nextAscii {d b i : Nat} {x : Operand} {s : List UInt8} {c : UInt8} (ho : o.op = .next x true) (hd : o.dst = some d) (hN : decide (d < E.N) = true) (hx : opv σ x = some (true, .v (ptrV b))) (hb : M b = some (.stringIter ⟨s.toArray⟩ i)) (h0 : E.M0 b = none) (hc : s[i]? = some c) (ha : c.toNat < 128)
    (hK : K ((d, true, .tup [.v (.bool true), .v (.int .i64 (i : Int)), .v (.int .i32 (c.toNat : Int))]) :: σ) H (updM M b (.stringIter ⟨s.toArray⟩ (i + 1)))) : OpK E o K σ H M := by
  refine opK_of fun ν a w hs hh => ?_
  have ex := hs.opv hx rfl
  have hw := hh.mem b _ hb
  have hi : i < s.length := (List.getElem?_eq_some_iff.1 hc).1
  have hlt : i < (ByteArray.mk s.toArray).size := by simpa [ByteArray.size] using hi
  have hg : (ByteArray.mk s.toArray)[i]'hlt = c := by
    have := (List.getElem?_eq_some_iff.1 hc).2
    show s.toArray[i]'hlt = c
    simpa using this
  have hr := Lib.run_next_ascii_at (P := E.P) w b ⟨s.toArray⟩ i o.type hw hlt (by rw [hg]; exact ha)
  rw [hg] at hr
  refine ⟨.tuple #[.bool true, .int .i64 (i : Int), .int .i32 (c.toNat : Int)], w.iterAt b ⟨s.toArray⟩ (i + 1), ?_, (d, true, .tup [.v (.bool true), .v (.int .i64 (i : Int)), .v (.int .i32 (c.toNat : Int))]) :: σ, H, _, ?_, hK⟩
  · simp only [execOp, ho, ex, SV.val, Sem.run_bind, ptrV, hr, Result.andThen_ok, Sem.run_pure]
  · rw [hd]
    exact ⟨ν, hs.put (of_decide_eq_true hN) rfl, hh.turnM hb h0 (fun j hj => Lib.iterAt_other w b j _ _ hj) (Lib.iterAt_size w b _ _) ⟨rfl, rfl, rfl⟩ (Lib.iterAt_heap w b _ _ _ hw)⟩
theorem OpK.nextEnd {d b i : Nat} {x : Operand} {s : List UInt8} (ho : o.op = .next x true) (hd : o.dst = some d) (hN : decide (d < E.N) = true) (hx : opv σ x = some (true, .v (ptrV b))) (hb : M b = some (.stringIter ⟨s.toArray⟩ i)) (hc : s.length ≤ i)
    (hK : K ((d, true, .tup [.v (.bool false)]) :: σ) H M) : OpK E o K σ H M := by
  refine opK_of fun ν a w hs hh => ?_
  have ex := hs.opv hx rfl
  have hw := hh.mem b _ hb
  have hlt : ¬ i < (ByteArray.mk s.toArray).size := by simpa [ByteArray.size] using hc
  have hr := Lib.run_next_end_at (P := E.P) w b ⟨s.toArray⟩ i o.type hw hlt
  refine ⟨.tuple #[.bool false], w, ?_, (d, true, .tup [.v (.bool false)]) :: σ, H, M, ?_, hK⟩
  · simp only [execOp, ho, ex, SV.val, Sem.run_bind, ptrV, hr, Result.andThen_ok, Sem.run_pure]
  · rw [hd]
    exact ⟨ν, hs.put (of_decide_eq_true hN) rfl, hh⟩
variable {g : Bool} {d : Option Nat} {ty : TypeId} {pos : String} {aft : Array Edge} {gd : Option (Nat × Bool)}
theorem stepK_range (t : TypeId) (x : Operand) : stepK E ⟨d, .range t x, ty, pos, aft, gd⟩ g K σ H M = (g = true ∧ OpK E ⟨d, .range t x, ty, pos, aft, gd⟩ K σ H M) := rfl
theorem stepK_next (x : Operand) (s : Bool) : stepK E ⟨d, .next x s, ty, pos, aft, gd⟩ g K σ H M = (g = true ∧ OpK E ⟨d, .next x s, ty, pos, aft, gd⟩ K σ H M) := rfl
end
theorem sT : type_of% (And.intro @stepK_range @stepK_next) := ⟨@stepK_range, @stepK_next⟩
end Go.X
namespace Go.X
open Go Go.RowKit
theorem Meets.nilOr {P : Program} {f : FuncId} {args : List SV} {sz : Nat} {M : Mem} {T : SV → SV} {es : List (List Value)} (hT : Ctx T) (h : Meets P f args M (fun r H M' => (r = T (.v (.slice none 0 0)) ∧ es = []) ∨ OwnR T sz es r H M')) : Meets P f args M (OwnR T sz es) := by
  refine ⟨h.1, fun w hw => (h.2 w hw).mono ?_⟩
  rintro e w' ⟨s, H', M', ν, h1, hh, h2⟩
  rcases h2 with ⟨rfl, rfl⟩ | h2
  · refine ⟨T (.own 0), [(0, .row sz [])], M', fun _ => .slice none 0 0, ?_, ⟨fun p hp => ?_, by simp [fp, blk?], by simp [fp, blk?], hh.mem, hh.below, hh.le0, hh.fresh, fun _ => rfl⟩, 0, rfl, rfl⟩
    · rw [h1, hT (.v (.slice none 0 0)) (.own 0) ν (fun _ => .slice none 0 0) rfl]
    · simp only [List.mem_singleton] at hp
      subst hp
      exact ⟨fun e he => by simp at he, .inl ⟨rfl, rfl⟩⟩
  · exact ⟨s, H', M', ν, h1, hh, h2⟩
theorem Meets.rows {T : SV → SV} {sz : Nat} {es : List (List Value)} {P : Program} {f : FuncId} {args : List SV} {M : Mem} (h : Meets P f args M (OwnR T sz es)) : Meets P f args M (RowR T sz es) :=
  h.mono fun _ _ _ _ ⟨k, h1, h2⟩ => ⟨.own k, h1, h2⟩
theorem fidx_sp {α : Type} (p : α → Bool) : ∀ (l : List α) (i : Nat), (fidx p l i = -1 ∧ ∀ x ∈ l, p x = false) ∨ ∃ j x, fidx p l i = ((i + j : Nat) : Int) ∧ l[j]? = some x ∧ p x = true ∧ ∀ q y, q < j → l[q]? = some y → p y = false
  | [], i => .inl ⟨rfl, fun x hx => by cases hx⟩
  | a :: l, i => by
    cases ha : p a with
    | true => exact .inr ⟨0, a, by simp [fidx, ha], rfl, ha, fun q y hq => by omega⟩
    | false =>
      rcases fidx_sp p l (i + 1) with ⟨h1, h2⟩ | ⟨j, x, h1, h2, h3, h4⟩
      · refine .inl ⟨by simp [fidx, ha, h1], fun x hx => ?_⟩
        rcases List.mem_cons.1 hx with rfl | hx
        · exact ha
        · exact h2 x hx
      · refine .inr ⟨j + 1, x, by simp only [fidx, ha]; simp; rw [h1]; omega, h2, h3, fun q y hq hy => ?_⟩
        cases q with
        | zero => simp at hy; subst hy; exact ha
        | succ q => exact h4 q y (by omega) hy
theorem fidx_map {α β : Type} (g : α → β) (p : β → Bool) : ∀ (l : List α) (i : Nat), fidx p (l.map g) i = fidx (fun x => p (g x)) l i
  | [], _ => rfl
  | a :: l, i => by
    simp only [List.map_cons, fidx]
    split
    · rfl
    · exact fidx_map g p l (i + 1)
end Go.X
