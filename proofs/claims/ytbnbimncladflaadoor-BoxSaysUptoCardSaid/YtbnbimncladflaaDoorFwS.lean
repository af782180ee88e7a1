/- The logic: a strings.Builder, by the kit's contracts; it lies in known memory that turns with it. Conditions: none. -/
import Derived.Test.YtbnbimncladflaaDoorFwR
import Derived.Shelf.Lays
import Derived.Lib.Builder
import Derived.Shelf.Strings.Builder1
set_option linter.unusedSimpArgs false
set_option linter.unusedVariables false
set_option maxHeartbeats 4000000
set_option maxRecDepth 20000
namespace Go.Proofs
open Go.Shelf
def Tryd.lays166_ren : Go.Shelf.Ren := ⟨fun | 166 => 32 | 240 => 48 | 276 => 60 | n => n, fun | 70 => 52 | 9 => 9 | 3 => 3 | 75 => 56 | 0 => 0 | 72 => 54 | 37 => 36 | 4 => 4 | 164 => 85 | 80 => 61 | 5 => 5 | 20 => 20 | n => n, fun | n => n⟩
theorem Tryd.lays166 : Go.Proofs.Lays.n166 Tryd.prog Tryd.lays166_ren := {
  mixed := by kernel_rfl,
  f166 := Tryd.func32.trans (congrArg some (by kernel_rfl)),
  f240 := Tryd.func48.trans (congrArg some (by kernel_rfl)),
  f276 := Tryd.func60.trans (congrArg some (by kernel_rfl)),
  t0 := Tryd.underlying0,
  a0 := Tryd.isAgg0,
  z0 := Tryd.sizeOf0,
  v0 := Tryd.zeroValue0,
  t3 := Tryd.underlying3,
  a3 := Tryd.isAgg3,
  z3 := Tryd.sizeOf3,
  v3 := Tryd.zeroValue3,
  t4 := Tryd.underlying4,
  a4 := Tryd.isAgg4,
  z4 := Tryd.sizeOf4,
  v4 := Tryd.zeroValue4,
  t9 := Tryd.underlying9,
  a9 := Tryd.isAgg9,
  z9 := Tryd.sizeOf9,
  v9 := Tryd.zeroValue9,
  t20 := Tryd.underlying20,
  a20 := Tryd.isAgg20,
  z20 := Tryd.sizeOf20,
  v20 := Tryd.zeroValue20,
  t37 := Tryd.underlying36,
  a37 := Tryd.isAgg36,
  z37 := Tryd.sizeOf36,
  v37 := Tryd.zeroValue36,
  t70 := Tryd.underlying52,
  a70 := Tryd.isAgg52,
  z70 := Tryd.sizeOf52,
  v70 := Tryd.zeroValue52,
  t72 := Tryd.underlying54,
  a72 := Tryd.isAgg54,
  z72 := Tryd.sizeOf54,
  v72 := Tryd.zeroValue54,
  t75 := Tryd.underlying56,
  a75 := Tryd.isAgg56,
  z75 := Tryd.sizeOf56,
  v75 := Tryd.zeroValue56,
  t164 := Tryd.underlying85,
  a164 := Tryd.isAgg85,
  z164 := Tryd.sizeOf85,
  v164 := Tryd.zeroValue85 }

def Tryd.lays169_ren : Go.Shelf.Ren := ⟨fun | 169 => 35 | n => n, fun | 70 => 52 | 9 => 9 | 0 => 0 | 72 => 54 | 37 => 36 | 127 => 71 | 3 => 3 | 5 => 5 | n => n, fun | n => n⟩
theorem Tryd.lays169 : Go.Proofs.Lays.n169 Tryd.prog Tryd.lays169_ren := {
  mixed := by kernel_rfl,
  f169 := Tryd.func35.trans (congrArg some (by kernel_rfl)),
  t0 := Tryd.underlying0,
  a0 := Tryd.isAgg0,
  z0 := Tryd.sizeOf0,
  v0 := Tryd.zeroValue0,
  t3 := Tryd.underlying3,
  a3 := Tryd.isAgg3,
  z3 := Tryd.sizeOf3,
  v3 := Tryd.zeroValue3,
  t9 := Tryd.underlying9,
  a9 := Tryd.isAgg9,
  z9 := Tryd.sizeOf9,
  v9 := Tryd.zeroValue9,
  t37 := Tryd.underlying36,
  a37 := Tryd.isAgg36,
  z37 := Tryd.sizeOf36,
  v37 := Tryd.zeroValue36,
  t70 := Tryd.underlying52,
  a70 := Tryd.isAgg52,
  z70 := Tryd.sizeOf52,
  v70 := Tryd.zeroValue52,
  t72 := Tryd.underlying54,
  a72 := Tryd.isAgg54,
  z72 := Tryd.sizeOf54,
  v72 := Tryd.zeroValue54,
  t127 := Tryd.underlying71,
  a127 := Tryd.isAgg71,
  z127 := Tryd.sizeOf71,
  v127 := Tryd.zeroValue71 }

theorem Tryd.extra166 : Builder.Extra Tryd.prog Tryd.lays166_ren := { sizeBuilder := by kernel_rfl, liesBuilder := by kernel_rfl, t5 := Tryd.underlying5, a5 := Tryd.isAgg5, z5 := Tryd.sizeOf5, v5 := Tryd.zeroValue5, infoByte := by kernel_rfl, cellsByte := by kernel_rfl, sizeByte := by kernel_rfl, neB5 := by decide }
theorem Tryd.extra169 : Builder.Extra Tryd.prog Tryd.lays169_ren := { sizeBuilder := by kernel_rfl, liesBuilder := by kernel_rfl, t5 := Tryd.underlying5, a5 := Tryd.isAgg5, z5 := Tryd.sizeOf5, v5 := Tryd.zeroValue5, infoByte := by kernel_rfl, cellsByte := by kernel_rfl, sizeByte := by kernel_rfl, neB5 := by decide }
end Go.Proofs
namespace Go.X
open Go Go.RowKit Go.Shelf

/-- a builder lies at block b and holds the bytes l -/
structure Bld (E : Env) (T e : TypeId) (b : Nat) (l : List UInt8) (M : Mem) : Prop where
  base : E.w0.heap.size ≤ b
  old : ∀ c, E.M0 c ≠ none → c < b
  le : E.M0.le M
  is : ∀ w, M.on w → Lib.IsBuilder T e b b (Lib.byteCells l) w

section
variable {E : Env} {σ : Sig} {H : HS} {M : Mem} {a : Act} {w : World} {ν : Nat → Value} {K : KP} {o : Oper}

theorem bld_step {T e : TypeId} {b : Nat} {l l' : List UInt8} (hh : Heap E ν [] M w) (hB : Bld E T e b l M) {w' : World} (hbel : Below b w w') (his : Lib.IsBuilder T e b b (Lib.byteCells l') w') :
    ∃ M', Bld E T e b l' M' ∧ Heap E ν [] M' w' := by
  obtain ⟨ob, hob⟩ : ∃ ob, w'.heap[b]? = some ob := by
    rcases his with ⟨h0, v, h1, h2, h3⟩ | ⟨h0, v, h1, h2, h3⟩
    · exact ⟨_, h1⟩
    · exact ⟨_, h1⟩
  obtain ⟨g, hbg, ⟨og, hog⟩, hg⟩ : ∃ g, b ≤ g ∧ (∃ og, w'.heap[g]? = some og) ∧ ∀ w'' : World, w''.heap[b]? = w'.heap[b]? → w''.heap[g]? = w'.heap[g]? → Lib.IsBuilder T e b b (Lib.byteCells l') w'' := by
    rcases his with ⟨h0, v, h1, h2, h3⟩ | ⟨h0, v, h1, h2, h3⟩
    · rcases h2 with ⟨k1, ⟨k2, k3⟩ | ⟨g, cap, cur, k2, k3, k4, k5⟩⟩
      · exact ⟨b, Nat.le_refl _, ⟨_, hob⟩, fun w'' e1 _ => .inl ⟨h0, v, e1.trans h1, ⟨k1, .inl ⟨k2, k3⟩⟩, h3⟩⟩
      · exact ⟨g, k3, ⟨_, k4⟩, fun w'' e1 e2 => .inl ⟨h0, v, e1.trans h1, ⟨k1, .inr ⟨g, cap, cur, k2, k3, e2.trans k4, k5⟩⟩, h3⟩⟩
    · rcases h2 with ⟨k1, ⟨k2, k3⟩ | ⟨g, cap, cur, k2, k3, k4, k5⟩⟩
      · exact ⟨b, Nat.le_refl _, ⟨_, hob⟩, fun w'' e1 _ => .inr ⟨h0, v, e1.trans h1, ⟨k1, .inl ⟨k2, k3⟩⟩, h3⟩⟩
      · exact ⟨g, k3, ⟨_, k4⟩, fun w'' e1 e2 => .inr ⟨h0, v, e1.trans h1, ⟨k1, .inr ⟨g, cap, cur, k2, k3, e2.trans k4, k5⟩⟩, h3⟩⟩
  let M' : Mem := fun c => if c < b then M c else if c = b ∨ c = g then w'.heap[c]? else none
  have hle : E.M0.le M' := fun c o hc => by
    have h1 := hB.old c (by rw [hc]; exact fun h => by cases h)
    show (if c < b then M c else _) = _
    rw [if_pos h1]
    exact hh.le0 c o hc
  refine ⟨M', ⟨hB.base, hB.old, hle, fun w'' hw => hg w'' ?_ ?_⟩, ?_⟩
  · have : M' b = some ob := by
      show (if b < b then M b else if b = b ∨ b = g then w'.heap[b]? else none) = _
      rw [if_neg (Nat.lt_irrefl _), if_pos (.inl rfl), hob]
    rw [hob]
    exact hw b ob this
  · have : M' g = some og := by
      show (if g < b then M g else if g = b ∨ g = g then w'.heap[g]? else none) = _
      rw [if_neg (by omega), if_pos (.inr rfl), hog]
    rw [hog]
    exact hw g og this
  · refine { holds := (fun p hp => by cases hp), nodup := List.nodup_nil, apart := (fun b hb => by cases hb), mem := fun c o hc => ?_, below := hh.below.trans (hbel.mono hB.base), le0 := hle, fresh := fun c hc => ?_, one := hh.one }
    · replace hc : (if c < b then M c else if c = b ∨ c = g then w'.heap[c]? else none) = some o := hc
      by_cases h1 : c < b
      · rw [if_pos h1] at hc
        rw [hbel.block c h1]
        exact hh.mem c o hc
      · rw [if_neg h1] at hc
        by_cases h2 : c = b ∨ c = g
        · rw [if_pos h2] at hc
          exact hc
        · rw [if_neg h2] at hc
          cases hc
    · replace hc : (if c < b then M c else if c = b ∨ c = g then w'.heap[c]? else none) ≠ none := hc
      by_cases h1 : c < b
      · rw [if_pos h1] at hc
        exact hh.fresh c hc
      · exact .inr (by have := hB.base; omega)
/-- the builder is not looked at any more -/
theorem bld_end {T e : TypeId} {b : Nat} {l : List UInt8} (hh : Heap E ν [] M w) (hB : Bld E T e b l M) {w' : World} (hbel : Below b w w') : Heap E ν [] E.M0 w' :=
  { holds := (fun p hp => by cases hp), nodup := List.nodup_nil, apart := (fun b hb => by cases hb), mem := fun c o hc => by
      rw [hbel.block c (hB.old c (by rw [hc]; exact fun h => by cases h))]
      exact hh.mem c o (hB.le c o hc), below := hh.below.trans (hbel.mono hB.base), le0 := Mem.le.refl _, fresh := fun c hc => .inl hc, one := hh.one }

/-- the call's own memory is let go -/
theorem Heap.drop (hh : Heap E ν H M w) : Heap E ν [] M w :=
  { holds := (fun p hp => by cases hp), nodup := List.nodup_nil, apart := (fun b hb => by cases hb), mem := hh.mem, below := hh.below, le0 := hh.le0, fresh := hh.fresh, one := hh.one }
theorem OpK.bldNew {T e d : Nat} (ho : o.op = .alloc T) (hd : o.dst = some d) (hN : decide (d < E.N) = true) (hz : ∃ i z, E.P.info? T = some i ∧ i.zero = some z ∧ z.cells = #[.pointer none, .slice none 0 0])
    (hK : ∀ b M', M.le M' → Bld E T e b [] M' → K ((d, true, .v (ptrV b)) :: σ) [] M') : OpK E o K σ H M := by
  obtain ⟨i, z, hi, hz, hzc⟩ := hz
  refine opK_of fun ν a w hs hh => ?_
  replace hh := hh.drop
  have hal := heap_alloc_at w (.cells z.cells T)
  obtain ⟨M', h1, h2, h3⟩ := hh.known (w' := w.alloc (.cells z.cells T)) (below_alloc w _) hal
  refine ⟨.pointer (some ⟨w.heap.size, 0, none⟩), w.alloc (.cells z.cells T), ?_, (d, true, .v (ptrV w.heap.size)) :: σ, [], M', ?_, hK w.heap.size M' h1 ⟨hh.below.size, fun c hc => ?_, hh.le0.trans h1, fun w'' hw => ?_⟩⟩
  · simp [execOp, ho, Instr.alloc, zeroValue, typeInfo, hi, hz, newVar, newRow]
  · rw [hd]
    exact ⟨ν, hs.put (of_decide_eq_true hN) rfl, h3⟩
  · cases hc0 : E.M0 c with
    | none => exact absurd hc0 hc
    | some ob => exact (Array.getElem?_eq_some_iff.1 (hh.mem c ob (hh.le0 c ob hc0))).1
  · have := hw _ _ h2
    rw [hzc] at this
    exact .inl ⟨Nat.le_refl _, _, this, ⟨rfl, .inl ⟨rfl, rfl⟩⟩, by simp [Value.ownBlock]⟩

variable {ρ : Ren}
theorem CallK.bldWrite {f d b : Nat} {T e : TypeId} {l : List UInt8} {s : ByteArray} (L : Proofs.Lays.n166 E.P ρ) (X : Proofs.Builder.Extra E.P ρ) (hf : f = ρ.f 166) (hT : T = ρ.t 72) (he : e = ρ.t 5) (hd : decide (d < E.N) = true) (hc : callable E.P f)
    (hB : Bld E T e b l M) (hlen : l.length + s.size ≤ 140737488355328) (hK : ∀ M', Bld E T e b (l ++ bl s) M' → K ((d, true, .tup [.v (.int .i64 s.size), .v .nilIface]) :: σ) [] M') :
    CallK E f [.v (ptrV b), .v (.string s)] d K σ H M := by
  subst hf hT he
  intro ν a w hs hh
  replace hh := hh.drop
  refine .inl ⟨hc, ?_⟩
  have hi := hB.is w hh.mem
  have hlt : b < w.heap.size := by
    rcases hi with h | h
    · exact h.lt
    · exact h.lt
  refine (Proofs.Any.Builder_WriteString L X b b (Lib.byteCells l) s w hi (by rw [Lib.byteCells_length]; exact hlen) (Nat.le_of_lt hlt)).mono fun en w' ⟨he, hb, hbel⟩ => ?_
  have hcat : Lib.byteCells l ++ Lib.strCells s = Lib.byteCells (l ++ bl s) := by
    unfold Lib.byteCells Lib.strCells bl
    rw [List.map_append]
  rw [hcat] at hb
  obtain ⟨M', h1, h2⟩ := bld_step hh hB hbel (.inr hb)
  exact ⟨_, he, _, _, M', ⟨ν, hs.put (of_decide_eq_true hd) rfl, h2⟩, hK M' h1⟩
theorem CallK.bldString {f d b : Nat} {T e : TypeId} {l : List UInt8} (L : Proofs.Lays.n169 E.P ρ) (X : Proofs.Builder.Extra E.P ρ) (hf : f = ρ.f 169) (hT : T = ρ.t 72) (he : e = ρ.t 5) (hd : decide (d < E.N) = true) (hc : callable E.P f)
    (hB : Bld E T e b l M) (hK : K ((d, true, .v (.string ⟨l.toArray⟩)) :: σ) [] E.M0) :
    CallK E f [.v (ptrV b)] d K σ H M := by
  subst hf hT he
  intro ν a w hs hh
  replace hh := hh.drop
  refine .inl ⟨hc, ?_⟩
  have hi := hB.is w hh.mem
  have hlt : b < w.heap.size := by
    rcases hi with h | h
    · exact h.lt
    · exact h.lt
  refine (Proofs.Any.Builder_String_any L X b b l w hi (Nat.le_of_lt hlt)).mono fun en w' ⟨he, hbel⟩ => ?_
  exact ⟨_, he, _, _, _, ⟨ν, hs.put (of_decide_eq_true hd) rfl, bld_end hh hB hbel⟩, hK⟩
end
end Go.X
