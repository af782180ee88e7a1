/- Contracts of functions and the logic that they are proved in (2 texts in one). Conditions: none. -/
import Derived.MapKept
import Derived.Test.YtoohifeidifocaaGreatMg6
set_option linter.unusedSimpArgs false
set_option linter.unusedVariables false
set_option maxHeartbeats 4000000
set_option maxRecDepth 20000
namespace Go.X
open Go Go.RowKit

/-- the first entry of a key -/
def fnd {α : Type} [DecidableEq α] (a : α) : List (α × Value) → Nat → Option (Nat × Value)
  | [], _ => none
  | p :: l, i => if a = p.1 then some (i, p.2) else fnd a l (i + 1)
def encL {α : Type} (enc : α → Value) (l : List (α × Value)) : List (Value × Value) := l.map fun p => (enc p.1, p.2)
/-- what the machine asks of a key's type -/
structure KeyT (P : Program) (kt : TypeId) {α : Type} [DecidableEq α] (enc : α → Value) : Prop where
  known : ∃ d, P.underlying kt = some d
  check : ∀ e w a, (Instr.checkKey e 10000 kt (enc a)).run P w = .ok () w
  eq : ∀ w a b, (Op.equal kt (enc a) (enc b)).run P w = .ok (decide (a = b)) w
  now : ∀ d a b, P.underlying kt = some d → Instr.sameNow d (enc a) (enc b) = some (decide (a = b)) ∨ Instr.sameNow d (enc a) (enc b) = none
  same : ∀ a, Instr.sameBits 10000 (enc a) (enc a) = true

section
variable {P : Program} {kt : TypeId} {α : Type} [DecidableEq α] {enc : α → Value}
theorem KeyT.findAsking (K : KeyT P kt enc) (w : World) (a : α) : ∀ (l : List (α × Value)) (es : List MapEntry) (i : Nat), es.map (fun e => (e.key, e.val)) = encL enc l → (Instr.findAsking kt (enc a) es i).run P w = .ok (fnd a l i) w
  | [], [], i, _ => by simp [Instr.findAsking, fnd]
  | [], _ :: _, i, h => by simp [encL] at h
  | _ :: _, [], i, h => by simp [encL] at h
  | p :: l, e :: es, i, h => by
    simp only [encL, List.map_cons, List.cons.injEq, Prod.mk.injEq] at h
    obtain ⟨⟨h1, h2⟩, h3⟩ := h
    have ih := KeyT.findAsking K w a l es (i + 1) h3
    simp only [Instr.findAsking, Sem.run_bind, h1, K.eq, Result.andThen_ok, fnd]
    by_cases hp : a = p.1
    · simp [hp, h2]
    · simp only [hp, decide_false, Bool.false_eq_true, if_false]
      exact ih
theorem KeyT.findNow (K : KeyT P kt enc) {d : TypeDesc} (hd : P.underlying kt = some d) (a : α) : ∀ (l : List (α × Value)) (es : List MapEntry) (i : Nat), es.map (fun e => (e.key, e.val)) = encL enc l → Instr.findNow d (enc a) es i = some (fnd a l i) ∨ Instr.findNow d (enc a) es i = none
  | [], [], i, _ => .inl rfl
  | [], _ :: _, i, h => by simp [encL] at h
  | _ :: _, [], i, h => by simp [encL] at h
  | p :: l, e :: es, i, h => by
    simp only [encL, List.map_cons, List.cons.injEq, Prod.mk.injEq] at h
    obtain ⟨⟨h1, h2⟩, h3⟩ := h
    have ih := KeyT.findNow K hd a l es (i + 1) h3
    simp only [Instr.findNow, h1, fnd]
    rcases K.now d a p.1 hd with h | h
    · rw [h]
      by_cases hp : a = p.1
      · simp [hp, h2]
      · simp only [hp, decide_false, if_false]
        exact ih
    · rw [h]
      exact .inr rfl
theorem KeyT.findKey (K : KeyT P kt enc) (w : World) (a : α) {l : List (α × Value)} {es : List MapEntry} (h : es.map (fun e => (e.key, e.val)) = encL enc l) : (Instr.findKey kt (enc a) es).run P w = .ok (fnd a l 0) w := by
  obtain ⟨d, hd⟩ := K.known
  simp only [Instr.findKey, Sem.run_bind, run_underlying hd, Result.andThen_ok]
  rcases K.findNow hd a l es 0 h with h1 | h1
  · rw [h1]; rfl
  · rw [h1]
    exact K.findAsking w a l es 0 h
theorem fnd_spec (a : α) : ∀ (l : List (α × Value)) (i : Nat), (fnd a l i = none ∧ ∀ p ∈ l, p.1 ≠ a) ∨ ∃ j v, fnd a l i = some (i + j, v) ∧ l[j]? = some (a, v)
  | [], i => .inl ⟨rfl, fun p hp => by cases hp⟩
  | p :: l, i => by
    simp only [fnd]
    by_cases hp : a = p.1
    · rw [if_pos hp]
      exact .inr ⟨0, p.2, rfl, by rw [hp]; rfl⟩
    · rw [if_neg hp]
      rcases fnd_spec a l (i + 1) with ⟨h1, h2⟩ | ⟨j, v, h1, h2⟩
      · refine .inl ⟨h1, fun q hq => ?_⟩
        rcases List.mem_cons.1 hq with rfl | hq
        · exact fun e => hp e.symm
        · exact h2 q hq
      · exact .inr ⟨j + 1, v, by rw [h1]; congr 2; omega, by simpa using h2⟩
/-- the map after a store -/
def upd (a : α) (v : Value) (l : List (α × Value)) : List (α × Value) := match fnd a l 0 with
  | some (i, _) => l.set i (a, v)
  | none => l ++ [(a, v)]
end

theorem stamp_push {m : Array MapEntry} {c : Nat} {k v : Value} (h : m.size = c ∧ ∀ (j : Nat) (e : MapEntry), m[j]? = some e → e.born = j) : (m.push { key := k, val := v, born := c }).size = c + 1 ∧ ∀ (j : Nat) (e : MapEntry), (m.push { key := k, val := v, born := c })[j]? = some e → e.born = j := by
  refine ⟨by simp [h.1], fun j e hj => ?_⟩
  rw [Array.getElem?_push] at hj
  split at hj
  · rename_i e1
    cases hj
    show c = j
    rw [e1]; exact h.1.symm
  · exact h.2 j e hj
theorem stamp_mod {m : Array MapEntry} {c i : Nat} {f : MapEntry → MapEntry} (h : m.size = c ∧ ∀ (j : Nat) (e : MapEntry), m[j]? = some e → e.born = j) (hf : ∀ e, (f e).born = e.born) : (m.modify i f).size = c ∧ ∀ (j : Nat) (e : MapEntry), (m.modify i f)[j]? = some e → e.born = j := by
  refine ⟨by rw [Array.size_modify]; exact h.1, fun j e hj => ?_⟩
  rw [Array.getElem?_modify] at hj
  split at hj
  · rw [Option.map_eq_some_iff] at hj
    obtain ⟨x, hx, rfl⟩ := hj
    rw [hf]
    exact h.2 j x hx
  · exact h.2 j e hj
/-- where a key's entry stands, or would -/
def kix {α : Type} [DecidableEq α] (a : α) (l : List (α × Value)) : Nat := match fnd a l 0 with
  | some (i, _) => i
  | none => l.length
/-- the map with an entry for a key -/
def ens {α : Type} [DecidableEq α] (a : α) (z : Value) (l : List (α × Value)) : List (α × Value) := match fnd a l 0 with
  | some _ => l
  | none => l ++ [(a, z)]
theorem ens_at {α : Type} [DecidableEq α] (a : α) (z : Value) (l : List (α × Value)) : ∃ v, (ens a z l)[kix a l]? = some (a, v) ∧ ((fnd a l 0).map (·.2)).getD z = v := by
  unfold ens kix
  rcases fnd_spec a l 0 with ⟨h1, _⟩ | ⟨j, v, h1, h2⟩
  · rw [h1]
    exact ⟨z, by simp, rfl⟩
  · rw [h1]
    exact ⟨v, by simpa using h2, rfl⟩
theorem ens_set {α : Type} [DecidableEq α] (a : α) (z u : Value) (l : List (α × Value)) : (ens a z l).set (kix a l) (a, u) = upd a u l := by
  unfold ens kix upd
  rcases fnd_spec a l 0 with ⟨h1, _⟩ | ⟨j, v, h1, h2⟩
  · rw [h1]
    simp [List.set_append]
  · rw [h1]
theorem fnd_app {α : Type} [DecidableEq α] (a : α) (l' : List (α × Value)) : ∀ (l : List (α × Value)) (i : Nat), fnd a (l ++ l') i = match fnd a l i with
    | some p => some p
    | none => fnd a l' (i + l.length)
  | [], i => rfl
  | p :: l, i => by
    simp only [List.cons_append, fnd, List.length_cons]
    split
    · rfl
    · rw [fnd_app a l' l (i + 1), show i + 1 + l.length = i + (l.length + 1) by omega]
theorem fnd_setv {α : Type} [DecidableEq α] (a b : α) (u v : Value) : ∀ (l : List (α × Value)) (i j : Nat), l[j]? = some (b, v) → (∀ q p, q < j → l[q]? = some p → p.1 ≠ b) → ((fnd a (l.set j (b, u)) i).map (·.2)) = if a = b then some u else (fnd a l i).map (·.2)
  | [], i, j, h, _ => by simp at h
  | p :: l, i, 0, h, _ => by
    simp only [List.getElem?_cons_zero, Option.some.injEq] at h
    subst h
    simp only [List.set_cons_zero, fnd]
    by_cases hab : a = b
    · rw [if_pos hab, if_pos hab]; rfl
    · rw [if_neg hab, if_neg hab, if_neg hab]
  | p :: l, i, j + 1, h, hq => by
    have ih := fnd_setv a b u v l (i + 1) j (by simpa using h) (fun q p hq1 hp => hq (q + 1) p (by omega) (by simpa using hp))
    simp only [List.set_cons_succ, fnd]
    by_cases hap : a = p.1
    · rw [if_pos hap, if_pos hap, if_neg (fun e => hq 0 p (by omega) rfl (by rw [← hap, e]))]
    · rw [if_neg hap, if_neg hap, ih]
theorem fnd_first {α : Type} [DecidableEq α] (a : α) : ∀ (l : List (α × Value)) (i j : Nat) (v : Value), fnd a l i = some (i + j, v) → ∀ q p, q < j → l[q]? = some p → p.1 ≠ a
  | [], i, j, v, h => by cases h
  | x :: l, i, j, v, h => by
    simp only [fnd] at h
    split at h
    · have : i = i + j := by simpa using congrArg (·.map (·.1)) h
      intro q p hq; omega
    · rename_i hx
      intro q p hq hp
      cases q with
      | zero => simp at hp; subst hp; exact fun e => hx e.symm
      | succ q =>
        obtain ⟨j', rfl⟩ : ∃ j', j = j' + 1 := ⟨j - 1, by omega⟩
        exact fnd_first a l (i + 1) j' v (by rw [h]; congr 2; omega) q p (by omega) (by simpa using hp)
/-- what a key has behind a store -/
theorem fnd_upd {α : Type} [DecidableEq α] (a b : α) (u : Value) (l : List (α × Value)) : ((fnd a (upd b u l) 0).map (·.2)) = if a = b then some u else (fnd a l 0).map (·.2) := by
  unfold upd
  rcases fnd_spec b l 0 with ⟨h1, h2⟩ | ⟨j, v, h1, h2⟩
  · rw [h1]
    simp only
    rw [fnd_app]
    by_cases hab : a = b
    · subst hab
      rw [h1, if_pos rfl]
      simp [fnd]
    · rw [if_neg hab]
      cases fnd a l 0 with
      | some p => rfl
      | none => simp [fnd, hab]
  · rw [h1]
    simp only
    rw [Nat.zero_add]
    exact fnd_setv a b u v l 0 j h2 (fnd_first b l 0 j v h1)

section
variable {E : Env} {σ : Sig} {H : HS} {M : Mem} {a : Act} {w : World} {ν : Nat → Value} {K : KP} {o : Oper}

theorem OpK.makeMap {t d : Nat} (ho : o.op = .makeMap t none) (hd : o.dst = some d) (hN : decide (d < E.N) = true) (hn : hNoKey d (hdel d H) = true)
    (hK : K ((d, true, .own (8 * d)) :: sigDrop d σ) ((8 * d, .mp []) :: hdel d H) M) : OpK E o K σ H M := by
  refine opK_of fun ν a w hs hh => ?_
  refine ⟨.map (some w.heap.size), w.alloc (.map #[] 0), ?_, _, _, _, ?_, hK⟩
  · simp [execOp, ho, Instr.makeMap]
  · rw [hd]
    refine Rep.fresh hs hh (of_decide_eq_true hN) (hdel_sub d H) hn (below_alloc w _) rfl (fun ν' hν' => ?_) (fun b hb => by simp only [blk?, Option.some.injEq] at hb; omega) (fun ν' h => h)
    exact ⟨w.heap.size, #[], 0, rfl, heap_alloc_at w _, rfl, rfl, fun j e h => by simp at h⟩
theorem Heap.mapAt (hh : Heap E ν H M w) {k : Nat} {es : List (Value × Value)} (hk : hget H k = some (.mp es)) : ∃ b m c, ν k = .map (some b) ∧ w.heap[b]? = some (.map m c) ∧ m.toList.map (fun e => (e.key, e.val)) = es ∧ (m.size = c ∧ ∀ (j : Nat) (e : MapEntry), m[j]? = some e → e.born = j) := hh.holds _ (hget_mem hk)
theorem OpK.lookup {t d kt et k : Nat} {x y : Operand} {α : Type} [DecidableEq α] {enc : α → Value} {key : α} {l : List (α × Value)} {s : SV} {z : Value} (KT : KeyT E.P kt enc) (ho : o.op = .lookup t x y false) (hd : o.dst = some d) (hN : decide (d < E.N) = true)
    (ht : E.P.underlying t = some (.map kt et)) (hz : ∀ w, (zeroValue et).run E.P w = .ok z w) (hx : opv σ x = some (true, .own k)) (hy : opv σ y = some (true, s)) (hs' : ∀ ν, s.val ν = enc key) (hk : hget H k = some (.mp (encL enc l)))
    (hK : K ((d, true, .v (((fnd key l 0).map (·.2)).getD z)) :: σ) H M) : OpK E o K σ H M := by
  refine opK_of fun ν a w hs hh => ?_
  obtain ⟨b, m, c, hν, hb, he, hst⟩ := hh.mapAt hk
  have ex : a.eval x = .map (some b) := by rw [hs.opv hx rfl]; exact hν
  have ey : a.eval y = enc key := by rw [hs.opv hy rfl]; exact hs' ν
  refine ⟨((fnd key l 0).map (·.2)).getD z, w, ?_, _, _, _, ⟨ν, ?_, hh⟩, hK⟩
  · simp only [execOp, ho, ex, ey, Instr.lookup, Sem.run_bind, run_underlying ht, Result.andThen_ok, MapKept.run_getObj_map hb, Sem.run_pure, KT.check, KT.findKey w key he]
    cases hf : fnd key l 0 with
    | none => simp [hz]
    | some p => simp
  · rw [hd]
    exact hs.put (of_decide_eq_true hN) rfl
theorem OpK.mapEntry {t d kt et k : Nat} {x y : Operand} {α : Type} [DecidableEq α] {enc : α → Value} {key : α} {l : List (α × Value)} {s : SV} {z : Value} (KT : KeyT E.P kt enc) (ho : o.op = .mapEntry t x y) (hd : o.dst = some d) (hN : decide (d < E.N) = true)
    (ht : E.P.underlying t = some (.map kt et)) (hz : ∀ w, (zeroValue et).run E.P w = .ok z w) (hx : opv σ x = some (true, .own k)) (hy : opv σ y = some (true, s)) (hs' : ∀ ν, s.val ν = enc key) (hk : hget H k = some (.mp (encL enc l)))
    (hK : K ((d, true, .tup [.v (((fnd key l 0).map (·.2)).getD z), .v (.int .i64 ((kix key l : Nat) : Int))]) :: σ) (hset k (.mp (encL enc (ens key z l))) H) M) : OpK E o K σ H M := by
  refine opK_of fun ν a w hs hh => ?_
  obtain ⟨b, m, c, hν, hb, he, hst⟩ := hh.mapAt hk
  have ex : a.eval x = .map (some b) := by rw [hs.opv hx rfl]; exact hν
  have ey : a.eval y = enc key := by rw [hs.opv hy rfl]; exact hs' ν
  have hlen : m.toList.length = l.length := by
    have := congrArg List.length he
    simpa [encL] using this
  have hms : m.size = l.length := by rw [← Array.length_toList]; exact hlen
  rcases fnd_spec key l 0 with ⟨h1, h2⟩ | ⟨j, v0, h1, h2⟩
  · obtain ⟨g1, g2⟩ := MapKept.heap_set (o' := .map (m.push { key := enc key, val := z, born := c }) (c + 1)) hb
    have e1 : kix key l = c := by unfold kix; rw [h1]; exact hms.symm.trans hst.1
    have e2 : ens key z l = l ++ [(key, z)] := by unfold ens; rw [h1]
    rw [h1, e1, e2] at hK
    refine ⟨.tuple #[z, .int .i64 (c : Int)], { w with heap := w.heap.setIfInBounds b (.map (m.push { key := enc key, val := z, born := c }) (c + 1)) }, ?_, _, _, _, ⟨ν, ?_, ?_⟩, hK⟩
    · simp only [execOp, ho, ex, ey, Instr.mapEntry, Sem.run_bind, run_underlying ht, Result.andThen_ok, MapKept.run_getObj_map hb, KT.check, KT.findKey w key he, h1, hz, MapKept.run_setObj_map _ hb, Sem.run_pure, goInt]
    · rw [hd]
      exact hs.put (of_decide_eq_true hN) rfl
    · exact hh.upd hk (p := .mp (encL enc (l ++ [(key, z)]))) (b := b) (by rw [hν]; rfl) g2 (by simp) ⟨rfl, rfl, rfl⟩ ⟨b, _, c + 1, hν, g1, by simp only [Array.toList_push, List.map_append, he, encL, List.map_cons, List.map_nil], stamp_push hst⟩
  · rw [Nat.zero_add] at h1
    have hjl : j < l.length := (List.getElem?_eq_some_iff.1 h2).1
    have hjm : m[j]? = some (m[j]'(by omega)) := Array.getElem?_eq_getElem _
    have hkv : (m[j]'(by omega)).key = enc key := by
      have h3 : (m.toList.map (fun e => (e.key, e.val)))[j]? = (encL enc l)[j]? := by rw [he]
      rw [encL, List.getElem?_map, List.getElem?_map, h2, Array.getElem?_toList, hjm] at h3
      simp only [Option.map_some, Option.some.injEq, Prod.mk.injEq] at h3
      exact h3.1
    have hbn := hst.2 j _ hjm
    obtain ⟨g1, g2⟩ := MapKept.heap_set (o' := .map (m.modify j fun e => { e with key := enc key }) c) hb
    have e1 : kix key l = j := by unfold kix; rw [h1]
    have e2 : ens key z l = l := by unfold ens; rw [h1]
    rw [h1, e1, e2] at hK
    refine ⟨.tuple #[v0, .int .i64 (j : Int)], { w with heap := w.heap.setIfInBounds b (.map (m.modify j fun e => { e with key := enc key }) c) }, ?_, _, _, _, ⟨ν, ?_, ?_⟩, hK⟩
    · simp only [execOp, ho, ex, ey, Instr.mapEntry, Sem.run_bind, run_underlying ht, Result.andThen_ok, MapKept.run_getObj_map hb, KT.check, KT.findKey w key he, h1, hjm, Option.map_some, Option.getD_some, hkv, hbn, Instr.keyThatStays, KT.same, if_true, MapKept.run_setObj_map _ hb, Sem.run_pure, goInt]
    · rw [hd]
      exact hs.put (of_decide_eq_true hN) rfl
    · refine hh.upd hk (p := .mp (encL enc l)) (b := b) (by rw [hν]; rfl) g2 (by simp) ⟨rfl, rfl, rfl⟩ ⟨b, _, c, hν, g1, ?_, stamp_mod hst (fun _ => rfl)⟩
      apply List.ext_getElem?
      intro i
      have h3 : (m.toList.map (fun e => (e.key, e.val)))[i]? = (encL enc l)[i]? := by rw [he]
      rw [← h3]
      simp only [List.getElem?_map, Array.getElem?_toList, Array.getElem?_modify]
      by_cases hij : j = i
      · subst hij
        rw [if_pos rfl, hjm]
        simp only [Option.map_some, hkv]
      · rw [if_neg hij]
theorem OpK.entryStore {t k j : Nat} {x y v : Operand} {α : Type} {enc : α → Value} {key : α} {l : List (α × Value)} {u v0 : Value} (ho : o.op = .entryStore t x y v) (hd : o.dst = none)
    (hx : opv σ x = some (true, .own k)) (hy : opv σ y = some (true, .v (.int .i64 ((j : Nat) : Int)))) (hv : opv σ v = some (true, .v u)) (hk : hget H k = some (.mp (encL enc l))) (hj : l[j]? = some (key, v0))
    (hK : K σ (hset k (.mp (encL enc (l.set j (key, u)))) H) M) : OpK E o K σ H M := by
  rintro a w ⟨ν, hs, hh⟩
  obtain ⟨b, m, c, hν, hb, he, hst⟩ := hh.mapAt hk
  have ex : a.eval x = .map (some b) := by rw [hs.opv hx rfl]; exact hν
  have ey : a.eval y = .int .i64 ((j : Nat) : Int) := hs.opv hy rfl
  have ev : a.eval v = u := hs.opv hv rfl
  have hlen : m.toList.length = l.length := by
    have := congrArg List.length he
    simpa [encL] using this
  have hms : m.size = l.length := by rw [← Array.length_toList]; exact hlen
  have hjl : j < l.length := (List.getElem?_eq_some_iff.1 hj).1
  have hf : m.findIdx? (fun e => (e.born : Int) == (j : Int)) = some j := by
    rw [Array.findIdx?_eq_some_iff_getElem]
    refine ⟨by omega, ?_, fun i hi => ?_⟩
    · have := hst.2 j _ (Array.getElem?_eq_getElem (by omega))
      simp [this]
    · have := hst.2 i _ (Array.getElem?_eq_getElem (by omega))
      simp only [this, beq_iff_eq]
      omega
  obtain ⟨g1, g2⟩ := MapKept.heap_set (o' := .map (m.modify j fun e => { e with val := u }) c) hb
  have hrun : (execOp a.eval o).run E.P w = .ok .skip { w with heap := w.heap.setIfInBounds b (.map (m.modify j fun e => { e with val := u }) c) } := by
    simp only [execOp, ho, ex, ey, ev, Instr.entryStore, Sem.run_bind, Result.andThen_ok, MapKept.run_getObj_map hb, asInt, asIntOf, Sem.run_pure, hf, MapKept.run_setObj_map _ hb]
  unfold Oper.wp
  rw [hrun]
  simp only [Oper.upon]
  rw [hd]
  refine ⟨_, _, _, ⟨ν, hs, hh.upd hk (p := .mp (encL enc (l.set j (key, u)))) (b := b) (by rw [hν]; rfl) g2 (by simp) ⟨rfl, rfl, rfl⟩ ⟨b, _, c, hν, g1, ?_, stamp_mod hst (fun _ => rfl)⟩⟩, hK⟩
  apply List.ext_getElem?
  intro i
  have h3 : (m.toList.map (fun e => (e.key, e.val)))[i]? = (encL enc l)[i]? := by rw [he]
  simp only [encL, List.getElem?_map, Array.getElem?_toList, Array.getElem?_modify, List.getElem?_set] at h3 ⊢
  by_cases hij : j = i
  · subst hij
    rw [hj, Array.getElem?_eq_getElem (show j < m.size by omega)] at h3
    simp only [Option.map_some, Option.some.injEq, Prod.mk.injEq] at h3
    rw [if_pos rfl, if_pos rfl, if_pos hjl, Array.getElem?_eq_getElem (show j < m.size by omega)]
    simp only [Option.map_some, h3.1]
  · rw [if_neg hij, if_neg hij]
    exact h3
end
/-- keys that are integers -/
def encK (n : Int) : Value := .int .i64 n
theorem KeyT.int {P : Program} {kt : TypeId} (hd : P.underlying kt = some (.int .i64)) : KeyT P kt encK where
  known := ⟨_, hd⟩
  check := fun e w a => MapKept.run_checkKey hd (show MapKept.IsKey (.int .i64) (.int .i64 a) from rfl) e 9999
  eq := fun w a b => by
    show (Op.equalIn (9999 + 1) kt (.int .i64 a) (.int .i64 b)).run P w = _
    rw [run_equalIn_int w 9999 kt _ _ _ _ hd]
    congr 1
  now := fun d a b h => by
    rw [hd] at h
    cases h
    left
    show (if IntKind.i64 = IntKind.i64 then some (a == b) else none) = _
    rw [if_pos rfl]
    rfl
  same := fun a => by
    show (decide (IntKind.i64 = IntKind.i64) && _) = true
    simp
end Go.X

namespace Go.X
open Go Go.RowKit
section
variable {E : Env} {σ : Sig} {H : HS} {M : Mem} {a : Act} {w : World} {ν : Nat → Value} {K : KP} {o : Oper}

/-- private memory that is as it was, in another world -/
theorem Heap.moved (hh : Heap E ν H M w) {w' : World} (hb : ∀ b ∈ fp ν H, w'.heap[b]? = w.heap[b]?) (hM : M.on w') (hB : Below E.w0.heap.size E.w0 w') : Heap E ν H M w' := by
  refine ⟨fun q hq => ?_, hh.nodup, hh.apart, hM, hB, hh.le0, hh.fresh, hh.one⟩
  have h0 := hh.holds q hq
  have hm : ∀ b, blk? (ν q.1) = some b → w'.heap[b]? = w.heap[b]? := fun b h => hb b (List.mem_filterMap.2 ⟨q, hq, h⟩)
  obtain ⟨j, po⟩ := q
  simp only at hm h0
  cases po with
  | box cs t =>
    obtain ⟨⟨b', T, e, h⟩, ht⟩ := h0
    exact ⟨⟨b', T, e, by rw [hm b' (by rw [e]; rfl)]; exact h⟩, ht⟩
  | row sz es =>
    obtain ⟨h1, h2⟩ := h0
    refine ⟨h1, h2.imp id ?_⟩
    rintro ⟨b', cap, T, sp, e, h3, h4, h5, h⟩
    exact ⟨b', cap, T, sp, e, h3, h4, h5, by rw [hm b' (by rw [e]; rfl)]; exact h⟩
  | tab sz es =>
    obtain ⟨h1, h2⟩ := h0
    refine ⟨h1, h2.imp id ?_⟩
    rintro ⟨b', cap, T, sp, e, h3, h4, h5, h⟩
    exact ⟨b', cap, T, sp, e, h3, h4, h5, by rw [hm b' (by rw [e]; rfl)]; exact h⟩
  | mp es =>
    obtain ⟨b', m, c, e, h, h3⟩ := h0
    exact ⟨b', m, c, e, by rw [hm b' (by rw [e]; rfl)]; exact h, h3⟩

def Ctxs (A : SV → List SV) : Prop := ∀ s s' ν ν', s.val ν = s'.val ν' → SV.vals ν (A s) = SV.vals ν' (A s')
theorem Ctxs.cons0 (l : List SV) (hl : SV.concs l = true) : Ctxs (fun s => s :: l) := fun s s' ν ν' h => by
  simp only [SV.vals, h, SV.concs_vals (ν := ν') (ν' := ν) l hl]
/-- a call that is lent a row of the call's own, and hands back a row of its own; the rest of what the call has stays -/
theorem CallK.lendR {f d sz sz' : Nat} {l : List SV} {es es' : List (List Value)} {A : SV → List SV} {T : SV → SV} (k : Nat) (hA : Ctxs A) (hT : Ctx T) (hl : l = A (.own k)) (hk : hget H k = some (.row sz es)) (hd : decide (d < E.N) = true)
    (h : ∀ M', M.le M' → MeetsH E.P f (A (.own 8000)) [(8000, .row sz es)] M' (OwnR T sz' es')) (hn : hNoKey d (hdelk k (hdel d H)) = true)
    (hK : K ((d, true, T (.own (8 * d))) :: sigDrop d σ) ((8 * d, .row sz' es') :: hdelk k (hdel d H)) M) : CallK E f l d K σ H M := by
  intro ν a w hs hh
  refine .inl ⟨(h M (Mem.le.refl M)).1, ?_⟩
  have hsub : (hdelk k (hdel d H)).Sublist H := (hdelk_sub k _).trans (hdel_sub d H)
  let rest := hdelk k (hdel d H)
  have hrest : Heap E ν rest M w := hh.sublist hsub
  let M1 : Mem := fun b => if b ∈ fp ν rest then w.heap[b]? else M b
  have hM1 : M.le M1 := fun b o hb => by
    simp only [M1]
    by_cases hf : b ∈ fp ν rest
    · have := (hrest.apart b hf).1; rw [hb] at this; cases this
    · rw [if_neg hf]; exact hb
  have hM1w : M1.on w := fun b o hb => by
    simp only [M1] at hb
    split at hb
    · exact hb
    · exact hh.mem b o hb
  let ν1 : Nat → Value := fun j => if j = 8000 then ν k else .bool false
  have e1 : ν1 8000 = ν k := by simp [ν1]
  have hp1 : Heap ⟨E.P, 0, E.w0, M1⟩ ν1 [(8000, .row sz es)] M1 w := by
    have hr := hh.holds _ (hget_mem hk)
    have hfp : ∀ b, b ∈ fp ν1 [(8000, .row sz es)] → blk? (ν k) = some b := fun b hb => by
      simp only [fp, List.filterMap_cons, List.filterMap_nil, e1] at hb
      split at hb
      · cases hb
      · rename_i b' he; simp only [List.mem_singleton] at hb; rw [hb]; exact he
    refine ⟨fun p hp => ?_, ?_, fun b hb => ?_, hM1w, hh.below, Mem.le.refl _, fun b hb => .inl hb, fun j => ?_⟩
    · simp only [List.mem_singleton] at hp
      subst hp
      rw [e1]
      exact hr
    · simp only [fp, List.filterMap_cons, List.filterMap_nil]
      split <;> simp
    · have h1 := hfp b hb
      have h2 := hh.apart b (List.mem_filterMap.2 ⟨_, hget_mem hk, h1⟩)
      refine ⟨?_, h2.2⟩
      simp only [M1]
      rw [if_neg (fp_hdelk hh hk h1 d rest hsub (hdelk_ne k _))]
      exact h2.1
    · simp only [ν1]
      split
      · exact hh.one k
      · rfl
  rw [hl, hA (.own k) (.own 8000) ν ν1 (by simp only [SV.val, e1])]
  refine ((h M1 hM1).2 E.w0 M1 ν1 w hp1).mono ?_
  rintro e w' ⟨s, H', M', ν', rfl, hh', k', rfl, hk'⟩
  let ν2 : Nat → Value := fun j => if j / 8 = d then ν' k' else ν j
  have hν : ∀ j, j / 8 ≠ d → ν2 j = ν j := fun j hj => by simp [ν2, hj]
  have hν8 : ν2 (8 * d) = ν' k' := by simp [ν2, show (8 * d) / 8 = d by omega]
  have hMw : M.on w' := fun b o hb => hh'.mem b o (hh'.le0 b o (hM1 b o hb))
  have hsome : ∀ b ∈ fp ν rest, ∃ ob, w.heap[b]? = some ob ∧ M' b = some ob := fun b hb => by
    have hlt := hrest.fp_lt hb
    refine ⟨w.heap[b], Array.getElem?_eq_getElem hlt, hh'.le0 b _ ?_⟩
    simp only [M1, if_pos hb]
    exact Array.getElem?_eq_getElem hlt
  have hmv : Heap E ν rest M w' := hrest.moved (fun b hb => by obtain ⟨ob, h1, h2⟩ := hsome b hb; rw [h1]; exact hh'.mem b ob h2) hMw hh'.below
  refine ⟨_, rfl, _, _, _, ⟨ν2, (hs.drop hν).put (of_decide_eq_true hd) ?_, hmv.add hn hν (fun j => ?_) ?_ (fun b hb => ?_)⟩, hK⟩
  · rw [cond_true]
    exact hT _ _ _ _ (by simp only [SV.val, hν8])
  · by_cases hj : j / 8 = d
    · simp only [ν2, hj, if_true]; exact hh'.one _
    · simp only [ν2, hj, if_false]; exact hh.one j
  · rw [hν8]
    exact hh'.holds _ (hget_mem hk')
  · rw [hν8] at hb
    obtain ⟨h1, h2⟩ := hh'.apart b (List.mem_filterMap.2 ⟨_, hget_mem hk', hb⟩)
    refine ⟨fun hm => ?_, ?_, h2⟩
    · obtain ⟨ob, _, h3⟩ := hsome b hm
      rw [h1] at h3
      cases h3
    · cases hM : M b with
      | none => rfl
      | some ob => have := hh'.le0 b _ (hM1 b _ hM); rw [h1] at this; cases this

/-! ### rows laid open -/
def opn (l : List Value) : List SV := l.map .v
theorem opn_vals (ν : Nat → Value) (l : List Value) : SV.vals ν (opn l) = l := vals_v ν l
/-- a function that is lent a row: it lies open -/
theorem MeetsH.openRow {P : Program} {f : FuncId} {R : RP} {A : SV → List SV} {sz : Nat} {es : List (List Value)} (k : Nat) (hA : Ctxs A)
    (hnil : es = [] → MeetsH P f (A (.v (.slice none 0 0))) [] M R)
    (h : ∀ b cap sp, es.length ≤ cap → cap ≤ maxLen → List.length sp = (cap - es.length) * sz → (∀ e ∈ es, e.length = sz ∧ ∀ c ∈ e, c.oneCell' = true) → MeetsH P f (A (.v (.slice (some ⟨b, 0, none⟩) es.length cap))) [(k, .box (opn (es.flatten ++ sp)) (some (ptrV b)))] M R)
    (hc : callable P f) : MeetsH P f (A (.own k)) [(k, .row sz es)] M R := by
  refine ⟨hc, fun w0 M0 ν w hh => ?_⟩
  obtain ⟨g1, g2⟩ := hh.holds (k, .row sz es) List.mem_cons_self
  simp only at g1 g2
  rcases g2 with ⟨hν, rfl⟩ | ⟨b, cap, T, sp, hν, g3, g4, g5, hb⟩
  · rw [hA (.own k) (.v (.slice none 0 0)) ν ν (by simp only [SV.val, hν])]
    exact (hnil rfl).2 w0 M0 ν w (hh.sublist (List.nil_sublist _))
  · let ν1 : Nat → Value := fun _ => ptrV b
    rw [hA (.own k) (.v (.slice (some ⟨b, 0, none⟩) es.length cap)) ν ν1 (by simp only [SV.val, hν])]
    refine (h b cap sp g3 g4 g5 g1).2 w0 M0 ν1 w ⟨fun p hp => ?_, by simp [fp, ν1, blk?], fun c hc => ?_, hh.mem, hh.below, hh.le0, hh.fresh, fun _ => rfl⟩
    · simp only [List.mem_singleton] at hp
      subst hp
      refine ⟨⟨b, T, rfl, by rw [opn_vals]; exact hb⟩, fun v hv => ?_⟩
      cases hv
      rfl
    · simp only [fp, List.filterMap_cons, List.filterMap_nil, ν1, blk?, List.mem_singleton] at hc
      subst hc
      exact hh.apart c (by simp [fp, hν, blk?])
/-- what is handed back lies open -/
def OpenR (T : SV → SV) (sz : Nat) (es : List (List Value)) : RP := fun r H _ => ∃ b k cap sp, r = T (.v (.slice (some ⟨b, 0, none⟩) es.length cap)) ∧ hget H k = some (.box (opn (es.flatten ++ sp)) (some (ptrV b))) ∧ es.length ≤ cap ∧ cap ≤ maxLen ∧ List.length sp = (cap - es.length) * sz
theorem MeetsH.closeR {P : Program} {f : FuncId} {args : List SV} {T : SV → SV} {sz : Nat} {es : List (List Value)} (hT : Ctx T) (hes : ∀ e ∈ es, e.length = sz ∧ ∀ c ∈ e, c.oneCell' = true)
    (h : MeetsH P f args H M (fun r H' M' => OpenR T sz es r H' M' ∨ (r = T (.v (.slice none 0 0)) ∧ es = []) ∨ OwnR T sz es r H' M')) : MeetsH P f args H M (OwnR T sz es) := by
  refine ⟨h.1, fun w0 M0 ν w hh => (h.2 w0 M0 ν w hh).mono ?_⟩
  rintro e w' ⟨s, H', M', ν', rfl, hh', ⟨b, k, cap, sp, rfl, hk, h1, h2, h3⟩ | ⟨rfl, rfl⟩ | hO⟩
  · obtain ⟨⟨b', T', e1, e2⟩, e3⟩ := hh'.holds _ (hget_mem hk)
    have e4 := e3 _ rfl
    simp only at e1 e4
    rw [e4] at e1
    cases e1
    rw [opn_vals] at e2
    refine ⟨T (.own 0), [(0, .row sz es)], M', fun _ => .slice (some ⟨b, 0, none⟩) es.length cap, by rw [hT (.v _) (.own 0) ν' (fun _ => .slice (some ⟨b, 0, none⟩) es.length cap) rfl], ⟨fun p hp => ?_, by simp [fp, blk?], fun c hc => ?_, hh'.mem, hh'.below, hh'.le0, hh'.fresh, fun _ => rfl⟩, 0, rfl, rfl⟩
    · simp only [List.mem_singleton] at hp
      subst hp
      exact ⟨hes, .inr ⟨b, cap, T', sp, rfl, h1, h2, h3, e2⟩⟩
    · simp only [fp, List.filterMap_cons, List.filterMap_nil, blk?, List.mem_singleton] at hc
      subst hc
      exact hh'.apart c (List.mem_filterMap.2 ⟨_, hget_mem hk, by rw [e4]; rfl⟩)
  · refine ⟨T (.own 0), [(0, .row sz [])], M', fun _ => .slice none 0 0, by rw [hT (.v _) (.own 0) ν' (fun _ => .slice none 0 0) rfl], ⟨fun p hp => ?_, by simp [fp, blk?], fun c hc => by simp [fp, blk?] at hc, hh'.mem, hh'.below, hh'.le0, hh'.fresh, fun _ => rfl⟩, 0, rfl, rfl⟩
    simp only [List.mem_singleton] at hp
    subst hp
    exact ⟨hes, .inl ⟨rfl, rfl⟩⟩
  · exact ⟨s, H', M', ν', rfl, hh', hO⟩
/-! operations on what lies open -/
theorem OpK.cap {x : Operand} {t d e : Nat} {y : Value} (ho : o.op = .call ⟨.builtin .cap, #[x], #[t]⟩) (hd : o.dst = some d) (hN : decide (d < E.N) = true) (ht : E.P.underlying t = some (.slice e)) (hx : opv σ x = some (true, .v y)) (hy : isSl y = true)
    (hK : K ((d, true, .v (.int .i64 (capV y))) :: σ) H M) : OpK E o K σ H M := by
  refine opK_of fun ν a w hs hh => ?_
  have ex := hs.opv hx rfl
  simp only [SV.val] at ex
  refine ⟨.int .i64 (capV y), w, ?_, _, _, _, ⟨ν, ?_, hh⟩, hK⟩
  · cases y <;> simp only [isSl] at hy <;> first | cases hy | skip
    simp [execOp, ho, resolve, invoke, builtin, ex, Builtin.cap_, run_underlying ht, capV, goInt]
  · rw [hd]
    exact hs.put (of_decide_eq_true hN) rfl

/-- what stands at a slice's place: in what lies open, or in known memory -/
def Reads (H : HS) (M : Mem) (ad : Addr) (news : List Value) : Prop :=
  (∃ k cs, hget H k = some (.box (opn cs) (some (ptrV ad.block))) ∧ ad.spot = none ∧ ∀ j u, news[j]? = some u → cs[ad.off + j]? = some u) ∨ ∀ j u, news[j]? = some u → cellM M (ad.add j) = some u
theorem Reads.cells {ad : Addr} {news : List Value} (hr : Reads H M ad news) (hh : Heap E ν H M w) (w'' : World) (hw : w''.heap = w.heap) : ∀ j u, news[j]? = some u → w''.cell? (ad.add j) = some u := by
  intro j u hj
  have hcell : ∀ x : Addr, w''.cell? x = w.cell? x := fun x => by unfold World.cell?; rw [hw]
  rw [hcell]
  rcases hr with ⟨k, cs, hk, hsp, h⟩ | h
  · obtain ⟨⟨b', T, e1, e2⟩, e3⟩ := hh.holds _ (hget_mem hk)
    have e4 := e3 _ rfl
    simp only at e1 e4
    rw [e4] at e1
    obtain ⟨bl', off, spot⟩ := ad
    simp only at hsp h e4
    subst hsp
    cases e1
    rw [opn_vals] at e2
    have hadd : (⟨bl', off, none⟩ : Addr).add j = ⟨bl', off + j, none⟩ := Addr.add_lit ..
    rw [hadd, cell_of_heap e2]
    exact h j u hj
  · exact cellM_on hh.mem (h j u hj)

/-- cells are written in a block that lies open -/
theorem Heap.write (hh : Heap E ν H M w) {k b off : Nat} {cs news : List Value} (hk : hget H k = some (.box (opn cs) (some (ptrV b)))) (ho : off + news.length ≤ cs.length) (h1 : ∀ u ∈ news, u.oneCell' = true) :
    ∃ w', (storeCells ⟨b, off, none⟩ news).run E.P w = .ok () w' ∧ Heap E ν (hset k (.box (opn (putV cs off news)) (some (ptrV b))) H) M w' := by
  obtain ⟨⟨b', T, e1, e2⟩, e3⟩ := hh.holds _ (hget_mem hk)
  have e4 := e3 _ rfl
  simp only at e1 e4
  rw [e4] at e1
  cases e1
  rw [opn_vals] at e2
  have hst := run_storeCells_at E.P b off T news 0 _ w e2 (by simpa using ho) h1
  simp only [Nat.add_zero] at hst
  refine ⟨_, hst, hh.upd hk (b := b) (by rw [e4]; rfl) (fun j hj => setRow_other w b _ hj) (by simp [World.setRow]) ⟨rfl, rfl, rfl⟩ ⟨⟨b, T, e4, ?_⟩, fun v hv => ?_⟩⟩
  · rw [opn_vals]
    exact setRow_at w b _ _ T _ e2
  · cases hv
    exact e4

def putD (d : Option Nat) (v : SV) (σ : Sig) : Sig := match d with | some d => (d, true, v) :: σ | none => σ
theorem Slots.putD {N : Nat} (hs : Slots N ν σ a) {d : Option Nat} (hN : (match d with | some d => decide (d < N) | none => true) = true) {v : Value} : Slots N ν (putD d (.v v) σ) (a.put d v) := by
  cases d with
  | none => exact hs
  | some d => exact hs.put (of_decide_eq_true hN) rfl

/-- append, in place -/
theorem OpK.appIn {s x : Operand} {t tx d e e2 sz bt k b off n c m c2 : Nat} {ad : Addr} {zs cs news : List Value} (ho : o.op = .call ⟨.builtin .append, #[s, x], #[t, tx]⟩) (hd : o.dst = some d) (hN : decide (d < E.N) = true)
    (hsl : slT E.P t = some (e, sz, bt, zs)) (htx : E.P.underlying tx = some (.slice e2)) (hs0 : opv σ s = some (true, .v (.slice (some ⟨b, off, none⟩) n c))) (hx0 : opv σ x = some (true, .v (.slice (some ad) m c2)))
    (hk : hget H k = some (.box (opn cs) (some (ptrV b)))) (hnl : news.length = m * sz) (hr : Reads H M ad news) (h1 : ∀ u ∈ news, u.oneCell' = true) (hroom : n + m ≤ c) (hlen : off + n * sz + news.length ≤ cs.length)
    (hK : K ((d, true, .v (.slice (some ⟨b, off, none⟩) (n + m) c)) :: σ) (hset k (.box (opn (putV cs (off + n * sz) news)) (some (ptrV b))) H) M) : OpK E o K σ H M := by
  obtain ⟨i, z, hu, hi, hz, hisz, rfl, rfl⟩ := slT_spec hsl
  refine opK_of fun ν a w hs hh => ?_
  have es := hs.opv hs0 rfl
  have ex := hs.opv hx0 rfl
  simp only [SV.val] at es ex
  obtain ⟨w', hst, hh'⟩ := hh.write hk hlen h1
  have hS := Src.ofSlice (P := E.P) (size := i.size) w htx ad m c2 news (by rw [hisz]; exact hnl) (hr.cells hh w rfl) h1
  have happ : (Builtin.append_ #[t, tx] o.type #[.slice (some ⟨b, off, none⟩) n c, .slice (some ad) m c2]).run E.P w = .ok (.slice (some ⟨b, off, none⟩) (n + m) c) w' := by
    have hL := hS.len w
    have hC := hS.cells
    rw [hisz] at hC
    simp [Builtin.append_, run_underlying hu, run_underlying htx, sizeOf, typeInfo, hi, hL, hroom, hC, Addr.add_lit, hisz, hst]
  have hex : (execOp a.eval o).run E.P w = .ok (.value (.slice (some ⟨b, off, none⟩) (n + m) c)) w' := by simp [execOp, ho, resolve, invoke, builtin, es, ex, happ]
  refine ⟨_, _, hex, _, _, _, ⟨ν, ?_, hh'⟩, hK⟩
  rw [hd]
  exact hs.put (of_decide_eq_true hN) rfl

/-- copy -/
theorem OpK.copyIn {s x : Operand} {t tx e sz bt k b off n c m c2 : Nat} {ad : Addr} {zs cs news : List Value} (ho : o.op = .call ⟨.builtin .copy, #[s, x], #[t, tx]⟩) (hN : (match o.dst with | some d => decide (d < E.N) | none => true) = true)
    (hsl : slT E.P t = some (e, sz, bt, zs)) (hs0 : opv σ s = some (true, .v (.slice (some ⟨b, off, none⟩) n c))) (hx0 : opv σ x = some (true, .v (.slice (some ad) m c2)))
    (hk : hget H k = some (.box (opn cs) (some (ptrV b)))) (hnl : news.length = Nat.min m n * sz) (hr : Reads H M ad news) (h1 : ∀ u ∈ news, u.oneCell' = true) (hlen : off + news.length ≤ cs.length)
    (hK : K (putD o.dst (.v (.int .i64 (Nat.min m n : Nat))) σ) (hset k (.box (opn (putV cs off news)) (some (ptrV b))) H) M) : OpK E o K σ H M := by
  obtain ⟨i, z, hu, hi, hz, hisz, rfl, rfl⟩ := slT_spec hsl
  refine opK_of fun ν a w hs hh => ?_
  have es := hs.opv hs0 rfl
  have ex := hs.opv hx0 rfl
  simp only [SV.val] at es ex
  obtain ⟨w', hst, hh'⟩ := hh.write hk hlen h1
  have hl := run_loadCells_list (P := E.P) w ad news (hr.cells hh w rfl)
  rw [hnl] at hl
  have hrun : (Builtin.copy_ #[t, tx] o.type #[.slice (some ⟨b, off, none⟩) n c, .slice (some ad) m c2]).run E.P w = .ok (.int .i64 (Nat.min m n : Nat)) w' := by
    simp [Builtin.copy_, run_underlying hu, Builtin.lenOf, Builtin.firstCells, sizeOf, typeInfo, hi, hisz, hl, hst, goInt]
  have hex : (execOp a.eval o).run E.P w = .ok (.value (.int .i64 (Nat.min m n : Nat))) w' := by simp [execOp, ho, resolve, invoke, builtin, es, ex, hrun]
  exact ⟨_, _, hex, _, _, _, ⟨ν, hs.putD hN, hh'⟩, hK⟩

/-- clear -/
theorem OpK.clearIn {x : Operand} {t e sz bt k b off n c : Nat} {zs cs : List Value} (ho : o.op = .call ⟨.builtin .clear, #[x], #[t]⟩) (hd : o.dst = none)
    (hsl : slT E.P t = some (e, sz, bt, zs)) (hx0 : opv σ x = some (true, .v (.slice (some ⟨b, off, none⟩) n c)))
    (hk : hget H k = some (.box (opn cs) (some (ptrV b)))) (hz1 : onesV zs = true) (hzl : zs.length = sz) (hlen : off + n * sz ≤ cs.length)
    (hK : K σ (hset k (.box (opn (putV cs off (List.replicate n zs).flatten)) (some (ptrV b))) H) M) : OpK E o K σ H M := by
  obtain ⟨i, z, hu, hi, hz, hisz, rfl, rfl⟩ := slT_spec hsl
  rintro a w ⟨ν, hs, hh⟩
  have ex := hs.opv hx0 rfl
  simp only [SV.val] at ex
  have hfl : (List.replicate n z.cells.toList).flatten.length = n * i.size := by rw [List.length_flatten]; simp [hzl, hisz]
  obtain ⟨w', hst, hh'⟩ := hh.write hk (off := off) (news := (List.replicate n z.cells.toList).flatten) (by rw [hfl, hisz]; exact hlen) (fun u hu => by
    obtain ⟨l, hl, hu⟩ := List.mem_flatten.1 hu
    rw [List.eq_of_mem_replicate hl] at hu
    exact onesV_mem hz1 u hu)
  have hzc : (Builtin.zeroCells z.cells n).toList = (List.replicate n z.cells.toList).flatten := by
    have := made_flat z.cells n
    rw [← this]
    simp [Builtin.zeroCells, madeCells]
  have hrun : (Builtin.clear_ #[t] o.type #[.slice (some ⟨b, off, none⟩) n c]).run E.P w = .ok (.tuple #[]) w' := by
    cases n with
    | zero =>
      simp only [List.replicate_zero, List.flatten_nil, storeCells, Sem.run_pure] at hst
      simp [Builtin.clear_, run_underlying hu]
      simpa using hst
    | succ n => simp [Builtin.clear_, run_underlying hu, zeroValue, typeInfo, hi, hz, hzc, hst]
  unfold Oper.wp
  have hex : (execOp a.eval o).run E.P w = .ok (.value (.tuple #[])) w' := by simp [execOp, ho, resolve, invoke, builtin, ex, hrun]
  rw [hex]
  simp only [Oper.upon]
  rw [hd]
  exact ⟨_, _, _, ⟨ν, hs, hh'⟩, hK⟩

/-- append of made elements: a new row, laid open -/
theorem OpK.appMake {s x : Operand} {t tx d e sz bt c n : Nat} {m : Nat} {base : Option Addr} {zs olds : List Value} {kn k2 : IntKind} (ho : o.op = .call ⟨.builtin .append, #[s, x], #[t, tx]⟩) (hd : o.dst = some d) (hN : decide (d < E.N) = true)
    (hsl : slT E.P t = some (e, sz, bt, zs)) (htx : E.P.underlying tx = some (.int kn)) (hs0 : opv σ s = some (true, .v (.slice base n c))) (hx0 : opv σ x = some (true, .v (.int k2 m)))
    (hold : base = none ∧ n = 0 ∧ olds = [] ∨ ∃ ad, base = some ad ∧ olds.length = n * sz ∧ Reads H M ad olds) (hroom : c < n + m) (hbt : bt ≤ 4096) (hsz : zs.length = sz) (hbig : (n + m) * bt ≤ 70368744177664) (hbig2 : n + m ≤ 70368744177664)
    (hn : hNoKey d (hdel d H) = true)
    (hK : ∀ b cap sp, n + m ≤ cap → cap ≤ maxLen → List.length sp = (cap - (n + m)) * sz → K ((d, true, .v (.slice (some ⟨b, 0, none⟩) (n + m) cap)) :: sigDrop d σ) ((8 * d, .box (opn (olds ++ (List.replicate m zs).flatten ++ sp)) (some (ptrV b))) :: hdel d H) M) : OpK E o K σ H M := by
  obtain ⟨i, z, hu, hi, hz, hisz, hib, rfl⟩ := slT_spec hsl
  refine opK_of fun ν a w hs hh => ?_
  have es := hs.opv hs0 rfl
  have ex := hs.opv hx0 rfl
  simp only [SV.val] at es ex
  have hwr : IntKind.i64.wrap (m : Int) = m := by rw [IntKind.wrap_i64]; omega
  have hcaple := nextslicecap_le hroom
  have hge := grownCap_ge w (n + m) c e
  have hle := grownCap_le_maxLen w (n + m) c e (by simp only [maxLen]; omega)
  have h48 : ¬ (281474976710656 < Builtin.nextslicecap (n + m) c * i.bytes) := by
    have := Nat.mul_le_mul_right i.bytes hcaple
    rw [hib] at this ⊢
    rw [Nat.mul_assoc] at this
    omega
  have h48i : ¬ (281474976710656 < (m : Int) * (i.bytes : Int)) := by
    rw [← Int.natCast_mul, hib]
    have : m * bt ≤ (n + m) * bt := Nat.mul_le_mul_right _ (by omega)
    omega
  have hneg : ¬ ((m : Int) < 0) := by omega
  have hnr : ¬ (n + m ≤ c) := by omega
  have h63 : ¬ (9223372036854775807 < ((n : Int) + (m : Int))) := by omega
  have hfc : ∀ w'' : World, w''.heap = w.heap → (Builtin.firstCells i.size n (.slice base n c)).run E.P w'' = .ok olds.toArray w'' := by
    intro w'' hw
    rcases hold with ⟨rfl, rfl, rfl⟩ | ⟨ad, rfl, hol, hr⟩
    · exact run_firstCells_none w'' i.size 0 0 c
    · exact run_firstCells_some w'' i.size n ad n c olds (by rw [hisz]; exact hol) (hr.cells hh w'' hw)
  have hzcl : ∀ q, (Builtin.zeroCells z.cells q).toList = (List.replicate q z.cells.toList).flatten := fun q => by
    rw [← made_flat z.cells q]
    simp [Builtin.zeroCells, madeCells]
  have hap : (if m * i.size = 0 then (pure #[] : Sem (Array Value)) else do pure (Builtin.zeroCells (← zeroValue e).cells m)).run E.P w.drew = .ok (Builtin.zeroCells z.cells m) w.drew := by
    by_cases h0 : m * i.size = 0
    · rw [if_pos h0]
      have : Builtin.zeroCells z.cells m = #[] := by
        apply Array.ext'
        rw [hzcl]
        rcases Nat.mul_eq_zero.1 h0 with h | h
        · simp [h]
        · rw [hisz] at h
          subst h
          simp [List.length_eq_zero_iff.1 hsz]
      rw [this]; rfl
    · rw [if_neg h0]
      simp [zeroValue, typeInfo, hi, hz]
  have hrun : (Builtin.append_ #[t, tx] o.type #[.slice base n c, .int k2 m]).run E.P w = .ok (.slice (some ⟨w.heap.size, 0, none⟩) (n + m) (grownCap w (n + m) c e)) (w.drew.alloc (.cells (olds.toArray ++ Builtin.zeroCells z.cells m ++ Builtin.zeroCells z.cells (grownCap w (n + m) c e - (n + m))) e)) := by
    have hf := hfc w.drew rfl
    by_cases h0 : m * i.size = 0
    · have hap' := hap
      rw [if_pos h0] at hap'
      simp only [Sem.run_pure] at hap'
      have : Builtin.zeroCells z.cells m = #[] := by injection hap' with h _; exact h.symm
      rw [this]
      simp [Builtin.append_, run_underlying hu, run_underlying htx, sizeOf, typeInfo, zeroValue, hi, hz, asInt, asIntOf, hwr, hneg, h0, hnr, h63, h48, h48i, Question.forced, hf, newRow, grownCap]
    · simp [Builtin.append_, run_underlying hu, run_underlying htx, sizeOf, typeInfo, zeroValue, hi, hz, asInt, asIntOf, hwr, hneg, h0, hnr, h63, h48, h48i, Question.forced, hf, newRow, grownCap]
  have hex : (execOp a.eval o).run E.P w = .ok (.value (.slice (some ⟨w.heap.size, 0, none⟩) (n + m) (grownCap w (n + m) c e))) (w.drew.alloc (.cells (olds.toArray ++ Builtin.zeroCells z.cells m ++ Builtin.zeroCells z.cells (grownCap w (n + m) c e - (n + m))) e)) := by simp [execOp, ho, resolve, invoke, builtin, es, ex, hrun]
  refine ⟨_, _, hex, _, _, _, ?_, hK w.heap.size (grownCap w (n + m) c e) (Builtin.zeroCells z.cells (grownCap w (n + m) c e - (n + m))).toList hge hle (by rw [hzcl, List.length_flatten]; simp [hsz])⟩
  rw [hd]
  let v : Value := .slice (some ⟨w.heap.size, 0, none⟩) (n + m) (grownCap w (n + m) c e)
  let ν' : Nat → Value := fun j => if j / 8 = d then ptrV w.heap.size else ν j
  have hν' : ∀ j, j / 8 ≠ d → ν' j = ν j := fun j hj => by simp [ν', hj]
  have hν8 : ν' (8 * d) = ptrV w.heap.size := by simp [ν', show (8 * d) / 8 = d by omega]
  have hsub := hdel_sub d H
  have hgr : Heap E ν (hdel d H) M (w.drew.alloc (.cells (olds.toArray ++ Builtin.zeroCells z.cells m ++ Builtin.zeroCells z.cells (grownCap w (n + m) c e - (n + m))) e)) :=
    (hh.sublist hsub).grow ((Below.refl _ w).drew.alloc (Nat.le_refl _) _)
  refine ⟨ν', (hs.drop hν').put (of_decide_eq_true hN) rfl, hgr.add hn hν' (fun j => ?_) ?_ (fun b hb => ?_)⟩
  · by_cases hj : j / 8 = d
    · simp [ν', hj, Value.oneCell']
    · simp only [ν', hj, if_false]; exact hh.one j
  · rw [hν8]
    refine ⟨⟨w.heap.size, e, rfl, ?_⟩, fun v hv => ?_⟩
    · rw [opn_vals]
      have := heap_alloc_at w.drew (.cells (olds.toArray ++ Builtin.zeroCells z.cells m ++ Builtin.zeroCells z.cells (grownCap w (n + m) c e - (n + m))) e (0, 0))
      rw [show w.drew.heap.size = w.heap.size from rfl] at this
      rw [this]
      congr 2
      apply Array.ext'
      simp [hzcl]
    · cases hv
      rfl
  · rw [hν8] at hb
    simp only [ptrV, blk?, Option.some.injEq] at hb
    subst hb
    have hnf : w.heap.size ∉ fp ν (hdel d H) := fun h => Nat.lt_irrefl _ ((hh.sublist hsub).fp_lt h)
    refine ⟨hnf, ?_, hh.below.size⟩
    cases hM : M w.heap.size with
    | none => rfl
    | some ob => exact absurd (Array.getElem?_eq_some_iff.1 (hh.mem _ _ hM)).1 (Nat.lt_irrefl _)
theorem subV_open (b n cap sz lo hi : Nat) : subV (.slice (some ⟨b, 0, none⟩) n cap) sz lo hi = .slice (some ⟨b, if cap = lo then 0 else lo * sz, none⟩) (hi - lo) (cap - lo) := by
  unfold subV
  by_cases h : cap = lo
  · simp [h]
  · simp [h, Addr.add_lit]
/-- a slice of what lies open, as the operations want it -/
theorem Reads.sub {k b : Nat} {cs news : List Value} (hk : hget H k = some (.box (opn cs) (some (ptrV b)))) {off : Nat} (h : ∀ j u, news[j]? = some u → cs[off + j]? = some u) : Reads H M ⟨b, off, none⟩ news := .inl ⟨k, cs, hk, rfl, h⟩
theorem Reads.row {v : Value} {sz : Nat} {es : List (List Value)} (h : RowM M v sz es) {ad : Addr} {n c : Nat} (hv : v = .slice (some ad) n c) : Reads H M ad es.flatten := .inr fun j u hj => by
  subst hv
  have hl : ∀ e ∈ es, e.length = sz := fun e he => by
    obtain ⟨i, hi⟩ := List.mem_iff_getElem?.1 he
    exact (h.2.2 i e hi).1
  have hjl : j < es.flatten.length := (List.getElem?_eq_some_iff.1 hj).1
  rw [flatten_len hl] at hjl
  have hsz : 0 < sz := by
    rcases Nat.eq_zero_or_pos sz with h0 | h0
    · subst h0; simp at hjl
    · exact h0
  have hdiv : j / sz < es.length := (Nat.div_lt_iff_lt_mul hsz).2 hjl
  have hmod : j % sz < sz := Nat.mod_lt _ hsz
  have hej : es[j / sz]? = some es[j / sz] := List.getElem?_eq_getElem hdiv
  have hfl := flatten_get (sp := []) hl hej hmod
  rw [List.append_nil, Nat.mul_comm, Nat.div_add_mod] at hfl
  rw [hfl] at hj
  have := ((h.2.2 _ _ hej).2 _ _ hj).1
  rw [Nat.mul_comm, Nat.div_add_mod] at this
  exact this
theorem subV_open0 (b n cap sz hi : Nat) : subV (.slice (some ⟨b, 0, none⟩) n cap) sz 0 hi = .slice (some ⟨b, 0, none⟩) hi cap := by
  rw [subV_open]; simp
theorem putV_nil (cs : List Value) (o : Nat) : putV cs o [] = cs := by simp [putV]
theorem putV_keep (A sp news : List Value) : putV (A ++ sp) A.length news = A ++ (news ++ sp.drop news.length) := by
  unfold putV
  rw [List.take_left, ← List.drop_drop, List.drop_left, List.append_assoc]
theorem flat_take {sz : Nat} {es : List (List Value)} (h : ∀ e ∈ es, e.length = sz) (j : Nat) : es.flatten.take (j * sz) = (es.take j).flatten := by
  have h1 : es.flatten = (es.take j).flatten ++ (es.drop j).flatten := by rw [← List.flatten_append, List.take_append_drop]
  have h2 := flatten_len (fun e he => h e (List.mem_of_mem_take (i := j) he))
  rw [List.length_take] at h2
  by_cases hj : j ≤ es.length
  · rw [Nat.min_eq_left hj] at h2
    rw [h1, ← h2, List.take_left]
  · rw [List.take_of_length_le (l := es) (by omega), List.take_of_length_le]
    rw [flatten_len h]
    exact Nat.mul_le_mul_right _ (by omega)
theorem flat_drop {sz : Nat} {es : List (List Value)} (h : ∀ e ∈ es, e.length = sz) (j : Nat) : es.flatten.drop (j * sz) = (es.drop j).flatten := by
  have h1 : es.flatten = (es.take j).flatten ++ (es.drop j).flatten := by rw [← List.flatten_append, List.take_append_drop]
  have h2 := flatten_len (fun e he => h e (List.mem_of_mem_take (i := j) he))
  rw [List.length_take] at h2
  by_cases hj : j ≤ es.length
  · rw [Nat.min_eq_left hj] at h2
    rw [h1, ← h2, List.drop_left]
  · rw [List.drop_of_length_le (l := es) (by omega), List.drop_of_length_le]
    · rfl
    · rw [flatten_len h]
      exact Nat.mul_le_mul_right _ (by omega)
theorem get_of_drop {l news sp : List Value} {o : Nat} (h : news = l.drop o) {j : Nat} {u : Value} (hj : news[j]? = some u) : (l ++ sp)[o + j]? = some u := by
  subst h
  rw [List.getElem?_drop] at hj
  rw [List.getElem?_append_left (List.getElem?_eq_some_iff.1 hj).1]
  exact hj
end
end Go.X

