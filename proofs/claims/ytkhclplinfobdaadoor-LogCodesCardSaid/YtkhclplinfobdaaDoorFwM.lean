/- The logic, tenth part: maps of the call's own. Conditions: none. -/
import Derived.Test.YtkhclplinfobdaaDoorFwI
import Derived.MapKept
set_option linter.unusedSimpArgs false
set_option linter.unusedVariables false
set_option maxHeartbeats 4000000
set_option maxRecDepth 20000
namespace Go.X
open Go Go.RowKit

/-- the first entry of a key -/
def fnd {α : Type} [DecidableEq α] (a : α) : List (α × Value) → Nat → Option (Nat × Value)
  | [], _ => none
  | p :: l, i => if a = p.1 then some (i, p.2) else fnd a l (i + 1)
def encL {α : Type} (enc : α → Value) (l : List (α × Value)) : List (Value × Value) := l.map fun p => (enc p.1, p.2)
/-- what the machine asks of a key's type -/
structure KeyT (P : Program) (kt : TypeId) {α : Type} [DecidableEq α] (enc : α → Value) : Prop where
  known : ∃ d, P.underlying kt = some d
  check : ∀ e w a, (Instr.checkKey e 10000 kt (enc a)).run P w = .ok () w
  eq : ∀ w a b, (Op.equal kt (enc a) (enc b)).run P w = .ok (decide (a = b)) w
  now : ∀ d a b, P.underlying kt = some d → Instr.sameNow d (enc a) (enc b) = some (decide (a = b)) ∨ Instr.sameNow d (enc a) (enc b) = none
  same : ∀ a, Instr.sameBits 10000 (enc a) (enc a) = true

section
variable {P : Program} {kt : TypeId} {α : Type} [DecidableEq α] {enc : α → Value}
theorem KeyT.findAsking (K : KeyT P kt enc) (w : World) (a : α) : ∀ (l : List (α × Value)) (es : List MapEntry) (i : Nat), es.map (fun e => (e.key, e.val)) = encL enc l → (Instr.findAsking kt (enc a) es i).run P w = .ok (fnd a l i) w
  | [], [], i, _ => by simp [Instr.findAsking, fnd]
  | [], _ :: _, i, h => by simp [encL] at h
  | _ :: _, [], i, h => by simp [encL] at h
  | p :: l, e :: es, i, h => by
    simp only [encL, List.map_cons, List.cons.injEq, Prod.mk.injEq] at h
    obtain ⟨⟨h1, h2⟩, h3⟩ := h
    have ih := KeyT.findAsking K w a l es (i + 1) h3
    simp only [Instr.findAsking, Sem.run_bind, h1, K.eq, Result.andThen_ok, fnd]
    by_cases hp : a = p.1
    · simp [hp, h2]
    · simp only [hp, decide_false, Bool.false_eq_true, if_false]
      exact ih
theorem KeyT.findNow (K : KeyT P kt enc) {d : TypeDesc} (hd : P.underlying kt = some d) (a : α) : ∀ (l : List (α × Value)) (es : List MapEntry) (i : Nat), es.map (fun e => (e.key, e.val)) = encL enc l → Instr.findNow d (enc a) es i = some (fnd a l i) ∨ Instr.findNow d (enc a) es i = none
  | [], [], i, _ => .inl rfl
  | [], _ :: _, i, h => by simp [encL] at h
  | _ :: _, [], i, h => by simp [encL] at h
  | p :: l, e :: es, i, h => by
    simp only [encL, List.map_cons, List.cons.injEq, Prod.mk.injEq] at h
    obtain ⟨⟨h1, h2⟩, h3⟩ := h
    have ih := KeyT.findNow K hd a l es (i + 1) h3
    simp only [Instr.findNow, h1, fnd]
    rcases K.now d a p.1 hd with h | h
    · rw [h]
      by_cases hp : a = p.1
      · simp [hp, h2]
      · simp only [hp, decide_false, if_false]
        exact ih
    · rw [h]
      exact .inr rfl
theorem KeyT.findKey (K : KeyT P kt enc) (w : World) (a : α) {l : List (α × Value)} {es : List MapEntry} (h : es.map (fun e => (e.key, e.val)) = encL enc l) : (Instr.findKey kt (enc a) es).run P w = .ok (fnd a l 0) w := by
  obtain ⟨d, hd⟩ := K.known
  simp only [Instr.findKey, Sem.run_bind, run_underlying hd, Result.andThen_ok]
  rcases K.findNow hd a l es 0 h with h1 | h1
  · rw [h1]; rfl
  · rw [h1]
    exact K.findAsking w a l es 0 h
theorem fnd_spec (a : α) : ∀ (l : List (α × Value)) (i : Nat), (fnd a l i = none ∧ ∀ p ∈ l, p.1 ≠ a) ∨ ∃ j v, fnd a l i = some (i + j, v) ∧ l[j]? = some (a, v)
  | [], i => .inl ⟨rfl, fun p hp => by cases hp⟩
  | p :: l, i => by
    simp only [fnd]
    by_cases hp : a = p.1
    · rw [if_pos hp]
      exact .inr ⟨0, p.2, rfl, by rw [hp]; rfl⟩
    · rw [if_neg hp]
      rcases fnd_spec a l (i + 1) with ⟨h1, h2⟩ | ⟨j, v, h1, h2⟩
      · refine .inl ⟨h1, fun q hq => ?_⟩
        rcases List.mem_cons.1 hq with rfl | hq
        · exact fun e => hp e.symm
        · exact h2 q hq
      · exact .inr ⟨j + 1, v, by rw [h1]; congr 2; omega, by simpa using h2⟩
/-- the map after a store -/
def upd (a : α) (v : Value) (l : List (α × Value)) : List (α × Value) := match fnd a l 0 with
  | some (i, _) => l.set i (a, v)
  | none => l ++ [(a, v)]
end

section
variable {E : Env} {σ : Sig} {H : HS} {M : Mem} {a : Act} {w : World} {ν : Nat → Value} {K : KP} {o : Oper}

theorem OpK.makeMap {t d : Nat} (ho : o.op = .makeMap t none) (hd : o.dst = some d) (hN : decide (d < E.N) = true) (hn : hNoKey d (hdel d H) = true)
    (hK : K ((d, true, .own (8 * d)) :: sigDrop d σ) ((8 * d, .mp []) :: hdel d H) M) : OpK E o K σ H M := by
  refine opK_of fun ν a w hs hh => ?_
  refine ⟨.map (some w.heap.size), w.alloc (.map #[] 0), ?_, _, _, _, ?_, hK⟩
  · simp [execOp, ho, Instr.makeMap]
  · rw [hd]
    refine Rep.fresh hs hh (of_decide_eq_true hN) (hdel_sub d H) hn (below_alloc w _) rfl (fun ν' hν' => ?_) (fun b hb => by simp only [blk?, Option.some.injEq] at hb; omega) (fun ν' h => h)
    exact ⟨w.heap.size, #[], 0, rfl, heap_alloc_at w _, rfl⟩
theorem Heap.mapAt (hh : Heap E ν H M w) {k : Nat} {es : List (Value × Value)} (hk : hget H k = some (.mp es)) : ∃ b m c, ν k = .map (some b) ∧ w.heap[b]? = some (.map m c) ∧ m.toList.map (fun e => (e.key, e.val)) = es := hh.holds _ (hget_mem hk)
theorem OpK.lookup {t d kt et k : Nat} {x y : Operand} {α : Type} [DecidableEq α] {enc : α → Value} {key : α} {l : List (α × Value)} {s : SV} {z : Value} (KT : KeyT E.P kt enc) (ho : o.op = .lookup t x y false) (hd : o.dst = some d) (hN : decide (d < E.N) = true)
    (ht : E.P.underlying t = some (.map kt et)) (hz : ∀ w, (zeroValue et).run E.P w = .ok z w) (hx : opv σ x = some (true, .own k)) (hy : opv σ y = some (true, s)) (hs' : ∀ ν, s.val ν = enc key) (hk : hget H k = some (.mp (encL enc l)))
    (hK : K ((d, true, .v (((fnd key l 0).map (·.2)).getD z)) :: σ) H M) : OpK E o K σ H M := by
  refine opK_of fun ν a w hs hh => ?_
  obtain ⟨b, m, c, hν, hb, he⟩ := hh.mapAt hk
  have ex : a.eval x = .map (some b) := by rw [hs.opv hx rfl]; exact hν
  have ey : a.eval y = enc key := by rw [hs.opv hy rfl]; exact hs' ν
  refine ⟨((fnd key l 0).map (·.2)).getD z, w, ?_, _, _, _, ⟨ν, ?_, hh⟩, hK⟩
  · simp only [execOp, ho, ex, ey, Instr.lookup, Sem.run_bind, run_underlying ht, Result.andThen_ok, MapKept.run_getObj_map hb, Sem.run_pure, KT.check, KT.findKey w key he]
    cases hf : fnd key l 0 with
    | none => simp [hz]
    | some p => simp
  · rw [hd]
    exact hs.put (of_decide_eq_true hN) rfl
theorem OpK.mapUpd {t kt et k : Nat} {x y v : Operand} {α : Type} [DecidableEq α] {enc : α → Value} {key : α} {l : List (α × Value)} {s : SV} {u : Value} (KT : KeyT E.P kt enc) (ho : o.op = .mapUpdate t x y v) (hd : o.dst = none)
    (ht : E.P.underlying t = some (.map kt et)) (hx : opv σ x = some (true, .own k)) (hy : opv σ y = some (true, s)) (hs' : ∀ ν, s.val ν = enc key) (hv : opv σ v = some (true, .v u)) (hk : hget H k = some (.mp (encL enc l)))
    (hK : K σ (hset k (.mp (encL enc (upd key u l))) H) M) : OpK E o K σ H M := by
  rintro a w ⟨ν, hs, hh⟩
  obtain ⟨b, m, c, hν, hb, he⟩ := hh.mapAt hk
  have ex : a.eval x = .map (some b) := by rw [hs.opv hx rfl]; exact hν
  have ey : a.eval y = enc key := by rw [hs.opv hy rfl]; exact hs' ν
  have ev : a.eval v = u := hs.opv hv rfl
  have hbl : b < w.heap.size := (Array.getElem?_eq_some_iff.1 hb).1
  obtain ⟨m', c', hrun, he'⟩ : ∃ m' c', (execOp a.eval o).run E.P w = .ok .skip { w with heap := w.heap.setIfInBounds b (.map m' c') } ∧ m'.toList.map (fun e => (e.key, e.val)) = encL enc (upd key u l) := by
    have hlen : m.toList.length = l.length := by
      have := congrArg List.length he
      simpa [encL] using this
    rcases fnd_spec key l 0 with ⟨h1, h2⟩ | ⟨j, v0, h1, h2⟩
    · refine ⟨m.push { key := enc key, val := u, born := c }, c + 1, ?_, ?_⟩
      · simp only [execOp, ho, ex, ey, ev, Instr.mapUpdate, Sem.run_bind, run_underlying ht, Result.andThen_ok, MapKept.run_getObj_map hb, KT.check, KT.findKey w key he, h1, MapKept.run_setObj_map _ hb, Sem.run_pure]
      · simp only [upd, h1, Array.toList_push, List.map_append, he, encL, List.map_cons, List.map_nil]
    · have hjm : m[j]? = some (m[j]'(by rw [← Array.length_toList, hlen]; exact (List.getElem?_eq_some_iff.1 h2).1)) := Array.getElem?_eq_getElem _
      have hkey : (m[j]'(by rw [← Array.length_toList, hlen]; exact (List.getElem?_eq_some_iff.1 h2).1)).key = enc key := by
        have h3 : (m.toList.map (fun e => (e.key, e.val)))[j]? = (encL enc l)[j]? := by rw [he]
        rw [encL, List.getElem?_map, List.getElem?_map, h2, Array.getElem?_toList, hjm] at h3
        simp only [Option.map_some, Option.some.injEq, Prod.mk.injEq] at h3
        exact h3.1
      rw [Nat.zero_add] at h1
      refine ⟨m.modify j fun e => { e with key := enc key, val := u }, c, ?_, ?_⟩
      · simp only [execOp, ho, ex, ey, ev, Instr.mapUpdate, Sem.run_bind, run_underlying ht, Result.andThen_ok, MapKept.run_getObj_map hb, KT.check, KT.findKey w key he, h1, hjm, Option.map_some, Option.getD_some, hkey, Instr.keyThatStays, KT.same, if_true, MapKept.run_setObj_map _ hb, Sem.run_pure]
      · apply List.ext_getElem?
        intro i
        have h3 : (m.toList.map (fun e => (e.key, e.val)))[i]? = (encL enc l)[i]? := by rw [he]
        simp only [upd, h1, encL, List.getElem?_map, Array.getElem?_toList, Array.getElem?_modify, List.getElem?_set] at h3 ⊢
        by_cases hij : j = i
        · subst hij
          have hjl : j < l.length := (List.getElem?_eq_some_iff.1 h2).1
          simp [hjm, hjl]
        · simp only [hij, if_false]
          exact h3
  obtain ⟨g1, g2⟩ := MapKept.heap_set (o' := .map m' c') hb
  unfold Oper.wp
  rw [hrun]
  simp only [Oper.upon]
  rw [hd]
  exact ⟨_, _, _, ⟨ν, hs, hh.upd hk (p := .mp (encL enc (upd key u l))) (b := b) (by rw [hν]; rfl) g2 (by simp) ⟨rfl, rfl, rfl⟩ ⟨b, m', c', hν, g1, he'⟩⟩, hK⟩
end
/-- keys that are integers -/
def encK (n : Int) : Value := .int .i64 n
theorem KeyT.int {P : Program} {kt : TypeId} (hd : P.underlying kt = some (.int .i64)) : KeyT P kt encK where
  known := ⟨_, hd⟩
  check := fun e w a => MapKept.run_checkKey hd (show MapKept.IsKey (.int .i64) (.int .i64 a) from rfl) e 9999
  eq := fun w a b => by
    show (Op.equalIn (9999 + 1) kt (.int .i64 a) (.int .i64 b)).run P w = _
    rw [run_equalIn_int w 9999 kt _ _ _ _ hd]
    congr 1
  now := fun d a b h => by
    rw [hd] at h
    cases h
    left
    show (if IntKind.i64 = IntKind.i64 then some (a == b) else none) = _
    rw [if_pos rfl]
    rfl
  same := fun a => by
    show (decide (IntKind.i64 = IntKind.i64) && _) = true
    simp
/-- a set of keys, as a map to bool -/
def setL {α : Type} (l : List α) : List (α × Value) := l.map fun a => (a, .bool true)
theorem fnd_set {α : Type} [DecidableEq α] (a : α) : ∀ (l : List α) (i : Nat), ((fnd a (setL l) i).map (·.2)).getD (.bool false) = .bool (decide (a ∈ l))
  | [], i => by simp [fnd, setL]
  | x :: l, i => by
    have ih := fnd_set a l (i + 1)
    simp only [setL, List.map_cons, fnd] at ih ⊢
    by_cases h : a = x
    · simp [h]
    · rw [if_neg h, ih]
      simp [h]
theorem upd_set {α : Type} [DecidableEq α] {a : α} {l : List α} (h : a ∉ l) : upd a (.bool true) (setL l) = setL (l ++ [a]) := by
  unfold upd
  rcases fnd_spec a (setL l) 0 with ⟨h1, _⟩ | ⟨j, v, _, h2⟩
  · rw [h1]
    simp only [setL, List.map_append, List.map_cons, List.map_nil]
  · rw [setL, List.getElem?_map, Option.map_eq_some_iff] at h2
    obtain ⟨x, hx, e⟩ := h2
    cases e
    exact (h (List.mem_of_getElem? hx)).elim
end Go.X
