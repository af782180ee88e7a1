/- The logic, tenth part: maps of the call's own. Conditions: none. -/
import Derived.Test.YtbnbimncladflaaDoorFwI
import Derived.MapKept
set_option linter.unusedSimpArgs false
set_option linter.unusedVariables false
set_option maxHeartbeats 4000000
set_option maxRecDepth 20000
namespace Go.X
open Go Go.RowKit

/-- the first entry of a key -/
def fnd {α : Type} [DecidableEq α] (a : α) : List (α × Value) → Nat → Option (Nat × Value)
  | [], _ => none
  | p :: l, i => if a = p.1 then some (i, p.2) else fnd a l (i + 1)
def encL {α : Type} (enc : α → Value) (l : List (α × Value)) : List (Value × Value) := l.map fun p => (enc p.1, p.2)
/-- what the machine asks of a key's type -/
structure KeyT (P : Program) (kt : TypeId) {α : Type} [DecidableEq α] (enc : α → Value) : Prop where
  known : ∃ d, P.underlying kt = some d
  check : ∀ e w a, (Instr.checkKey e 10000 kt (enc a)).run P w = .ok () w
  eq : ∀ w a b, (Op.equal kt (enc a) (enc b)).run P w = .ok (decide (a = b)) w
  now : ∀ d a b, P.underlying kt = some d → Instr.sameNow d (enc a) (enc b) = some (decide (a = b)) ∨ Instr.sameNow d (enc a) (enc b) = none
  same : ∀ a, Instr.sameBits 10000 (enc a) (enc a) = true

section
variable {P : Program} {kt : TypeId} {α : Type} [DecidableEq α] {enc : α → Value}
theorem KeyT.findAsking (K : KeyT P kt enc) (w : World) (a : α) : ∀ (l : List (α × Value)) (es : List MapEntry) (i : Nat), es.map (fun e => (e.key, e.val)) = encL enc l → (Instr.findAsking kt (enc a) es i).run P w = .ok (fnd a l i) w
  | [], [], i, _ => by simp [Instr.findAsking, fnd]
  | [], _ :: _, i, h => by simp [encL] at h
  | _ :: _, [], i, h => by simp [encL] at h
  | p :: l, e :: es, i, h => by
    simp only [encL, List.map_cons, List.cons.injEq, Prod.mk.injEq] at h
    obtain ⟨⟨h1, h2⟩, h3⟩ := h
    have ih := KeyT.findAsking K w a l es (i + 1) h3
    simp only [Instr.findAsking, Sem.run_bind, h1, K.eq, Result.andThen_ok, fnd]
    by_cases hp : a = p.1
    · simp [hp, h2]
    · simp only [hp, decide_false, Bool.false_eq_true, if_false]
      exact ih
theorem KeyT.findNow (K : KeyT P kt enc) {d : TypeDesc} (hd : P.underlying kt = some d) (a : α) : ∀ (l : List (α × Value)) (es : List MapEntry) (i : Nat), es.map (fun e => (e.key, e.val)) = encL enc l → Instr.findNow d (enc a) es i = some (fnd a l i) ∨ Instr.findNow d (enc a) es i = none
  | [], [], i, _ => .inl rfl
  | [], _ :: _, i, h => by simp [encL] at h
  | _ :: _, [], i, h => by simp [encL] at h
  | p :: l, e :: es, i, h => by
    simp only [encL, List.map_cons, List.cons.injEq, Prod.mk.injEq] at h
    obtain ⟨⟨h1, h2⟩, h3⟩ := h
    have ih := KeyT.findNow K hd a l es (i + 1) h3
    simp only [Instr.findNow, h1, fnd]
    rcases K.now d a p.1 hd with h | h
    · rw [h]
      by_cases hp : a = p.1
      · simp [hp, h2]
      · simp only [hp, decide_false, if_false]
        exact ih
    · rw [h]
      exact .inr rfl
theorem KeyT.findKey (K : KeyT P kt enc) (w : World) (a : α) {l : List (α × Value)} {es : List MapEntry} (h : es.map (fun e => (e.key, e.val)) = encL enc l) : (Instr.findKey kt (enc a) es).run P w = .ok (fnd a l 0) w := by
  obtain ⟨d, hd⟩ := K.known
  simp only [Instr.findKey, Sem.run_bind, run_underlying hd, Result.andThen_ok]
  rcases K.findNow hd a l es 0 h with h1 | h1
  · rw [h1]; rfl
  · rw [h1]
    exact K.findAsking w a l es 0 h
theorem fnd_spec (a : α) : ∀ (l : List (α × Value)) (i : Nat), (fnd a l i = none ∧ ∀ p ∈ l, p.1 ≠ a) ∨ ∃ j v, fnd a l i = some (i + j, v) ∧ l[j]? = some (a, v)
  | [], i => .inl ⟨rfl, fun p hp => by cases hp⟩
  | p :: l, i => by
    simp only [fnd]
    by_cases hp : a = p.1
    · rw [if_pos hp]
      exact .inr ⟨0, p.2, rfl, by rw [hp]; rfl⟩
    · rw [if_neg hp]
      rcases fnd_spec a l (i + 1) with ⟨h1, h2⟩ | ⟨j, v, h1, h2⟩
      · refine .inl ⟨h1, fun q hq => ?_⟩
        rcases List.mem_cons.1 hq with rfl | hq
        · exact fun e => hp e.symm
        · exact h2 q hq
      · exact .inr ⟨j + 1, v, by rw [h1]; congr 2; omega, by simpa using h2⟩
/-- the map after a store -/
def upd (a : α) (v : Value) (l : List (α × Value)) : List (α × Value) := match fnd a l 0 with
  | some (i, _) => l.set i (a, v)
  | none => l ++ [(a, v)]
end

theorem stamp_push {m : Array MapEntry} {c : Nat} {k v : Value} (h : m.size = c ∧ ∀ (j : Nat) (e : MapEntry), m[j]? = some e → e.born = j) : (m.push { key := k, val := v, born := c }).size = c + 1 ∧ ∀ (j : Nat) (e : MapEntry), (m.push { key := k, val := v, born := c })[j]? = some e → e.born = j := by
  refine ⟨by simp [h.1], fun j e hj => ?_⟩
  rw [Array.getElem?_push] at hj
  split at hj
  · rename_i e1
    cases hj
    show c = j
    rw [e1]; exact h.1.symm
  · exact h.2 j e hj
theorem stamp_mod {m : Array MapEntry} {c i : Nat} {f : MapEntry → MapEntry} (h : m.size = c ∧ ∀ (j : Nat) (e : MapEntry), m[j]? = some e → e.born = j) (hf : ∀ e, (f e).born = e.born) : (m.modify i f).size = c ∧ ∀ (j : Nat) (e : MapEntry), (m.modify i f)[j]? = some e → e.born = j := by
  refine ⟨by rw [Array.size_modify]; exact h.1, fun j e hj => ?_⟩
  rw [Array.getElem?_modify] at hj
  split at hj
  · rw [Option.map_eq_some_iff] at hj
    obtain ⟨x, hx, rfl⟩ := hj
    rw [hf]
    exact h.2 j x hx
  · exact h.2 j e hj
/-- where a key's entry stands, or would -/
def kix {α : Type} [DecidableEq α] (a : α) (l : List (α × Value)) : Nat := match fnd a l 0 with
  | some (i, _) => i
  | none => l.length
/-- the map with an entry for a key -/
def ens {α : Type} [DecidableEq α] (a : α) (z : Value) (l : List (α × Value)) : List (α × Value) := match fnd a l 0 with
  | some _ => l
  | none => l ++ [(a, z)]
theorem ens_at {α : Type} [DecidableEq α] (a : α) (z : Value) (l : List (α × Value)) : ∃ v, (ens a z l)[kix a l]? = some (a, v) ∧ ((fnd a l 0).map (·.2)).getD z = v := by
  unfold ens kix
  rcases fnd_spec a l 0 with ⟨h1, _⟩ | ⟨j, v, h1, h2⟩
  · rw [h1]
    exact ⟨z, by simp, rfl⟩
  · rw [h1]
    exact ⟨v, by simpa using h2, rfl⟩
theorem ens_set {α : Type} [DecidableEq α] (a : α) (z u : Value) (l : List (α × Value)) : (ens a z l).set (kix a l) (a, u) = upd a u l := by
  unfold ens kix upd
  rcases fnd_spec a l 0 with ⟨h1, _⟩ | ⟨j, v, h1, h2⟩
  · rw [h1]
    simp [List.set_append]
  · rw [h1]
theorem fnd_app {α : Type} [DecidableEq α] (a : α) (l' : List (α × Value)) : ∀ (l : List (α × Value)) (i : Nat), fnd a (l ++ l') i = match fnd a l i with
    | some p => some p
    | none => fnd a l' (i + l.length)
  | [], i => rfl
  | p :: l, i => by
    simp only [List.cons_append, fnd, List.length_cons]
    split
    · rfl
    · rw [fnd_app a l' l (i + 1), show i + 1 + l.length = i + (l.length + 1) by omega]
theorem fnd_setv {α : Type} [DecidableEq α] (a b : α) (u v : Value) : ∀ (l : List (α × Value)) (i j : Nat), l[j]? = some (b, v) → (∀ q p, q < j → l[q]? = some p → p.1 ≠ b) → ((fnd a (l.set j (b, u)) i).map (·.2)) = if a = b then some u else (fnd a l i).map (·.2)
  | [], i, j, h, _ => by simp at h
  | p :: l, i, 0, h, _ => by
    simp only [List.getElem?_cons_zero, Option.some.injEq] at h
    subst h
    simp only [List.set_cons_zero, fnd]
    by_cases hab : a = b
    · rw [if_pos hab, if_pos hab]; rfl
    · rw [if_neg hab, if_neg hab, if_neg hab]
  | p :: l, i, j + 1, h, hq => by
    have ih := fnd_setv a b u v l (i + 1) j (by simpa using h) (fun q p hq1 hp => hq (q + 1) p (by omega) (by simpa using hp))
    simp only [List.set_cons_succ, fnd]
    by_cases hap : a = p.1
    · rw [if_pos hap, if_pos hap, if_neg (fun e => hq 0 p (by omega) rfl (by rw [← hap, e]))]
    · rw [if_neg hap, if_neg hap, ih]
theorem fnd_first {α : Type} [DecidableEq α] (a : α) : ∀ (l : List (α × Value)) (i j : Nat) (v : Value), fnd a l i = some (i + j, v) → ∀ q p, q < j → l[q]? = some p → p.1 ≠ a
  | [], i, j, v, h => by cases h
  | x :: l, i, j, v, h => by
    simp only [fnd] at h
    split at h
    · have : i = i + j := by simpa using congrArg (·.map (·.1)) h
      intro q p hq; omega
    · rename_i hx
      intro q p hq hp
      cases q with
      | zero => simp at hp; subst hp; exact fun e => hx e.symm
      | succ q =>
        obtain ⟨j', rfl⟩ : ∃ j', j = j' + 1 := ⟨j - 1, by omega⟩
        exact fnd_first a l (i + 1) j' v (by rw [h]; congr 2; omega) q p (by omega) (by simpa using hp)
/-- what a key has behind a store -/
theorem fnd_upd {α : Type} [DecidableEq α] (a b : α) (u : Value) (l : List (α × Value)) : ((fnd a (upd b u l) 0).map (·.2)) = if a = b then some u else (fnd a l 0).map (·.2) := by
  unfold upd
  rcases fnd_spec b l 0 with ⟨h1, h2⟩ | ⟨j, v, h1, h2⟩
  · rw [h1]
    simp only
    rw [fnd_app]
    by_cases hab : a = b
    · subst hab
      rw [h1, if_pos rfl]
      simp [fnd]
    · rw [if_neg hab]
      cases fnd a l 0 with
      | some p => rfl
      | none => simp [fnd, hab]
  · rw [h1]
    simp only
    rw [Nat.zero_add]
    exact fnd_setv a b u v l 0 j h2 (fnd_first b l 0 j v h1)

section
variable {E : Env} {σ : Sig} {H : HS} {M : Mem} {a : Act} {w : World} {ν : Nat → Value} {K : KP} {o : Oper}

theorem OpK.makeMap {t d : Nat} (ho : o.op = .makeMap t none) (hd : o.dst = some d) (hN : decide (d < E.N) = true) (hn : hNoKey d (hdel d H) = true)
    (hK : K ((d, true, .own (8 * d)) :: sigDrop d σ) ((8 * d, .mp []) :: hdel d H) M) : OpK E o K σ H M := by
  refine opK_of fun ν a w hs hh => ?_
  refine ⟨.map (some w.heap.size), w.alloc (.map #[] 0), ?_, _, _, _, ?_, hK⟩
  · simp [execOp, ho, Instr.makeMap]
  · rw [hd]
    refine Rep.fresh hs hh (of_decide_eq_true hN) (hdel_sub d H) hn (below_alloc w _) rfl (fun ν' hν' => ?_) (fun b hb => by simp only [blk?, Option.some.injEq] at hb; omega) (fun ν' h => h)
    exact ⟨w.heap.size, #[], 0, rfl, heap_alloc_at w _, rfl, rfl, fun j e h => by simp at h⟩
theorem Heap.mapAt (hh : Heap E ν H M w) {k : Nat} {es : List (Value × Value)} (hk : hget H k = some (.mp es)) : ∃ b m c, ν k = .map (some b) ∧ w.heap[b]? = some (.map m c) ∧ m.toList.map (fun e => (e.key, e.val)) = es ∧ (m.size = c ∧ ∀ (j : Nat) (e : MapEntry), m[j]? = some e → e.born = j) := hh.holds _ (hget_mem hk)
theorem OpK.lookup {t d kt et k : Nat} {x y : Operand} {α : Type} [DecidableEq α] {enc : α → Value} {key : α} {l : List (α × Value)} {s : SV} {z : Value} (KT : KeyT E.P kt enc) (ho : o.op = .lookup t x y false) (hd : o.dst = some d) (hN : decide (d < E.N) = true)
    (ht : E.P.underlying t = some (.map kt et)) (hz : ∀ w, (zeroValue et).run E.P w = .ok z w) (hx : opv σ x = some (true, .own k)) (hy : opv σ y = some (true, s)) (hs' : ∀ ν, s.val ν = enc key) (hk : hget H k = some (.mp (encL enc l)))
    (hK : K ((d, true, .v (((fnd key l 0).map (·.2)).getD z)) :: σ) H M) : OpK E o K σ H M := by
  refine opK_of fun ν a w hs hh => ?_
  obtain ⟨b, m, c, hν, hb, he, hst⟩ := hh.mapAt hk
  have ex : a.eval x = .map (some b) := by rw [hs.opv hx rfl]; exact hν
  have ey : a.eval y = enc key := by rw [hs.opv hy rfl]; exact hs' ν
  refine ⟨((fnd key l 0).map (·.2)).getD z, w, ?_, _, _, _, ⟨ν, ?_, hh⟩, hK⟩
  · simp only [execOp, ho, ex, ey, Instr.lookup, Sem.run_bind, run_underlying ht, Result.andThen_ok, MapKept.run_getObj_map hb, Sem.run_pure, KT.check, KT.findKey w key he]
    cases hf : fnd key l 0 with
    | none => simp [hz]
    | some p => simp
  · rw [hd]
    exact hs.put (of_decide_eq_true hN) rfl
theorem OpK.mapUpd {t kt et k : Nat} {x y v : Operand} {α : Type} [DecidableEq α] {enc : α → Value} {key : α} {l : List (α × Value)} {s : SV} {u : Value} (KT : KeyT E.P kt enc) (ho : o.op = .mapUpdate t x y v) (hd : o.dst = none)
    (ht : E.P.underlying t = some (.map kt et)) (hx : opv σ x = some (true, .own k)) (hy : opv σ y = some (true, s)) (hs' : ∀ ν, s.val ν = enc key) (hv : opv σ v = some (true, .v u)) (hk : hget H k = some (.mp (encL enc l)))
    (hK : K σ (hset k (.mp (encL enc (upd key u l))) H) M) : OpK E o K σ H M := by
  rintro a w ⟨ν, hs, hh⟩
  obtain ⟨b, m, c, hν, hb, he, hst⟩ := hh.mapAt hk
  have ex : a.eval x = .map (some b) := by rw [hs.opv hx rfl]; exact hν
  have ey : a.eval y = enc key := by rw [hs.opv hy rfl]; exact hs' ν
  have ev : a.eval v = u := hs.opv hv rfl
  have hbl : b < w.heap.size := (Array.getElem?_eq_some_iff.1 hb).1
  obtain ⟨m', c', hrun, he', hst'⟩ : ∃ m' c', (execOp a.eval o).run E.P w = .ok .skip { w with heap := w.heap.setIfInBounds b (.map m' c') } ∧ m'.toList.map (fun e => (e.key, e.val)) = encL enc (upd key u l) ∧ (m'.size = c' ∧ ∀ (j : Nat) (e : MapEntry), m'[j]? = some e → e.born = j) := by
    have hlen : m.toList.length = l.length := by
      have := congrArg List.length he
      simpa [encL] using this
    rcases fnd_spec key l 0 with ⟨h1, h2⟩ | ⟨j, v0, h1, h2⟩
    · refine ⟨m.push { key := enc key, val := u, born := c }, c + 1, ?_, ?_, stamp_push hst⟩
      · simp only [execOp, ho, ex, ey, ev, Instr.mapUpdate, Sem.run_bind, run_underlying ht, Result.andThen_ok, MapKept.run_getObj_map hb, KT.check, KT.findKey w key he, h1, MapKept.run_setObj_map _ hb, Sem.run_pure]
      · simp only [upd, h1, Array.toList_push, List.map_append, he, encL, List.map_cons, List.map_nil]
    · have hjm : m[j]? = some (m[j]'(by rw [← Array.length_toList, hlen]; exact (List.getElem?_eq_some_iff.1 h2).1)) := Array.getElem?_eq_getElem _
      have hkey : (m[j]'(by rw [← Array.length_toList, hlen]; exact (List.getElem?_eq_some_iff.1 h2).1)).key = enc key := by
        have h3 : (m.toList.map (fun e => (e.key, e.val)))[j]? = (encL enc l)[j]? := by rw [he]
        rw [encL, List.getElem?_map, List.getElem?_map, h2, Array.getElem?_toList, hjm] at h3
        simp only [Option.map_some, Option.some.injEq, Prod.mk.injEq] at h3
        exact h3.1
      rw [Nat.zero_add] at h1
      refine ⟨m.modify j fun e => { e with key := enc key, val := u }, c, ?_, ?_, stamp_mod hst (fun _ => rfl)⟩
      · simp only [execOp, ho, ex, ey, ev, Instr.mapUpdate, Sem.run_bind, run_underlying ht, Result.andThen_ok, MapKept.run_getObj_map hb, KT.check, KT.findKey w key he, h1, hjm, Option.map_some, Option.getD_some, hkey, Instr.keyThatStays, KT.same, if_true, MapKept.run_setObj_map _ hb, Sem.run_pure]
      · apply List.ext_getElem?
        intro i
        have h3 : (m.toList.map (fun e => (e.key, e.val)))[i]? = (encL enc l)[i]? := by rw [he]
        simp only [upd, h1, encL, List.getElem?_map, Array.getElem?_toList, Array.getElem?_modify, List.getElem?_set] at h3 ⊢
        by_cases hij : j = i
        · subst hij
          have hjl : j < l.length := (List.getElem?_eq_some_iff.1 h2).1
          simp [hjm, hjl]
        · simp only [hij, if_false]
          exact h3
  obtain ⟨g1, g2⟩ := MapKept.heap_set (o' := .map m' c') hb
  unfold Oper.wp
  rw [hrun]
  simp only [Oper.upon]
  rw [hd]
  exact ⟨_, _, _, ⟨ν, hs, hh.upd hk (p := .mp (encL enc (upd key u l))) (b := b) (by rw [hν]; rfl) g2 (by simp) ⟨rfl, rfl, rfl⟩ ⟨b, m', c', hν, g1, he', hst'⟩⟩, hK⟩
theorem OpK.mapEntry {t d kt et k : Nat} {x y : Operand} {α : Type} [DecidableEq α] {enc : α → Value} {key : α} {l : List (α × Value)} {s : SV} {z : Value} (KT : KeyT E.P kt enc) (ho : o.op = .mapEntry t x y) (hd : o.dst = some d) (hN : decide (d < E.N) = true)
    (ht : E.P.underlying t = some (.map kt et)) (hz : ∀ w, (zeroValue et).run E.P w = .ok z w) (hx : opv σ x = some (true, .own k)) (hy : opv σ y = some (true, s)) (hs' : ∀ ν, s.val ν = enc key) (hk : hget H k = some (.mp (encL enc l)))
    (hK : K ((d, true, .tup [.v (((fnd key l 0).map (·.2)).getD z), .v (.int .i64 ((kix key l : Nat) : Int))]) :: σ) (hset k (.mp (encL enc (ens key z l))) H) M) : OpK E o K σ H M := by
  refine opK_of fun ν a w hs hh => ?_
  obtain ⟨b, m, c, hν, hb, he, hst⟩ := hh.mapAt hk
  have ex : a.eval x = .map (some b) := by rw [hs.opv hx rfl]; exact hν
  have ey : a.eval y = enc key := by rw [hs.opv hy rfl]; exact hs' ν
  have hlen : m.toList.length = l.length := by
    have := congrArg List.length he
    simpa [encL] using this
  have hms : m.size = l.length := by rw [← Array.length_toList]; exact hlen
  rcases fnd_spec key l 0 with ⟨h1, h2⟩ | ⟨j, v0, h1, h2⟩
  · obtain ⟨g1, g2⟩ := MapKept.heap_set (o' := .map (m.push { key := enc key, val := z, born := c }) (c + 1)) hb
    have e1 : kix key l = c := by unfold kix; rw [h1]; exact hms.symm.trans hst.1
    have e2 : ens key z l = l ++ [(key, z)] := by unfold ens; rw [h1]
    rw [h1, e1, e2] at hK
    refine ⟨.tuple #[z, .int .i64 (c : Int)], { w with heap := w.heap.setIfInBounds b (.map (m.push { key := enc key, val := z, born := c }) (c + 1)) }, ?_, _, _, _, ⟨ν, ?_, ?_⟩, hK⟩
    · simp only [execOp, ho, ex, ey, Instr.mapEntry, Sem.run_bind, run_underlying ht, Result.andThen_ok, MapKept.run_getObj_map hb, KT.check, KT.findKey w key he, h1, hz, MapKept.run_setObj_map _ hb, Sem.run_pure, goInt]
    · rw [hd]
      exact hs.put (of_decide_eq_true hN) rfl
    · exact hh.upd hk (p := .mp (encL enc (l ++ [(key, z)]))) (b := b) (by rw [hν]; rfl) g2 (by simp) ⟨rfl, rfl, rfl⟩ ⟨b, _, c + 1, hν, g1, by simp only [Array.toList_push, List.map_append, he, encL, List.map_cons, List.map_nil], stamp_push hst⟩
  · rw [Nat.zero_add] at h1
    have hjl : j < l.length := (List.getElem?_eq_some_iff.1 h2).1
    have hjm : m[j]? = some (m[j]'(by omega)) := Array.getElem?_eq_getElem _
    have hkv : (m[j]'(by omega)).key = enc key := by
      have h3 : (m.toList.map (fun e => (e.key, e.val)))[j]? = (encL enc l)[j]? := by rw [he]
      rw [encL, List.getElem?_map, List.getElem?_map, h2, Array.getElem?_toList, hjm] at h3
      simp only [Option.map_some, Option.some.injEq, Prod.mk.injEq] at h3
      exact h3.1
    have hbn := hst.2 j _ hjm
    obtain ⟨g1, g2⟩ := MapKept.heap_set (o' := .map (m.modify j fun e => { e with key := enc key }) c) hb
    have e1 : kix key l = j := by unfold kix; rw [h1]
    have e2 : ens key z l = l := by unfold ens; rw [h1]
    rw [h1, e1, e2] at hK
    refine ⟨.tuple #[v0, .int .i64 (j : Int)], { w with heap := w.heap.setIfInBounds b (.map (m.modify j fun e => { e with key := enc key }) c) }, ?_, _, _, _, ⟨ν, ?_, ?_⟩, hK⟩
    · simp only [execOp, ho, ex, ey, Instr.mapEntry, Sem.run_bind, run_underlying ht, Result.andThen_ok, MapKept.run_getObj_map hb, KT.check, KT.findKey w key he, h1, hjm, Option.map_some, Option.getD_some, hkv, hbn, Instr.keyThatStays, KT.same, if_true, MapKept.run_setObj_map _ hb, Sem.run_pure, goInt]
    · rw [hd]
      exact hs.put (of_decide_eq_true hN) rfl
    · refine hh.upd hk (p := .mp (encL enc l)) (b := b) (by rw [hν]; rfl) g2 (by simp) ⟨rfl, rfl, rfl⟩ ⟨b, _, c, hν, g1, ?_, stamp_mod hst (fun _ => rfl)⟩
      apply List.ext_getElem?
      intro i
      have h3 : (m.toList.map (fun e => (e.key, e.val)))[i]? = (encL enc l)[i]? := by rw [he]
      rw [← h3]
      simp only [List.getElem?_map, Array.getElem?_toList, Array.getElem?_modify]
      by_cases hij : j = i
      · subst hij
        rw [if_pos rfl, hjm]
        simp only [Option.map_some, hkv]
      · rw [if_neg hij]
theorem OpK.entryStore {t k j : Nat} {x y v : Operand} {α : Type} {enc : α → Value} {key : α} {l : List (α × Value)} {u v0 : Value} (ho : o.op = .entryStore t x y v) (hd : o.dst = none)
    (hx : opv σ x = some (true, .own k)) (hy : opv σ y = some (true, .v (.int .i64 ((j : Nat) : Int)))) (hv : opv σ v = some (true, .v u)) (hk : hget H k = some (.mp (encL enc l))) (hj : l[j]? = some (key, v0))
    (hK : K σ (hset k (.mp (encL enc (l.set j (key, u)))) H) M) : OpK E o K σ H M := by
  rintro a w ⟨ν, hs, hh⟩
  obtain ⟨b, m, c, hν, hb, he, hst⟩ := hh.mapAt hk
  have ex : a.eval x = .map (some b) := by rw [hs.opv hx rfl]; exact hν
  have ey : a.eval y = .int .i64 ((j : Nat) : Int) := hs.opv hy rfl
  have ev : a.eval v = u := hs.opv hv rfl
  have hlen : m.toList.length = l.length := by
    have := congrArg List.length he
    simpa [encL] using this
  have hms : m.size = l.length := by rw [← Array.length_toList]; exact hlen
  have hjl : j < l.length := (List.getElem?_eq_some_iff.1 hj).1
  have hf : m.findIdx? (fun e => (e.born : Int) == (j : Int)) = some j := by
    rw [Array.findIdx?_eq_some_iff_getElem]
    refine ⟨by omega, ?_, fun i hi => ?_⟩
    · have := hst.2 j _ (Array.getElem?_eq_getElem (by omega))
      simp [this]
    · have := hst.2 i _ (Array.getElem?_eq_getElem (by omega))
      simp only [this, beq_iff_eq]
      omega
  obtain ⟨g1, g2⟩ := MapKept.heap_set (o' := .map (m.modify j fun e => { e with val := u }) c) hb
  have hrun : (execOp a.eval o).run E.P w = .ok .skip { w with heap := w.heap.setIfInBounds b (.map (m.modify j fun e => { e with val := u }) c) } := by
    simp only [execOp, ho, ex, ey, ev, Instr.entryStore, Sem.run_bind, Result.andThen_ok, MapKept.run_getObj_map hb, asInt, asIntOf, Sem.run_pure, hf, MapKept.run_setObj_map _ hb]
  unfold Oper.wp
  rw [hrun]
  simp only [Oper.upon]
  rw [hd]
  refine ⟨_, _, _, ⟨ν, hs, hh.upd hk (p := .mp (encL enc (l.set j (key, u)))) (b := b) (by rw [hν]; rfl) g2 (by simp) ⟨rfl, rfl, rfl⟩ ⟨b, _, c, hν, g1, ?_, stamp_mod hst (fun _ => rfl)⟩⟩, hK⟩
  apply List.ext_getElem?
  intro i
  have h3 : (m.toList.map (fun e => (e.key, e.val)))[i]? = (encL enc l)[i]? := by rw [he]
  simp only [encL, List.getElem?_map, Array.getElem?_toList, Array.getElem?_modify, List.getElem?_set] at h3 ⊢
  by_cases hij : j = i
  · subst hij
    rw [hj, Array.getElem?_eq_getElem (show j < m.size by omega)] at h3
    simp only [Option.map_some, Option.some.injEq, Prod.mk.injEq] at h3
    rw [if_pos rfl, if_pos rfl, if_pos hjl, Array.getElem?_eq_getElem (show j < m.size by omega)]
    simp only [Option.map_some, h3.1]
  · rw [if_neg hij, if_neg hij]
    exact h3
end
/-- keys that are integers -/
def encK (n : Int) : Value := .int .i64 n
theorem KeyT.int {P : Program} {kt : TypeId} (hd : P.underlying kt = some (.int .i64)) : KeyT P kt encK where
  known := ⟨_, hd⟩
  check := fun e w a => MapKept.run_checkKey hd (show MapKept.IsKey (.int .i64) (.int .i64 a) from rfl) e 9999
  eq := fun w a b => by
    show (Op.equalIn (9999 + 1) kt (.int .i64 a) (.int .i64 b)).run P w = _
    rw [run_equalIn_int w 9999 kt _ _ _ _ hd]
    congr 1
  now := fun d a b h => by
    rw [hd] at h
    cases h
    left
    show (if IntKind.i64 = IntKind.i64 then some (a == b) else none) = _
    rw [if_pos rfl]
    rfl
  same := fun a => by
    show (decide (IntKind.i64 = IntKind.i64) && _) = true
    simp
/-- a set of keys, as a map to bool -/
def setL {α : Type} (l : List α) : List (α × Value) := l.map fun a => (a, .bool true)
theorem fnd_set {α : Type} [DecidableEq α] (a : α) : ∀ (l : List α) (i : Nat), ((fnd a (setL l) i).map (·.2)).getD (.bool false) = .bool (decide (a ∈ l))
  | [], i => by simp [fnd, setL]
  | x :: l, i => by
    have ih := fnd_set a l (i + 1)
    simp only [setL, List.map_cons, fnd] at ih ⊢
    by_cases h : a = x
    · simp [h]
    · rw [if_neg h, ih]
      simp [h]
theorem upd_set {α : Type} [DecidableEq α] {a : α} {l : List α} (h : a ∉ l) : upd a (.bool true) (setL l) = setL (l ++ [a]) := by
  unfold upd
  rcases fnd_spec a (setL l) 0 with ⟨h1, _⟩ | ⟨j, v, _, h2⟩
  · rw [h1]
    simp only [setL, List.map_append, List.map_cons, List.map_nil]
  · rw [setL, List.getElem?_map, Option.map_eq_some_iff] at h2
    obtain ⟨x, hx, e⟩ := h2
    cases e
    exact (h (List.mem_of_getElem? hx)).elim
end Go.X
