/- The logic: sort.Slice at a row that lies open. Conditions: none. -/
import Derived.Test.YtbnbimncladflaaFwQ
import Derived.Shelf.SlSortFuncK.WholeK
import Derived.Shelf.GgSortFunc.Tiny
set_option linter.unusedSimpArgs false
set_option linter.unusedVariables false
set_option maxHeartbeats 4000000
set_option maxRecDepth 20000
namespace Go.X
open Go Go.RowKit
section
variable {E : Env} {σ : Sig} {H : HS} {M : Mem} {a : Act} {w : World} {ν : Nat → Value} {K : KP} {o : Oper}

/-- an interface that holds a known value -/
theorem OpK.mkIface {t : TypeId} {x : Operand} {d : Nat} {y : Value} (ho : o.op = .makeInterface t x) (hd : o.dst = some d) (hx : opv σ x = some (true, .v y)) (hN : decide (d < E.N) = true) (hpk : E.P.packed t = false)
    (hu : ∃ e, E.P.underlying t = some (.slice e))
    (hK : K ((d, true, .v (.iface t y)) :: σ) H M) : OpK E o K σ H M := by
  refine opK_of fun ν a w hs hh => ?_
  have ex := hs.opv hx rfl
  simp only [SV.val] at ex
  obtain ⟨e, hu⟩ := hu
  refine ⟨.iface t y, w, ?_, _, _, _, ⟨ν, ?_, hh⟩, hK⟩
  · simp [execOp, ho, ex, Instr.makeInterface, run_underlying hu]
  · rw [hd]
    exact hs.put (of_decide_eq_true hN) rfl

theorem flat_get {α : Type} [Inhabited α] {enc : α → List Value} {k : Nat} (hk : ∀ x, (enc x).length = k) : ∀ (l : List α) (t : Nat), t < l.length * k → ((l.map enc).flatten)[t]? = some ((enc l.toArray[t / k]!)[t % k]!)
  | [], t, h => by simp at h
  | x :: r, t, h => by
    have hx := hk x
    rw [List.map_cons, List.flatten_cons]
    rcases Nat.lt_or_ge t k with ht | ht
    · rw [List.getElem?_append_left (by omega), Nat.div_eq_of_lt ht, Nat.mod_eq_of_lt ht]
      simp [hx, ht]
    · have hk0 : 0 < k := by
        rcases Nat.eq_zero_or_pos k with e | e
        · subst e; simp at h
        · exact e
      rw [List.getElem?_append_right (by omega), hx]
      have e1 : t / k = (t - k) / k + 1 := by rw [Nat.div_eq_sub_div hk0 ht]
      have e2 : t % k = (t - k) % k := Nat.mod_eq_sub_mod ht
      rw [List.length_cons, Nat.add_mul, Nat.one_mul] at h
      rw [flat_get hk r (t - k) (by omega), e1, e2]
      simp
theorem flatK_flat {α : Type} [Inhabited α] {enc : α → List Value} {k : Nat} (hk : ∀ x, (enc x).length = k) (d : Array α) : (Sort.flatK enc k d).toList = (d.toList.map enc).flatten := by
  have hl : ((d.toList.map enc).flatten).length = d.size * k := by
    rw [List.length_flatten, List.map_map]
    have : (List.length ∘ enc) = fun _ => k := funext fun x => hk x
    rw [this, List.map_const', List.sum_replicate_nat, Array.length_toList]
  apply List.ext_getElem?
  intro t
  rcases Nat.lt_or_ge t (d.size * k) with h | h
  · rw [flat_get hk _ t (by simpa using h)]
    simp [Sort.flatK, h]
  · rw [List.getElem?_eq_none (by simpa using h), List.getElem?_eq_none (by omega)]
theorem flat_len {α : Type} {enc : α → List Value} {k : Nat} (hk : ∀ x, (enc x).length = k) (l : List α) : ((l.map enc).flatten).length = l.length * k := by
  rw [List.length_flatten, List.map_map]
  have : (List.length ∘ enc) = fun _ => k := funext fun x => hk x
  rw [this, List.map_const', List.sum_replicate_nat]
theorem putCells_flat {F : Array Value} {c : List Value} {sp : List Value} (h : F.size = c.length) : Sort.putCells id 0 F (c ++ sp).toArray = (F.toList ++ sp).toArray := by
  apply Array.ext_getElem?
  intro t
  simp only [Sort.putCells, Array.getElem?_mapIdx, List.getElem?_toArray]
  rcases Nat.lt_or_ge t F.size with h' | h'
  · rw [List.getElem?_append_left (by omega), List.getElem?_append_left (by simpa using h'), List.getElem?_eq_getElem (by omega)]
    simp [h']
  · rw [List.getElem?_append_right (by omega), List.getElem?_append_right (by simpa using h')]
    simp only [Array.length_toList, h]
    cases hx : sp[t - c.length]? with
    | none => rfl
    | some y =>
      have : ¬ t < c.length := by omega
      simp [this, h]
theorem hset_self {p : PO} {k : Nat} : ∀ {H : HS}, hget H k = some p → hset k p H = H
  | [], h => by cases h
  | (j, q) :: H, h => by
    simp only [hget] at h
    simp only [hset]
    by_cases e : k = j
    · rw [if_pos e] at h
      cases h
      rw [if_pos e.symm]
    · rw [if_neg e] at h
      rw [if_neg (fun e' => e e'.symm), hset_self h]

/-- what a comparison does in every world where it finds the row and the box -/
def LessC {α : Type} [Inhabited α] (P : Program) (g : Nat) (enc : α → List Value) (k : Nat) (lt : α → α → Bool) (size : Nat) : Prop :=
  ∀ (W : World) (Bs blk c : Nat) (dk : Array α), dk.size = size → W.cell? ⟨Bs, 0, none⟩ = some (.slice (some ⟨blk, 0, none⟩) size c) → (∀ t u, t < size → u < k → W.cell? ⟨blk, 0 + t * k + u, none⟩ = some ((enc dk[t]!)[u]!)) →
    ∀ i j : Nat, i < size → j < size → Calls P g #[.int .i64 i, .int .i64 j, .pointer (some ⟨Bs, 0, none⟩)] W fun e w' => e = .returned (.bool (lt dk[i]! dk[j]!)) ∧ ∃ q, w' = W.drewN q
/-- what sort.Slice does -/
def SortC {α : Type} [Inhabited α] (P : Program) (f g t : Nat) (enc : α → List Value) (k : Nat) (lt : α → α → Bool) : Prop :=
  (∀ (p : Option Addr) (n c : Nat), n ≤ 1 → ∀ (lb : Array Value) (w : World), Calls P f #[.iface t (.slice p n c), .func (.func g) #[] lb] w fun e w' => e = .returned (.tuple #[]) ∧ ∃ os, w' = Sort.grow w os) ∧
  ∀ (blk c : Nat) (d : Array α), 2 ≤ d.size → d.size < 4611686018427387904 → ∀ (lb : Array Value) (w : World), Proofs.LessReadsK P g lb enc k lt blk 0 d.size w → Sort.HoldsK enc k w blk 0 d → blk < w.heap.size →
    Calls P f #[.iface t (.slice (some ⟨blk, 0, none⟩) d.size c), .func (.func g) #[] lb] w fun e w' => e = .returned (.tuple #[]) ∧ ∃ d' n os, Sort.PermIn 0 d.size d d' ∧ Sort.SortedIn lt 0 d.size d' ∧ w' = Sort.grow (Sort.putRowK enc k (Sort.ahead w n) blk 0 d') os
theorem below_grow (w : World) (os : Array Obj) (n : Nat) : Below w.heap.size w (Sort.grow (Sort.ahead w n) os) := ⟨rfl, rfl, rfl, by simp [Sort.grow], fun k hk => Array.getElem?_append_left hk⟩
theorem CallK.sortRow {α : Type} [Inhabited α] {f d g t : Nat} (kr kb : Nat) (enc : α → List Value) (k : Nat) (lt : α → α → Bool) (l : List α) {b cap : Nat} {sp : List Value} {tb : Option Value}
    (hk : hget H kr = some (.box (opn ((l.map enc).flatten ++ sp)) (some (ptrV b)))) (hkb : hget H kb = some (.box [.v (.slice (some ⟨b, 0, none⟩) l.length cap)] tb)) (hne : decide (kb ≠ kr) = true)
    (henc : ∀ x, (enc x).length = k) (hd : decide (d < E.N) = true) (hsz : l.length < 4611686018427387904) (hcl : ∃ fn, E.P.funcs[f]? = some fn ∧ (fn.name == "runtime.NumGoroutine") = false ∧ fn.body.isNone = false)
    (hS : SortC E.P f g t enc k lt) (hL : LessC E.P g enc k lt l.length)
    (hK : ∀ l' : List α, l'.Perm l → l'.Pairwise (fun x y => lt y x = false) → K ((d, true, .v (.tuple #[])) :: σ) (hset kr (.box (opn ((l'.map enc).flatten ++ sp)) (some (ptrV b))) H) M) :
    CallK E f [.v (.iface t (.slice (some ⟨b, 0, none⟩) l.length cap)), .fn g [.ptr kb 0 0 0]] d K σ H M := by
  intro ν a w hs hh
  refine .inl ⟨hcl, ?_⟩
  obtain ⟨⟨b', T, e1, e2⟩, e3⟩ := hh.holds _ (hget_mem hk)
  have e4 := e3 _ rfl
  simp only at e1 e4
  rw [e4] at e1
  cases e1
  rw [opn_vals] at e2
  obtain ⟨⟨bb, T', f1, f2⟩, _⟩ := hh.holds _ (hget_mem hkb)
  simp only [SV.vals, SV.val] at f1 f2
  have hbb : bb ≠ b := by
    rintro rfl
    exact blk_ne hh hk (b := bb) (by rw [e4]; rfl) _ (hget_mem hkb) (of_decide_eq_true hne) (by simp only [f1]; rfl)
  have hlt : b < w.heap.size := (Array.getElem?_eq_some_iff.1 e2).1
  have hltb : bb < w.heap.size := (Array.getElem?_eq_some_iff.1 f2).1
  have hv : (SV.vals ν [.v (.iface t (.slice (some ⟨b, 0, none⟩) l.length cap)), .fn g [.ptr kb 0 0 0]]).toArray = #[.iface t (.slice (some ⟨b, 0, none⟩) l.length cap), .func (.func g) #[] #[.pointer (some ⟨bb, 0, none⟩)]] := by
    simp [SV.vals, SV.val, f1, bOf]
  rw [hv]
  have hfin : ∀ l' : List α, l'.Perm l → l'.Pairwise (fun x y => lt y x = false) → ∀ w', Heap E ν (hset kr (.box (opn ((l'.map enc).flatten ++ sp)) (some (ptrV b))) H) M w' →
      ∃ σ' H' M', Rep E σ' H' M' (a.put (some d) (.tuple #[])) w' ∧ K σ' H' M' := fun l' h1 h2 w' h3 => ⟨_, _, _, ⟨ν, hs.put (of_decide_eq_true hd) rfl, h3⟩, hK l' h1 h2⟩
  rcases Nat.lt_or_ge 1 l.length with h2 | h1
  rotate_left
  · refine (hS.1 (some ⟨b, 0, none⟩) l.length cap h1 #[.pointer (some ⟨bb, 0, none⟩)] w).mono ?_
    rintro e w' ⟨rfl, os, rfl⟩
    refine ⟨_, rfl, hfin l (List.Perm.refl l) ?_ _ ?_⟩
    · match l, h1 with
      | [], _ => exact .nil
      | [x], _ => exact List.pairwise_singleton _ _
    · have := hh.grow (below_grow w os 0)
      have hs2 : hset kr (.box (opn ((l.map enc).flatten ++ sp)) (some (ptrV b))) H = H := hset_self hk
      rw [hs2]
      exact this
  · have hH : Sort.HoldsK enc k w b 0 l.toArray := fun j hj => by
      have hf := flatK_flat henc l.toArray
      have hj2 : j < (Sort.flatK enc k l.toArray).toList.length := by simpa using hj
      have hx : ((l.map enc).flatten ++ sp)[j]? = some ((Sort.flatK enc k l.toArray)[j]!) := by
        rw [show (l.map enc).flatten = (Sort.flatK enc k l.toArray).toList from hf.symm, List.getElem?_append_left hj2, Array.getElem?_toList, getElem!_pos _ j (by simpa using hj)]
        exact Array.getElem?_eq_getElem _
      refine ⟨?_, ?_⟩
      · rw [cell_of_heap e2, Nat.zero_add]
        exact hx
      · simp [World.frozen?, e2]
    have hless : Proofs.LessReadsK E.P g #[.pointer (some ⟨bb, 0, none⟩)] enc k lt b 0 l.toArray.size w := by
      intro m os dk hs i j hi hj
      have e : Proofs.sortWorldK enc k w b 0 m dk os = Sort.putRowK enc k (Sort.grow (Sort.ahead w m) os) b 0 dk := by
        unfold Proofs.sortWorldK; rw [Sort.putRowK_grow _ _ (Sort.ahead w m) _ b 0 _ hlt]
      have hHg : Sort.HoldsK enc k (Sort.grow (Sort.ahead w m) os) b 0 l.toArray := Sort.holdsK_grow _ _ _ _ b 0 _ hlt (Sort.holdsK_ahead _ _ _ _ _ _ _ hH)
      refine hL _ bb b cap dk (by simpa using hs) ?_ (fun t u ht hu => ?_) i j (by simpa using hi) (by simpa using hj)
      · rw [e, Sort.cell?_putRowK_other _ _ _ b 0 dk _ (by exact hbb), Sort.cell?_grow _ _ _ (by exact hltb)]
        show w.cell? ⟨bb, 0, none⟩ = _
        rw [cell_of_heap f2]
        rfl
      · rw [e]
        exact ((Sort.holdsK_putRowK _ _ _ b 0 l.toArray dk hHg hs).cell (i := t) (c := u) (by rw [hs]; simpa using ht) hu).1
    refine (hS.2 b cap l.toArray (by simp only [List.size_toArray]; omega) (by simpa using hsz) #[.pointer (some ⟨bb, 0, none⟩)] w hless hH hlt).mono ?_
    rintro e w' ⟨rfl, d', n, os, hp, hso, rfl⟩
    have hsd : d'.size = l.length := by simpa using hp.1
    refine ⟨_, rfl, hfin d'.toList ?_ ?_ _ ?_⟩
    · have := hp.2.2
      rw [Array.extract_eq_self_of_le (by rw [hsd]; simp), Array.extract_eq_self_of_le (by simp)] at this
      exact this
    · rw [List.pairwise_iff_getElem]
      intro i j hi hj hij
      have := hso i j (Nat.zero_le _) hij (by simpa [hsd] using hj)
      rw [getElem!_pos _ i (by simpa using hi), getElem!_pos _ j (by simpa using hj)] at this
      simpa using this
    · have hF : (Sort.flatK enc k d').size = ((l.map enc).flatten).length := by rw [flat_len henc, Sort.size_flatK, hsd]
      have hpw : Heap E ν (hset kr (.box (opn ((d'.toList.map enc).flatten ++ sp)) (some (ptrV b))) H) M (Sort.putRowK enc k w b 0 d') := by
        refine hh.upd hk (b := b) (by rw [e4]; rfl) (fun j hj => ?_) ?_ ⟨rfl, rfl, rfl⟩ ⟨⟨b, T, e4, ?_⟩, fun v hv => ?_⟩
        · simp only [Sort.putRowK, Sort.putRow, Sort.mapBlock, Array.getElem?_modify]
          rw [if_neg (fun h => hj h.symm)]
        · simp [Sort.putRowK, Sort.putRow, Sort.mapBlock]
        · rw [opn_vals]
          simp only [Sort.putRowK, Sort.putRow, Sort.mapBlock, Array.getElem?_modify, e2, if_true, Option.map_some, Sort.onCells]
          rw [putCells_flat hF, flatK_flat henc]
        · cases hv
          exact e4
      exact hpw.grow (w' := Sort.grow (Sort.putRowK enc k (Sort.ahead w n) b 0 d') os) (below_grow (Sort.putRowK enc k w b 0 d') os n)
theorem Meets.closeR {P : Program} {f : FuncId} {args : List SV} {T : SV → SV} {sz : Nat} {es : List (List Value)} (hT : Ctx T) (hes : ∀ e ∈ es, e.length = sz ∧ ∀ c ∈ e, c.oneCell' = true)
    (h : Meets P f args M (fun r H' M' => (r = T (.v (.slice none 0 0)) ∧ es = []) ∨ OwnR T sz es r H' M' ∨ OpenR T sz es r H' M')) : Meets P f args M (OwnR T sz es) := by
  refine ⟨h.1, fun w hw => (h.2 w hw).mono ?_⟩
  rintro e w' ⟨s, H', M', ν', rfl, hh', hcs⟩
  rcases (show OpenR T sz es s H' M' ∨ (s = T (.v (.slice none 0 0)) ∧ es = []) ∨ OwnR T sz es s H' M' from hcs.elim (fun h => .inr (.inl h)) (fun h => h.elim (fun h => .inr (.inr h)) .inl)) with ⟨b, k, cap, sp, rfl, hk, h1, h2, h3⟩ | ⟨rfl, rfl⟩ | hO
  · obtain ⟨⟨b', T', e1, e2⟩, e3⟩ := hh'.holds _ (hget_mem hk)
    have e4 := e3 _ rfl
    simp only at e1 e4
    rw [e4] at e1
    cases e1
    rw [opn_vals] at e2
    refine ⟨T (.own 0), [(0, .row sz es)], M', fun _ => .slice (some ⟨b, 0, none⟩) es.length cap, by rw [hT (.v _) (.own 0) ν' (fun _ => .slice (some ⟨b, 0, none⟩) es.length cap) rfl], ⟨fun p hp => ?_, by simp [fp, blk?], fun c hc => ?_, hh'.mem, hh'.below, hh'.le0, hh'.fresh, fun _ => rfl⟩, 0, rfl, rfl⟩
    · simp only [List.mem_singleton] at hp
      subst hp
      exact ⟨hes, .inr ⟨b, cap, T', sp, rfl, h1, h2, h3, e2⟩⟩
    · simp only [fp, List.filterMap_cons, List.filterMap_nil, blk?, List.mem_singleton] at hc
      subst hc
      exact hh'.apart c (List.mem_filterMap.2 ⟨_, hget_mem hk, by rw [e4]; rfl⟩)
  · refine ⟨T (.own 0), [(0, .row sz [])], M', fun _ => .slice none 0 0, by rw [hT (.v _) (.own 0) ν' (fun _ => .slice none 0 0) rfl], ⟨fun p hp => ?_, by simp [fp, blk?], fun c hc => by simp [fp, blk?] at hc, hh'.mem, hh'.below, hh'.le0, hh'.fresh, fun _ => rfl⟩, 0, rfl, rfl⟩
    simp only [List.mem_singleton] at hp
    subst hp
    exact ⟨hes, .inl ⟨rfl, rfl⟩⟩
  · exact ⟨s, H', M', ν', rfl, hh', hO⟩
end
end Go.X
