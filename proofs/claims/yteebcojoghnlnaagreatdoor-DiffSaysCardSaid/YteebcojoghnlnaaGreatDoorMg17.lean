/- Contracts of functions and the logic that they are proved in (2 texts in one). Conditions: none. -/
import Derived.Shelf.SlSortFuncK.WholeK
import Derived.Shelf.GgSortFunc.Tiny
import Derived.Test.YteebcojoghnlnaaGreatDoorMg10
import Derived.Test.YteebcojoghnlnaaGreatDoorMg15
namespace Go.X.Bg
end Go.X.Bg
namespace Go.X.Nm
end Go.X.Nm
namespace Go.X.Bp
end Go.X.Bp
namespace Go.X.Sb
end Go.X.Sb
set_option linter.unusedSimpArgs false
set_option linter.unusedVariables false
set_option maxHeartbeats 4000000
set_option maxRecDepth 20000
namespace Go.X
open Go Go.RowKit
section
variable {E : Env} {σ : Sig} {H : HS} {M : Mem} {a : Act} {w : World} {ν : Nat → Value} {K : KP} {o : Oper}

/-- an interface that holds a known value -/
theorem OpK.mkIface {t : TypeId} {x : Operand} {d : Nat} {y : Value} (ho : o.op = .makeInterface t x) (hd : o.dst = some d) (hx : opv σ x = some (true, .v y)) (hN : decide (d < E.N) = true) (hpk : E.P.packed t = false)
    (hu : ∃ e, E.P.underlying t = some (.slice e))
    (hK : K ((d, true, .v (.iface t y)) :: σ) H M) : OpK E o K σ H M := by
  refine opK_of fun ν a w hs hh => ?_
  have ex := hs.opv hx rfl
  simp only [SV.val] at ex
  obtain ⟨e, hu⟩ := hu
  refine ⟨.iface t y, w, ?_, _, _, _, ⟨ν, ?_, hh⟩, hK⟩
  · simp [execOp, ho, ex, Instr.makeInterface, run_underlying hu]
  · rw [hd]
    exact hs.put (of_decide_eq_true hN) rfl

theorem flat_get {α : Type} [Inhabited α] {enc : α → List Value} {k : Nat} (hk : ∀ x, (enc x).length = k) : ∀ (l : List α) (t : Nat), t < l.length * k → ((l.map enc).flatten)[t]? = some ((enc l.toArray[t / k]!)[t % k]!)
  | [], t, h => by simp at h
  | x :: r, t, h => by
    have hx := hk x
    rw [List.map_cons, List.flatten_cons]
    rcases Nat.lt_or_ge t k with ht | ht
    · rw [List.getElem?_append_left (by omega), Nat.div_eq_of_lt ht, Nat.mod_eq_of_lt ht]
      simp [hx, ht]
    · have hk0 : 0 < k := by
        rcases Nat.eq_zero_or_pos k with e | e
        · subst e; simp at h
        · exact e
      rw [List.getElem?_append_right (by omega), hx]
      have e1 : t / k = (t - k) / k + 1 := by rw [Nat.div_eq_sub_div hk0 ht]
      have e2 : t % k = (t - k) % k := Nat.mod_eq_sub_mod ht
      rw [List.length_cons, Nat.add_mul, Nat.one_mul] at h
      rw [flat_get hk r (t - k) (by omega), e1, e2]
      simp
theorem flatK_flat {α : Type} [Inhabited α] {enc : α → List Value} {k : Nat} (hk : ∀ x, (enc x).length = k) (d : Array α) : (Sort.flatK enc k d).toList = (d.toList.map enc).flatten := by
  have hl : ((d.toList.map enc).flatten).length = d.size * k := by
    rw [List.length_flatten, List.map_map]
    have : (List.length ∘ enc) = fun _ => k := funext fun x => hk x
    rw [this, List.map_const', List.sum_replicate_nat, Array.length_toList]
  apply List.ext_getElem?
  intro t
  rcases Nat.lt_or_ge t (d.size * k) with h | h
  · rw [flat_get hk _ t (by simpa using h)]
    simp [Sort.flatK, h]
  · rw [List.getElem?_eq_none (by simpa using h), List.getElem?_eq_none (by omega)]
theorem flat_len {α : Type} {enc : α → List Value} {k : Nat} (hk : ∀ x, (enc x).length = k) (l : List α) : ((l.map enc).flatten).length = l.length * k := by
  rw [List.length_flatten, List.map_map]
  have : (List.length ∘ enc) = fun _ => k := funext fun x => hk x
  rw [this, List.map_const', List.sum_replicate_nat]
theorem putCells_flat {F : Array Value} {c : List Value} {sp : List Value} (h : F.size = c.length) : Sort.putCells id 0 F (c ++ sp).toArray = (F.toList ++ sp).toArray := by
  apply Array.ext_getElem?
  intro t
  simp only [Sort.putCells, Array.getElem?_mapIdx, List.getElem?_toArray]
  rcases Nat.lt_or_ge t F.size with h' | h'
  · rw [List.getElem?_append_left (by omega), List.getElem?_append_left (by simpa using h'), List.getElem?_eq_getElem (by omega)]
    simp [h']
  · rw [List.getElem?_append_right (by omega), List.getElem?_append_right (by simpa using h')]
    simp only [Array.length_toList, h]
    cases hx : sp[t - c.length]? with
    | none => rfl
    | some y =>
      have : ¬ t < c.length := by omega
      simp [this, h]
theorem hset_self {p : PO} {k : Nat} : ∀ {H : HS}, hget H k = some p → hset k p H = H
  | [], h => by cases h
  | (j, q) :: H, h => by
    simp only [hget] at h
    simp only [hset]
    by_cases e : k = j
    · rw [if_pos e] at h
      cases h
      rw [if_pos e.symm]
    · rw [if_neg e] at h
      rw [if_neg (fun e' => e e'.symm), hset_self h]

/-- what a comparison does in every world where it finds the row and the box -/
def LessC {α : Type} [Inhabited α] (P : Program) (g : Nat) (enc : α → List Value) (k : Nat) (lt : α → α → Bool) (size : Nat) : Prop :=
  ∀ (W : World) (Bs blk c : Nat) (dk : Array α), dk.size = size → W.cell? ⟨Bs, 0, none⟩ = some (.slice (some ⟨blk, 0, none⟩) size c) → (∀ t u, t < size → u < k → W.cell? ⟨blk, 0 + t * k + u, none⟩ = some ((enc dk[t]!)[u]!)) →
    ∀ i j : Nat, i < size → j < size → Calls P g #[.int .i64 i, .int .i64 j, .pointer (some ⟨Bs, 0, none⟩)] W fun e w' => e = .returned (.bool (lt dk[i]! dk[j]!)) ∧ ∃ q, w' = W.drewN q
/-- what sort.Slice does -/
def SortC {α : Type} [Inhabited α] (P : Program) (f g t : Nat) (enc : α → List Value) (k : Nat) (lt : α → α → Bool) : Prop :=
  (∀ (p : Option Addr) (n c : Nat), n ≤ 1 → ∀ (lb : Array Value) (w : World), Calls P f #[.iface t (.slice p n c), .func (.func g) #[] lb] w fun e w' => e = .returned (.tuple #[]) ∧ ∃ os, w' = Sort.grow w os) ∧
  ∀ (blk c : Nat) (d : Array α), 2 ≤ d.size → d.size < 4611686018427387904 → ∀ (lb : Array Value) (w : World), Proofs.LessReadsK P g lb enc k lt blk 0 d.size w → Sort.HoldsK enc k w blk 0 d → blk < w.heap.size →
    Calls P f #[.iface t (.slice (some ⟨blk, 0, none⟩) d.size c), .func (.func g) #[] lb] w fun e w' => e = .returned (.tuple #[]) ∧ ∃ d' n os, Sort.PermIn 0 d.size d d' ∧ Sort.SortedIn lt 0 d.size d' ∧ w' = Sort.grow (Sort.putRowK enc k (Sort.ahead w n) blk 0 d') os
theorem below_grow (w : World) (os : Array Obj) (n : Nat) : Below w.heap.size w (Sort.grow (Sort.ahead w n) os) := ⟨rfl, rfl, rfl, by simp [Sort.grow], fun k hk => Array.getElem?_append_left hk⟩
theorem CallK.sortRow {α : Type} [Inhabited α] {f d g t : Nat} (kr kb : Nat) (enc : α → List Value) (k : Nat) (lt : α → α → Bool) (l : List α) {b cap : Nat} {sp : List Value} {tb : Option Value}
    (hk : hget H kr = some (.box (opn ((l.map enc).flatten ++ sp)) (some (ptrV b)))) (hkb : hget H kb = some (.box [.v (.slice (some ⟨b, 0, none⟩) l.length cap)] tb)) (hne : decide (kb ≠ kr) = true)
    (henc : ∀ x, (enc x).length = k) (hd : decide (d < E.N) = true) (hsz : l.length < 4611686018427387904) (hcl : ∃ fn, E.P.funcs[f]? = some fn ∧ (fn.name == "runtime.NumGoroutine") = false ∧ fn.body.isNone = false)
    (hS : SortC E.P f g t enc k lt) (hL : LessC E.P g enc k lt l.length)
    (hK : ∀ l' : List α, l'.Perm l → l'.Pairwise (fun x y => lt y x = false) → K ((d, true, .v (.tuple #[])) :: σ) (hset kr (.box (opn ((l'.map enc).flatten ++ sp)) (some (ptrV b))) H) M) :
    CallK E f [.v (.iface t (.slice (some ⟨b, 0, none⟩) l.length cap)), .fn g [.ptr kb 0 0 0]] d K σ H M := by
  intro ν a w hs hh
  refine .inl ⟨hcl, ?_⟩
  obtain ⟨⟨b', T, e1, e2⟩, e3⟩ := hh.holds _ (hget_mem hk)
  have e4 := e3 _ rfl
  simp only at e1 e4
  rw [e4] at e1
  cases e1
  rw [opn_vals] at e2
  obtain ⟨⟨bb, T', f1, f2⟩, _⟩ := hh.holds _ (hget_mem hkb)
  simp only [SV.vals, SV.val] at f1 f2
  have hbb : bb ≠ b := by
    rintro rfl
    exact blk_ne hh hk (b := bb) (by rw [e4]; rfl) _ (hget_mem hkb) (of_decide_eq_true hne) (by simp only [f1]; rfl)
  have hlt : b < w.heap.size := (Array.getElem?_eq_some_iff.1 e2).1
  have hltb : bb < w.heap.size := (Array.getElem?_eq_some_iff.1 f2).1
  have hv : (SV.vals ν [.v (.iface t (.slice (some ⟨b, 0, none⟩) l.length cap)), .fn g [.ptr kb 0 0 0]]).toArray = #[.iface t (.slice (some ⟨b, 0, none⟩) l.length cap), .func (.func g) #[] #[.pointer (some ⟨bb, 0, none⟩)]] := by
    simp [SV.vals, SV.val, f1, bOf]
  rw [hv]
  have hfin : ∀ l' : List α, l'.Perm l → l'.Pairwise (fun x y => lt y x = false) → ∀ w', Heap E ν (hset kr (.box (opn ((l'.map enc).flatten ++ sp)) (some (ptrV b))) H) M w' →
      ∃ σ' H' M', Rep E σ' H' M' (a.put (some d) (.tuple #[])) w' ∧ K σ' H' M' := fun l' h1 h2 w' h3 => ⟨_, _, _, ⟨ν, hs.put (of_decide_eq_true hd) rfl, h3⟩, hK l' h1 h2⟩
  rcases Nat.lt_or_ge 1 l.length with h2 | h1
  rotate_left
  · refine (hS.1 (some ⟨b, 0, none⟩) l.length cap h1 #[.pointer (some ⟨bb, 0, none⟩)] w).mono ?_
    rintro e w' ⟨rfl, os, rfl⟩
    refine ⟨_, rfl, hfin l (List.Perm.refl l) ?_ _ ?_⟩
    · match l, h1 with
      | [], _ => exact .nil
      | [x], _ => exact List.pairwise_singleton _ _
    · have := hh.grow (below_grow w os 0)
      have hs2 : hset kr (.box (opn ((l.map enc).flatten ++ sp)) (some (ptrV b))) H = H := hset_self hk
      rw [hs2]
      exact this
  · have hH : Sort.HoldsK enc k w b 0 l.toArray := fun j hj => by
      have hf := flatK_flat henc l.toArray
      have hj2 : j < (Sort.flatK enc k l.toArray).toList.length := by simpa using hj
      have hx : ((l.map enc).flatten ++ sp)[j]? = some ((Sort.flatK enc k l.toArray)[j]!) := by
        rw [show (l.map enc).flatten = (Sort.flatK enc k l.toArray).toList from hf.symm, List.getElem?_append_left hj2, Array.getElem?_toList, getElem!_pos _ j (by simpa using hj)]
        exact Array.getElem?_eq_getElem _
      refine ⟨?_, ?_⟩
      · rw [cell_of_heap e2, Nat.zero_add]
        exact hx
      · simp [World.frozen?, e2]
    have hless : Proofs.LessReadsK E.P g #[.pointer (some ⟨bb, 0, none⟩)] enc k lt b 0 l.toArray.size w := by
      intro m os dk hs i j hi hj
      have e : Proofs.sortWorldK enc k w b 0 m dk os = Sort.putRowK enc k (Sort.grow (Sort.ahead w m) os) b 0 dk := by
        unfold Proofs.sortWorldK; rw [Sort.putRowK_grow _ _ (Sort.ahead w m) _ b 0 _ hlt]
      have hHg : Sort.HoldsK enc k (Sort.grow (Sort.ahead w m) os) b 0 l.toArray := Sort.holdsK_grow _ _ _ _ b 0 _ hlt (Sort.holdsK_ahead _ _ _ _ _ _ _ hH)
      refine hL _ bb b cap dk (by simpa using hs) ?_ (fun t u ht hu => ?_) i j (by simpa using hi) (by simpa using hj)
      · rw [e, Sort.cell?_putRowK_other _ _ _ b 0 dk _ (by exact hbb), Sort.cell?_grow _ _ _ (by exact hltb)]
        show w.cell? ⟨bb, 0, none⟩ = _
        rw [cell_of_heap f2]
        rfl
      · rw [e]
        exact ((Sort.holdsK_putRowK _ _ _ b 0 l.toArray dk hHg hs).cell (i := t) (c := u) (by rw [hs]; simpa using ht) hu).1
    refine (hS.2 b cap l.toArray (by simp only [List.size_toArray]; omega) (by simpa using hsz) #[.pointer (some ⟨bb, 0, none⟩)] w hless hH hlt).mono ?_
    rintro e w' ⟨rfl, d', n, os, hp, hso, rfl⟩
    have hsd : d'.size = l.length := by simpa using hp.1
    refine ⟨_, rfl, hfin d'.toList ?_ ?_ _ ?_⟩
    · have := hp.2.2
      rw [Array.extract_eq_self_of_le (by rw [hsd]; simp), Array.extract_eq_self_of_le (by simp)] at this
      exact this
    · rw [List.pairwise_iff_getElem]
      intro i j hi hj hij
      have := hso i j (Nat.zero_le _) hij (by simpa [hsd] using hj)
      rw [getElem!_pos _ i (by simpa using hi), getElem!_pos _ j (by simpa using hj)] at this
      simpa using this
    · have hF : (Sort.flatK enc k d').size = ((l.map enc).flatten).length := by rw [flat_len henc, Sort.size_flatK, hsd]
      have hpw : Heap E ν (hset kr (.box (opn ((d'.toList.map enc).flatten ++ sp)) (some (ptrV b))) H) M (Sort.putRowK enc k w b 0 d') := by
        refine hh.upd hk (b := b) (by rw [e4]; rfl) (fun j hj => ?_) ?_ ⟨rfl, rfl, rfl⟩ ⟨⟨b, T, e4, ?_⟩, fun v hv => ?_⟩
        · simp only [Sort.putRowK, Sort.putRow, Sort.mapBlock, Array.getElem?_modify]
          rw [if_neg (fun h => hj h.symm)]
        · simp [Sort.putRowK, Sort.putRow, Sort.mapBlock]
        · rw [opn_vals]
          simp only [Sort.putRowK, Sort.putRow, Sort.mapBlock, Array.getElem?_modify, e2, if_true, Option.map_some, Sort.onCells]
          rw [putCells_flat hF, flatK_flat henc]
        · cases hv
          exact e4
      exact hpw.grow (w' := Sort.grow (Sort.putRowK enc k (Sort.ahead w n) b 0 d') os) (below_grow (Sort.putRowK enc k w b 0 d') os n)
theorem Meets.closeR {P : Program} {f : FuncId} {args : List SV} {T : SV → SV} {sz : Nat} {es : List (List Value)} (hT : Ctx T) (hes : ∀ e ∈ es, e.length = sz ∧ ∀ c ∈ e, c.oneCell' = true)
    (h : Meets P f args M (fun r H' M' => (r = T (.v (.slice none 0 0)) ∧ es = []) ∨ OwnR T sz es r H' M' ∨ OpenR T sz es r H' M')) : Meets P f args M (OwnR T sz es) := by
  refine ⟨h.1, fun w hw => (h.2 w hw).mono ?_⟩
  rintro e w' ⟨s, H', M', ν', rfl, hh', hcs⟩
  rcases (show OpenR T sz es s H' M' ∨ (s = T (.v (.slice none 0 0)) ∧ es = []) ∨ OwnR T sz es s H' M' from hcs.elim (fun h => .inr (.inl h)) (fun h => h.elim (fun h => .inr (.inr h)) .inl)) with ⟨b, k, cap, sp, rfl, hk, h1, h2, h3⟩ | ⟨rfl, rfl⟩ | hO
  · obtain ⟨⟨b', T', e1, e2⟩, e3⟩ := hh'.holds _ (hget_mem hk)
    have e4 := e3 _ rfl
    simp only at e1 e4
    rw [e4] at e1
    cases e1
    rw [opn_vals] at e2
    refine ⟨T (.own 0), [(0, .row sz es)], M', fun _ => .slice (some ⟨b, 0, none⟩) es.length cap, by rw [hT (.v _) (.own 0) ν' (fun _ => .slice (some ⟨b, 0, none⟩) es.length cap) rfl], ⟨fun p hp => ?_, by simp [fp, blk?], fun c hc => ?_, hh'.mem, hh'.below, hh'.le0, hh'.fresh, fun _ => rfl⟩, 0, rfl, rfl⟩
    · simp only [List.mem_singleton] at hp
      subst hp
      exact ⟨hes, .inr ⟨b, cap, T', sp, rfl, h1, h2, h3, e2⟩⟩
    · simp only [fp, List.filterMap_cons, List.filterMap_nil, blk?, List.mem_singleton] at hc
      subst hc
      exact hh'.apart c (List.mem_filterMap.2 ⟨_, hget_mem hk, by rw [e4]; rfl⟩)
  · refine ⟨T (.own 0), [(0, .row sz [])], M', fun _ => .slice none 0 0, by rw [hT (.v _) (.own 0) ν' (fun _ => .slice none 0 0) rfl], ⟨fun p hp => ?_, by simp [fp, blk?], fun c hc => by simp [fp, blk?] at hc, hh'.mem, hh'.below, hh'.le0, hh'.fresh, fun _ => rfl⟩, 0, rfl, rfl⟩
    simp only [List.mem_singleton] at hp
    subst hp
    exact ⟨hes, .inl ⟨rfl, rfl⟩⟩
  · exact ⟨s, H', M', ν', rfl, hh', hO⟩
end
end Go.X

namespace Go.X.Vo
open Go Go.X Go.RowKit Go.X.Bg Go.X.Nm Go.X.Bp Go.X.Sb

theorem cloneV (u : Value) (l : List (WV)) (M : Mem) (hu : RowM M u 2 (l.map encV)) (hb : l.length ≤ 1000000) :
    Meets Proofs.Tryz.prog 108 [.v u] M (OwnR (fun s => s) 2 (l.map encV)) := by
  obtain ⟨r1, r2⟩ := hu.rows (by omega)
  cases hs : someV u with
  | true =>
    refine Meets.of_body [0,2,4] Proofs.Tryz.func108 rfl (by kernel_rfl) rfl fun w => ?_
    simp only [Proofs.Tryz.f108, shs, zts, sos, sls, zss, eqs, sx, sb1, sb2, sb3, sb4, sb5, sb6, sb7, ↓reduceIte, Nat.reduceAdd, Nat.reduceMul, Nat.reduceDiv, Nat.reduceEqDiff, Nat.reduceLT, Nat.reduceLeDiff, reduceCtorEq, Int.reduceEq, Int.reduceNe, Int.reduceLT, Int.reduceLE, Int.reduceAdd, Int.reduceSub, Int.reduceMul, Int.reduceNeg, Int.reduceToNat, Int.cast_ofNat_Int, Int.natCast_zero, Int.natCast_one, Int.toNat_natCast, Nat.reduceBEq, hu.sl, hs, r1, List.length_map]
    exact ⟨⟨by omega, r2⟩, 56, rfl, rfl⟩
  | false =>
    have hn : l = [] := by
      cases l with
      | nil => rfl
      | cons a r => have := hu.2.1 (by simp); rw [hs] at this; cases this
    subst hn
    refine Meets.nilOwn ?_
    refine Meets.of_body [0,2,4] Proofs.Tryz.func108 rfl (by kernel_rfl) rfl fun w => ?_
    simp only [Proofs.Tryz.f108, shs, zts, sos, sls, zss, eqs, sx, sb1, sb2, sb3, sb4, sb5, sb6, sb7, ↓reduceIte, Nat.reduceAdd, Nat.reduceMul, Nat.reduceDiv, Nat.reduceEqDiff, Nat.reduceLT, Nat.reduceLeDiff, reduceCtorEq, Int.reduceEq, Int.reduceNe, Int.reduceLT, Int.reduceLE, Int.reduceAdd, Int.reduceSub, Int.reduceMul, Int.reduceNeg, Int.reduceToNat, Int.cast_ofNat_Int, Int.natCast_zero, Int.natCast_one, Int.toNat_natCast, Nat.reduceBEq, hu.sl, hs]

theorem insertV (es : List (List Value)) (x : List Value) (i : Nat) (M : Mem) (hin : i ≤ es.length) (hb : es.length ≤ 1000000) (hes : ∀ e ∈ es, e.length = 2 ∧ ∀ c ∈ e, c.oneCell' = true) (hx : x.length = 2 ∧ ∀ c ∈ x, c.oneCell' = true) :
    MeetsH Proofs.Tryz.prog 120 [.own 8000, .v (.int .i64 i), .own 8008] [(8000, .row 2 es), (8008, .row 2 [x])] M (OwnR (fun s => s) 2 (es.take i ++ x :: es.drop i)) := by
  refine MeetsH.closeR Ctx.id (fun e he => ?_) ?_
  · rcases List.mem_append.1 he with he | he
    · exact hes e (List.mem_of_mem_take he)
    · rcases List.mem_cons.1 he with rfl | he
      · exact hx
      · exact hes e (List.mem_of_mem_drop he)
  refine MeetsH.of_bodyS Proofs.Tryz.func120 rfl (by kernel_rfl) fun w M0 => ?_
  refine CodeK.openRow (k := 8000) 1002 rfl (fun _ => rfl) (fun he => ?_) (fun b cap sp h1 h2 => ?_)
  · subst he
    have e1 : i = 0 := by simpa using hin
    subst e1
    refine CodeK.ofW (live := [0,1,2,6,7,8,9,16,22,31,68]) ?_
    simp only [Proofs.Tryz.f120, shs, zts, sos, sls, zss, eqs, sx, sb1, sb2, sb3, sb4, sb5, sb6, sb7, ↓reduceIte, Nat.reduceAdd, Nat.reduceMul, Nat.reduceDiv, Nat.reduceEqDiff, Nat.reduceLT, Nat.reduceLeDiff, reduceCtorEq, Int.reduceEq, Int.reduceNe, Int.reduceLT, Int.reduceLE, Int.reduceAdd, Int.reduceSub, Int.reduceMul, Int.reduceNeg, Int.reduceToNat, Int.cast_ofNat_Int, Int.natCast_zero, Int.natCast_one, Int.toNat_natCast, Nat.reduceBEq, sp1, sp2, sp3, nzs, lenV, capV, isSl]
    exact .inr ⟨200, rfl, rfl⟩
  refine CodeK.ofW (live := [0,1,2,6,7,8,9,16,22,31,68]) ?_
  have hm : (cap : Int) ≤ 9223372036854775807 := by have := h1.2.1; simp only [maxLen] at this; omega
  by_cases hn : i = es.length
  · have c1 : ((i : Int) = (es.length : Int)) = True := eq_true (by omega)
    simp only [Proofs.Tryz.f120, shs, zts, sos, sls, zss, eqs, sx, sb1, sb2, sb3, sb4, sb5, sb6, sb7, ↓reduceIte, Nat.reduceAdd, Nat.reduceMul, Nat.reduceDiv, Nat.reduceEqDiff, Nat.reduceLT, Nat.reduceLeDiff, reduceCtorEq, Int.reduceEq, Int.reduceNe, Int.reduceLT, Int.reduceLE, Int.reduceAdd, Int.reduceSub, Int.reduceMul, Int.reduceNeg, Int.reduceToNat, Int.cast_ofNat_Int, Int.natCast_zero, Int.natCast_one, Int.toNat_natCast, Nat.reduceBEq, sp1, sp2, sp3, nzs, lenV, capV, isSl, c1]
    refine ⟨⟨⟨by omega, by omega⟩, by omega⟩, show OpK _ _ _ _ _ _ from OpK.reown (es := es) (sp := sp) (cap := cap) (b := b) 23 8016 1003 rfl rfl rfl h1 h2 rfl (OpK.step ?_)⟩
    simp only [shs, zts, sos, sls, zss, eqs, sx, sb1, sb2, sb3, sb4, sb5, sb6, sb7, ↓reduceIte, Nat.reduceAdd, Nat.reduceMul, Nat.reduceDiv, Nat.reduceEqDiff, Nat.reduceLT, Nat.reduceLeDiff, reduceCtorEq, Int.reduceEq, Int.reduceNe, Int.reduceLT, Int.reduceLE, Int.reduceAdd, Int.reduceSub, Int.reduceMul, Int.reduceNeg, Int.reduceToNat, Int.cast_ofNat_Int, Int.natCast_zero, Int.natCast_one, Int.toNat_natCast, Nat.reduceBEq, sp1, sp2, sp3, nzs]
    refine ⟨⟨by omega, by omega⟩, .inr ⟨200, rfl, ?_⟩⟩
    simp [hn]
  have c1 : ((i : Int) = (es.length : Int)) = False := eq_false (by omega)
  have hlen : ∀ e ∈ es, e.length = 2 := fun e he => (hes e he).1
  have hfl := flatten_len hlen
  have hft := flatten_len (fun e he => hlen e (List.mem_of_mem_take (i := i) he))
  have hfd := flatten_len (fun e he => hlen e (List.mem_of_mem_drop (i := i) he))
  rw [List.length_take, Nat.min_eq_left hin] at hft
  rw [List.length_drop] at hfd
  have hol : ∀ u ∈ (es.drop i).flatten, u.oneCell' = true := fun u hu => by
    obtain ⟨e, he, hu⟩ := List.mem_flatten.1 hu
    exact (hes e (List.mem_of_mem_drop he)).2 u hu
  have htl : es.flatten.take (i * 2) = (es.take i).flatten := flat_take hlen i
  have hdl : es.flatten.drop (i * 2) = (es.drop i).flatten := flat_drop hlen i
  by_cases hr : es.length + 1 > cap
  · have c2 : ((cap : Int) < (es.length : Int) + 1) = True := eq_true (by omega)
    simp only [Proofs.Tryz.f120, shs, zts, sos, sls, zss, eqs, sx, sb1, sb2, sb3, sb4, sb5, sb6, sb7, ↓reduceIte, Nat.reduceAdd, Nat.reduceMul, Nat.reduceDiv, Nat.reduceEqDiff, Nat.reduceLT, Nat.reduceLeDiff, reduceCtorEq, Int.reduceEq, Int.reduceNe, Int.reduceLT, Int.reduceLE, Int.reduceAdd, Int.reduceSub, Int.reduceMul, Int.reduceNeg, Int.reduceToNat, Int.cast_ofNat_Int, Int.natCast_zero, Int.natCast_one, Int.toNat_natCast, Nat.reduceBEq, sp1, sp2, sp3, nzs, lenV, capV, isSl, c1, inK, lo, hi]
    refine ⟨⟨⟨by omega, by omega⟩, by omega⟩, ⟨by omega, by omega⟩, ⟨rfl, OpK.cap (e := 47) rfl rfl rfl (by kernel_rfl) rfl rfl ?_⟩⟩
    simp only [shs, zts, sos, sls, zss, eqs, sx, sb1, sb2, sb3, sb4, sb5, sb6, sb7, ↓reduceIte, Nat.reduceAdd, Nat.reduceMul, Nat.reduceDiv, Nat.reduceEqDiff, Nat.reduceLT, Nat.reduceLeDiff, reduceCtorEq, Int.reduceEq, Int.reduceNe, Int.reduceLT, Int.reduceLE, Int.reduceAdd, Int.reduceSub, Int.reduceMul, Int.reduceNeg, Int.reduceToNat, Int.cast_ofNat_Int, Int.natCast_zero, Int.natCast_one, Int.toNat_natCast, Nat.reduceBEq, sp1, sp2, sp3, nzs, lenV, capV, isSl, c1, c2, inK, lo, hi, subV_open0]
    have em : (es.length : Int) + 1 - (i : Int) = ((es.length + 1 - i : Nat) : Int) := by omega
    simp only [em]
    refine ⟨⟨by omega, by omega⟩, ⟨by omega, by omega⟩, ⟨by omega, by omega⟩, show OpK _ _ _ _ _ _ from OpK.appMake (base := some ⟨b, 0, none⟩) (n := i) (m := es.length + 1 - i) (c := cap) (olds := (es.take i).flatten) rfl rfl rfl sl23 (kn := .i64) (by kernel_rfl) rfl rfl
      (.inr ⟨⟨b, 0, none⟩, rfl, hft, Reads.sub (k := 8016) (cs := es.flatten ++ sp) rfl fun j u hj => get_of_take htl.symm hj⟩) (by omega) (by decide) rfl (by omega) (by omega) (by simp [hdel, hNoKey, poNoKey, opn_noKeys]) fun b2 cap2 tp2 q1 q2 q3 => ?_⟩
    have eim : i + (es.length + 1 - i) = es.length + 1 := by omega
    rw [eim] at q1 q3
    have hz : (List.replicate (es.length + 1 - i) [Value.string ⟨([] : List UInt8).toArray⟩, Value.slice none 0 0]).flatten.length = (es.length + 1 - i) * 2 := by simp
    have d1 : (cap2 = i) = False := eq_false (by omega)
    simp only [shs, zts, sos, sls, zss, eqs, sx, sb1, sb2, sb3, sb4, sb5, sb6, sb7, ↓reduceIte, Nat.reduceAdd, Nat.reduceMul, Nat.reduceDiv, Nat.reduceEqDiff, Nat.reduceLT, Nat.reduceLeDiff, reduceCtorEq, Int.reduceEq, Int.reduceNe, Int.reduceLT, Int.reduceLE, Int.reduceAdd, Int.reduceSub, Int.reduceMul, Int.reduceNeg, Int.reduceToNat, Int.cast_ofNat_Int, Int.natCast_zero, Int.natCast_one, Int.toNat_natCast, Nat.reduceBEq, sp1, sp2, sp3, nzs, lenV, capV, isSl, inK, lo, hi, subV_open b2 (es.length + 1) cap2 2 i, eim, d1]
    refine ⟨⟨by omega, by omega⟩, ⟨rfl, OpK.openRow (k := 8008) 1003 rfl (fun _ => by simp [hpub, poPub, hNoKey, poNoKey, opn_noKeys, opn_pubs]) (fun h => by cases h) fun b3 cap3 tp3 r1 r2 => ?_⟩⟩
    simp only [shs, zts, sos, sls, zss, eqs, sx, sb1, sb2, sb3, sb4, sb5, sb6, sb7, ↓reduceIte, Nat.reduceAdd, Nat.reduceMul, Nat.reduceDiv, Nat.reduceEqDiff, Nat.reduceLT, Nat.reduceLeDiff, reduceCtorEq, Int.reduceEq, Int.reduceNe, Int.reduceLT, Int.reduceLE, Int.reduceAdd, Int.reduceSub, Int.reduceMul, Int.reduceNeg, Int.reduceToNat, Int.cast_ofNat_Int, Int.natCast_zero, Int.natCast_one, Int.toNat_natCast, Nat.reduceBEq, sp1, sp2, sp3, nzs, so0]
    refine OpK.copyIn (k := 320) (cs := (es.take i).flatten ++ (List.replicate (es.length + 1 - i) [Value.string ⟨([] : List UInt8).toArray⟩, Value.slice none 0 0]).flatten ++ tp2) (news := x) (m := 1) (ad := ⟨b3, 0, none⟩) rfl rfl sl23 rfl rfl rfl ?_ (Reads.sub (k := 8024) (cs := [x].flatten ++ tp3) rfl fun j u hj => ?_) hx.2 ?_ ?_
    · rw [hx.1]
      have : Nat.min 1 (es.length + 1 - i) = 1 := Nat.min_eq_left (by omega)
      rw [this]
    · rw [Nat.zero_add, List.getElem?_append_left (by have := (List.getElem?_eq_some_iff.1 hj).1; simpa using this)]
      simpa using hj
    · rw [List.length_append, List.length_append, hft, hz, hx.1]
      omega
    rw [← hft, List.append_assoc, putV_keep]
    generalize hR : ((List.replicate (es.length + 1 - i) [Value.string ⟨([] : List UInt8).toArray⟩, Value.slice none 0 0]).flatten ++ tp2).drop x.length = R
    have hRl : R.length = (cap2 - i - 1) * 2 := by rw [← hR, List.length_drop, List.length_append, hz, hx.1, q3]; omega
    simp only [putD, shs, zts, sos, sls, zss, eqs, sx, sb1, sb2, sb3, sb4, sb5, sb6, sb7, ↓reduceIte, Nat.reduceAdd, Nat.reduceMul, Nat.reduceDiv, Nat.reduceEqDiff, Nat.reduceLT, Nat.reduceLeDiff, reduceCtorEq, Int.reduceEq, Int.reduceNe, Int.reduceLT, Int.reduceLE, Int.reduceAdd, Int.reduceSub, Int.reduceMul, Int.reduceNeg, Int.reduceToNat, Int.cast_ofNat_Int, Int.natCast_zero, Int.natCast_one, Int.toNat_natCast, Nat.reduceBEq, sp1, sp2, sp3, nzs, so0]
    refine DrawK.tail 8 (by kernel_rfl) (by kernel_rfl) ?_
    have d2 : (cap2 = i + 1) = False := eq_false (by omega)
    have d3 : (cap = i) = False := eq_false (by omega)
    have e4 : ((i : Int) + 1).toNat = i + 1 := by omega
    simp only [shs, zts, sos, sls, zss, eqs, sx, sb1, sb2, sb3, sb4, sb5, sb6, sb7, ↓reduceIte, Nat.reduceAdd, Nat.reduceMul, Nat.reduceDiv, Nat.reduceEqDiff, Nat.reduceLT, Nat.reduceLeDiff, reduceCtorEq, Int.reduceEq, Int.reduceNe, Int.reduceLT, Int.reduceLE, Int.reduceAdd, Int.reduceSub, Int.reduceMul, Int.reduceNeg, Int.reduceToNat, Int.cast_ofNat_Int, Int.natCast_zero, Int.natCast_one, Int.toNat_natCast, Nat.reduceBEq, sp1, sp2, sp3, nzs, lenV, capV, isSl, inK, lo, hi, e4, subV_open b2 (es.length + 1) cap2 2 (i + 1), subV_open b es.length cap 2 i, d2, d3]
    refine ⟨⟨by omega, by omega⟩, ⟨⟨by omega, by omega⟩, by omega⟩, ⟨⟨by omega, by omega⟩, by omega⟩, ⟨rfl, OpK.copyIn (k := 320) (cs := (es.take i).flatten ++ (x ++ R)) (news := (es.drop i).flatten) (m := es.length - i) (ad := ⟨b, i * 2, none⟩) rfl rfl sl23 rfl rfl rfl ?_ (Reads.sub (k := 8016) (cs := es.flatten ++ sp) rfl fun j u hj => get_of_drop hdl.symm hj) hol ?_ ?_⟩⟩
    · have : Nat.min (es.length - i) (es.length + 1 - (i + 1)) = es.length - i := Nat.min_eq_left (by omega)
      rw [this, hfd]
    · rw [List.length_append, List.length_append, hft, hfd, hRl, hx.1]
      omega
    have eo : (i + 1) * 2 = ((es.take i).flatten ++ x).length := by rw [List.length_append, hft, hx.1]; omega
    rw [eo, ← List.append_assoc, putV_keep]
    have ef : (es.take i).flatten ++ x ++ ((es.drop i).flatten ++ R.drop (es.drop i).flatten.length) = (es.take i ++ x :: es.drop i).flatten ++ R.drop (es.drop i).flatten.length := by simp
    rw [ef]
    have hl2 : (es.take i ++ x :: es.drop i).length = es.length + 1 := by simp; omega
    simp only [putD, shs, zts, sos, sls, zss, eqs, sx, sb1, sb2, sb3, sb4, sb5, sb6, sb7, ↓reduceIte, Nat.reduceAdd, Nat.reduceMul, Nat.reduceDiv, Nat.reduceEqDiff, Nat.reduceLT, Nat.reduceLeDiff, reduceCtorEq, Int.reduceEq, Int.reduceNe, Int.reduceLT, Int.reduceLE, Int.reduceAdd, Int.reduceSub, Int.reduceMul, Int.reduceNeg, Int.reduceToNat, Int.cast_ofNat_Int, Int.natCast_zero, Int.natCast_one, Int.toNat_natCast, Nat.reduceBEq, sp1, sp2, sp3, nzs, so0]
    refine .inl ⟨b2, 320, cap2, R.drop (es.drop i).flatten.length, by rw [hl2], rfl, by omega, q2, ?_⟩
    rw [List.length_drop, hRl, hfd, hl2]
    omega
  · have c2 : ((cap : Int) < (es.length : Int) + 1) = False := eq_false (by omega)
    have e3 : ((es.length : Int) + 1).toNat = es.length + 1 := by omega
    have e4 : ((i : Int) + 1).toNat = i + 1 := by omega
    have d1 : (cap = i + 1) = False := eq_false (by omega)
    simp only [Proofs.Tryz.f120, shs, zts, sos, sls, zss, eqs, sx, sb1, sb2, sb3, sb4, sb5, sb6, sb7, ↓reduceIte, Nat.reduceAdd, Nat.reduceMul, Nat.reduceDiv, Nat.reduceEqDiff, Nat.reduceLT, Nat.reduceLeDiff, reduceCtorEq, Int.reduceEq, Int.reduceNe, Int.reduceLT, Int.reduceLE, Int.reduceAdd, Int.reduceSub, Int.reduceMul, Int.reduceNeg, Int.reduceToNat, Int.cast_ofNat_Int, Int.natCast_zero, Int.natCast_one, Int.toNat_natCast, Nat.reduceBEq, sp1, sp2, sp3, nzs, lenV, capV, isSl, c1, inK, lo, hi]
    refine ⟨⟨⟨by omega, by omega⟩, by omega⟩, ⟨by omega, by omega⟩, ⟨rfl, OpK.cap (e := 47) rfl rfl rfl (by kernel_rfl) rfl rfl ?_⟩⟩
    simp only [shs, zts, sos, sls, zss, eqs, sx, sb1, sb2, sb3, sb4, sb5, sb6, sb7, ↓reduceIte, Nat.reduceAdd, Nat.reduceMul, Nat.reduceDiv, Nat.reduceEqDiff, Nat.reduceLT, Nat.reduceLeDiff, reduceCtorEq, Int.reduceEq, Int.reduceNe, Int.reduceLT, Int.reduceLE, Int.reduceAdd, Int.reduceSub, Int.reduceMul, Int.reduceNeg, Int.reduceToNat, Int.cast_ofNat_Int, Int.natCast_zero, Int.natCast_one, Int.toNat_natCast, Nat.reduceBEq, sp1, sp2, sp3, nzs, lenV, capV, isSl, c1, c2, inK, lo, hi, subV_open0, e3, e4, subV_open b (es.length + 1) cap 2 (i + 1), d1]
    refine ⟨⟨by omega, by omega⟩, ⟨by omega, by omega⟩, ⟨by omega, by omega⟩, ⟨⟨by omega, by omega⟩, by omega⟩, CallK.openRow (k := 8008) 1003 rfl (fun _ => by simp [hpub, poPub, hNoKey, poNoKey, opn_noKeys, opn_pubs]) (fun h => by cases h) (fun b3 cap3 tp3 r1 r2 => ?_) (fun _ => rfl)⟩
    simp only [shs, zts, sos, sls, zss, eqs, sx, sb1, sb2, sb3, sb4, sb5, sb6, sb7, ↓reduceIte, Nat.reduceAdd, Nat.reduceMul, Nat.reduceDiv, Nat.reduceEqDiff, Nat.reduceLT, Nat.reduceLeDiff, reduceCtorEq, Int.reduceEq, Int.reduceNe, Int.reduceLT, Int.reduceLE, Int.reduceAdd, Int.reduceSub, Int.reduceMul, Int.reduceNeg, Int.reduceToNat, Int.cast_ofNat_Int, Int.natCast_zero, Int.natCast_one, Int.toNat_natCast, Nat.reduceBEq, sp1, sp2, sp3, nzs, so0]
    refine CallK.overlaps (k := 8024) (k2 := 8016) (cs := [x].flatten ++ tp3) (cs2 := es.flatten ++ sp) (tS := 23) (tR := 4) (e := 47) (sz := 2) rfl (by kernel_rfl) Proofs.Tryz.sizeOf47 (fun w x y v h => by rw [run_callFunc_extern Proofs.Tryz.func165 (by kernel_rfl) (by kernel_rfl) (by kernel_rfl) (e := Extern.SlicesOverlaps.overlaps #[23, 23] #[4]) (by kernel_rfl), h]; rfl) rfl rfl rfl ?_ ?_
    · rw [List.length_append, hfl]; omega
    simp only [shs, zts, sos, sls, zss, eqs, sx, sb1, sb2, sb3, sb4, sb5, sb6, sb7, ↓reduceIte, Nat.reduceAdd, Nat.reduceMul, Nat.reduceDiv, Nat.reduceEqDiff, Nat.reduceLT, Nat.reduceLeDiff, reduceCtorEq, Int.reduceEq, Int.reduceNe, Int.reduceLT, Int.reduceLE, Int.reduceAdd, Int.reduceSub, Int.reduceMul, Int.reduceNeg, Int.reduceToNat, Int.cast_ofNat_Int, Int.natCast_zero, Int.natCast_one, Int.toNat_natCast, Nat.reduceBEq, sp1, sp2, sp3, nzs, so0]
    refine DrawK.tail 8 (by kernel_rfl) (by kernel_rfl) ?_
    have d3 : (cap = i) = False := eq_false (by omega)
    simp only [shs, zts, sos, sls, zss, eqs, sx, sb1, sb2, sb3, sb4, sb5, sb6, sb7, ↓reduceIte, Nat.reduceAdd, Nat.reduceMul, Nat.reduceDiv, Nat.reduceEqDiff, Nat.reduceLT, Nat.reduceLeDiff, reduceCtorEq, Int.reduceEq, Int.reduceNe, Int.reduceLT, Int.reduceLE, Int.reduceAdd, Int.reduceSub, Int.reduceMul, Int.reduceNeg, Int.reduceToNat, Int.cast_ofNat_Int, Int.natCast_zero, Int.natCast_one, Int.toNat_natCast, Nat.reduceBEq, sp1, sp2, sp3, nzs, lenV, capV, isSl, inK, lo, hi, e4, subV_open b (es.length + 1) cap 2 (i + 1), subV_open b (es.length + 1) cap 2 i, d1, d3]
    refine ⟨⟨by omega, by omega⟩, ⟨⟨by omega, by omega⟩, by omega⟩, ⟨⟨by omega, by omega⟩, by omega⟩, ⟨rfl, OpK.copyIn (k := 8016) (cs := es.flatten ++ sp) (news := (es.drop i).flatten) (m := es.length + 1 - i) (ad := ⟨b, i * 2, none⟩) rfl rfl sl23 rfl rfl rfl ?_ (Reads.sub (k := 8016) (cs := es.flatten ++ sp) rfl fun j u hj => get_of_drop hdl.symm hj) hol ?_ ?_⟩⟩
    · have : Nat.min (es.length + 1 - i) (es.length + 1 - (i + 1)) = es.length - i := by
        rw [show es.length + 1 - (i + 1) = es.length - i by omega]
        exact Nat.min_eq_right (by omega)
      rw [this, hfd]
    · rw [List.length_append, hfl, hfd]
      omega
    simp only [putD, shs, zts, sos, sls, zss, eqs, sx, sb1, sb2, sb3, sb4, sb5, sb6, sb7, ↓reduceIte, Nat.reduceAdd, Nat.reduceMul, Nat.reduceDiv, Nat.reduceEqDiff, Nat.reduceLT, Nat.reduceLeDiff, reduceCtorEq, Int.reduceEq, Int.reduceNe, Int.reduceLT, Int.reduceLE, Int.reduceAdd, Int.reduceSub, Int.reduceMul, Int.reduceNeg, Int.reduceToNat, Int.cast_ofNat_Int, Int.natCast_zero, Int.natCast_one, Int.toNat_natCast, Nat.reduceBEq, sp1, sp2, sp3, nzs, so0, lenV, capV, isSl, subV_open b (es.length + 1) cap 2 i, d3]
    have hcl : (putV (es.flatten ++ sp) ((i + 1) * 2) (es.drop i).flatten).length = (es.flatten ++ sp).length := by
      unfold putV
      rw [List.length_append, List.length_append, List.length_take, List.length_drop, List.length_append, hfl, hfd]
      omega
    refine ⟨⟨by omega, by omega⟩, ⟨rfl, OpK.copyIn (k := 8016) (cs := putV (es.flatten ++ sp) ((i + 1) * 2) (es.drop i).flatten) (news := x) (m := 1) (ad := ⟨b3, 0, none⟩) rfl rfl sl23 rfl rfl rfl ?_ (Reads.sub (k := 8024) (cs := [x].flatten ++ tp3) rfl fun j u hj => ?_) hx.2 ?_ ?_⟩⟩
    · rw [hx.1]
      have : Nat.min 1 (es.length + 1 - i) = 1 := Nat.min_eq_left (by omega)
      rw [this]
    · rw [Nat.zero_add, List.getElem?_append_left (by have := (List.getElem?_eq_some_iff.1 hj).1; simpa using this)]
      simpa using hj
    · rw [hcl, List.length_append, hfl, hx.1]
      omega
    have hps := putV_shift (es.flatten ++ sp) (es.drop i).flatten x (i * 2) (by rw [List.length_append, hfl, hx.1]; omega)
    rw [hx.1, show i * 2 + 2 = (i + 1) * 2 by omega, List.take_append_of_le_length (by omega), htl] at hps
    rw [hps]
    have ef : (es.take i).flatten ++ x ++ ((es.drop i).flatten ++ (es.flatten ++ sp).drop ((i + 1) * 2 + (es.drop i).flatten.length)) = (es.take i ++ x :: es.drop i).flatten ++ (es.flatten ++ sp).drop ((i + 1) * 2 + (es.drop i).flatten.length) := by simp
    rw [ef]
    have hl2 : (es.take i ++ x :: es.drop i).length = es.length + 1 := by simp; omega
    simp only [putD, shs, zts, sos, sls, zss, eqs, sx, sb1, sb2, sb3, sb4, sb5, sb6, sb7, ↓reduceIte, Nat.reduceAdd, Nat.reduceMul, Nat.reduceDiv, Nat.reduceEqDiff, Nat.reduceLT, Nat.reduceLeDiff, reduceCtorEq, Int.reduceEq, Int.reduceNe, Int.reduceLT, Int.reduceLE, Int.reduceAdd, Int.reduceSub, Int.reduceMul, Int.reduceNeg, Int.reduceToNat, Int.cast_ofNat_Int, Int.natCast_zero, Int.natCast_one, Int.toNat_natCast, Nat.reduceBEq, sp1, sp2, sp3, nzs, so0]
    refine .inl ⟨b, 8016, cap, _, by rw [hl2], rfl, by omega, h1.2.1, ?_⟩
    rw [List.length_drop, List.length_append, hfl, hfd, hl2, h1.2.2]
    omega

theorem bsV {α : Type} (q0 q1 : α → Value) (cf : α → Int) (f : Nat) (t0 t1 y : Value) (l : List α) (M : Mem) (hy : RowM M y 2 (l.map fun x => [q0 x, q1 x])) (hb : l.length ≤ 1000000)
    (ht : t0.oneCell' = true ∧ t1.oneCell' = true)
    (hf : ∀ x ∈ l, Meets Proofs.Tryz.prog f [.agg [.v (q0 x), .v (q1 x)], .agg [.v t0, .v t1]] M fun r _ _ => r = .v (.int .i64 (cf x)))
    (hmono : ∀ (i j : Nat) (x y : α), i ≤ j → l[i]? = some x → l[j]? = some y → cf y < 0 → cf x < 0) :
    Meets Proofs.Tryz.prog 117 [.v y, .agg [.v t0, .v t1], .fn f []] M fun r _ _ => r = .tup [.v (.int .i64 (bk cf l)), .v (.bool (bf cf l))] := by
  refine Meets.of_body [0,1,2,4,6,7,8,9,10,11,17,31] Proofs.Tryz.func117 rfl (by kernel_rfl) rfl fun w => ?_
  simp only [Proofs.Tryz.f117, shs, zts, sos, sls, zss, eqs, sx, sb1, sb2, sb3, sb4, sb5, sb6, sb7, ↓reduceIte, Nat.reduceAdd, Nat.reduceMul, Nat.reduceDiv, Nat.reduceEqDiff, Nat.reduceLT, Nat.reduceLeDiff, reduceCtorEq, Int.reduceEq, Int.reduceNe, Int.reduceLT, Int.reduceLE, Int.reduceAdd, Int.reduceSub, Int.reduceMul, Int.reduceNeg, Int.reduceToNat, Int.cast_ofNat_Int, Int.natCast_zero, Int.natCast_one, Int.toNat_natCast, Nat.reduceBEq, nzs, hy.len, hy.sl, List.length_map]
  refine LoopK.go (X := Nat × Nat) (fun x => ([(0, true, .v y), (2, true, .fn f []), (4, true, .ptr 32 0 0 0), (8, true, .v (.int .i64 l.length)), (9, true, .v (.int .i64 x.1)), (10, true, .v (.int .i64 x.2))], [(32, .box [.v t0, .v t1] none)], M))
    (fun x => (x.1 ≤ x.2 ∧ x.2 ≤ l.length) ∧ (∀ q x', q < x.1 → l[q]? = some x' → cf x' < 0) ∧ ∀ q x', x.2 ≤ q → l[q]? = some x' → 0 ≤ cf x') (fun x => x.2 - x.1) (0, l.length)
    ⟨⟨by simp, by simp⟩, fun q x' hq => by simp at hq, fun q x' hq hx => by rw [List.getElem?_eq_none (by simpa using hq)] at hx; cases hx⟩ (Ent.of ?_) ?_
  · simp only [sx, sb1, sb2, sb3, sb4, sb5, sb6, sb7, ↓reduceIte, Nat.reduceAdd, Nat.reduceMul, Nat.reduceDiv, Nat.reduceEqDiff, Nat.reduceLT, Nat.reduceLeDiff, reduceCtorEq, Int.reduceEq, Int.reduceNe, Int.reduceLT, Int.reduceLE, Int.reduceAdd, Int.reduceSub, Int.reduceMul, Int.reduceNeg, Int.reduceToNat, Int.cast_ofNat_Int, Int.natCast_zero, Int.natCast_one, Int.toNat_natCast, Nat.reduceBEq, Int.natCast_zero]
  rintro ⟨i, j⟩ ⟨⟨h1, h2⟩, h3, h4⟩
  simp only at h1 h2 h3 h4
  by_cases hij : i < j
  · have c1 : ((i : Int) < (j : Int)) = True := eq_true (by omega)
    have w1 : IntKind.wrap .u64 ((i : Int) + (j : Int)) = (i : Int) + (j : Int) := wrap_in ⟨by simp only [lo]; omega, by simp only [hi]; omega⟩
    have w2 : IntKind.wrap .i64 (((i : Int) + (j : Int)) / 2 ^ 1) = (((i + j) / 2 : Nat) : Int) := by
      rw [show (2 : Int) ^ 1 = 2 from rfl, wrap_in]
      · omega
      · exact ⟨by simp only [lo]; omega, by simp only [hi]; omega⟩
    have hh : (i + j) / 2 < l.length := by omega
    obtain ⟨x, hx, _⟩ := l_drop_at (l := l) hh
    have g0 := hy.cell (i := (i + j) / 2) (e := [q0 x, q1 x]) (by rw [List.getElem?_map, hx]; rfl) (off := 0) (by omega)
    have g1 := hy.cell (i := (i + j) / 2) (e := [q0 x, q1 x]) (by rw [List.getElem?_map, hx]; rfl) (off := 1) (by omega)
    have i0 := hy.ix (i := (((i + j) / 2 : Nat) : Int)) (by omega) (by rw [List.length_map]; omega)
    simp only [List.getD_cons_zero, List.getD_cons_succ] at g0 g1
    generalize hhd : (i + j) / 2 = h at *
    simp only [shs, zts, sos, sls, zss, eqs, sx, sb1, sb2, sb3, sb4, sb5, sb6, sb7, ↓reduceIte, Nat.reduceAdd, Nat.reduceMul, Nat.reduceDiv, Nat.reduceEqDiff, Nat.reduceLT, Nat.reduceLeDiff, reduceCtorEq, Int.reduceEq, Int.reduceNe, Int.reduceLT, Int.reduceLE, Int.reduceAdd, Int.reduceSub, Int.reduceMul, Int.reduceNeg, Int.reduceToNat, Int.cast_ofNat_Int, Int.natCast_zero, Int.natCast_one, Int.toNat_natCast, Nat.reduceBEq, nzs, c1, w1, w2, inK, lo, hi]
    refine ⟨by omega, by decide, DrawK.quiet (by kernel_rfl) (by kernel_rfl) ?_⟩
    simp only [shs, zts, sos, sls, zss, eqs, sx, sb1, sb2, sb3, sb4, sb5, sb6, sb7, ↓reduceIte, Nat.reduceAdd, Nat.reduceMul, Nat.reduceDiv, Nat.reduceEqDiff, Nat.reduceLT, Nat.reduceLeDiff, reduceCtorEq, Int.reduceEq, Int.reduceNe, Int.reduceLT, Int.reduceLE, Int.reduceAdd, Int.reduceSub, Int.reduceMul, Int.reduceNeg, Int.reduceToNat, Int.cast_ofNat_Int, Int.natCast_zero, Int.natCast_one, Int.toNat_natCast, Nat.reduceBEq, nzs, i0, i0.2, g0.1, g0.2.1, g1.1, g1.2.1]
    refine ⟨_, ⟨⟨rfl, rfl⟩, hf x (List.mem_of_getElem? hx)⟩, ?_⟩
    by_cases hc : cf x < 0
    · have c2 : (cf x < 0) = True := eq_true hc
      simp only [shs, zts, sos, sls, zss, eqs, sx, sb1, sb2, sb3, sb4, sb5, sb6, sb7, ↓reduceIte, Nat.reduceAdd, Nat.reduceMul, Nat.reduceDiv, Nat.reduceEqDiff, Nat.reduceLT, Nat.reduceLeDiff, reduceCtorEq, Int.reduceEq, Int.reduceNe, Int.reduceLT, Int.reduceLE, Int.reduceAdd, Int.reduceSub, Int.reduceMul, Int.reduceNeg, Int.reduceToNat, Int.cast_ofNat_Int, Int.natCast_zero, Int.natCast_one, Int.toNat_natCast, Nat.reduceBEq, nzs, c2, inK, lo, hi]
      refine ⟨by omega, (h + 1, j), ⟨⟨⟨by simp only; omega, h2⟩, fun q x' hq hx' => hmono q h x' x (by simp only at hq; omega) hx' hx hc, h4⟩, by simp only; omega⟩, Ent.of ?_⟩
      simp only [sx, sb1, sb2, sb3, sb4, sb5, sb6, sb7, ↓reduceIte, Nat.reduceAdd, Nat.reduceMul, Nat.reduceDiv, Nat.reduceEqDiff, Nat.reduceLT, Nat.reduceLeDiff, reduceCtorEq, Int.reduceEq, Int.reduceNe, Int.reduceLT, Int.reduceLE, Int.reduceAdd, Int.reduceSub, Int.reduceMul, Int.reduceNeg, Int.reduceToNat, Int.cast_ofNat_Int, Int.natCast_zero, Int.natCast_one, Int.toNat_natCast, Nat.reduceBEq, Int.natCast_add]
    · have c2 : (cf x < 0) = False := eq_false hc
      simp only [shs, zts, sos, sls, zss, eqs, sx, sb1, sb2, sb3, sb4, sb5, sb6, sb7, ↓reduceIte, Nat.reduceAdd, Nat.reduceMul, Nat.reduceDiv, Nat.reduceEqDiff, Nat.reduceLT, Nat.reduceLeDiff, reduceCtorEq, Int.reduceEq, Int.reduceNe, Int.reduceLT, Int.reduceLE, Int.reduceAdd, Int.reduceSub, Int.reduceMul, Int.reduceNeg, Int.reduceToNat, Int.cast_ofNat_Int, Int.natCast_zero, Int.natCast_one, Int.toNat_natCast, Nat.reduceBEq, nzs, c2, inK, lo, hi]
      refine ⟨(i, h), ⟨⟨⟨by simp only; omega, by simp only; omega⟩, h3, fun q x' hq hx' => Int.not_lt.1 fun hc' => hc (hmono h q x x' hq hx hx' hc')⟩, by simp only; omega⟩, Ent.of ?_⟩
      simp only [sx, sb1, sb2, sb3, sb4, sb5, sb6, sb7, ↓reduceIte, Nat.reduceAdd, Nat.reduceMul, Nat.reduceDiv, Nat.reduceEqDiff, Nat.reduceLT, Nat.reduceLeDiff, reduceCtorEq, Int.reduceEq, Int.reduceNe, Int.reduceLT, Int.reduceLE, Int.reduceAdd, Int.reduceSub, Int.reduceMul, Int.reduceNeg, Int.reduceToNat, Int.cast_ofNat_Int, Int.natCast_zero, Int.natCast_one, Int.toNat_natCast, Nat.reduceBEq]
  · have c1 : ((i : Int) < (j : Int)) = False := eq_false (by omega)
    have ej : i = j := by omega
    subst ej
    have hbk : bk cf l = i := bk_eq cf l i h2 h3 (fun x hx => Int.not_lt.2 (h4 i x (Nat.le_refl _) hx))
    simp only [shs, zts, sos, sls, zss, eqs, sx, sb1, sb2, sb3, sb4, sb5, sb6, sb7, ↓reduceIte, Nat.reduceAdd, Nat.reduceMul, Nat.reduceDiv, Nat.reduceEqDiff, Nat.reduceLT, Nat.reduceLeDiff, reduceCtorEq, Int.reduceEq, Int.reduceNe, Int.reduceLT, Int.reduceLE, Int.reduceAdd, Int.reduceSub, Int.reduceMul, Int.reduceNeg, Int.reduceToNat, Int.cast_ofNat_Int, Int.natCast_zero, Int.natCast_one, Int.toNat_natCast, Nat.reduceBEq, nzs, c1]
    refine DrawK.quiet (by kernel_rfl) (by kernel_rfl) ?_
    by_cases hil : i < l.length
    · have c2 : ((i : Int) < (l.length : Int)) = True := eq_true (by omega)
      obtain ⟨x, hx, _⟩ := l_drop_at (l := l) hil
      have g0 := hy.cell (i := i) (e := [q0 x, q1 x]) (by rw [List.getElem?_map, hx]; rfl) (off := 0) (by omega)
      have g1 := hy.cell (i := i) (e := [q0 x, q1 x]) (by rw [List.getElem?_map, hx]; rfl) (off := 1) (by omega)
      have i0 := hy.ix (i := (i : Int)) (by omega) (by rw [List.length_map]; omega)
      simp only [List.getD_cons_zero, List.getD_cons_succ] at g0 g1
      have hbf : bf cf l = decide (cf x = 0) := by simp only [bf, hbk, hx]
      simp only [shs, zts, sos, sls, zss, eqs, sx, sb1, sb2, sb3, sb4, sb5, sb6, sb7, ↓reduceIte, Nat.reduceAdd, Nat.reduceMul, Nat.reduceDiv, Nat.reduceEqDiff, Nat.reduceLT, Nat.reduceLeDiff, reduceCtorEq, Int.reduceEq, Int.reduceNe, Int.reduceLT, Int.reduceLE, Int.reduceAdd, Int.reduceSub, Int.reduceMul, Int.reduceNeg, Int.reduceToNat, Int.cast_ofNat_Int, Int.natCast_zero, Int.natCast_one, Int.toNat_natCast, Nat.reduceBEq, nzs, c2, i0, i0.2, g0.1, g0.2.1, g1.1, g1.2.1]
      refine ⟨_, ⟨⟨rfl, rfl⟩, hf x (List.mem_of_getElem? hx)⟩, ?_⟩
      simp only [shs, zts, sos, sls, zss, eqs, sx, sb1, sb2, sb3, sb4, sb5, sb6, sb7, ↓reduceIte, Nat.reduceAdd, Nat.reduceMul, Nat.reduceDiv, Nat.reduceEqDiff, Nat.reduceLT, Nat.reduceLeDiff, reduceCtorEq, Int.reduceEq, Int.reduceNe, Int.reduceLT, Int.reduceLE, Int.reduceAdd, Int.reduceSub, Int.reduceMul, Int.reduceNeg, Int.reduceToNat, Int.cast_ofNat_Int, Int.natCast_zero, Int.natCast_one, Int.toNat_natCast, Nat.reduceBEq, nzs, hbk, hbf]
    · have c2 : ((i : Int) < (l.length : Int)) = False := eq_false (by omega)
      have hbf : bf cf l = false := by simp only [bf, hbk, List.getElem?_eq_none (show l.length ≤ i by omega)]
      simp only [shs, zts, sos, sls, zss, eqs, sx, sb1, sb2, sb3, sb4, sb5, sb6, sb7, ↓reduceIte, Nat.reduceAdd, Nat.reduceMul, Nat.reduceDiv, Nat.reduceEqDiff, Nat.reduceLT, Nat.reduceLeDiff, reduceCtorEq, Int.reduceEq, Int.reduceNe, Int.reduceLT, Int.reduceLE, Int.reduceAdd, Int.reduceSub, Int.reduceMul, Int.reduceNeg, Int.reduceToNat, Int.cast_ofNat_Int, Int.natCast_zero, Int.natCast_one, Int.toNat_natCast, Nat.reduceBEq, nzs, c2, hbk, hbf]
      refine ⟨.v (.int .i64 0), ?_⟩
      simp only [shs, zts, sos, sls, zss, eqs, sx, sb1, sb2, sb3, sb4, sb5, sb6, sb7, ↓reduceIte, Nat.reduceAdd, Nat.reduceMul, Nat.reduceDiv, Nat.reduceEqDiff, Nat.reduceLT, Nat.reduceLeDiff, reduceCtorEq, Int.reduceEq, Int.reduceNe, Int.reduceLT, Int.reduceLE, Int.reduceAdd, Int.reduceSub, Int.reduceMul, Int.reduceNeg, Int.reduceToNat, Int.cast_ofNat_Int, Int.natCast_zero, Int.natCast_one, Int.toNat_natCast, Nat.reduceBEq, nzs, c2, hbk, hbf]

theorem growV (n : Nat) (M : Mem) (hn : n ≤ 1000000) : Meets Proofs.Tryz.prog 113 [.v (.slice none 0 0), .v (.int .i64 n)] M (OwnR (fun s => s) 2 []) := by
  refine Meets.ofH rfl (MeetsH.closeR Ctx.id (fun e he => by cases he) ?_)
  refine MeetsH.of_body [0,1,4,6,16] Proofs.Tryz.func113 rfl (by kernel_rfl) fun w M0 => ?_
  have c0 : ((n : Int) < 0) = False := eq_false (by omega)
  simp only [Proofs.Tryz.f113, shs, zts, sos, sls, zss, eqs, sx, sb1, sb2, sb3, sb4, sb5, sb6, sb7, ↓reduceIte, Nat.reduceAdd, Nat.reduceMul, Nat.reduceDiv, Nat.reduceEqDiff, Nat.reduceLT, Nat.reduceLeDiff, reduceCtorEq, Int.reduceEq, Int.reduceNe, Int.reduceLT, Int.reduceLE, Int.reduceAdd, Int.reduceSub, Int.reduceMul, Int.reduceNeg, Int.reduceToNat, Int.cast_ofNat_Int, Int.natCast_zero, Int.natCast_one, Int.toNat_natCast, Nat.reduceBEq, c0]
  refine ⟨rfl, OpK.cap (e := 47) rfl rfl rfl (by kernel_rfl) rfl rfl ?_⟩
  by_cases h0 : n = 0
  · subst h0
    simp only [shs, zts, sos, sls, zss, eqs, sx, sb1, sb2, sb3, sb4, sb5, sb6, sb7, ↓reduceIte, Nat.reduceAdd, Nat.reduceMul, Nat.reduceDiv, Nat.reduceEqDiff, Nat.reduceLT, Nat.reduceLeDiff, reduceCtorEq, Int.reduceEq, Int.reduceNe, Int.reduceLT, Int.reduceLE, Int.reduceAdd, Int.reduceSub, Int.reduceMul, Int.reduceNeg, Int.reduceToNat, Int.cast_ofNat_Int, Int.natCast_zero, Int.natCast_one, Int.toNat_natCast, Nat.reduceBEq, capV, lenV, inK, lo, hi, Int.sub_zero]
    exact .inr trivial
  · have c1 : (0 < (n : Int)) = True := eq_true (by omega)
    simp only [shs, zts, sos, sls, zss, eqs, sx, sb1, sb2, sb3, sb4, sb5, sb6, sb7, ↓reduceIte, Nat.reduceAdd, Nat.reduceMul, Nat.reduceDiv, Nat.reduceEqDiff, Nat.reduceLT, Nat.reduceLeDiff, reduceCtorEq, Int.reduceEq, Int.reduceNe, Int.reduceLT, Int.reduceLE, Int.reduceAdd, Int.reduceSub, Int.reduceMul, Int.reduceNeg, Int.reduceToNat, Int.cast_ofNat_Int, Int.natCast_zero, Int.natCast_one, Int.toNat_natCast, Nat.reduceBEq, capV, lenV, c1, inK, lo, hi, Int.sub_zero]
    refine ⟨by omega, ⟨rfl, OpK.cap (e := 47) rfl rfl rfl (by kernel_rfl) rfl rfl ?_⟩⟩
    simp only [shs, zts, sos, sls, zss, eqs, sx, sb1, sb2, sb3, sb4, sb5, sb6, sb7, ↓reduceIte, Nat.reduceAdd, Nat.reduceMul, Nat.reduceDiv, Nat.reduceEqDiff, Nat.reduceLT, Nat.reduceLeDiff, reduceCtorEq, Int.reduceEq, Int.reduceNe, Int.reduceLT, Int.reduceLE, Int.reduceAdd, Int.reduceSub, Int.reduceMul, Int.reduceNeg, Int.reduceToNat, Int.cast_ofNat_Int, Int.natCast_zero, Int.natCast_one, Int.toNat_natCast, Nat.reduceBEq, capV, lenV, c1, inK, lo, hi, Int.sub_zero]
    refine OpK.appMake (base := none) (n := 0) (m := n) (c := 0) (olds := []) rfl rfl rfl sl23 (kn := .i64) (by kernel_rfl) rfl rfl (.inl ⟨rfl, rfl, rfl⟩) (by omega) (by decide) rfl (by omega) (by omega) rfl fun b cap sp h1 h2 h3 => ?_
    simp only [shs, zts, sos, sls, zss, eqs, sx, sb1, sb2, sb3, sb4, sb5, sb6, sb7, ↓reduceIte, Nat.reduceAdd, Nat.reduceMul, Nat.reduceDiv, Nat.reduceEqDiff, Nat.reduceLT, Nat.reduceLeDiff, reduceCtorEq, Int.reduceEq, Int.reduceNe, Int.reduceLT, Int.reduceLE, Int.reduceAdd, Int.reduceSub, Int.reduceMul, Int.reduceNeg, Int.reduceToNat, Int.cast_ofNat_Int, Int.natCast_zero, Int.natCast_one, Int.toNat_natCast, Nat.reduceBEq, capV, lenV, c1, inK, lo, hi, Int.sub_zero]
    rw [subV_open]
    refine ⟨by omega, .inl ⟨b, 176, cap, _, by simp, by simp only [List.flatten_nil, List.nil_append]; rfl, by simp, h2, by simp [h3]; omega⟩⟩

theorem concatV {α : Type} (enc : α → List Value) (tv : Value) (rs : List (Value × List α)) (M : Mem) (ht : RowM M tv 1 (rs.map fun r => [r.1])) (hr : ∀ r ∈ rs, RowM M r.1 2 (r.2.map enc)) (hb : (rs.flatMap (·.2)).length ≤ 1000000) :
    Meets Proofs.Tryz.prog 56 [.v tv] M (OwnR (fun s => s) 2 ((rs.flatMap (·.2)).map enc)) := by
  refine Meets.of_body [0,2,3,5,6,8,9,10,11,12,20,25,26,27,28] Proofs.Tryz.func56 rfl (by kernel_rfl) rfl fun w => ?_
  have hle := ht.len_le
  rw [List.length_map] at hle
  have hsp : ∀ i, ((rs.take i).flatMap (·.2)).length + ((rs.drop i).flatMap (·.2)).length = (rs.flatMap (·.2)).length := fun i => by
    rw [← List.length_append, ← List.flatMap_append, List.take_append_drop]
  simp only [Proofs.Tryz.f56, shs, zts, sos, sls, zss, eqs, sx, sb1, sb2, sb3, sb4, sb5, sb6, sb7, ↓reduceIte, Nat.reduceAdd, Nat.reduceMul, Nat.reduceDiv, Nat.reduceEqDiff, Nat.reduceLT, Nat.reduceLeDiff, reduceCtorEq, Int.reduceEq, Int.reduceNe, Int.reduceLT, Int.reduceLE, Int.reduceAdd, Int.reduceSub, Int.reduceMul, Int.reduceNeg, Int.reduceToNat, Int.cast_ofNat_Int, Int.natCast_zero, Int.natCast_one, Int.toNat_natCast, Nat.reduceBEq, ht.len, ht.sl, List.length_map]
  refine LoopK.go (X := Nat × Nat) (fun x => ([(0, true, .v tv), (3, true, .v (.int .i64 ((rs.take x.2).flatMap (·.2)).length)), (9, true, .v tv), (10, true, .v (.int .i64 rs.length)), (11, true, .v (.int .i64 x.2))], [], M))
    (fun x => x.1 + x.2 = rs.length) (fun x => x.1) (rs.length, 0) rfl (Ent.of ?_) ?_
  · simp only [sx, sb1, sb2, sb3, sb4, sb5, sb6, sb7, ↓reduceIte, Nat.reduceAdd, Nat.reduceMul, Nat.reduceDiv, Nat.reduceEqDiff, Nat.reduceLT, Nat.reduceLeDiff, reduceCtorEq, Int.reduceEq, Int.reduceNe, Int.reduceLT, Int.reduceLE, Int.reduceAdd, Int.reduceSub, Int.reduceMul, Int.reduceNeg, Int.reduceToNat, Int.cast_ofNat_Int, Int.natCast_zero, Int.natCast_one, Int.toNat_natCast, Nat.reduceBEq, List.take_zero, List.flatMap_nil, List.length_nil]
  rintro ⟨f, i⟩ h1
  simp only at h1
  by_cases hil : i < rs.length
  · have c1 : ((i : Int) < (rs.length : Int)) = True := eq_true (by omega)
    obtain ⟨⟨v, l⟩, hx, hd⟩ := l_drop_at (l := rs) (i := i) hil
    have g0 := ht.cell (i := i) (e := [v]) (by rw [List.getElem?_map, hx]; rfl) (off := 0) (by omega)
    have i0 := ht.ix (i := (i : Int)) (by omega) (by rw [List.length_map]; omega)
    have hv := hr _ (List.mem_of_getElem? hx)
    simp only [List.getD_cons_zero] at g0 hv
    have hs1 := hsp (i + 1)
    have e1 : (rs.take (i + 1)).flatMap (·.2) = (rs.take i).flatMap (·.2) ++ l := by rw [List.take_add_one, hx, List.flatMap_append]; simp
    rw [e1, List.length_append] at hs1
    have c2 : ((((rs.take i).flatMap (·.2)).length : Int) + (l.length : Int) < 0) = False := eq_false (by omega)
    simp only [shs, zts, sos, sls, zss, eqs, sx, sb1, sb2, sb3, sb4, sb5, sb6, sb7, ↓reduceIte, Nat.reduceAdd, Nat.reduceMul, Nat.reduceDiv, Nat.reduceEqDiff, Nat.reduceLT, Nat.reduceLeDiff, reduceCtorEq, Int.reduceEq, Int.reduceNe, Int.reduceLT, Int.reduceLE, Int.reduceAdd, Int.reduceSub, Int.reduceMul, Int.reduceNeg, Int.reduceToNat, Int.cast_ofNat_Int, Int.natCast_zero, Int.natCast_one, Int.toNat_natCast, Nat.reduceBEq, nzs, c1, c2, i0, i0.2, g0.1, g0.2.1, hv.len, hv.sl, List.length_map, inK, lo, hi]
    refine ⟨by omega, by omega, (f - 1, i + 1), ⟨by simp only; omega, by simp only; omega⟩, Ent.of ?_⟩
    simp only [sx, sb1, sb2, sb3, sb4, sb5, sb6, sb7, ↓reduceIte, Nat.reduceAdd, Nat.reduceMul, Nat.reduceDiv, Nat.reduceEqDiff, Nat.reduceLT, Nat.reduceLeDiff, reduceCtorEq, Int.reduceEq, Int.reduceNe, Int.reduceLT, Int.reduceLE, Int.reduceAdd, Int.reduceSub, Int.reduceMul, Int.reduceNeg, Int.reduceToNat, Int.cast_ofNat_Int, Int.natCast_zero, Int.natCast_one, Int.toNat_natCast, Nat.reduceBEq, e1, List.length_append, Int.natCast_add]
  have c1 : ((i : Int) < (rs.length : Int)) = False := eq_false (by omega)
  have e0 : rs.take i = rs := List.take_of_length_le (by omega)
  simp only [shs, zts, sos, sls, zss, eqs, sx, sb1, sb2, sb3, sb4, sb5, sb6, sb7, ↓reduceIte, Nat.reduceAdd, Nat.reduceMul, Nat.reduceDiv, Nat.reduceEqDiff, Nat.reduceLT, Nat.reduceLeDiff, reduceCtorEq, Int.reduceEq, Int.reduceNe, Int.reduceLT, Int.reduceLE, Int.reduceAdd, Int.reduceSub, Int.reduceMul, Int.reduceNeg, Int.reduceToNat, Int.cast_ofNat_Int, Int.natCast_zero, Int.natCast_one, Int.toNat_natCast, Nat.reduceBEq, nzs, c1, e0]
  refine CallK.own Ctx.id rfl rfl (growV _ M hb) rfl fun M2 hM2 => ?_
  have ht2 := ht.le hM2
  simp only [shs, zts, sos, sls, zss, eqs, sx, sb1, sb2, sb3, sb4, sb5, sb6, sb7, ↓reduceIte, Nat.reduceAdd, Nat.reduceMul, Nat.reduceDiv, Nat.reduceEqDiff, Nat.reduceLT, Nat.reduceLeDiff, reduceCtorEq, Int.reduceEq, Int.reduceNe, Int.reduceLT, Int.reduceLE, Int.reduceAdd, Int.reduceSub, Int.reduceMul, Int.reduceNeg, Int.reduceToNat, Int.cast_ofNat_Int, Int.natCast_zero, Int.natCast_one, Int.toNat_natCast, Nat.reduceBEq, nzs, ht.len, ht.sl, List.length_map]
  refine LoopK.go (X := Nat × Nat) (fun x => ([(6, true, .own 264), (25, true, .v tv), (26, true, .v (.int .i64 rs.length)), (27, true, .v (.int .i64 x.2))], [(264, .row 2 (((rs.take x.2).flatMap (·.2)).map enc))], M2))
    (fun x => x.1 + x.2 = rs.length) (fun x => x.1) (rs.length, 0) rfl (Ent.rekey 6 33 192 2 _ rfl rfl rfl rfl (Ent.of ?_)) ?_
  · simp only [sx, sb1, sb2, sb3, sb4, sb5, sb6, sb7, ↓reduceIte, Nat.reduceAdd, Nat.reduceMul, Nat.reduceDiv, Nat.reduceEqDiff, Nat.reduceLT, Nat.reduceLeDiff, reduceCtorEq, Int.reduceEq, Int.reduceNe, Int.reduceLT, Int.reduceLE, Int.reduceAdd, Int.reduceSub, Int.reduceMul, Int.reduceNeg, Int.reduceToNat, Int.cast_ofNat_Int, Int.natCast_zero, Int.natCast_one, Int.toNat_natCast, Nat.reduceBEq, List.take_zero, List.flatMap_nil, List.map_nil]
  rintro ⟨f, i⟩ h1
  simp only at h1
  by_cases hil : i < rs.length
  · have c1 : ((i : Int) < (rs.length : Int)) = True := eq_true (by omega)
    obtain ⟨⟨v, l⟩, hx, hd⟩ := l_drop_at (l := rs) (i := i) hil
    have g0 := ht2.cell (i := i) (e := [v]) (by rw [List.getElem?_map, hx]; rfl) (off := 0) (by omega)
    have i0 := ht2.ix (i := (i : Int)) (by omega) (by rw [List.length_map]; omega)
    have hv := (hr _ (List.mem_of_getElem? hx)).le hM2
    obtain ⟨r1, r2⟩ := hv.rows (by omega)
    simp only [List.getD_cons_zero] at g0 hv r1 r2
    have hs1 := hsp (i + 1)
    have e1 : (rs.take (i + 1)).flatMap (·.2) = (rs.take i).flatMap (·.2) ++ l := by rw [List.take_add_one, hx, List.flatMap_append]; simp
    rw [e1, List.length_append] at hs1
    simp only [shs, zts, sos, sls, zss, eqs, sx, sb1, sb2, sb3, sb4, sb5, sb6, sb7, ↓reduceIte, Nat.reduceAdd, Nat.reduceMul, Nat.reduceDiv, Nat.reduceEqDiff, Nat.reduceLT, Nat.reduceLeDiff, reduceCtorEq, Int.reduceEq, Int.reduceNe, Int.reduceLT, Int.reduceLE, Int.reduceAdd, Int.reduceSub, Int.reduceMul, Int.reduceNeg, Int.reduceToNat, Int.cast_ofNat_Int, Int.natCast_zero, Int.natCast_one, Int.toNat_natCast, Nat.reduceBEq, nzs, c1, i0, i0.2, g0.1, g0.2.1, hv.len, hv.sl, r1, List.length_map, inK, lo, hi]
    refine ⟨⟨⟨by omega, by omega⟩, r2⟩, by omega, (f - 1, i + 1), ⟨by simp only; omega, by simp only; omega⟩, Ent.of ?_⟩
    simp only [sx, sb1, sb2, sb3, sb4, sb5, sb6, sb7, ↓reduceIte, Nat.reduceAdd, Nat.reduceMul, Nat.reduceDiv, Nat.reduceEqDiff, Nat.reduceLT, Nat.reduceLeDiff, reduceCtorEq, Int.reduceEq, Int.reduceNe, Int.reduceLT, Int.reduceLE, Int.reduceAdd, Int.reduceSub, Int.reduceMul, Int.reduceNeg, Int.reduceToNat, Int.cast_ofNat_Int, Int.natCast_zero, Int.natCast_one, Int.toNat_natCast, Nat.reduceBEq, e1, List.map_append, Int.natCast_add]
  have c1 : ((i : Int) < (rs.length : Int)) = False := eq_false (by omega)
  have e0 : rs.take i = rs := List.take_of_length_le (by omega)
  simp only [shs, zts, sos, sls, zss, eqs, sx, sb1, sb2, sb3, sb4, sb5, sb6, sb7, ↓reduceIte, Nat.reduceAdd, Nat.reduceMul, Nat.reduceDiv, Nat.reduceEqDiff, Nat.reduceLT, Nat.reduceLeDiff, reduceCtorEq, Int.reduceEq, Int.reduceNe, Int.reduceLT, Int.reduceLE, Int.reduceAdd, Int.reduceSub, Int.reduceMul, Int.reduceNeg, Int.reduceToNat, Int.cast_ofNat_Int, Int.natCast_zero, Int.natCast_one, Int.toNat_natCast, Nat.reduceBEq, nzs, c1, e0]
  exact ⟨264, rfl, rfl⟩

end Go.X.Vo

