/- Contracts of functions and the logic that they are proved in (5 texts in one). Conditions: none. -/
import Derived.Test.YteebcojoghnlnaaGreatDoorMg15
import Derived.Test.YteebcojoghnlnaaGreatDoorMg10
import Derived.Shelf.SlSortFuncK.WholeK
import Derived.Shelf.GgSortFunc.Tiny
namespace Go.X.Bg
end Go.X.Bg
namespace Go.X.Nm
end Go.X.Nm
namespace Go.X.Bp
end Go.X.Bp
namespace Go.X.Sb
end Go.X.Sb
set_option linter.unusedSimpArgs false
set_option linter.unusedVariables false
set_option maxHeartbeats 4000000
set_option maxRecDepth 20000
namespace Go.X.Vo
open Go Go.X Go.RowKit Go.X.Bg Go.X.Nm Go.X.Bp
def ltW (a b : WV) : Bool := Op.bytesLess a.2.1 b.2.1
theorem insW_cons (y : WV) (r : List WV) (x : WV) : insW (y :: r) x = if cmpN y.2.1 x.2.1 < 0 then y :: insW r x else x :: y :: r := by
  unfold insW
  rw [show Sb.bk (fun z => cmpN z.2.1 x.2.1) (y :: r) = if cmpN y.2.1 x.2.1 < 0 then Sb.bk (fun z : WV => cmpN z.2.1 x.2.1) r + 1 else 0 from rfl]
  split <;> rfl
theorem insW_perm (x : WV) : ∀ l : List WV, (insW l x).Perm (l ++ [x])
  | [] => List.Perm.refl _
  | y :: r => by
    rw [insW_cons]
    split
    · exact (insW_perm x r).cons y
    · exact (List.perm_append_singleton x (y :: r)).symm
theorem insW_srt (x : WV) : ∀ l : List WV, l.Pairwise (fun a b => ltW a b = true) → (∀ y ∈ l, y.2.1 ≠ x.2.1) → (insW l x).Pairwise (fun a b => ltW a b = true)
  | [], _, _ => List.pairwise_singleton _ _
  | y :: r, h, hx => by
    rw [insW_cons]
    obtain ⟨h1, h2⟩ := List.pairwise_cons.1 h
    split
    · rename_i hy
      rw [cmpN_lt] at hy
      refine List.pairwise_cons.2 ⟨fun z hz => ?_, insW_srt x r h2 (fun z hz => hx z (by simp [hz]))⟩
      rcases List.mem_append.1 ((insW_perm x r).subset hz) with hz | hz
      · exact h1 z hz
      · rw [List.mem_singleton.1 hz]; exact hy
    · rename_i hy
      rw [cmpN_lt, Bool.not_eq_true] at hy
      have hxy : ltW x y = true := by
        have t := less_tri x.2.1 y.2.1
        rw [hy, Bool.not_false, Bool.or_eq_true, decide_eq_true_eq] at t
        exact t.resolve_right (fun e => hx y (by simp) e.symm)
      refine List.pairwise_cons.2 ⟨fun z hz => ?_, h⟩
      rcases List.mem_cons.1 hz with rfl | hz
      · exact hxy
      · exact less_trans hxy (h1 z hz)
end Go.X.Vo

namespace Go.X.Vo
open Go Go.X Go.RowKit Go.X.Bg Go.X.Nm Go.X.Bp Go.X.Sb

/-! ### a bag, by keys -/
abbrev K2 := Int × Int
def kOf (x : It) : K2 := (x.1, x.2.1)
def itK (bag : List It) (k : K2) : Option It := bag.find? fun x => decide (kOf x = k)
def refK (bag : List It) (k : K2) : Int := ((itK bag k).map (·.2.2.2)).getD 0
theorem itK_mem {bag : List It} {k : K2} {x : It} (h : itK bag k = some x) : x ∈ bag ∧ kOf x = k := by
  unfold itK at h
  exact ⟨List.mem_of_find?_eq_some h, by simpa using List.find?_some h⟩
theorem isId_iff {id : Id3} {x : It} : isId id x = true ↔ id.1 = true ∧ kOf x = id.2 := by
  unfold isId kOf
  simp only [Bool.and_eq_true, decide_eq_true_eq]
  constructor
  · rintro ⟨h1, h2, h3⟩
    exact ⟨h1, by rw [h2, h3]⟩
  · rintro ⟨h1, h2⟩
    exact ⟨h1, congrArg Prod.fst h2, congrArg Prod.snd h2⟩
/-! ### one less, one more -/
/-- what Put makes of a right bag -/
structure PutR (bag : List It) (s : List UInt8) (bag' : List It) (id : Id3) : Prop where
  ok : bagE bag' = 0
  is : id.1 = true
  itk : ∀ k, itK bag' k = if k = id.2 then some (k.1, k.2, s, refK bag k + 1) else itK bag k
  txt : ∀ x, itK bag id.2 = some x → x.2.2.1 = s
  old : (∃ x ∈ bag, x.2.2.1 = s) → bag'.length = bag.length
  new : bag'.length ≤ bag.length + 1
  txts : ∀ t, (∃ x ∈ bag', x.2.2.1 = t) ↔ t = s ∨ ∃ x ∈ bag, x.2.2.1 = t
/-! ### right states -/
structure Rt (bag : List It) (l : List Vol) : Prop where
  ok : bagE bag = 0
  len : l.length ≤ 6
  vol : ∀ v ∈ l, v.2.length ≤ 32 ∧ nmB v.1 = true
  srt : l.Pairwise fun a b => Op.bytesLess a.1 b.1 = true
  ids : ∀ id ∈ idsOf l, id.1 = false → id = hole
  cnt : ∀ k : K2, (((idsOf l).count (true, k) : Nat) : Int) = refK bag k
theorem refK_pos {bag : List It} (h : bagE bag = 0) {k : K2} : (itK bag k ≠ none ↔ 1 ≤ refK bag k) ∧ (itK bag k = none ↔ refK bag k = 0) := by
  unfold refK
  cases hx : itK bag k with
  | none => simp
  | some x =>
    have := (oneE_ok (((bagE_iff bag).1 h).2.1 x (itK_mem hx).1)).2.2
    simp only [Option.map_some, Option.getD_some, ne_eq, reduceCtorEq, not_false_eq_true, true_iff, false_iff]
    omega
/-! ### counts -/
/-! ### setV, insV, delV -/
theorem idAt_at {l : List Vol} {i a : Nat} {x : Vol} {y : Id3} (h : l[i]? = some x) (hy : x.2[a]? = some y) : idAt l i a = y := by unfold idAt; rw [volAt_at h, hy]; rfl
theorem Rt.ref {bag : List It} {l : List Vol} (h : Rt bag l) {id : Id3} (hm : id ∈ idsOf l) (h1 : id.1 = true) : 1 ≤ refK bag id.2 := by
  have e : id = (true, id.2) := by obtain ⟨a, b⟩ := id; simp only at h1; rw [h1]
  rw [e] at hm
  have := List.count_pos_iff.2 hm
  have := h.cnt id.2
  omega
theorem Rt.it {bag : List It} {l : List Vol} (h : Rt bag l) {id : Id3} (hm : id ∈ idsOf l) (h1 : id.1 = true) : itK bag id.2 ≠ none := (refK_pos h.ok).1.2 (h.ref hm h1)
/-! with a volume more, or less -/
theorem freshE_ok {l : List Vol} {n : List UInt8} (h : freshE l n = 0) : nmB n = true ∧ (∀ y ∈ l, y.1 ≠ n) ∧ l.length ≤ 5 := by
  unfold freshE at h
  split at h
  · cases h
  rename_i h1
  split at h
  · cases h
  rename_i h2
  split at h
  · cases h
  rename_i h3
  refine ⟨by simpa using h1, fun y hy e => ?_, by omega⟩
  rcases volIx_sp l n with ⟨_, k2⟩ | ⟨j, x, k1, _⟩
  · exact k2 y hy e
  · rw [k1] at h2; omega
/-! ### answers are right states -/
end Go.X.Vo

namespace Go.X
open Go Go.RowKit
/-- a row whose whole block is known -/
def RowF (M : Mem) (v : Value) (sz : Nat) (es : List (List Value)) : Prop :=
  (∀ e ∈ es, e.length = sz ∧ ∀ c ∈ e, c.oneCell' = true) ∧ ((v = .slice none 0 0 ∧ es = []) ∨
    ∃ b cap T sp, v = .slice (some ⟨b, 0, none⟩) es.length cap ∧ es.length ≤ cap ∧ cap ≤ maxLen ∧ List.length sp = (cap - es.length) * sz ∧ M b = some (.cells (es.flatten ++ sp).toArray T (0, 0)))
def freshB (M : Mem) (v : Value) : Prop := ∀ b, blk? v = some b → M b = none
/-- two memories that differ at most in v's block -/
def butB (M M' : Mem) (v : Value) : Prop := ∀ c, blk? v ≠ some c → M' c = M c
theorem freshB.of_le {M N : Mem} {v : Value} (h : freshB M v) (hl : N.le M) : freshB N v := fun b hb => by
  cases hN : N b with
  | none => rfl
  | some o => have := hl b o hN; rw [h b hb] at this; cases this
theorem RowF.row {M : Mem} {v : Value} {sz : Nat} {es : List (List Value)} (h : RowF M v sz es) : RowM M v sz es := by
  obtain ⟨g1, ⟨rfl, rfl⟩ | ⟨b, cap, T, sp, rfl, g3, g4, g5, hM⟩⟩ := h
  · exact RowM.nil M sz
  · refine ⟨⟨rfl, rfl, g3, g4⟩, fun _ => rfl, fun i e he => ?_⟩
    have hel := g1 e (List.mem_of_getElem? he)
    refine ⟨hel.1, fun j c hc => ?_⟩
    have hj : j < sz := by rw [← hel.1]; exact (List.getElem?_eq_some_iff.1 hc).1
    refine ⟨?_, hel.2 c (List.mem_of_getElem? hc)⟩
    have hadd : (⟨b, 0, none⟩ : Addr).add (i * sz + j) = ⟨b, i * sz + j, none⟩ := by unfold Addr.add; split <;> simp_all
    simp only [cellE, cellM, hadd, hM]
    simp only [Option.isSome_none, Bool.false_eq_true, if_false, List.getElem?_toArray]
    rw [flatten_get (fun e he => (g1 e he).1) he hj, hc]
theorem RowF.eqM {M M' : Mem} {v : Value} {sz : Nat} {es : List (List Value)} (h : RowF M v sz es) (hM : ∀ b, blk? v = some b → M' b = M b) : RowF M' v sz es := by
  obtain ⟨g1, h0 | ⟨b, cap, T, sp, rfl, g3, g4, g5, hb⟩⟩ := h
  · exact ⟨g1, .inl h0⟩
  · exact ⟨g1, .inr ⟨b, cap, T, sp, rfl, g3, g4, g5, by rw [hM b rfl]; exact hb⟩⟩
theorem RowF.le {M M' : Mem} {v : Value} {sz : Nat} {es : List (List Value)} (h : RowF M v sz es) (hl : M.le M') : RowF M' v sz es := by
  obtain ⟨g1, h0 | ⟨b, cap, T, sp, rfl, g3, g4, g5, hb⟩⟩ := h
  · exact ⟨g1, .inl h0⟩
  · exact ⟨g1, .inr ⟨b, cap, T, sp, rfl, g3, g4, g5, hl _ _ hb⟩⟩
theorem RowF.known {M : Mem} {v : Value} {sz : Nat} {es : List (List Value)} (h : RowF M v sz es) {b : Nat} (hb : blk? v = some b) : M b ≠ none := by
  obtain ⟨_, ⟨rfl, _⟩ | ⟨b', cap, T, sp, rfl, _, _, _, hM⟩⟩ := h
  · cases hb
  · cases hb
    rw [hM]
    exact fun e => by cases e
section
variable {E : Env} {σ : Sig} {H : HS} {M : Mem} {a : Act} {w : World} {ν : Nat → Value} {K : KP} {o : Oper}
theorem pub_heapF {k sz : Nat} {es : List (List Value)} (hh : Heap E ν H M w) (hk : hget H k = some (.row sz es)) : ∃ M', M.le M' ∧ RowF M' (ν k) sz es ∧ freshB M (ν k) ∧ Heap E ν (hpub k (ν k) H) M' w := by
  have hp := hpub_heap hh hk
  obtain ⟨g1, g2⟩ := hh.holds _ (hget_mem hk)
  simp only at g1 g2
  rcases g2 with ⟨hν, rfl⟩ | ⟨b, cap, T, sp, hν, g3, g4, g5, hb⟩
  · exact ⟨M, Mem.le.refl M, ⟨g1, .inl ⟨hν, rfl⟩⟩, fun b hb => (by rw [hν] at hb; cases hb), hp⟩
  · have hkb : blk? (ν k) = some b := by rw [hν]; rfl
    obtain ⟨hMb, hBb⟩ := hh.apart b (List.mem_filterMap.2 ⟨(k, _), hget_mem hk, hkb⟩)
    have hnot : b ∉ fp ν (hpub k (ν k) H) := by
      rw [fp_pub]
      exact fp_hdelk hh hk hkb 0 _ (hdelk_sub k H) (hdelk_ne k H)
    have hle : M.le (updM M b (.cells (es.flatten ++ sp).toArray T (0, 0))) := le_updM (Mem.le.refl M) hMb
    refine ⟨updM M b (.cells (es.flatten ++ sp).toArray T (0, 0)), hle, ⟨g1, .inr ⟨b, cap, T, sp, hν, g3, g4, g5, updM_at _ _ _⟩⟩, fun c hc => (by rw [hkb] at hc; cases hc; exact hMb), ?_⟩
    refine ⟨hp.holds, hp.nodup, fun c hc => ⟨?_, (hp.apart c hc).2⟩, fun c y hc => ?_, hp.below, hp.le0.trans hle, fun c hc => ?_, hp.one⟩
    · unfold updM
      rw [if_neg (fun e => hnot (by rw [← e]; exact hc))]
      exact (hp.apart c hc).1
    · unfold updM at hc
      split at hc
      · rename_i e
        cases hc
        rw [e]; exact hb
      · exact hp.mem c y hc
    · unfold updM at hc
      split at hc
      · rename_i e
        exact .inr (by rw [e]; exact hBb)
      · exact hp.fresh c hc
theorem OpK.pubF {k sz : Nat} {es : List (List Value)} (hk : hget H k = some (.row sz es))
    (h : ∀ v M', M.le M' → RowF M' v sz es → freshB M v → OpK E o K (sigPub k v σ) (hpub k v H) M') : OpK E o K σ H M := by
  rintro a w ⟨ν, hs, hh⟩
  obtain ⟨M', h1, h2, h3, h4⟩ := pub_heapF hh hk
  exact h _ M' h1 h2 h3 a w ⟨ν, pub_slots hs, h4⟩
theorem LoopK.pubF {live : List Nat} {body : Code} {Q : QP} {k sz : Nat} {es : List (List Value)} (hk : hget H k = some (.row sz es))
    (h : ∀ v M', M.le M' → RowF M' v sz es → freshB M v → LoopK E live body Q (sigPub k v σ) (hpub k v H) M') : LoopK E live body Q σ H M := by
  rintro a w ⟨ν, hs, hh⟩
  obtain ⟨M', h1, h2, h3, h4⟩ := pub_heapF hh hk
  exact h _ M' h1 h2 h3 a w ⟨ν, pub_slots hs, h4⟩
theorem DrawK.pubF {id : Nat} {ops : Array Oper} {k sz : Nat} {es : List (List Value)} (hk : hget H k = some (.row sz es))
    (h : ∀ v M', M.le M' → RowF M' v sz es → freshB M v → DrawK E id ops K (sigPub k v σ) (hpub k v H) M') : DrawK E id ops K σ H M := by
  rintro a w ⟨ν, hs, hh⟩
  obtain ⟨M', h1, h2, h3, h4⟩ := pub_heapF hh hk
  exact h _ M' h1 h2 h3 a w ⟨ν, pub_slots hs, h4⟩
theorem CallK.pubF {f d k sz : Nat} {l : List SV} {es : List (List Value)} (hk : hget H k = some (.row sz es))
    (h : ∀ v M', M.le M' → RowF M' v sz es → freshB M v → CallK E f (SV.pubs k v l) d K (sigPub k v σ) (hpub k v H) M') : CallK E f l d K σ H M := by
  intro ν a w hs hh
  obtain ⟨M', h1, h2, h3, h4⟩ := pub_heapF hh hk
  have := h _ M' h1 h2 h3 ν a w (pub_slots hs) h4
  rw [SV.pubs_vals] at this
  exact this
/-- a store into a known block that is the call's own -/
theorem OpK.turnF {t : TypeId} {x y : Operand} {v : Value} {sz i off : Nat} {s : SV} {es : List (List Value)} (ho : o.op = .store t x y) (hd : o.dst = none) (hz : szOk E.P t)
    (hx : opv σ x = some (true, .ea v sz i off)) (hy : opv σ y = some (true, s)) (hc : concB s = true) (h1 : onesV (cellsV s) = true) (hL : layN (lay (shp E.P t)) = some (cellsV s).length)
    (hv : RowF M v sz es) (hf : freshB E.M0 v) (h2 : i < es.length) (h3 : off + (cellsV s).length ≤ sz)
    (hK : ∀ M', butB M M' v → RowF M' v sz (es.set i (putV (es.getD i []) off (cellsV s))) → K σ H M') : OpK E o K σ H M := by
  rintro a w ⟨ν, hs, hh⟩
  have ex := hs.opv hx rfl
  have ey := hs.opv hy rfl
  have hcells := concB_cells ν hc h1
  have hcl : (s.val ν).cells.size = (cellsV s).length := by rw [← hcells]; simp
  obtain ⟨g1, ⟨rfl, rfl⟩ | ⟨b, cap, T, sp, rfl, g3, g4, g5, hM⟩⟩ := hv
  · simp at h2
  have hb := hh.mem b _ hM
  have h0 : E.M0 b = none := hf b rfl
  have hfl := flatten_len (fun e he => (g1 e he).1)
  obtain ⟨n, g, hl, hn⟩ : ∃ n g, lay (shp E.P t) = some (n, g) ∧ (cellsV s).length = n := by
    cases hl : lay (shp E.P t) with
    | none => rw [hl] at hL; cases hL
    | some q => obtain ⟨n, g⟩ := q; rw [hl] at hL; simp only [layN, Option.some.injEq] at hL; exact ⟨n, g, rfl, hL.symm⟩
  obtain ⟨i0, hi0, hsz⟩ := lay_info hz ⟨n, g, hl⟩
  have hle : i * sz + sz ≤ es.length * sz := by
    have := Nat.mul_le_mul_right sz (show i + 1 ≤ es.length by omega)
    rw [Nat.add_mul, Nat.one_mul] at this
    exact this
  have hrun := run_storeVar_box (P := E.P) (t := t) (w := w) (v := s.val ν) (off := i * sz + off) ⟨i0, hi0⟩ (by rw [hsz n g hl, hcl, hn]) hb (by rw [hcl]; simp only [List.size_toArray, List.length_append, hfl]; omega) (by rw [hcells]; exact onesV_mem h1)
  rw [hcells, hcl] at hrun
  have hset := flatten_set (sp := sp) (cs := cellsV s) (fun e he => (g1 e he).1) h2 h3
  rw [hset] at hrun
  have hval : (SV.ea (.slice (some ⟨b, 0, none⟩) es.length cap) sz i off).val ν = .pointer (some ⟨b, i * sz + off, none⟩) := by simp [SV.val, Addr.add_lit]
  have hw' : (execOp a.eval o).run E.P w = .ok .skip (w.setRow b ((es.set i (putV (es.getD i []) off (cellsV s))).flatten ++ sp).toArray) := by
    simp only [execOp, ho, ex, ey, hval, Instr.storeAt, Instr.sureAddr, Sem.run_bind, Sem.run_pure, Result.andThen_ok, hrun]
  unfold Oper.wp
  rw [hw']
  simp only [Oper.upon]
  rw [hd]
  have hgl : (es.getD i []).length = sz ∧ ∀ c ∈ es.getD i [], c.oneCell' = true := by
    rw [List.getD_eq_getElem?_getD, List.getElem?_eq_getElem h2]
    exact g1 _ (List.getElem_mem _)
  refine ⟨_, _, _, ⟨ν, hs, hh.turnM hM h0 (fun j hj => setRow_other w b _ hj) (by simp [World.setRow]) ⟨rfl, rfl, rfl⟩ (setRow_at w b _ _ T _ hb)⟩, hK _ (fun c hc => ?_) ⟨fun e he => ?_, .inr ⟨b, cap, T, sp, by rw [List.length_set], by rw [List.length_set]; exact g3, g4, by rw [List.length_set]; exact g5, updM_at _ _ _⟩⟩⟩
  · unfold updM
    rw [if_neg (fun e => hc (by rw [e]; rfl))]
  · rcases List.mem_or_eq_of_mem_set he with he | rfl
    · exact g1 e he
    · refine ⟨by simp only [putV, List.length_append, List.length_take, List.length_drop]; omega, fun c hc => ?_⟩
      simp only [putV, List.mem_append] at hc
      rcases hc with (hc | hc) | hc
      · exact hgl.2 c (List.mem_of_mem_take hc)
      · exact onesV_mem h1 c hc
      · exact hgl.2 c (List.mem_of_mem_drop hc)
/-- a known row that is the call's own goes back into its hand -/
theorem Rep.claim {e sz : Nat} {v : Value} {es : List (List Value)} (hv : RowF M v sz es) (hf : freshB E.M0 v) (hn : hNoKey e H = true) (hs' : sigNoKey e σ = true) {ν : Nat → Value} (hs : Slots E.N ν σ a) (hh : Heap E ν H M w) :
    ∃ M' ν2, butB M M' v ∧ ν2 (8 * e) = v ∧ (∀ k, k / 8 ≠ e → ν2 k = ν k) ∧ Slots E.N ν2 σ a ∧ Heap E ν2 ((8 * e, .row sz es) :: H) M' w := by
  let ν2 : Nat → Value := fun i => if i / 8 = e then v else ν i
  have hν : ∀ i, i / 8 ≠ e → ν2 i = ν i := fun i hi => by simp [ν2, hi]
  have hν8 : ν2 (8 * e) = v := by simp [ν2, show (8 * e) / 8 = e by omega]
  have hone : v.oneCell' = true := by obtain ⟨_, ⟨rfl, _⟩ | ⟨b, cap, T, sp, rfl, _⟩⟩ := hv <;> rfl
  have hone2 : ∀ i, (ν2 i).oneCell' = true := fun i => by
    by_cases hi : i / 8 = e
    · simp only [ν2, hi, if_true]; exact hone
    · simp only [ν2, hi, if_false]; exact hh.one i
  have hs2 : Slots E.N ν2 σ a := ⟨hs.1, hs.2.1, fun i g s hi => by rw [hs.2.2 i g s hi, SV.val_congr hν s (sigNoKey_lk hs' hi)]⟩
  obtain ⟨g1, ⟨rfl, rfl⟩ | ⟨b, cap, T, sp, rfl, g3, g4, g5, hM⟩⟩ := hv
  · refine ⟨M, ν2, fun _ _ => rfl, hν8, hν, hs2, hh.add hn hν hone2 ?_ (fun c hc => by rw [hν8] at hc; cases hc)⟩
    rw [hν8]
    exact ⟨g1, .inl ⟨rfl, rfl⟩⟩
  · have h0 : E.M0 b = none := hf b rfl
    have hbs : E.w0.heap.size ≤ b := (hh.fresh b (by rw [hM]; exact fun e => by cases e)).resolve_left (fun e => e h0)
    have hnf : b ∉ fp ν H := fun hb => by
      have := (hh.apart b hb).1
      rw [hM] at this
      cases this
    refine ⟨offM M b, ν2, fun c hc => ?_, hν8, hν, hs2, (hh.off h0).add hn hν hone2 ?_ (fun c hc => ?_)⟩
    · unfold offM
      rw [if_neg (fun e => hc (by rw [e]; rfl))]
    · rw [hν8]
      exact ⟨g1, .inr ⟨b, cap, T, sp, rfl, g3, g4, g5, hh.mem b _ hM⟩⟩
    · rw [hν8] at hc
      simp only [blk?, Option.some.injEq] at hc
      subst hc
      exact ⟨hnf, by simp [offM], hbs⟩
theorem OpK.claim (j e : Nat) {sz : Nat} {v : Value} {es : List (List Value)} (hj : lk σ j = some (true, .v v)) (hjN : decide (j < E.N) = true) (hv : RowF M v sz es) (hf : freshB E.M0 v) (hn : hNoKey e H = true) (hs' : sigNoKey e σ = true)
    (h : ∀ M', butB M M' v → OpK E o K ((j, true, .own (8 * e)) :: σ) ((8 * e, .row sz es) :: H) M') : OpK E o K σ H M := by
  rintro a w ⟨ν, hs, hh⟩
  obtain ⟨M', ν2, h1, h2, h3, h4, h5⟩ := Rep.claim hv hf hn hs' hs hh
  refine h M' h1 a w ⟨ν2, ⟨h4.1, h4.2.1, fun i g s hi => ?_⟩, h5⟩
  simp only [lk] at hi
  split at hi
  · rename_i hij
    subst hij
    simp only [Option.some.injEq, Prod.mk.injEq] at hi
    obtain ⟨rfl, rfl⟩ := hi
    rw [h4.2.2 _ _ _ hj]
    simp only [cond_true, SV.val, h2]
  · exact h4.2.2 i g s hi
theorem CallK.claim {f d : Nat} {l : List SV} {A : SV → List SV} (e : Nat) {sz : Nat} {v : Value} {es : List (List Value)} (hA : Ctxs A) (hl : l = A (.v v)) (hv : RowF M v sz es) (hf : freshB E.M0 v) (hn : hNoKey e H = true) (hs' : sigNoKey e σ = true)
    (h : ∀ M', butB M M' v → CallK E f (A (.own (8 * e))) d K σ ((8 * e, .row sz es) :: H) M') : CallK E f l d K σ H M := by
  intro ν a w hs hh
  obtain ⟨M', ν2, h1, h2, h3, h4, h5⟩ := Rep.claim hv hf hn hs' hs hh
  have := h M' h1 ν2 a w h4 h5
  rw [hl, hA (.v v) (.own (8 * e)) ν ν2 (by simp only [SV.val, h2])]
  exact this
end
end Go.X

namespace Go.X.Vo
open Go Go.X Go.RowKit Go.X.Bg Go.X.Nm Go.X.Bp

theorem oneVs {v : Value} (h : isSl v = true) : oneV v = true := by cases v <;> first | rfl | cases h
theorem RowF.nil_or {M : Mem} {v : Value} {sz : Nat} {es : List (List Value)} (h : RowF M v sz es) : (v = .slice none 0 0 ∧ es = []) ∨ ∃ b cap, v = .slice (some ⟨b, 0, none⟩) es.length cap := by
  obtain ⟨_, h | ⟨b, cap, T, sp, rfl, _⟩⟩ := h
  · exact .inl h
  · exact .inr ⟨b, cap, rfl⟩
theorem stRD_ea {K : KP} {σ : Sig} {H : HS} {M : Mem} (d : Option Nat) (L : Option (Nat × Bool)) (st : Prop) (x : Value) (a b c : Nat) (y : Bool × SV) : stRD d L st K σ H M (some (true, .ea x a b c)) (some y) = st := by
  obtain ⟨g, y⟩ := y
  cases d <;> cases L <;> cases g <;> rfl
theorem rowOf_some (H : HS) (sz : Nat) (ad : Addr) (n c : Nat) : rowOf H sz (.v (.slice (some ad) n c)) = none := rfl
def apartB (x y : Value) : Prop := ∀ c, blk? x = some c → blk? y ≠ some c
theorem apartB.symm {x y : Value} (h : apartB x y) : apartB y x := fun c h1 h2 => h c h2 h1
theorem RowF.but {M M' : Mem} {x u : Value} {sz : Nat} {es : List (List Value)} (h : RowF M u sz es) (hb : butB M M' x) (ha : apartB x u) : RowF M' u sz es :=
  h.eqM fun c hc => hb c fun e => ha c e hc
theorem le_but {M0 M M' : Mem} {x : Value} (h : M0.le M) (hf : freshB M0 x) (hb : butB M M' x) : M0.le M' := fun c o hc => by
  rw [hb c (fun e => by have := hf c e; rw [hc] at this; cases this)]
  exact h c o hc
/-- a new block is none of the known ones -/
theorem RowF.apart {M : Mem} {u y : Value} {sz : Nat} {es : List (List Value)} (h : RowF M u sz es) (hf : freshB M y) : apartB y u := fun c hc h2 => h.known h2 (hf c hc)
/-- a state, of which all blocks are new since M0 -/
structure StF (M0 M : Mem) (b v : Value) (bag : List It) (ws : List WV) : Prop where
  bag : RowF M b 4 (bag.map Bg.encT)
  vols : RowF M v 2 (ws.map encV)
  blk : ∀ w ∈ ws, RowF M w.1 3 (w.2.2.map encI3)
  fr : ∀ x ∈ b :: v :: ws.map (·.1), freshB M0 x
  ap : (b :: v :: ws.map (·.1)).Pairwise apartB
section
variable {M0 M M' : Mem} {b v : Value} {bag : List It} {ws : List WV}
theorem StF.volsM (h : StF M0 M b v bag ws) : VolsM M v ws := ⟨h.vols.row, fun w hw => (h.blk w hw).row⟩
theorem StF.le (h : StF M0 M b v bag ws) (hl : M.le M') : StF M0 M' b v bag ws := ⟨h.bag.le hl, h.vols.le hl, fun w hw => (h.blk w hw).le hl, h.fr, h.ap⟩
theorem StF.fb (h : StF M0 M b v bag ws) : freshB M0 b := h.fr _ (by simp)
theorem StF.fv (h : StF M0 M b v bag ws) : freshB M0 v := h.fr _ (by simp)
theorem StF.fw (h : StF M0 M b v bag ws) {w : WV} (hw : w ∈ ws) : freshB M0 w.1 := h.fr _ (by simp only [List.mem_cons, List.mem_map]; exact .inr (.inr ⟨w, hw, rfl⟩))
theorem StF.bv (h : StF M0 M b v bag ws) : apartB b v := (List.pairwise_cons.1 h.ap).1 _ (by simp)
theorem StF.bw (h : StF M0 M b v bag ws) {w : WV} (hw : w ∈ ws) : apartB b w.1 := (List.pairwise_cons.1 h.ap).1 _ (by simp only [List.mem_cons, List.mem_map]; exact .inr ⟨w, hw, rfl⟩)
theorem StF.vw (h : StF M0 M b v bag ws) {w : WV} (hw : w ∈ ws) : apartB v w.1 := (List.pairwise_cons.1 (List.pairwise_cons.1 h.ap).2).1 _ (List.mem_map.2 ⟨w, hw, rfl⟩)
theorem StF.ww (h : StF M0 M b v bag ws) {i j : Nat} {x y : WV} (hx : ws[i]? = some x) (hy : ws[j]? = some y) (hij : i ≠ j) : apartB x.1 y.1 := by
  have hp := (List.pairwise_cons.1 (List.pairwise_cons.1 h.ap).2).2
  rw [List.pairwise_iff_getElem] at hp
  have hil := (List.getElem?_eq_some_iff.1 hx).1
  have hjl := (List.getElem?_eq_some_iff.1 hy).1
  have ex : ws[i] = x := (List.getElem?_eq_some_iff.1 hx).2
  have ey : ws[j] = y := (List.getElem?_eq_some_iff.1 hy).2
  rcases Nat.lt_or_ge i j with h1 | h1
  · have := hp i j (by rw [List.length_map]; omega) (by rw [List.length_map]; omega) h1
    rw [List.getElem_map, List.getElem_map, ex, ey] at this
    exact this
  · have := hp j i (by rw [List.length_map]; omega) (by rw [List.length_map]; omega) (by omega)
    rw [List.getElem_map, List.getElem_map, ex, ey] at this
    exact this.symm
/-- the blocks of a volume are other ones -/
theorem StF.turnB (h : StF M0 M b v bag ws) {i : Nat} {x : WV} {ids : List Id3} (hx : ws[i]? = some x) (hb : butB M M' x.1) (hr : RowF M' x.1 3 (ids.map encI3)) : StF M0 M' b v bag (ws.set i (x.1, x.2.1, ids)) := by
  have hxm := List.mem_of_getElem? hx
  have hil := (List.getElem?_eq_some_iff.1 hx).1
  have e1 : (ws.set i (x.1, x.2.1, ids)).map encV = ws.map encV := by
    rw [List.map_set]
    apply List.ext_getElem?
    intro j
    rw [List.getElem?_set]
    split
    · rename_i e
      subst e
      rw [List.length_map, if_pos hil, List.getElem?_map, hx]
      rfl
    · rfl
  have e2 : (ws.set i (x.1, x.2.1, ids)).map (·.1) = ws.map (·.1) := by
    rw [List.map_set]
    apply List.ext_getElem?
    intro j
    rw [List.getElem?_set]
    split
    · rename_i e
      subst e
      rw [List.length_map, if_pos hil, List.getElem?_map, hx]
      rfl
    · rfl
  refine ⟨RowF.but h.bag hb (h.bw hxm).symm, by rw [e1]; exact RowF.but h.vols hb (h.vw hxm).symm, fun w hw => ?_, by rw [e2]; exact h.fr, by rw [e2]; exact h.ap⟩
  obtain ⟨j, hj⟩ := List.mem_iff_getElem?.1 hw
  rw [List.getElem?_set] at hj
  split at hj
  · rename_i e
    cases hj
    exact hr
  · rename_i e
    exact RowF.but (h.blk w (List.mem_of_getElem? hj)) hb (h.ww hx hj e)
/-- the bag is another one -/
theorem StF.turnBag (h : StF M0 M b v bag ws) {bag' : List It} (hb : butB M M' b) (hr : RowF M' b 4 (bag'.map Bg.encT)) : StF M0 M' b v bag' ws :=
  ⟨hr, RowF.but h.vols hb h.bv, fun w hw => RowF.but (h.blk w hw) hb (h.bw hw), h.fr, h.ap⟩
end
/-- .. what stays known beside the row of volumes -/
theorem StF.offV {M0 M M' : Mem} {b v : Value} {bag : List It} {ws : List WV} (h : StF M0 M b v bag ws) (hb : butB M M' v) : RowF M' b 4 (bag.map Bg.encT) ∧ ∀ w ∈ ws, RowF M' w.1 3 (w.2.2.map encI3) :=
  ⟨RowF.but h.bag hb h.bv.symm, fun w hw => RowF.but (h.blk w hw) hb (h.vw hw)⟩
/-! ### contracts that hand back a state -/
def StM (T : SV → SV) (A : St) : RP := fun r _ M => ∃ (b v : Value) (ws : List WV), r = T (stV b v) ∧ ws.map (·.2) = A.2 ∧ RowM M b 4 (A.1.map Bg.encT) ∧ VolsM M v ws
def StK (M0 : Mem) (T : SV → SV) (A : St) : RP := fun r _ M => ∃ (b v : Value) (ws : List WV), r = T (stV b v) ∧ ws.map (·.2) = A.2 ∧ StF M0 M b v A.1 ws
def IsRowF (M0 : Mem) (H : HS) (M : Mem) (s : SV) (sz : Nat) (es : List (List Value)) : Prop :=
  match s with
  | .v x => RowF M x sz es ∧ freshB M0 x
  | .own k => hget H k = some (.row sz es)
  | _ => False
def known : SV → List Value
  | .v x => [x]
  | _ => []
/-- .. whose rows may still be the call's own -/
def StO (T : SV → SV) (A : St) : RP := fun r H M => ∃ (s1 s2 : SV) (ws : List WV), r = T (.agg [s1, s2]) ∧ ws.map (·.2) = A.2 ∧ (∀ k, s1 = .own k → s2 ≠ .own k) ∧ (IsRow H M s1 4 (A.1.map Bg.encT) ∧ IsRow H M s2 2 (ws.map encV)) ∧ ∀ w ∈ ws, RowM M w.1 3 (w.2.2.map encI3)
def StKO (M0 : Mem) (T : SV → SV) (A : St) : RP := fun r H M => ∃ (s1 s2 : SV) (ws : List WV), r = T (.agg [s1, s2]) ∧ ws.map (·.2) = A.2 ∧ (∀ k, s1 = .own k → s2 ≠ .own k) ∧ (IsRowF M0 H M s1 4 (A.1.map Bg.encT) ∧ IsRowF M0 H M s2 2 (ws.map encV)) ∧ (∀ w ∈ ws, RowF M w.1 3 (w.2.2.map encI3) ∧ freshB M0 w.1) ∧ (known s1 ++ known s2 ++ ws.map (·.1)).Pairwise apartB
section
variable {E : Env} {σ : Sig} {H : HS} {M : Mem} {a : Act} {w : World} {ν : Nat → Value} {K : KP} {P : Program} {f : FuncId} {l : List SV}
theorem IsRow_settle {E : Env} {H : HS} {M : Mem} {w : World} {ν : Nat → Value} {s : SV} {sz : Nat} {es : List (List Value)} (hh : Heap E ν H M w) (h : IsRow H M s sz es) :
    ∃ x M' H', s.val ν = x ∧ M.le M' ∧ RowM M' x sz es ∧ Heap E ν H' M' w ∧ ∀ (k : Nat) (p : Nat × List (List Value)), s ≠ .own k → hget H k = some (.row p.1 p.2) → hget H' k = some (.row p.1 p.2) := by
  cases s with
  | v x => exact ⟨x, M, H, rfl, Mem.le.refl M, h, hh, fun _ _ _ h => h⟩
  | own k =>
    obtain ⟨M', h1, h2, h3⟩ := pub_heap hh h
    exact ⟨_, M', _, rfl, h1, h2, h3, fun j p hj hp => hget_hpub (p := .row p.1 p.2) (fun e => hj (by rw [e])) hp⟩
  | _ => exact h.elim
theorem Meets.settleM {T : SV → SV} {A : St} (hT : Ctx T) (h : Meets P f l M (StO T A)) : Meets P f l M (StM T A) := by
  refine ⟨h.1, fun w hw => (h.2 w hw).mono ?_⟩
  rintro e w' ⟨s, H', M', ν', rfl, hh, s1, s2, ws, rfl, h1, h2, ⟨h3, h4⟩, h5⟩
  obtain ⟨x1, M1, H1, e1, l1, r1, g1, k1⟩ := IsRow_settle hh h3
  have h4' : IsRow H1 M1 s2 2 (ws.map encV) := by
    cases s2 with
    | v x => exact RowM.le h4 l1
    | own k => exact k1 k (2, _) (fun e => h2 k e rfl) h4
    | _ => exact h4.elim
  obtain ⟨x2, M2, H2, e2, l2, r2, g2, _⟩ := IsRow_settle g1 h4'
  refine ⟨T (stV x1 x2), H2, M2, ν', ?_, g2, x1, x2, ws, rfl, h1, r1.le l2, r2, fun w hw => (h5 w hw).le (l1.trans l2)⟩
  rw [hT (.agg [s1, s2]) (stV x1 x2) ν' ν' (by simp only [stV, SV.val, SV.vals, e1, e2])]
theorem IsRowF_settle {E : Env} {H : HS} {M : Mem} {w : World} {ν : Nat → Value} {s : SV} {sz : Nat} {es : List (List Value)} (hh : Heap E ν H M w) (h : IsRowF E.M0 H M s sz es) :
    ∃ x M' H', s.val ν = x ∧ M.le M' ∧ RowF M' x sz es ∧ freshB E.M0 x ∧ (known s = [x] ∨ (known s = [] ∧ freshB M x)) ∧ Heap E ν H' M' w ∧ ∀ (k : Nat) (p : Nat × List (List Value)), s ≠ .own k → hget H k = some (.row p.1 p.2) → hget H' k = some (.row p.1 p.2) := by
  cases s with
  | v x => exact ⟨x, M, H, rfl, Mem.le.refl M, h.1, h.2, .inl rfl, hh, fun _ _ _ h => h⟩
  | own k =>
    obtain ⟨M', h1, h2, h3, h4⟩ := pub_heapF hh h
    exact ⟨_, M', _, rfl, h1, h2, h3.of_le hh.le0, .inr ⟨rfl, h3⟩, h4, fun j p hj hp => hget_hpub (p := .row p.1 p.2) (fun e => hj (by rw [e])) hp⟩
  | _ => exact h.elim
theorem Meets.settleF {T : SV → SV} {A : St} (hT : Ctx T) (h : Meets P f l M (StKO M T A)) : Meets P f l M (StK M T A) := by
  refine ⟨h.1, fun w hw => (h.2 w hw).mono ?_⟩
  rintro e w' ⟨s, H', M', ν', rfl, hh, s1, s2, ws, rfl, h1, h2, ⟨h3, h4⟩, h5, h6⟩
  obtain ⟨x1, M1, H1, e1, l1, r1, f1, c1, g1, k1⟩ := IsRowF_settle hh h3
  have h4' : IsRowF M H1 M1 s2 2 (ws.map encV) := by
    cases s2 with
    | v x => exact ⟨RowF.le h4.1 l1, h4.2⟩
    | own k => exact k1 k (2, _) (fun e => h2 k e rfl) h4
    | _ => exact h4.elim
  obtain ⟨x2, M2, H2, e2, l2, r2, f2, c2, g2, _⟩ := IsRowF_settle g1 h4'
  refine ⟨T (stV x1 x2), H2, M2, ν', ?_, g2, x1, x2, ws, rfl, h1, ?_⟩
  · rw [hT (.agg [s1, s2]) (stV x1 x2) ν' ν' (by simp only [stV, SV.val, SV.vals, e1, e2])]
  have hk1 : ∀ y ∈ known s1, y = x1 := fun y hy => by
    rcases c1 with c1 | ⟨c1, _⟩ <;> rw [c1] at hy
    · exact List.mem_singleton.1 hy
    · cases hy
  have hws : ∀ y ∈ ws.map (·.1), ∃ w ∈ ws, y = w.1 := fun y hy => by
    obtain ⟨w, hw, rfl⟩ := List.mem_map.1 hy
    exact ⟨w, hw, rfl⟩
  rw [List.append_assoc, List.pairwise_append, List.pairwise_append] at h6
  obtain ⟨_, ⟨_, p3, p2⟩, p1⟩ := h6
  refine ⟨r1.le l2, r2, fun w hw => (h5 w hw).1.le (l1.trans l2), fun y hy => ?_, ?_⟩
  · simp only [List.mem_cons] at hy
    rcases hy with rfl | rfl | hy
    · exact f1
    · exact f2
    · obtain ⟨w, hw, rfl⟩ := hws y hy
      exact (h5 w hw).2
  · have q2 : ∀ y ∈ ws.map (·.1), apartB x2 y := fun y hy => by
      obtain ⟨w, hw, rfl⟩ := hws y hy
      rcases c2 with c2 | ⟨_, c2⟩
      · exact p2 x2 (by rw [c2]; simp) w.1 hy
      · exact RowF.apart ((h5 w hw).1.le l1) c2
    have q1 : ∀ y ∈ ws.map (·.1), apartB x1 y := fun y hy => by
      obtain ⟨w, hw, rfl⟩ := hws y hy
      rcases c1 with c1 | ⟨_, c1⟩
      · exact p1 x1 (by rw [c1]; simp) w.1 (by simp [hy])
      · exact RowF.apart (h5 w hw).1 c1
    have q0 : apartB x1 x2 := by
      rcases c2 with c2 | ⟨_, c2⟩
      · rcases c1 with c1 | ⟨_, c1⟩
        · exact p1 x1 (by rw [c1]; simp) x2 (by rw [c2]; simp)
        · have : IsRowF M H' M' s2 2 (ws.map encV) := h4
          cases s2 with
          | v y =>
            simp only [known, List.cons.injEq, and_true] at c2
            subst c2
            exact RowF.apart h4.1 c1
          | _ => cases c2
      · exact (RowF.apart r1 c2).symm
    refine List.pairwise_cons.2 ⟨fun y hy => ?_, List.pairwise_cons.2 ⟨q2, p3⟩⟩
    rcases List.mem_cons.1 hy with rfl | hy
    · exact q0
    · exact q1 y hy
/-- calls that hand back a state -/
theorem CallK.stM {d : Nat} {T : SV → SV} {A : St} (hT : ∀ b v, (T (stV b v)).conc = true) (hl : SV.concs l = true) (hd : decide (d < E.N) = true) (h : Meets E.P f l M (StM T A))
    (hk : ∀ b v ws M', M.le M' → ws.map (·.2) = A.2 → RowM M' b 4 (A.1.map Bg.encT) → VolsM M' v ws → K ((d, true, T (stV b v)) :: σ) H M') : CallK E f l d K σ H M := by
  refine CallK.res (R := fun r M' => ∃ (b v : Value) (ws : List WV), r = T (stV b v) ∧ ws.map (·.2) = A.2 ∧ RowM M' b 4 (A.1.map Bg.encT) ∧ VolsM M' v ws) hl hd h (fun r M' => ?_) (fun r M' hM => ?_)
  · rintro ⟨b, v, ws, rfl, _⟩
    exact hT b v
  · rintro ⟨b, v, ws, rfl, h1, h2, h3⟩
    exact hk b v ws M' hM h1 h2 h3
theorem CallK.stF {d : Nat} {T : SV → SV} {A : St} (hT : ∀ b v, (T (stV b v)).conc = true) (hl : SV.concs l = true) (hd : decide (d < E.N) = true) (h : Meets E.P f l M (StK M T A))
    (hk : ∀ b v ws M', M.le M' → ws.map (·.2) = A.2 → StF M M' b v A.1 ws → K ((d, true, T (stV b v)) :: σ) H M') : CallK E f l d K σ H M := by
  refine CallK.res (R := fun r M' => ∃ (b v : Value) (ws : List WV), r = T (stV b v) ∧ ws.map (·.2) = A.2 ∧ StF M M' b v A.1 ws) hl hd h (fun r M' => ?_) (fun r M' hM => ?_)
  · rintro ⟨b, v, ws, rfl, _⟩
    exact hT b v
  · rintro ⟨b, v, ws, rfl, h1, h2⟩
    exact hk b v ws M' hM h1 h2
/-- a call whose row is known at once, and new -/
theorem CallK.rowF {d sz : Nat} {T : SV → SV} {es : List (List Value)} (hT : Ctx T) (hl : SV.concs l = true) (hd : decide (d < E.N) = true) (h : Meets E.P f l M (OwnR T sz es))
    (hk : ∀ v M', M.le M' → RowF M' v sz es → freshB M v → K ((d, true, T (.v v)) :: σ) H M') : CallK E f l d K σ H M := by
  intro ν a w hs hh
  refine .inl ⟨h.1, ?_⟩
  rw [SV.concs_vals (ν := ν0) (ν' := ν) l hl]
  refine (h.2 w hh.mem).mono ?_
  rintro e w' ⟨s, H', M', ν', rfl, hh', k, rfl, hR⟩
  obtain ⟨M'', h1, h2, h3, h4⟩ := pub_heapF hh' hR
  exact ⟨_, rfl, _, _, _, ⟨ν, hs.put (of_decide_eq_true hd) (by rw [cond_true]; exact hT _ (.v (ν' k)) _ _ rfl), hh.call h4⟩, hk (ν' k) M'' h4.le0 h2 (h3.of_le hh'.le0)⟩
end
theorem StK.weak {M0 M : Mem} {T : SV → SV} {A : St} {r : SV} {H : HS} (h : StK M0 T A r H M) : StM T A r H M := by
  obtain ⟨b, v, ws, h1, h2, h3⟩ := h
  exact ⟨b, v, ws, h1, h2, h3.bag.row, h3.volsM⟩
theorem zero_stK (M0 M : Mem) : StF M0 M (.slice none 0 0) (.slice none 0 0) [] [] := by
  refine ⟨⟨fun e he => (by cases he), .inl ⟨rfl, rfl⟩⟩, ⟨fun e he => (by cases he), .inl ⟨rfl, rfl⟩⟩, fun w hw => (by cases hw), fun x hx c hc => ?_, List.pairwise_cons.2 ⟨fun x hx c hc => (by cases hc), List.pairwise_cons.2 ⟨fun x hx c hc => (by cases hc), .nil⟩⟩⟩
  simp only [List.map_nil, List.mem_cons, List.not_mem_nil, or_false] at hx
  rcases hx with rfl | rfl <;> cases hc
theorem zero_volsM (M : Mem) : RowM M (.slice none 0 0) 4 (([] : List It).map Bg.encT) ∧ VolsM M (.slice none 0 0) [] := ⟨RowM.nil M 4, RowM.nil M 2, fun w hw => (by cases hw)⟩
end Go.X.Vo

namespace Go.X
open Go Go.RowKit
section
variable {E : Env} {σ : Sig} {H : HS} {M : Mem} {a : Act} {w : World} {ν : Nat → Value} {K : KP} {o : Oper}

/-- an interface that holds a known value -/
theorem OpK.mkIface {t : TypeId} {x : Operand} {d : Nat} {y : Value} (ho : o.op = .makeInterface t x) (hd : o.dst = some d) (hx : opv σ x = some (true, .v y)) (hN : decide (d < E.N) = true) (hpk : E.P.packed t = false)
    (hu : ∃ e, E.P.underlying t = some (.slice e))
    (hK : K ((d, true, .v (.iface t y)) :: σ) H M) : OpK E o K σ H M := by
  refine opK_of fun ν a w hs hh => ?_
  have ex := hs.opv hx rfl
  simp only [SV.val] at ex
  obtain ⟨e, hu⟩ := hu
  refine ⟨.iface t y, w, ?_, _, _, _, ⟨ν, ?_, hh⟩, hK⟩
  · simp [execOp, ho, ex, Instr.makeInterface, run_underlying hu]
  · rw [hd]
    exact hs.put (of_decide_eq_true hN) rfl

theorem flat_get {α : Type} [Inhabited α] {enc : α → List Value} {k : Nat} (hk : ∀ x, (enc x).length = k) : ∀ (l : List α) (t : Nat), t < l.length * k → ((l.map enc).flatten)[t]? = some ((enc l.toArray[t / k]!)[t % k]!)
  | [], t, h => by simp at h
  | x :: r, t, h => by
    have hx := hk x
    rw [List.map_cons, List.flatten_cons]
    rcases Nat.lt_or_ge t k with ht | ht
    · rw [List.getElem?_append_left (by omega), Nat.div_eq_of_lt ht, Nat.mod_eq_of_lt ht]
      simp [hx, ht]
    · have hk0 : 0 < k := by
        rcases Nat.eq_zero_or_pos k with e | e
        · subst e; simp at h
        · exact e
      rw [List.getElem?_append_right (by omega), hx]
      have e1 : t / k = (t - k) / k + 1 := by rw [Nat.div_eq_sub_div hk0 ht]
      have e2 : t % k = (t - k) % k := Nat.mod_eq_sub_mod ht
      rw [List.length_cons, Nat.add_mul, Nat.one_mul] at h
      rw [flat_get hk r (t - k) (by omega), e1, e2]
      simp
theorem flatK_flat {α : Type} [Inhabited α] {enc : α → List Value} {k : Nat} (hk : ∀ x, (enc x).length = k) (d : Array α) : (Sort.flatK enc k d).toList = (d.toList.map enc).flatten := by
  have hl : ((d.toList.map enc).flatten).length = d.size * k := by
    rw [List.length_flatten, List.map_map]
    have : (List.length ∘ enc) = fun _ => k := funext fun x => hk x
    rw [this, List.map_const', List.sum_replicate_nat, Array.length_toList]
  apply List.ext_getElem?
  intro t
  rcases Nat.lt_or_ge t (d.size * k) with h | h
  · rw [flat_get hk _ t (by simpa using h)]
    simp [Sort.flatK, h]
  · rw [List.getElem?_eq_none (by simpa using h), List.getElem?_eq_none (by omega)]
theorem flat_len {α : Type} {enc : α → List Value} {k : Nat} (hk : ∀ x, (enc x).length = k) (l : List α) : ((l.map enc).flatten).length = l.length * k := by
  rw [List.length_flatten, List.map_map]
  have : (List.length ∘ enc) = fun _ => k := funext fun x => hk x
  rw [this, List.map_const', List.sum_replicate_nat]
theorem putCells_flat {F : Array Value} {c : List Value} {sp : List Value} (h : F.size = c.length) : Sort.putCells id 0 F (c ++ sp).toArray = (F.toList ++ sp).toArray := by
  apply Array.ext_getElem?
  intro t
  simp only [Sort.putCells, Array.getElem?_mapIdx, List.getElem?_toArray]
  rcases Nat.lt_or_ge t F.size with h' | h'
  · rw [List.getElem?_append_left (by omega), List.getElem?_append_left (by simpa using h'), List.getElem?_eq_getElem (by omega)]
    simp [h']
  · rw [List.getElem?_append_right (by omega), List.getElem?_append_right (by simpa using h')]
    simp only [Array.length_toList, h]
    cases hx : sp[t - c.length]? with
    | none => rfl
    | some y =>
      have : ¬ t < c.length := by omega
      simp [this, h]
theorem hset_self {p : PO} {k : Nat} : ∀ {H : HS}, hget H k = some p → hset k p H = H
  | [], h => by cases h
  | (j, q) :: H, h => by
    simp only [hget] at h
    simp only [hset]
    by_cases e : k = j
    · rw [if_pos e] at h
      cases h
      rw [if_pos e.symm]
    · rw [if_neg e] at h
      rw [if_neg (fun e' => e e'.symm), hset_self h]

/-- what a comparison does in every world where it finds the row and the box -/
def LessC {α : Type} [Inhabited α] (P : Program) (g : Nat) (enc : α → List Value) (k : Nat) (lt : α → α → Bool) (size : Nat) : Prop :=
  ∀ (W : World) (Bs blk c : Nat) (dk : Array α), dk.size = size → W.cell? ⟨Bs, 0, none⟩ = some (.slice (some ⟨blk, 0, none⟩) size c) → (∀ t u, t < size → u < k → W.cell? ⟨blk, 0 + t * k + u, none⟩ = some ((enc dk[t]!)[u]!)) →
    ∀ i j : Nat, i < size → j < size → Calls P g #[.int .i64 i, .int .i64 j, .pointer (some ⟨Bs, 0, none⟩)] W fun e w' => e = .returned (.bool (lt dk[i]! dk[j]!)) ∧ ∃ q, w' = W.drewN q
/-- what sort.Slice does -/
def SortC {α : Type} [Inhabited α] (P : Program) (f g t : Nat) (enc : α → List Value) (k : Nat) (lt : α → α → Bool) : Prop :=
  (∀ (p : Option Addr) (n c : Nat), n ≤ 1 → ∀ (lb : Array Value) (w : World), Calls P f #[.iface t (.slice p n c), .func (.func g) #[] lb] w fun e w' => e = .returned (.tuple #[]) ∧ ∃ os, w' = Sort.grow w os) ∧
  ∀ (blk c : Nat) (d : Array α), 2 ≤ d.size → d.size < 4611686018427387904 → ∀ (lb : Array Value) (w : World), Proofs.LessReadsK P g lb enc k lt blk 0 d.size w → Sort.HoldsK enc k w blk 0 d → blk < w.heap.size →
    Calls P f #[.iface t (.slice (some ⟨blk, 0, none⟩) d.size c), .func (.func g) #[] lb] w fun e w' => e = .returned (.tuple #[]) ∧ ∃ d' n os, Sort.PermIn 0 d.size d d' ∧ Sort.SortedIn lt 0 d.size d' ∧ w' = Sort.grow (Sort.putRowK enc k (Sort.ahead w n) blk 0 d') os
theorem below_grow (w : World) (os : Array Obj) (n : Nat) : Below w.heap.size w (Sort.grow (Sort.ahead w n) os) := ⟨rfl, rfl, rfl, by simp [Sort.grow], fun k hk => Array.getElem?_append_left hk⟩
theorem CallK.sortRow {α : Type} [Inhabited α] {f d g t : Nat} (kr kb : Nat) (enc : α → List Value) (k : Nat) (lt : α → α → Bool) (l : List α) {b cap : Nat} {sp : List Value} {tb : Option Value}
    (hk : hget H kr = some (.box (opn ((l.map enc).flatten ++ sp)) (some (ptrV b)))) (hkb : hget H kb = some (.box [.v (.slice (some ⟨b, 0, none⟩) l.length cap)] tb)) (hne : decide (kb ≠ kr) = true)
    (henc : ∀ x, (enc x).length = k) (hd : decide (d < E.N) = true) (hsz : l.length < 4611686018427387904) (hcl : ∃ fn, E.P.funcs[f]? = some fn ∧ (fn.name == "runtime.NumGoroutine") = false ∧ fn.body.isNone = false)
    (hS : SortC E.P f g t enc k lt) (hL : LessC E.P g enc k lt l.length)
    (hK : ∀ l' : List α, l'.Perm l → l'.Pairwise (fun x y => lt y x = false) → K ((d, true, .v (.tuple #[])) :: σ) (hset kr (.box (opn ((l'.map enc).flatten ++ sp)) (some (ptrV b))) H) M) :
    CallK E f [.v (.iface t (.slice (some ⟨b, 0, none⟩) l.length cap)), .fn g [.ptr kb 0 0 0]] d K σ H M := by
  intro ν a w hs hh
  refine .inl ⟨hcl, ?_⟩
  obtain ⟨⟨b', T, e1, e2⟩, e3⟩ := hh.holds _ (hget_mem hk)
  have e4 := e3 _ rfl
  simp only at e1 e4
  rw [e4] at e1
  cases e1
  rw [opn_vals] at e2
  obtain ⟨⟨bb, T', f1, f2⟩, _⟩ := hh.holds _ (hget_mem hkb)
  simp only [SV.vals, SV.val] at f1 f2
  have hbb : bb ≠ b := by
    rintro rfl
    exact blk_ne hh hk (b := bb) (by rw [e4]; rfl) _ (hget_mem hkb) (of_decide_eq_true hne) (by simp only [f1]; rfl)
  have hlt : b < w.heap.size := (Array.getElem?_eq_some_iff.1 e2).1
  have hltb : bb < w.heap.size := (Array.getElem?_eq_some_iff.1 f2).1
  have hv : (SV.vals ν [.v (.iface t (.slice (some ⟨b, 0, none⟩) l.length cap)), .fn g [.ptr kb 0 0 0]]).toArray = #[.iface t (.slice (some ⟨b, 0, none⟩) l.length cap), .func (.func g) #[] #[.pointer (some ⟨bb, 0, none⟩)]] := by
    simp [SV.vals, SV.val, f1, bOf]
  rw [hv]
  have hfin : ∀ l' : List α, l'.Perm l → l'.Pairwise (fun x y => lt y x = false) → ∀ w', Heap E ν (hset kr (.box (opn ((l'.map enc).flatten ++ sp)) (some (ptrV b))) H) M w' →
      ∃ σ' H' M', Rep E σ' H' M' (a.put (some d) (.tuple #[])) w' ∧ K σ' H' M' := fun l' h1 h2 w' h3 => ⟨_, _, _, ⟨ν, hs.put (of_decide_eq_true hd) rfl, h3⟩, hK l' h1 h2⟩
  rcases Nat.lt_or_ge 1 l.length with h2 | h1
  rotate_left
  · refine (hS.1 (some ⟨b, 0, none⟩) l.length cap h1 #[.pointer (some ⟨bb, 0, none⟩)] w).mono ?_
    rintro e w' ⟨rfl, os, rfl⟩
    refine ⟨_, rfl, hfin l (List.Perm.refl l) ?_ _ ?_⟩
    · match l, h1 with
      | [], _ => exact .nil
      | [x], _ => exact List.pairwise_singleton _ _
    · have := hh.grow (below_grow w os 0)
      have hs2 : hset kr (.box (opn ((l.map enc).flatten ++ sp)) (some (ptrV b))) H = H := hset_self hk
      rw [hs2]
      exact this
  · have hH : Sort.HoldsK enc k w b 0 l.toArray := fun j hj => by
      have hf := flatK_flat henc l.toArray
      have hj2 : j < (Sort.flatK enc k l.toArray).toList.length := by simpa using hj
      have hx : ((l.map enc).flatten ++ sp)[j]? = some ((Sort.flatK enc k l.toArray)[j]!) := by
        rw [show (l.map enc).flatten = (Sort.flatK enc k l.toArray).toList from hf.symm, List.getElem?_append_left hj2, Array.getElem?_toList, getElem!_pos _ j (by simpa using hj)]
        exact Array.getElem?_eq_getElem _
      refine ⟨?_, ?_⟩
      · rw [cell_of_heap e2, Nat.zero_add]
        exact hx
      · simp [World.frozen?, e2]
    have hless : Proofs.LessReadsK E.P g #[.pointer (some ⟨bb, 0, none⟩)] enc k lt b 0 l.toArray.size w := by
      intro m os dk hs i j hi hj
      have e : Proofs.sortWorldK enc k w b 0 m dk os = Sort.putRowK enc k (Sort.grow (Sort.ahead w m) os) b 0 dk := by
        unfold Proofs.sortWorldK; rw [Sort.putRowK_grow _ _ (Sort.ahead w m) _ b 0 _ hlt]
      have hHg : Sort.HoldsK enc k (Sort.grow (Sort.ahead w m) os) b 0 l.toArray := Sort.holdsK_grow _ _ _ _ b 0 _ hlt (Sort.holdsK_ahead _ _ _ _ _ _ _ hH)
      refine hL _ bb b cap dk (by simpa using hs) ?_ (fun t u ht hu => ?_) i j (by simpa using hi) (by simpa using hj)
      · rw [e, Sort.cell?_putRowK_other _ _ _ b 0 dk _ (by exact hbb), Sort.cell?_grow _ _ _ (by exact hltb)]
        show w.cell? ⟨bb, 0, none⟩ = _
        rw [cell_of_heap f2]
        rfl
      · rw [e]
        exact ((Sort.holdsK_putRowK _ _ _ b 0 l.toArray dk hHg hs).cell (i := t) (c := u) (by rw [hs]; simpa using ht) hu).1
    refine (hS.2 b cap l.toArray (by simp only [List.size_toArray]; omega) (by simpa using hsz) #[.pointer (some ⟨bb, 0, none⟩)] w hless hH hlt).mono ?_
    rintro e w' ⟨rfl, d', n, os, hp, hso, rfl⟩
    have hsd : d'.size = l.length := by simpa using hp.1
    refine ⟨_, rfl, hfin d'.toList ?_ ?_ _ ?_⟩
    · have := hp.2.2
      rw [Array.extract_eq_self_of_le (by rw [hsd]; simp), Array.extract_eq_self_of_le (by simp)] at this
      exact this
    · rw [List.pairwise_iff_getElem]
      intro i j hi hj hij
      have := hso i j (Nat.zero_le _) hij (by simpa [hsd] using hj)
      rw [getElem!_pos _ i (by simpa using hi), getElem!_pos _ j (by simpa using hj)] at this
      simpa using this
    · have hF : (Sort.flatK enc k d').size = ((l.map enc).flatten).length := by rw [flat_len henc, Sort.size_flatK, hsd]
      have hpw : Heap E ν (hset kr (.box (opn ((d'.toList.map enc).flatten ++ sp)) (some (ptrV b))) H) M (Sort.putRowK enc k w b 0 d') := by
        refine hh.upd hk (b := b) (by rw [e4]; rfl) (fun j hj => ?_) ?_ ⟨rfl, rfl, rfl⟩ ⟨⟨b, T, e4, ?_⟩, fun v hv => ?_⟩
        · simp only [Sort.putRowK, Sort.putRow, Sort.mapBlock, Array.getElem?_modify]
          rw [if_neg (fun h => hj h.symm)]
        · simp [Sort.putRowK, Sort.putRow, Sort.mapBlock]
        · rw [opn_vals]
          simp only [Sort.putRowK, Sort.putRow, Sort.mapBlock, Array.getElem?_modify, e2, if_true, Option.map_some, Sort.onCells]
          rw [putCells_flat hF, flatK_flat henc]
        · cases hv
          exact e4
      exact hpw.grow (w' := Sort.grow (Sort.putRowK enc k (Sort.ahead w n) b 0 d') os) (below_grow (Sort.putRowK enc k w b 0 d') os n)
theorem Meets.closeR {P : Program} {f : FuncId} {args : List SV} {T : SV → SV} {sz : Nat} {es : List (List Value)} (hT : Ctx T) (hes : ∀ e ∈ es, e.length = sz ∧ ∀ c ∈ e, c.oneCell' = true)
    (h : Meets P f args M (fun r H' M' => (r = T (.v (.slice none 0 0)) ∧ es = []) ∨ OwnR T sz es r H' M' ∨ OpenR T sz es r H' M')) : Meets P f args M (OwnR T sz es) := by
  refine ⟨h.1, fun w hw => (h.2 w hw).mono ?_⟩
  rintro e w' ⟨s, H', M', ν', rfl, hh', hcs⟩
  rcases (show OpenR T sz es s H' M' ∨ (s = T (.v (.slice none 0 0)) ∧ es = []) ∨ OwnR T sz es s H' M' from hcs.elim (fun h => .inr (.inl h)) (fun h => h.elim (fun h => .inr (.inr h)) .inl)) with ⟨b, k, cap, sp, rfl, hk, h1, h2, h3⟩ | ⟨rfl, rfl⟩ | hO
  · obtain ⟨⟨b', T', e1, e2⟩, e3⟩ := hh'.holds _ (hget_mem hk)
    have e4 := e3 _ rfl
    simp only at e1 e4
    rw [e4] at e1
    cases e1
    rw [opn_vals] at e2
    refine ⟨T (.own 0), [(0, .row sz es)], M', fun _ => .slice (some ⟨b, 0, none⟩) es.length cap, by rw [hT (.v _) (.own 0) ν' (fun _ => .slice (some ⟨b, 0, none⟩) es.length cap) rfl], ⟨fun p hp => ?_, by simp [fp, blk?], fun c hc => ?_, hh'.mem, hh'.below, hh'.le0, hh'.fresh, fun _ => rfl⟩, 0, rfl, rfl⟩
    · simp only [List.mem_singleton] at hp
      subst hp
      exact ⟨hes, .inr ⟨b, cap, T', sp, rfl, h1, h2, h3, e2⟩⟩
    · simp only [fp, List.filterMap_cons, List.filterMap_nil, blk?, List.mem_singleton] at hc
      subst hc
      exact hh'.apart c (List.mem_filterMap.2 ⟨_, hget_mem hk, by rw [e4]; rfl⟩)
  · refine ⟨T (.own 0), [(0, .row sz [])], M', fun _ => .slice none 0 0, by rw [hT (.v _) (.own 0) ν' (fun _ => .slice none 0 0) rfl], ⟨fun p hp => ?_, by simp [fp, blk?], fun c hc => by simp [fp, blk?] at hc, hh'.mem, hh'.below, hh'.le0, hh'.fresh, fun _ => rfl⟩, 0, rfl, rfl⟩
    simp only [List.mem_singleton] at hp
    subst hp
    exact ⟨hes, .inl ⟨rfl, rfl⟩⟩
  · exact ⟨s, H', M', ν', rfl, hh', hO⟩
end
end Go.X

