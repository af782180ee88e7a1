/- The logic, seventh part: rows of the call's own whose cells are rows of the call's own. Conditions: none. -/
import Derived.Test.YtoohifeidifocaaMg4
set_option linter.unusedSimpArgs false
set_option linter.unusedVariables false
set_option maxHeartbeats 4000000
set_option maxRecDepth 20000
namespace Go.X
open Go Go.RowKit

def vv (es : List (List Value)) : List (List SV) := es.map (·.map .v)
theorem vals_v (ν : Nat → Value) : ∀ l : List Value, SV.vals ν (l.map .v) = l
  | [] => rfl
  | x :: l => by simp only [List.map_cons, SV.vals, SV.val, vals_v ν l]
theorem vv_vals (ν : Nat → Value) (es : List (List Value)) : (vv es).map (SV.vals ν) = es := by
  unfold vv
  rw [List.map_map]
  conv => rhs; rw [← List.map_id es]
  exact List.map_congr_left fun e _ => vals_v ν e
def tabOf : Option PO → Option (Nat × List (List SV))
  | some (.row sz es) => some (sz, vv es)
  | some (.tab sz es) => some (sz, es)
  | _ => none
/-- a part's cells -/
def tabP (sz : Nat) : Nat → List (Nat × SV) → List (List SV) × Prop
  | _, [] => ([], True)
  | j, (i, s) :: r => (cellsSV s :: (tabP sz (j + 1) r).1, ((i = j ∧ (cellsSV s).length = sz) ∧ oneS s = true ∧ ones (cellsSV s) = true) ∧ (tabP sz (j + 1) r).2)

section
variable {E : Env} {σ : Sig} {H : HS} {M : Mem} {a : Act} {w : World} {ν : Nat → Value} {K : KP} {o : Oper}

theorem Heap.view (hh : Heap E ν H M w) {k sz : Nat} {es : List (List SV)} (ht : tabOf (hget H k) = some (sz, es)) : (PO.row sz (es.map (SV.vals ν))).holds ν w (ν k) ∧ ∃ p, hget H k = some p := by
  cases hk : hget H k with
  | none => rw [hk] at ht; cases ht
  | some p =>
    rw [hk] at ht
    have hp := hh.holds _ (hget_mem hk)
    cases p with
    | box _ _ => cases ht
    | mp _ => cases ht
    | row sz' es' =>
      simp only [tabOf, Option.some.injEq, Prod.mk.injEq] at ht
      obtain ⟨rfl, rfl⟩ := ht
      rw [vv_vals]
      exact ⟨hp, _, rfl⟩
    | tab sz' es' =>
      simp only [tabOf, Option.some.injEq, Prod.mk.injEq] at ht
      obtain ⟨rfl, rfl⟩ := ht
      exact ⟨hp, _, rfl⟩
theorem Heap.single (hh : Heap E ν H M w) {k : Nat} {p q : PO} (hk : hget H k = some p) (hq : q.holds ν w (ν k)) : Heap E ν [(k, q)] M w := by
  have hf : fp ν [(k, q)] = fp ν [(k, p)] := rfl
  have hs : (fp ν [(k, p)]).Sublist (fp ν H) := by
    have : [(k, p)].Sublist H := List.singleton_sublist.2 (hget_mem hk)
    exact this.filterMap _
  refine ⟨fun r hr => ?_, ?_, fun b hb => ?_, hh.mem, hh.below, hh.le0, hh.fresh, hh.one⟩
  · simp only [List.mem_singleton] at hr
    subst hr
    exact hq
  · rw [hf]; exact hh.nodup.sublist hs
  · rw [hf] at hb; exact hh.apart b (hs.subset hb)

theorem tabP_spec {sz : Nat} {ν : Nat → Value} (h1 : ∀ k, (ν k).oneCell' = true) : ∀ {ps : List (Nat × SV)} {j : Nat}, (tabP sz j ps).2 →
    (ps.map fun p => (p.2.val ν).cells.toList) = (tabP sz j ps).1.map (SV.vals ν) ∧ (∀ i (p : Nat × SV), ps[i]? = some p → p.1 = j + i) ∧ ∀ e ∈ (tabP sz j ps).1.map (SV.vals ν), e.length = sz ∧ ∀ c ∈ e, c.oneCell' = true
  | [], j, _ => by simp [tabP]
  | (i, s) :: r, j, h => by
    simp only [tabP] at h ⊢
    obtain ⟨⟨⟨rfl, h2⟩, h3, h4⟩, h5⟩ := h
    obtain ⟨g1, g2, g3⟩ := tabP_spec h1 (ps := r) (j := i + 1) h5
    have hc := cells_of_one h3 ν (fun k => cells_one (h1 k))
    refine ⟨by simp only [List.map_cons, g1, hc, List.toList_toArray], fun k p hk => ?_, fun e he => ?_⟩
    · cases k with
      | zero => simp only [List.getElem?_cons_zero, Option.some.injEq] at hk; subst hk; rfl
      | succ k =>
        simp only [List.getElem?_cons_succ] at hk
        have := g2 k p hk
        omega
    · simp only [List.map_cons, List.mem_cons] at he
      rcases he with rfl | he
      · exact ⟨by rw [SV.vals_map, List.length_map]; exact h2, ones_mem h4 h1⟩
      · exact g3 e he

/-- a literal whose parts may be rows of the call's own -/
theorem OpK.bsTab {t n d e sz bt : Nat} {zs : List Value} {ps : Array (Nat × Operand)} {l : List (Nat × SV)} (ho : o.op = .buildSlice t n ps) (hd : o.dst = some d) (hsl : slT E.P t = some (e, sz, bt, zs)) (hp : partsO σ ps.toList = some (true, l))
    (hc : (decide (d < E.N) && decide (l.length = n) && decide (n * sz ≤ 16777216) && decide (n ≤ 16777216)) = true) (hrow : (tabP sz 0 l).2) (hn : (hNoKey d (hdel d H) && noKeyss d (tabP sz 0 l).1) = true)
    (hK : K ((d, true, .own (8 * d)) :: sigDrop d σ) ((8 * d, .tab sz (tabP sz 0 l).1) :: hdel d H) M) : OpK E o K σ H M := by
  simp only [Bool.and_eq_true, decide_eq_true_eq] at hc hn
  obtain ⟨⟨⟨hN, hlen⟩, hsm⟩, hsm2⟩ := hc
  obtain ⟨i, z, hu, hi, hz, rfl, rfl, rfl⟩ := slT_spec hsl
  refine opK_of fun ν a w hs hh => ?_
  obtain ⟨g1, g2, g3⟩ := tabP_spec hh.one hrow
  generalize htp : (tabP i.size 0 l).1 = T1 at *
  have e1 := partsO_spec hs hp rfl
  have hesl : (T1.map (SV.vals ν)).length = n := by rw [← g1, List.length_map, hlen]
  have hfl := flatten_len (fun e he => (g3 e he).1)
  have hfill : ∀ cs : Array Value, cs.size = n * i.size → Instr.fill (fun j => some (j * i.size, i.size)) cs (l.map fun p => (p.1, p.2.val ν)) = some ((T1.map (SV.vals ν)).flatten).toArray := by
    intro cs hcs
    have := fillRow (sz := i.size) (l.map fun p => (p.1, p.2.val ν)) (T1.map (SV.vals ν)) 0 [] cs.toList (by rw [List.map_map]; exact g1)
      (fun k p hk => by
        rw [List.getElem?_map, Option.map_eq_some_iff] at hk
        obtain ⟨q, hq, rfl⟩ := hk
        exact g2 k q hq) (fun e he => (g3 e he).1) (by simp) (by simp [hcs, hlen])
    simpa using this
  refine ⟨.slice (some ⟨w.heap.size, 0, none⟩) n n, w.alloc (.cells ((T1.map (SV.vals ν)).flatten).toArray e), ?_, _, _, _, ?_, hK⟩
  · simp only [execOp, ho, Sem.run_bind]
    have : (Instr.buildSlice t n (ps.map fun (x : Nat × Operand) => match x with | (i, x) => (i, a.eval x))).run E.P w = .ok (.slice (some ⟨w.heap.size, 0, none⟩) n n) (w.alloc (.cells ((T1.map (SV.vals ν)).flatten).toArray e)) := by
      by_cases h0 : n * i.size = 0
      · have hf := hfill (Array.map (fun x => default) (Array.range 0)) (by simp [h0])
        simp [Instr.buildSlice, run_underlying hu, sizeOf, typeInfo, zeroValue, hi, hz, h0, newRow, e1, hf]
      · have hf := hfill ((Array.range (n * i.size)).map (z.cells[· % z.cells.size]!)) (by simp)
        simp [Instr.buildSlice, run_underlying hu, sizeOf, typeInfo, zeroValue, hi, hz, h0, newRow, e1, hf, show ¬ 16777216 < n * i.size by omega]
    rw [this]
    rfl
  · rw [hd]
    refine Rep.fresh hs hh hN (hdel_sub d H) hn.1 (below_alloc w _) rfl (fun ν' hν' => ?_) (fun b hb => by simp only [blk?, Option.some.injEq] at hb; omega) (fun ν' h => h)
    rw [PO.tab_row, noKeyss_vals hν' hn.2]
    refine ⟨g3, .inr ⟨w.heap.size, n, e, [], by rw [hesl], by omega, by simp only [maxLen]; omega, by simp [hesl], ?_⟩⟩
    rw [List.append_nil]
    exact heap_alloc_at w _

/-- a store into a row whose cells may be rows of the call's own -/
theorem OpK.stTab {t k sz i off : Nat} {x y : Operand} {s : SV} {es : List (List SV)} (ho : o.op = .store t x y) (hdN : o.dst = none) (hz : szOk E.P t) (hx : opv σ x = some (true, .ptr k sz i off)) (hy : opv σ y = some (true, s)) (ht : hget H k = some (.tab sz es))
    (hc : (oneS s && ones (cellsSV s)) = true) (hL : layN (lay (shp E.P t)) = some (cellsSV s).length) (h2 : i < es.length) (h3 : off + (cellsSV s).length ≤ sz)
    (hK : K σ (hset k (.tab sz (es.set i (putAt (es.getD i []) off (cellsSV s)))) H) M) : OpK E o K σ H M := by
  simp only [Bool.and_eq_true] at hc
  rintro a w ⟨ν, hs, hh⟩
  have ex := hs.opv hx rfl
  have ey := hs.opv hy rfl
  have hcells : (s.val ν).cells.toList = SV.vals ν (cellsSV s) := by rw [cells_of_one hc.1 ν (fun k => cells_one (hh.one k))]
  have hvl : (SV.vals ν (cellsSV s)).length = (cellsSV s).length := by rw [SV.vals_map, List.length_map]
  have hcl : (s.val ν).cells.size = (cellsSV s).length := by rw [← hvl, ← hcells]; simp
  have h1 := ones_mem (ν := ν) hc.2 hh.one
  have hp := hh.holds _ (hget_mem ht)
  rw [PO.tab_row] at hp
  obtain ⟨g1, g2⟩ := hp
  have hml : (es.map (SV.vals ν)).length = es.length := List.length_map _
  rcases g2 with ⟨_, hnil⟩ | ⟨b, cap, T, sp, hν, g3, g4, g5, hb⟩
  · rw [List.map_eq_nil_iff] at hnil
    subst hnil
    simp at h2
  simp only at hν
  have hfl := flatten_len (fun e he => (g1 e he).1)
  obtain ⟨n, g, hl, hn⟩ : ∃ n g, lay (shp E.P t) = some (n, g) ∧ (cellsSV s).length = n := by
    cases hl : lay (shp E.P t) with
    | none => rw [hl] at hL; cases hL
    | some q => obtain ⟨n, g⟩ := q; rw [hl] at hL; simp only [layN, Option.some.injEq] at hL; exact ⟨n, g, rfl, hL.symm⟩
  obtain ⟨i0, hi0, hsz⟩ := lay_info hz ⟨n, g, hl⟩
  have hle : i * sz + sz ≤ (es.map (SV.vals ν)).length * sz := by
    have := Nat.mul_le_mul_right sz (show i + 1 ≤ (es.map (SV.vals ν)).length by omega)
    rw [Nat.add_mul, Nat.one_mul] at this
    exact this
  have hrun := run_storeVar_box (P := E.P) (t := t) (w := w) (v := s.val ν) (off := i * sz + off) ⟨i0, hi0⟩ (by rw [hsz n g hl, hcl, hn]) hb (by rw [hcl]; simp only [List.size_toArray, List.length_append, hfl]; omega) (by rw [hcells]; exact h1)
  rw [hcells, hcl, ← hvl] at hrun
  have hgd : (es.map (SV.vals ν)).getD i [] = SV.vals ν (es.getD i []) := by
    rw [List.getD_eq_getElem?_getD, List.getD_eq_getElem?_getD, List.getElem?_map, List.getElem?_eq_getElem h2]
    rfl
  have hgl : (es.getD i []).length = sz := by
    have : ((es.map (SV.vals ν)).getD i []).length = sz := by
      rw [List.getD_eq_getElem?_getD, List.getElem?_eq_getElem (show i < (es.map (SV.vals ν)).length by omega)]
      exact (g1 _ (List.getElem_mem _)).1
    rw [hgd, SV.vals_map, List.length_map] at this
    exact this
  have hputS : SV.vals ν (putAt (es.getD i []) off (cellsSV s)) = putV ((es.map (SV.vals ν)).getD i []) off (SV.vals ν (cellsSV s)) := by
    rw [hgd, putAt_take _ _ _ (by rw [hgl]; exact h3), putV, hvl]
    simp only [SV.vals_map, List.map_append, List.map_take, List.map_drop]
  have hmapset : (es.set i (putAt (es.getD i []) off (cellsSV s))).map (SV.vals ν) = (es.map (SV.vals ν)).set i (putV ((es.map (SV.vals ν)).getD i []) off (SV.vals ν (cellsSV s))) := by
    rw [List.map_set, hputS]
  have hset := flatten_set (sp := sp) (cs := SV.vals ν (cellsSV s)) (fun e he => (g1 e he).1) (show i < (es.map (SV.vals ν)).length by omega) (show off + (SV.vals ν (cellsSV s)).length ≤ sz by omega)
  rw [hset, ← hmapset] at hrun
  have hval : (SV.ptr k sz i off).val ν = .pointer (some ⟨b, i * sz + off, none⟩) := by simp [SV.val, hν, bOf]
  have hw' : (execOp a.eval o).run E.P w = .ok .skip (w.setRow b (((es.set i (putAt (es.getD i []) off (cellsSV s))).map (SV.vals ν)).flatten ++ sp).toArray) := by
    simp only [execOp, ho, ex, ey, hval, Instr.storeAt, Instr.sureAddr, Sem.run_bind, Sem.run_pure, Result.andThen_ok, hrun]
  unfold Oper.wp
  rw [hw']
  simp only [Oper.upon]
  rw [hdN]
  refine ⟨_, _, _, ⟨ν, hs, hh.upd ht (b := b) (by rw [hν]; rfl) (fun j hj => setRow_other w b _ hj) (by simp [World.setRow]) ⟨rfl, rfl, rfl⟩ (p := .tab sz (es.set i (putAt (es.getD i []) off (cellsSV s)))) ?_⟩, hK⟩
  rw [PO.tab_row]
  have hlen2 : ((es.set i (putAt (es.getD i []) off (cellsSV s))).map (SV.vals ν)).length = (es.map (SV.vals ν)).length := by simp
  refine ⟨fun e he => ?_, .inr ⟨b, cap, T, sp, by rw [hlen2]; exact hν, by rw [hlen2]; exact g3, g4, by rw [hlen2]; exact g5, setRow_at w b _ _ T _ hb⟩⟩
  rw [hmapset] at he
  rcases List.mem_or_eq_of_mem_set he with he | rfl
  · exact g1 e he
  · have hlen : ((es.map (SV.vals ν)).getD i []).length = sz ∧ ∀ c ∈ (es.map (SV.vals ν)).getD i [], c.oneCell' = true := by
      rw [List.getD_eq_getElem?_getD, List.getElem?_eq_getElem (show i < (es.map (SV.vals ν)).length by omega)]
      exact g1 _ (List.getElem_mem _)
    refine ⟨by simp only [putV, List.length_append, List.length_take, List.length_drop]; omega, fun c hc => ?_⟩
    simp only [putV, List.mem_append] at hc
    rcases hc with (hc | hc) | hc
    · exact hlen.2 c (List.mem_of_mem_take hc)
    · exact h1 c hc
    · exact hlen.2 c (List.mem_of_mem_drop hc)

/-- what is appended to a row, where a cell of either may be a row of the call's own -/
theorem OpK.appTab {s x : Operand} {t tx d e sz bt k k2 e2 sz2 : Nat} {g2 : Bool} {zs : List Value} {es es' : List (List SV)} (ho : o.op = .call ⟨.builtin .append, #[s, x], #[t, tx]⟩) (hd : o.dst = some d) (hsl : slT E.P t = some (e, sz, bt, zs)) (hsx : shp E.P tx = .slice e2 sz2 g2)
    (hs0 : opv σ s = some (true, .own k)) (hx0 : opv σ x = some (true, .own k2)) (hk : tabOf (hget H k) = some (sz, es)) (hk2 : tabOf (hget H k2) = some (sz, es'))
    (hN : (decide (d < E.N) && decide (bt ≤ 4096) && decide (zs.length = sz)) = true) (hb1 : es.length + es'.length ≤ 70368744177664) (hb2 : (es.length + es'.length) * bt ≤ 70368744177664)
    (hn : (hNoKey d (hdelk k (hdel d H)) && (noKeyss d es && noKeyss d es')) = true)
    (hK : K ((d, true, .own (8 * d)) :: sigDrop d σ) ((8 * d, .tab sz (es ++ es')) :: hdelk k (hdel d H)) M) : OpK E o K σ H M := by
  simp only [Bool.and_eq_true, decide_eq_true_eq] at hN hn
  obtain ⟨⟨hN, hbt⟩, hzl⟩ := hN
  obtain ⟨hn, hn1, hn2⟩ := hn
  obtain ⟨i, z, hu, hi, hz, hisz, rfl, rfl⟩ := slT_spec hsl
  refine opK_of fun ν a w hs hh => ?_
  have ex := hs.opv hx0 rfl
  have es0 := hs.opv hs0 rfl
  obtain ⟨hv1, p1, hp1⟩ := hh.view hk
  obtain ⟨hv2, p2, hp2⟩ := hh.view hk2
  obtain ⟨hS, hS1⟩ := src_spec (sz := sz) (tx := tx) (x := .own k2) (es := es'.map (SV.vals ν)) (C := sz = sz) (hh.single hp2 hv2) (by rw [hsx]; simp [srcOf, srcC, hget]) rfl
  have hl1 : (es.map (SV.vals ν)).length = es.length := List.length_map _
  have hl2 : (es'.map (SV.vals ν)).length = es'.length := List.length_map _
  have hres : ∀ ν' : Nat → Value, (∀ k, k / 8 ≠ d → ν' k = ν k) → (es ++ es').map (SV.vals ν') = es.map (SV.vals ν) ++ es'.map (SV.vals ν) := fun ν' hν' => by
    rw [List.map_append, noKeyss_vals hν' hn1, noKeyss_vals hν' hn2]
  generalize es.map (SV.vals ν) = F at *
  generalize es'.map (SV.vals ν) = F' at *
  rw [← hl1, ← hl2] at hb1 hb2
  have hfl' := flatten_len (fun e he => (hS1 e he).1)
  have hrun : ∀ v w', (Builtin.append_ #[t, tx] o.type #[(SV.own k).val ν, (SV.own k2).val ν]).run E.P w = .ok v w' → (execOp a.eval o).run E.P w = .ok (.value v) w' := by
    intro v w' hr
    simp [execOp, ho, resolve, invoke, builtin, es0, ex, hr]
  have hall : (∀ e ∈ F, e.length = sz ∧ ∀ c ∈ e, c.oneCell' = true) → ∀ e ∈ F ++ F', e.length = sz ∧ ∀ c ∈ e, c.oneCell' = true := by
    intro h2 e he
    rcases List.mem_append.1 he with he | he
    · exact h2 e he
    · exact hS1 e he
  have hsub : (hdelk k (hdel d H)).Sublist H := (hdelk_sub k _).trans (hdel_sub d H)
  have hgrow : ∀ (base : Option Addr) (cap : Nat), ν k = .slice base F.length cap → (∀ e ∈ F, e.length = sz ∧ ∀ c ∈ e, c.oneCell' = true) → (Builtin.firstCells i.size F.length (.slice base F.length cap)).run E.P w.drew = .ok F.flatten.toArray w.drew →
      cap < F.length + F'.length → ∃ n w', (execOp a.eval o).run E.P w = .ok (.value n) w' ∧ ∃ σ' H' M', Rep E σ' H' M' (a.put o.dst n) w' ∧ K σ' H' M' := by
    intro base cap hsv h1 hold hc
    have hfl := flatten_len (fun e he => (h1 e he).1)
    have hnc := nextslicecap_le hc
    have hr := run_append_grow_src (P := E.P) w t tx o.type e i z hu hi hz base F.length cap F.flatten hold ((SV.own k2).val ν) F'.length F'.flatten (by rw [hisz]; exact hS) hc (by omega)
      (Nat.le_trans (Nat.mul_le_mul_right i.bytes hnc) (by rw [Nat.mul_assoc]; omega))
    refine ⟨_, _, hrun _ _ (by simp only [SV.val, hsv]; exact hr), _, _, _, ?_, hK⟩
    rw [hd]
    have hzc : (Builtin.zeroCells z.cells (grownCap w (F.length + F'.length) cap e - (F.length + F'.length))).toList.length = (grownCap w (F.length + F'.length) cap e - (F.length + F'.length)) * sz := by
      simp only [Builtin.zeroCells, Array.toList_map, Array.toList_range, List.length_map, List.length_range, ← hzl, Array.length_toList]
    have hge := grownCap_ge w (F.length + F'.length) cap e
    have hle := grownCap_le_maxLen w (F.length + F'.length) cap e (by simp only [maxLen]; omega)
    refine Rep.fresh hs hh hN hsub hn ((Below.refl _ w).drew.alloc (Nat.le_refl _) _) rfl (fun ν' hν' => ?_) (fun b hb => by simp only [blk?, Option.some.injEq] at hb; omega) (fun ν' h => h)
    rw [PO.tab_row, hres ν' hν']
    refine ⟨hall h1, .inr ⟨w.heap.size, grownCap w (F.length + F'.length) cap e, e, (Builtin.zeroCells z.cells (grownCap w (F.length + F'.length) cap e - (F.length + F'.length))).toList, by rw [List.length_append], by rw [List.length_append]; exact hge, hle, by rw [List.length_append]; exact hzc, ?_⟩⟩
    have := heap_alloc_at w.drew (.cells ((F.flatten ++ F'.flatten).toArray ++ Builtin.zeroCells z.cells (grownCap w (F.length + F'.length) cap e - (F.length + F'.length))) e (0, 0))
    rw [show w.drew.heap.size = w.heap.size from rfl] at this
    rw [this]
    congr 2
    apply Array.ext'
    simp [List.flatten_append]
  obtain ⟨g1, g2⟩ := hv1
  have hfl := flatten_len (fun e he => (g1 e he).1)
  rcases g2 with ⟨hν, rfl⟩ | ⟨b, cap, T, sp, hν, g3, g4, g5, hb⟩
  · by_cases h0 : F'.length = 0
    · have h0' : F' = [] := List.length_eq_zero_iff.1 h0
      subst h0'
      have hst : (Builtin.append_ #[t, tx] o.type #[(SV.own k).val ν, (SV.own k2).val ν]).run E.P w = .ok (.slice none 0 0) w := by
        have h5 := hS.len
        have h6 := hS.cells
        simp only [List.length_nil] at h5 h6
        simp only [SV.val] at h5 h6
        simp only [SV.val, hν]
        rcases hS.kind with ⟨e', hk⟩ | hk <;> simp [Builtin.append_, run_underlying hu, run_underlying hk, sizeOf, typeInfo, hi, h5, hisz, h6]
      refine ⟨_, _, hrun _ _ hst, _, _, _, ?_, hK⟩
      rw [hd]
      refine Rep.fresh hs hh hN hsub hn (Below.refl _ _) rfl (fun ν' hν' => ?_) (fun b hb => by simp [blk?] at hb) (fun ν' h => h)
      rw [PO.tab_row, hres ν' hν']
      exact ⟨fun e he => by simp at he, .inl ⟨rfl, rfl⟩⟩
    · exact hgrow none 0 hν (fun e he => by simp at he) (run_firstCells_none w.drew i.size 0 0 0) (by simp; omega)
  · have hcellsOld : ∀ w'' : World, w''.heap = w.heap → ∀ j u, F.flatten[j]? = some u → w''.cell? ((⟨b, 0, none⟩ : Addr).add j) = some u := by
      intro w'' hw'' j u hj
      have hadd : (⟨b, 0, none⟩ : Addr).add j = ⟨b, j, none⟩ := by unfold Addr.add; split <;> simp_all
      rw [hadd, cell_of_row w'' b j _ T (0, 0) (by rw [hw'']; exact hb)]
      simp only [List.getElem?_toArray, List.getElem?_append]
      rw [if_pos (List.getElem?_eq_some_iff.1 hj).1, hj]
    by_cases hroom : F.length + F'.length ≤ cap
    · have hcap : F.length * sz + (cap - F.length) * sz = cap * sz := by rw [← Nat.add_mul]; congr 1; omega
      have hcap2 : (F.length + F'.length) * sz ≤ cap * sz := Nat.mul_le_mul_right _ hroom
      rw [Nat.add_mul] at hcap2
      have hst := run_storeCells_at E.P b (F.length * sz) T F'.flatten 0 _ w hb (by simp only [List.size_toArray, List.length_append, hfl, hfl', g5]; omega) (fun u hu => by obtain ⟨e, he, hc⟩ := List.mem_flatten.1 hu; exact (hS1 e he).2 u hc)
      simp only [Nat.add_zero] at hst
      have happ : (Builtin.append_ #[t, tx] o.type #[(SV.own k).val ν, (SV.own k2).val ν]).run E.P w = .ok (.slice (some ⟨b, 0, none⟩) (F.length + F'.length) cap)
          (w.setRow b (((F.flatten ++ sp).toArray.toList.take (F.length * sz) ++ F'.flatten ++ (F.flatten ++ sp).toArray.toList.drop (F.length * sz + F'.flatten.length)).toArray)) := by
        have h5 := hS.len
        have h6 := hS.cells
        simp only [SV.val] at h5 h6
        simp only [SV.val, hν]
        rcases hS.kind with ⟨e', hk⟩ | hk <;> simp [Builtin.append_, run_underlying hu, run_underlying hk, sizeOf, typeInfo, hi, h5, hroom, hisz, h6, Addr.add_lit, hst]
      have hcont : (F.flatten ++ sp).toArray.toList.take (F.length * sz) ++ F'.flatten ++ (F.flatten ++ sp).toArray.toList.drop (F.length * sz + F'.flatten.length) = (F ++ F').flatten ++ sp.drop F'.flatten.length := by
        rw [← hfl, List.flatten_append]
        generalize F.flatten = X1
        generalize F'.flatten = X2
        simp
      rw [hcont] at happ
      refine ⟨_, _, hrun _ _ happ, _, _, _, ?_, hK⟩
      rw [hd]
      have hkb : blk? (ν k) = some b := by rw [hν]; rfl
      obtain ⟨hMb, hBb⟩ := hh.apart b (List.mem_filterMap.2 ⟨(k, _), hget_mem hp1, hkb⟩)
      have hnf : b ∉ fp ν (hdelk k (hdel d H)) := fp_hdelk hh hp1 hkb d _ hsub (hdelk_ne k _)
      have h1 := (hh.sublist hsub).turn hnf hMb hBb (w' := w.setRow b (((F ++ F').flatten ++ sp.drop F'.flatten.length).toArray)) (fun j hj => setRow_other w b _ hj) (by simp [World.setRow]) ⟨rfl, rfl, rfl⟩
      let v : Value := .slice (some ⟨b, 0, none⟩) (F.length + F'.length) cap
      let ν' : Nat → Value := fun k => if k / 8 = d then v else ν k
      have hν' : ∀ k, k / 8 ≠ d → ν' k = ν k := fun k hk => by simp [ν', hk]
      have hν8 : ν' (8 * d) = v := by simp [ν', show (8 * d) / 8 = d by omega]
      refine ⟨ν', (hs.drop hν').put hN hν8.symm, h1.add hn hν' (fun k => ?_) ?_ (fun c hc => ?_)⟩
      · by_cases hk : k / 8 = d
        · simp [ν', hk, v, Value.oneCell']
        · simp only [ν', hk, if_false]; exact hh.one k
      · rw [hν8, PO.tab_row, hres ν' hν']
        refine ⟨hall g1, .inr ⟨b, cap, T, sp.drop F'.flatten.length, by rw [List.length_append], by rw [List.length_append]; exact hroom, g4, ?_, ?_⟩⟩
        · rw [List.length_drop, g5, hfl', List.length_append, ← Nat.sub_mul]
          congr 1
          omega
        · exact setRow_at w b _ _ T _ hb
      · rw [hν8] at hc
        simp only [v, blk?, Option.some.injEq] at hc
        subst hc
        exact ⟨hnf, hMb, hBb⟩
    · exact hgrow (some ⟨b, 0, none⟩) cap hν g1 (run_firstCells_some w.drew i.size F.length ⟨b, 0, none⟩ F.length cap F.flatten (by rw [hisz]; exact hfl) (hcellsOld w.drew rfl)) (by omega)

/-! ### other forms of the same memory -/
def HEnt (E : Env) (H : HS) (M : Mem) (H' : HS) : Prop := ∀ ν w, Heap E ν H M w → Heap E ν H' M w
theorem HEnt.refl : HEnt E H M H := fun _ _ h => h
theorem HEnt.trans {H' H'' : HS} (h : HEnt E H M H') (h' : HEnt E H' M H'') : HEnt E H M H'' := fun ν w x => h' ν w (h ν w x)
theorem OpK.heap {H' : HS} (h : HEnt E H M H') (hk : OpK E o K σ H' M) : OpK E o K σ H M := by
  rintro a w ⟨ν, hs, hh⟩
  exact hk a w ⟨ν, hs, h ν w hh⟩
theorem CallK.heap {f d : Nat} {l : List SV} {H' : HS} (h : HEnt E H M H') (hk : CallK E f l d K σ H' M) : CallK E f l d K σ H M := fun ν a w hs hh => hk ν a w hs (h ν w hh)
theorem LoopK.heap {live : List Nat} {body : Code} {Q : QP} {H' : HS} (h : HEnt E H M H') (hk : LoopK E live body Q σ H' M) : LoopK E live body Q σ H M := by
  rintro a w ⟨ν, hs, hh⟩
  exact hk a w ⟨ν, hs, h ν w hh⟩
theorem DrawK.heap {id : Nat} {ops : Array Oper} {H' : HS} (h : HEnt E H M H') (hk : DrawK E id ops K σ H' M) : DrawK E id ops K σ H M := by
  rintro a w ⟨ν, hs, hh⟩
  exact hk a w ⟨ν, hs, h ν w hh⟩
theorem Ent.heap {S : Sig × HS × Mem} {H' : HS} (h : HEnt E H M H') (hk : Ent E σ H' M S) : Ent E σ H M S := by
  rintro a w ⟨ν, hs, hh⟩
  exact hk a w ⟨ν, hs, h ν w hh⟩
/-- a row whose cells are all known, as such, and the other way round -/
theorem HEnt.set {k : Nat} {p q : PO} (hk : hget H k = some p) (h : ∀ ν w, p.holds ν w (ν k) → q.holds ν w (ν k)) : HEnt E H M (hset k q H) := by
  intro ν w hh
  refine ⟨fun r hr => ?_, by rw [hset_fp]; exact hh.nodup, fun b hb => hh.apart b (by rw [hset_fp] at hb; exact hb), hh.mem, hh.below, hh.le0, hh.fresh, hh.one⟩
  rcases hset_mem hr with rfl | hr
  · exact h ν w (hh.holds _ (hget_mem hk))
  · exact hh.holds _ hr
theorem HEnt.rowTab {k sz : Nat} {es : List (List Value)} (hk : hget H k = some (.row sz es)) : HEnt E H M (hset k (.tab sz (vv es)) H) :=
  HEnt.set hk fun ν w h => by rw [PO.tab_row, vv_vals]; exact h
theorem HEnt.tabRow {k sz : Nat} {es : List (List Value)} (hk : hget H k = some (.tab sz (vv es))) : HEnt E H M (hset k (.row sz es) H) :=
  HEnt.set hk fun ν w h => by rw [PO.tab_row, vv_vals] at h; exact h
theorem HEnt.sub {H' : HS} (h : H'.Sublist H) : HEnt E H M H' := fun _ _ hh => hh.sublist h
end
theorem vv_cons (e : List Value) (es : List (List Value)) : vv (e :: es) = e.map .v :: vv es := rfl
theorem vv_app (es es' : List (List Value)) : vv (es ++ es') = vv es ++ vv es' := List.map_append
theorem vv_len (es : List (List Value)) : (vv es).length = es.length := List.length_map _
theorem noKeys_v (d : Nat) : ∀ l : List Value, SV.noKeys d (l.map .v) = true
  | [] => rfl
  | x :: l => by simp only [List.map_cons, SV.noKeys, SV.noKey, noKeys_v d l, Bool.and_self]
theorem noKeyss_vv (d : Nat) : ∀ es : List (List Value), noKeyss d (vv es) = true
  | [] => rfl
  | e :: r => by rw [vv_cons, noKeyss, noKeys_v, noKeyss_vv d r]; rfl
theorem noKeyss_app (d : Nat) : ∀ es es' : List (List SV), noKeyss d (es ++ es') = (noKeyss d es && noKeyss d es')
  | [], es' => by simp [noKeyss]
  | e :: r, es' => by rw [List.cons_append, noKeyss, noKeyss, noKeyss_app d r es', Bool.and_assoc]
theorem pubs_v (k : Nat) (v : Value) : ∀ l : List Value, SV.pubs k v (l.map .v) = l.map .v
  | [] => rfl
  | x :: l => by simp only [List.map_cons, SV.pubs, SV.pub, pubs_v k v l]
theorem pubss_vv (k : Nat) (v : Value) : ∀ es : List (List Value), pubss k v (vv es) = vv es
  | [] => rfl
  | e :: r => by rw [vv_cons, pubss, pubs_v, pubss_vv k v r]
theorem pubss_app (k : Nat) (v : Value) : ∀ es es' : List (List SV), pubss k v (es ++ es') = pubss k v es ++ pubss k v es'
  | [], _ => rfl
  | e :: r, es' => by rw [List.cons_append, pubss, pubss, pubss_app k v r es', List.cons_append]
theorem tieH_mp (xs : Nat → Value) (k : Nat) (es : List (Value × Value)) (H : HS) : tieH xs ((k, .mp es) :: H) = (k, .mp es) :: tieH xs H := rfl
theorem pickH_mp (sel : List Nat) (k : Nat) (es : List (Value × Value)) (H : HS) : pickH sel ((k, .mp es) :: H) = pickH sel H := rfl
theorem tieH_tab (xs : Nat → Value) (k sz : Nat) (es : List (List SV)) (H : HS) : tieH xs ((k, .tab sz es) :: H) = (k, .tab sz es) :: tieH xs H := rfl
theorem pickH_tab (sel : List Nat) (k sz : Nat) (es : List (List SV)) (H : HS) : pickH sel ((k, .tab sz es) :: H) = pickH sel H := rfl
theorem st1 : type_of% (And.intro (And.intro (And.intro (And.intro @tieH_tab @tieH_mp) (And.intro @pickH_mp @pickH_tab)) (And.intro (And.intro @tabOf.eq_1 @tabOf.eq_2) (And.intro @tabP.eq_1 @tabP.eq_2))) (And.intro (And.intro (And.intro @vv_len @noKeyss_vv) (And.intro @noKeyss_app @pubss_vv)) @pubss_app)) :=
  And.intro (And.intro (And.intro (And.intro @tieH_tab @tieH_mp) (And.intro @pickH_mp @pickH_tab)) (And.intro (And.intro @tabOf.eq_1 @tabOf.eq_2) (And.intro @tabP.eq_1 @tabP.eq_2))) (And.intro (And.intro (And.intro @vv_len @noKeyss_vv) (And.intro @noKeyss_app @pubss_vv)) @pubss_app)
end Go.X

