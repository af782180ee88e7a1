/- lz.Parse: the loop over the iterator. Conditions: none. -/
import Derived.Test.YtbnbimncladflaaDoorLzI
set_option linter.unusedSimpArgs false
set_option linter.unusedVariables false
set_option maxHeartbeats 4000000
set_option maxRecDepth 20000
namespace Go.Proofs
open Go.RowKit Go.Shelf
attribute [local go_sem] Oper.semAt_some
def flatTk (l : List X.Lz.Tk) : List Value := (l.map X.Lz.encT).flatten
theorem flatTk_app (l : List X.Lz.Tk) (x : X.Lz.Tk) : flatTk (l ++ [x]) = flatTk l ++ [.int .i64 x.1, .int .i64 x.2.1, .int .i64 x.2.2] := by
  simp [flatTk, X.Lz.encT]
theorem Tryd.infoTk : (Tryd.prog.info? 38).map (fun i => (i.zero, i.size, i.bytes)) = some (some (.agg #[.int .i64 0, .int .i64 0, .int .i64 0]), 3, 24) := by kernel_rfl
theorem cells_new (W : World) (l : List Value) (t : TypeId) : ∀ j u, l[j]? = some u → (W.alloc (.cells l.toArray t)).cell? ((⟨W.heap.size, 0, none⟩ : Addr).add j) = some u := fun j u h => by
  have hn := World.alloc_heap_new W (.cells l.toArray t)
  rw [Addr.add_lit]
  simp only [World.cell?, Nat.zero_add]
  rw [hn]
  simpa using h
set_option maxRecDepth 100000 in
set_option maxHeartbeats 4000000 in
theorem Tryd.Parse_in (n : Nat) (hn : 5 ≤ n) (s : List UInt8) (win : Nat) (hs : s.length ≤ 600) (hw : 1 ≤ win) (hw2 : win ≤ 256) (w : World) :
    CallsIn Fence.wide n Tryd.prog 16 #[.string ⟨s.toArray⟩, .int .i64 win] w fun e W' => ∃ v, e = .returned (.tuple #[v, .int .i64 0]) ∧
      W'.ownsRow w.heap.size 38 3 v (X.Lz.parse s win s.length 0).length (flatTk (X.Lz.parse s win s.length 0)) ∧ Below w.heap.size w W' := by
  have h1 : 1 ≤ n := by omega
  obtain ⟨i0, hi, hz0, hz1, hz2⟩ := info_parts Tryd.infoTk
  have hC := fun w => X.Lz.lgC s 0 win w hs (Nat.zero_le _) hw hw2
  simp only [Int.natCast_zero] at hC
  refine callsIn_of_wp_marks Tryd.func16 rfl trivial ?_ rfl
  simp only [Tryd.ntmps16, List.size_toArray, List.length_cons, List.length_nil, Nat.reduceAdd, Nat.reduceSub, Array.replicate_succ, Array.replicate_zero, List.push_toArray, List.append_toArray, List.nil_append, List.cons_append]
  gi_wp2_with (first
    | (refine ⟨trivial, ?_⟩; gi_at_call 30; refine (callsIn_wide.2 (hC _)).mono ?_; rintro e w1 ⟨rfl, hb1⟩)
    | (refine ⟨trivial, ?_⟩; gi_at_call 31; refine (Tryd.each_in _ s win _).mono ?_; rintro e w' ⟨rfl, rfl⟩))
  obtain ⟨W0, hW0⟩ : ∃ W0, (((w1.alloc (.cells #[.slice none 0 0] 28)).alloc (.cells #[.string ⟨s.toArray⟩] 9)).alloc (.cells #[.int .i64 win] 3)) = W0 := ⟨_, rfl⟩
  have bO := ((Boxed.new w1 28 (.slice none 0 0)).alloc (.cells #[.string ⟨s.toArray⟩] 9)).alloc (.cells #[.int .i64 win] 3)
  have bS := (Boxed.new (w1.alloc (.cells #[.slice none 0 0] 28)) 9 (.string ⟨s.toArray⟩)).alloc (.cells #[.int .i64 win] 3)
  have bW := Boxed.new ((w1.alloc (.cells #[.slice none 0 0] 28)).alloc (.cells #[.string ⟨s.toArray⟩] 9)) 3 (.int .i64 win)
  simp only [World.size_alloc] at bS bW
  have hsz : W0.heap.size = w1.heap.size + 3 := by rw [← hW0]; simp
  have hB0 : Below w.heap.size w W0 := by
    rw [← hW0]
    exact (hb1.alloc hb1.size _).alloc (by have := hb1.size; simp; omega) _ |>.alloc (by have := hb1.size; simp; omega) _
  have hle := hb1.size
  rw [hW0] at bO bS bW ⊢
  clear hW0
  refine wpIn_rangeFunc_ownH rfl h1 (gf := 47) (lb := #[.pointer (some ⟨w1.heap.size + 1, 0, none⟩), .pointer (some ⟨w1.heap.size + 1 + 1, 0, none⟩)]) rfl trivial (enters_of Tryd.func47 (by kernel_rfl) rfl)
    (Tryd.each_stops (n - 1) (by omega) (w1.heap.size + 1) (w1.heap.size + 1 + 1) w.heap.size s win hs hw hw2 W0 (by omega) bS.cell bW.cell) (fun h k => h.trans k)
    (fun W l o o' hl hlo hc hk => ⟨belowK_b (w := W0) (by omega) W l o o' hl hlo hc hk, World.putObj_heap_other (by omega), World.putObj_heap_other (by omega)⟩) (Below.refl _ _) (fun _ => rfl)
    (fun pre W => (((∃ v, Boxed W w1.heap.size 28 v ∧ W.ownsRow w.heap.size 38 3 v pre.length (flatTk pre) ∧ True) ∧ Boxed W (w1.heap.size + 1) 9 (.string ⟨s.toArray⟩)) ∧ Boxed W (w1.heap.size + 1 + 1) 3 (.int .i64 win)) ∧ Below w.heap.size w W)
    (fun _ _ _ => False)
    (OwnFrom.and (OwnFrom.and (OwnFrom.and (Own.from (holdsRow_own w.heap.size w1.heap.size 28 38 3 (fun pre => pre.length) (fun pre => flatTk pre) (fun _ _ => True)) _) (Own.from (boxed_own _ _ _) _)) (Own.from (boxed_own _ _ _) _)) (ownFrom_below (Nat.le_refl _) (by omega)))
    (fun _ _ _ _ _ hs _ _ => hs)
    ⟨⟨⟨⟨_, bO, World.ownsRow_nil _ _ _ _, trivial⟩, bS⟩, bW⟩, hB0⟩
    (fun x a' W => ∃ Bx, w1.heap.size + 1 + 1 < Bx ∧ W.heap[Bx]? = some (.cells #[.int .i64 x.1, .int .i64 x.2.1, .int .i64 x.2.2] 38 (0, 0)) ∧ a' = { tmps := #[.string ⟨s.toArray⟩, .int .i64 win, undef, undef, .slice none 0 0, .int .i64 0, .int .i64 ((X.Lz.lgA s win 0).1 : Nat), .int .i64 ((X.Lz.lgA s win 0).2 : Nat), .int .i64 0, .pointer (some ⟨w1.heap.size, 0, none⟩), .pointer (some ⟨Bx, 0, none⟩), .tuple #[.int .i64 ((X.Lz.lgA s win 0).1 : Nat), .int .i64 ((X.Lz.lgA s win 0).2 : Nat), .int .i64 0], .string ⟨s.toArray⟩, .int .i64 win, .tuple #[.int .i64 ((X.Lz.lgA s win 0).1 : Nat), .int .i64 ((X.Lz.lgA s win 0).2 : Nat), .int .i64 0], .int .i64 ((X.Lz.lgA s win 0).1 : Nat), .int .i64 ((X.Lz.lgA s win 0).2 : Nat), .int .i64 0, .int .i64 0, .bool false, undef, .string ⟨s.toArray⟩, .int .i64 win, .func (.func 47) #[] #[.pointer (some ⟨w1.heap.size + 1, 0, none⟩), .pointer (some ⟨w1.heap.size + 1 + 1, 0, none⟩)], .agg #[.int .i64 x.1, .int .i64 x.2.1, .int .i64 x.2.2], undef, undef, undef, undef, undef], defers := [] })
    (fun x a' _ X Y row hs hg hr => by
      obtain ⟨Bx, h1, h2, h3⟩ := hs
      refine ⟨Bx, h1, (hg.block Bx (Array.getElem?_eq_some_iff.1 h2).1 (fun e => ?_)).trans h2, h3⟩
      obtain ⟨_, o, ho, hc⟩ := hr Bx e.symm
      rw [h2] at ho
      cases ho
      cases hc)
    ?assign ?body ?done ?stop
  case assign =>
    rintro l pre x W K ⟨⟨⟨⟨v, hv, hrow, _⟩, bS1⟩, bW1⟩, hB1⟩ hK
    gi_wp2
    exact hK _ _ ((KeepsOthers.alloc _ _).from _) (KpZ.of ((Below.refl _ W).alloc (Nat.le_refl _) _) hB1.size bS1.lt bW1.lt) ⟨⟨⟨⟨v, hv.alloc _, hrow.alloc _, trivial⟩, bS1.alloc _⟩, bW1.alloc _⟩, hB1.alloc hB1.size _⟩ ⟨W.heap.size, bW1.lt, World.alloc_heap_new W _, rfl⟩
  case body =>
    rintro l pre x a' W hl ⟨r, hr⟩ ⟨⟨⟨⟨v, hv, hrow, _⟩, bS1⟩, bW1⟩, hB1⟩ ⟨Bx, hBx, hX, rfl⟩ hlt
    have hc := hv.cell
    have c0 : W.cell? ⟨Bx, 0, none⟩ = some (.int .i64 x.1) := by simp [World.cell?, hX]
    have c1 : W.cell? ⟨Bx, 1, none⟩ = some (.int .i64 x.2.1) := by simp [World.cell?, hX]
    have c2 : W.cell? ⟨Bx, 2, none⟩ = some (.int .i64 x.2.2) := by simp [World.cell?, hX]
    have hlW := hB1.size
    gi_wp2_with (gi_at_builtin; refine wpListIn_append_own _ rfl _ _ 28 rfl w.heap.size 38 i0 _ 3 24 Tryd.underlying28 hi hz0 hz1 hz2 rfl (by decide) _ _ _ rfl (hrow.alloc _) ⟨W.heap.size, 0, none⟩ 1 1 [.int .i64 x.1, .int .i64 x.2.1, .int .i64 x.2.2] rfl rfl (cells_new W _ _) (by simp [Value.oneCell']) (by simp only [maxLen]; omega) (by omega) (by simp; omega) ?_; intro v' w2 hown' hgrow _; obtain ⟨g', cap', rfl⟩ := ownsRow_succ hown'; obtain ⟨hv1, hv2, hr2, hk2, hb2⟩ := hv.appended (by decide) hrow hlW hle hown' hgrow; have hc1 := hv1.cell; have hf1 := hv1.frozen; have bS3 := ((bS1.alloc _).kept hgrow (bS1.not_row (by decide) hrow)).other (B' := w1.heap.size) (by omega) (.slice (some ⟨g', 0, none⟩) (pre.length + 1) cap'); have bW3 := ((bW1.alloc _).kept hgrow (bW1.not_row (by decide) hrow)).other (B' := w1.heap.size) (by omega) (.slice (some ⟨g', 0, none⟩) (pre.length + 1) cap'))
    exact ⟨hk2.from _, ⟨hb2, (show _ = _ from bS3).trans (show _ = _ from bS1).symm, (show _ = _ from bW3).trans (show _ = _ from bW1).symm⟩, ⟨⟨⟨_, hv2, by rw [flatTk_app, List.length_append]; exact hr2, trivial⟩, bS3⟩, bW3⟩, hB1.trans hb2⟩
  case done =>
    rintro D ys W hD rfl ⟨⟨⟨⟨v, hv, hrow, _⟩, bS1⟩, bW1⟩, hB1⟩ hK
    have hc := hv.cell
    gi_wp2
    refine ⟨by simp, .inl ⟨_, _, rfl, run_takeDeferred hK, ?_⟩⟩
    exact ⟨_, results_tmp2 rfl _ _ _, v, rfl, ownsRow_putObj hrow _ hK rfl, hB1.trans (belowK_b (w := W0) (by omega) W D _ _ hD hK rfl rfl)⟩
  case stop =>
    rintro D c pre W _ _ h _
    exact h.elim
end Go.Proofs
namespace Go.X.Lz
open Go Go.X Go.RowKit Go.X.Lm
/-- what the kit's walk shows of a row, as a contract of this logic -/
theorem Meets.ofRow {P : Program} {f : FuncId} {args : List SV} {M : Mem} {e sz : Nat} {es : List (List Value)} {T : SV → SV} (hT : Ctx T) (hc : callable P f) (hes : ∀ e ∈ es, e.length = sz ∧ ∀ c ∈ e, c.oneCell' = true)
    (h : ∀ w, Calls P f (SV.vals ν0 args).toArray w fun r w' => ∃ v, r = .returned ((T (.v v)).val ν0) ∧ w'.ownsRow w.heap.size e sz v es.length es.flatten ∧ Below w.heap.size w w') : Meets P f args M (OwnR T sz es) := by
  refine ⟨hc, fun w hw => (h w).mono ?_⟩
  rintro r w' ⟨v, rfl, ⟨hl, ho⟩, hb⟩
  have hMw : M.on w' := fun b o hbo => by
    have h1 := hw b o hbo
    rw [hb.block b (Array.getElem?_eq_some_iff.1 h1).1]
    exact h1
  have hone : v.oneCell' = true := by
    rcases ho with ⟨rfl, _⟩ | ⟨g, cap, cur, rfl, _⟩ <;> rfl
  refine ⟨T (.own 0), [(0, .row sz es)], M, fun _ => v, by rw [hT (.v v) (.own 0) ν0 (fun _ => v) rfl], ⟨fun p hp => ?_, ?_, fun c hc => ?_, hMw, hb, Mem.le.refl _, fun b hb => .inl hb, fun _ => hone⟩, 0, rfl, rfl⟩
  · simp only [List.mem_singleton] at hp
    subst hp
    refine ⟨hes, ?_⟩
    rcases ho with ⟨rfl, h0⟩ | ⟨g, cap, cur, rfl, _, hg, hle, hm, hcs, ht⟩
    · exact .inl ⟨rfl, List.eq_nil_of_length_eq_zero h0⟩
    · refine .inr ⟨g, cap, e, cur.toList.drop (es.length * sz), rfl, hle, hm, ?_, ?_⟩
      · rw [List.length_drop, Array.length_toList, hcs, ← Nat.mul_sub_right_distrib]
      · rw [← ht, List.take_append_drop, Array.toArray_toList]
        exact hg
  · simp only [fp, List.filterMap_cons, List.filterMap_nil]
    cases blk? v <;> simp
  · simp only [fp, List.filterMap_cons, List.filterMap_nil] at hc
    rcases ho with ⟨rfl, h0⟩ | ⟨g, cap, cur, rfl, hg0, hg, _⟩
    · simp [blk?] at hc
    · simp only [blk?, List.mem_singleton] at hc
      subst hc
      refine ⟨?_, hg0⟩
      cases hM : M c with
      | none => rfl
      | some o =>
        have := (Array.getElem?_eq_some_iff.1 (hw c o hM)).1
        omega
theorem lzparse (s : List UInt8) (win : Nat) (M : Mem) (hs : s.length ≤ 600) (hw : 1 ≤ win) (hw2 : win ≤ 256) :
    Meets Proofs.Tryd.prog 16 [.v (.string ⟨s.toArray⟩), .v (.int .i64 win)] M (OwnR (fun t => .tup [t, .v (.int .i64 0)]) 3 ((parse s win s.length 0).map encT)) := by
  refine Meets.ofRow (e := 38) (Ctx.fst _) ⟨_, Proofs.Tryd.func16, by kernel_rfl, by kernel_rfl⟩ (fun e he => ?_) fun w => ?_
  · obtain ⟨x, _, rfl⟩ := List.mem_map.1 he
    exact ⟨rfl, fun c hc => by simp [encT] at hc; rcases hc with rfl | rfl | rfl <;> rfl⟩
  · refine (callsIn_wide.1 (Proofs.Tryd.Parse_in 9 (by omega) s win hs hw hw2 w)).mono ?_
    rintro r w' ⟨v, rfl, h1, h2⟩
    exact ⟨v, by simp [SV.val, SV.vals], by rw [List.length_map]; exact h1, h2⟩
end Go.X.Lz
