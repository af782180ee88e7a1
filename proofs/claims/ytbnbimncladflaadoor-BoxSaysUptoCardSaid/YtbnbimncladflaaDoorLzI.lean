/- lz.each, lz.each$1: what the iterator hands to its loop. Conditions: none. -/
import Derived.Test.YtbnbimncladflaaDoorMatchL
import Derived.Test.YtbnbimncladflaaDoorLzE
import Derived.RangeFuncNested
import Derived.RangeFuncBound
import Derived.RangeFuncCalls
import Derived.RangeFuncLeaves
import Derived.Shelf.Abstract
import Derived.Shelf.RegionOpen
import Derived.WalkKit
import Derived.OwnWalkIn
import Derived.TacticsInMore
import Derived.LoopNIn
import Derived.LoopIn
import Derived.Maps.AppendAt
set_option linter.unusedSimpArgs false
set_option linter.unusedVariables false
set_option maxHeartbeats 4000000
set_option maxRecDepth 20000
namespace Go.X.Lz
open Go Go.X Go.RowKit Go.X.Lm

def lgA (s : List UInt8) (win i : Nat) : Nat × Nat := lg s i (min win i) 1 0 0
def tok (s : List UInt8) (win i : Nat) : Tk := if (lgA s win i).2 < 2 then (0, 0, ((s.getD i 0).toNat : Int)) else ((lgA s win i).1, (lgA s win i).2, 0)
def adv (s : List UInt8) (win i : Nat) : Nat := if (lgA s win i).2 < 2 then 1 else (lgA s win i).2
def parse (s : List UInt8) (win : Nat) : Nat → Nat → List Tk
  | 0, _ => []
  | f + 1, i => if i < s.length then tok s win i :: parse s win f (i + adv s win i) else []
theorem adv_pos (s : List UInt8) (win i : Nat) : 1 ≤ adv s win i := by
  unfold adv; split <;> omega
theorem parse_fuel (s : List UInt8) (win : Nat) : ∀ (f g i : Nat), s.length - i ≤ f → s.length - i ≤ g → parse s win f i = parse s win g i
  | 0, 0, i, _, _ => rfl
  | 0, g + 1, i, h, _ => by
    rw [parse, parse, if_neg (by omega)]
  | f + 1, 0, i, _, h => by
    rw [parse, parse, if_neg (by omega)]
  | f + 1, g + 1, i, h1, h2 => by
    rw [parse, parse]
    have := adv_pos s win i
    split
    · rw [parse_fuel s win f g _ (by omega) (by omega)]
    · rfl
theorem parse_len (s : List UInt8) (win : Nat) : ∀ (f i : Nat), (parse s win f i).length ≤ f
  | 0, i => Nat.le_refl _
  | f + 1, i => by
    rw [parse]
    split
    · rw [List.length_cons]; have := parse_len s win f (i + adv s win i); omega
    · simp
theorem parse_end (s : List UInt8) (win : Nat) : ∀ f, parse s win f s.length = []
  | 0 => rfl
  | f + 1 => by rw [parse, if_neg (Nat.lt_irrefl _)]
theorem wrapSum {i m n : Nat} (h : i + m ≤ n) (hn : n ≤ 600) : wrap64 ((i : Int) + m) = (i : Int) + m := IntWalk.wrap64_in _ ⟨by omega, by omega⟩
theorem sumNat (i m : Nat) : ((i : Int) + m).toNat = i + m := by omega
theorem parse_step (s : List UInt8) (win i : Nat) (h : i < s.length) : parse s win s.length i = tok s win i :: parse s win s.length (i + adv s win i) := by
  have h1 := parse_fuel s win s.length (s.length - 1 + 1) i (by omega) (by omega)
  have h2 := parse_fuel s win (s.length - 1) s.length (i + adv s win i) (by have := adv_pos s win i; omega) (by omega)
  rw [h1, parse, if_pos h, h2]
theorem lgA_le (s : List UInt8) (win i : Nat) (hi : i ≤ s.length) : i + (lgA s win i).2 ≤ s.length := by
  unfold lgA
  rcases lg_spec s i (min win i) 1 0 0 with ⟨h1, _⟩ | ⟨D, m, h1, _, _, h4, _⟩
  · rw [h1]; exact hi
  · rw [h1]
    have := ext_le s i D 64 0 (by omega)
    simp only at *
    omega
theorem lgC (s : List UInt8) (i win : Nat) (w : World) (hs : s.length ≤ 600) (hi2 : i ≤ s.length) (hw : 1 ≤ win) (hw2 : win ≤ 256) :
    Calls Proofs.Tryd.prog 30 #[.string ⟨s.toArray⟩, .int .i64 i, .int .i64 win] w fun e w' => e = .returned (.tuple #[.int .i64 ((lgA s win i).1 : Nat), .int .i64 ((lgA s win i).2 : Nat), .int .i64 0]) ∧ Below w.heap.size w w' := by
  refine ((longest s i win (fun b => w.heap[b]?) hs hi2 hw hw2).2 w (fun _ _ e => e)).mono ?_
  rintro e w' ⟨r, H', M', ν, rfl, hh, rfl⟩
  exact ⟨by simp [SV.val, SV.vals, lgA], hh.below⟩
end Go.X.Lz
namespace Go.Proofs
open Go.RowKit Go.Shelf
attribute [local go_sem] Oper.semAt_some
theorem cellAl {W : World} {a : Addr} {v : Value} (o : Obj) (h : W.cell? a = some v) : (W.alloc o).cell? a = some v := cell_kept h (World.grownBy_alloc W o none) (fun r e => by cases e)
theorem below_grownBy {w w' : World} (h : Below w.heap.size w w') : w.grownBy w' none := ⟨h.os, h.tape, h.output, h.size, fun k hk _ => h.block k hk⟩
/-- what a round keeps: what lay below n₀, and two boxes -/
def KpZ (n₀ Bs Bw : Nat) (A B : World) : Prop := Below n₀ A B ∧ B.heap[Bs]? = A.heap[Bs]? ∧ B.heap[Bw]? = A.heap[Bw]?
theorem KpZ.refl (n₀ Bs Bw : Nat) (A : World) : KpZ n₀ Bs Bw A A := ⟨Below.refl _ _, rfl, rfl⟩
theorem KpZ.trans {n₀ Bs Bw : Nat} {A B C : World} (h : KpZ n₀ Bs Bw A B) (k : KpZ n₀ Bs Bw B C) : KpZ n₀ Bs Bw A C := ⟨h.1.trans k.1, k.2.1.trans h.2.1, k.2.2.trans h.2.2⟩
theorem KpZ.of {n₀ Bs Bw : Nat} {A B : World} (h : Below A.heap.size A B) (hn : n₀ ≤ A.heap.size) (hs : Bs < A.heap.size) (hw : Bw < A.heap.size) : KpZ n₀ Bs Bw A B := ⟨h.mono hn, h.block _ hs, h.block _ hw⟩
theorem KpZ.cs {n₀ Bs Bw : Nat} {A B : World} {v : Option Value} (h : KpZ n₀ Bs Bw A B) (hc : A.cell? ⟨Bs, 0, none⟩ = v) : B.cell? ⟨Bs, 0, none⟩ = v := by
  rw [← hc]
  unfold World.cell?
  rw [h.2.1]
theorem KpZ.cw {n₀ Bs Bw : Nat} {A B : World} {v : Option Value} (h : KpZ n₀ Bs Bw A B) (hc : A.cell? ⟨Bw, 0, none⟩ = v) : B.cell? ⟨Bw, 0, none⟩ = v := by
  rw [← hc]
  unfold World.cell?
  rw [h.2.2]
theorem cell_lt {A : World} {b : Nat} {v : Value} (h : A.cell? ⟨b, 0, none⟩ = some v) : b < A.heap.size := by
  rcases Nat.lt_or_ge b A.heap.size with h1 | h1
  · exact h1
  · unfold World.cell? at h
    rw [Array.getElem?_eq_none h1] at h
    cases h
set_option maxRecDepth 100000 in
set_option maxHeartbeats 2000000 in
theorem Tryd.each1_in (n : Nat) (hn : 2 ≤ n) (l Bs Bw n₀ : Nat) (s : List UInt8) (win : Nat) (hs : s.length ≤ 600) (hw : 1 ≤ win) (hw2 : win ≤ 256) (J Jx : List X.Lz.Tk → World → Prop)
    (W : World) (hn₀ : n₀ ≤ W.heap.size) (hJ : AbidesFrom W.heap.size J)
    (hY : ∀ pre x W1, J pre W1 → pre.length < s.length → YieldAt Fence.wide (n - 1) Tryd.prog l #[.agg #[.int .i64 x.1, .int .i64 x.2.1, .int .i64 x.2.2]] W1 fun e W' =>
      (e = .returned (.bool true) ∧ J (pre ++ [x]) W' ∧ KpZ n₀ Bs Bw W1 W') ∨ (e = .returned (.bool false) ∧ Jx (pre ++ [x]) W'))
    (hcs : W.cell? ⟨Bs, 0, none⟩ = some (.string ⟨s.toArray⟩)) (hcw : W.cell? ⟨Bw, 0, none⟩ = some (.int .i64 win)) (h0 : J [] W) :
    CallsIn Fence.wide n Tryd.prog 47 #[.func (.yield l) #[] #[], .pointer (some ⟨Bs, 0, none⟩), .pointer (some ⟨Bw, 0, none⟩)] W fun e W' => (∃ v, e = .returned v) ∧
      ((∃ ys, ys = X.Lz.parse s win s.length 0 ∧ J ys W') ∨ (∃ pre, pre <+: X.Lz.parse s win s.length 0 ∧ Jx pre W')) := by
  refine callsIn_of_wp Tryd.func47 rfl trivial ?_ rfl
  simp only [Tryd.ntmps47, List.size_toArray, List.length_cons, List.length_nil, Nat.reduceAdd, Nat.reduceSub, Array.replicate_succ, Array.replicate_zero, List.push_toArray, List.append_toArray, List.nil_append, List.cons_append]
  gi_wp2
  gi_loopw [4] (fun p wr => ∃ (pre : List X.Lz.Tk) (i : Nat), p = .int .i64 i ∧ i ≤ s.length ∧ pre.length ≤ i ∧ X.Lz.parse s win s.length 0 = pre ++ X.Lz.parse s win s.length i ∧ KpZ n₀ Bs Bw W wr ∧ J pre wr)
    (fun p _ => s.length - (match p with | .int _ i => i.toNat | _ => 0))
  case atStart =>
    exact ⟨[], 0, rfl, Nat.zero_le _, Nat.zero_le _, rfl, KpZ.refl _ _ _ _, h0⟩
  case round =>
    obtain ⟨pre, i, rfl, hi, hpl, hx, hB, hJs⟩ := hrel
    have hBs1 : wr.cell? ⟨Bs, 0, none⟩ = some (.string ⟨s.toArray⟩) := hB.cs hcs
    have hBw1 : wr.cell? ⟨Bw, 0, none⟩ = some (.int .i64 win) := hB.cw hcw
    have hsz : (ByteArray.mk s.toArray).size = s.length := by simp [ByteArray.size]
    by_cases hlt : i < s.length
    rotate_left
    · obtain rfl : i = s.length := by omega
      gi_wp2
      go_end0
      refine ⟨⟨_, rfl⟩, .inl ⟨pre, ?_, hJs⟩⟩
      rw [hx]
      have := X.Lz.parse_end s win s.length
      rw [this, List.append_nil]
    · obtain ⟨⟨d, m⟩, hr⟩ : ∃ r, X.Lz.lgA s win i = r := ⟨_, rfl⟩
      have hC := fun w => X.Lz.lgC s i win w hs hi hw hw2
      rw [hr] at hC
      simp only at hC
      have hJ2 : ∀ (w2 : World) (o : Obj), Below wr.heap.size wr w2 → J pre (w2.alloc o) := fun w2 o hb => hJ pre wr _ none hJs (below_grownBy (hb.alloc hb.size o)) (fun r e => by cases e)
      have hB2 : ∀ (w2 : World) (o : Obj), Below wr.heap.size wr w2 → KpZ n₀ Bs Bw W (w2.alloc o) := fun w2 o hb => hB.trans (KpZ.of (hb.alloc hb.size o) (by have := hB.1.size; omega) (cell_lt hBs1) (cell_lt hBw1))
      have hpre : pre.length < s.length := by omega
      have hpx := X.Lz.parse_step s win i hlt
      by_cases hm : m < 2
      · have hm' : (m : Int) < 2 := by omega
        have htk : X.Lz.tok s win i = (0, 0, wrap64 ((ByteArray.mk s.toArray)[i]'(by rw [hsz]; exact hlt)).toNat) := by
          unfold X.Lz.tok
          rw [hr, if_pos hm]
          have h1 : ((ByteArray.mk s.toArray)[i]'(by rw [hsz]; exact hlt)) = s.getD i 0 := by
            rw [List.getD_eq_getElem?_getD, List.getElem?_eq_getElem hlt]
            rfl
          rw [h1]
          have := (s.getD i 0).toNat_lt
          rw [IntWalk.wrap64_in _ ⟨by omega, by omega⟩]
        have had : X.Lz.adv s win i = 1 := by unfold X.Lz.adv; rw [hr, if_pos hm]
        have f1 : i + 1 ≤ s.length := hlt
        have f2 : (pre ++ [X.Lz.tok s win i]).length ≤ i + 1 := by rw [List.length_append, List.length_singleton]; omega
        have f3 : X.Lz.parse s win s.length 0 = (pre ++ [X.Lz.tok s win i]) ++ X.Lz.parse s win s.length (i + 1) := by rw [hx, hpx, had, List.append_assoc]; rfl
        have f4 : s.length - (i + 1) < s.length - i := by omega
        gi_wp2_with (refine ⟨trivial, fun _ => by omega, ?_⟩; gi_at_call 30; refine (callsIn_wide.2 (hC _)).mono ?_; rintro e w2 ⟨rfl, hb2⟩; have hBs2 := (hb2.cell (p := ⟨Bs, 0, none⟩) (cell_lt hBs1)).trans hBs1; have hBw2 := (hb2.cell (p := ⟨Bw, 0, none⟩) (cell_lt hBw1)).trans hBw1; have hBs3 := cellAl (.cells #[.int .i64 d, .int .i64 m, .int .i64 0] 38) hBs2; obtain ⟨fn, tmps, assign, body, hy, hR⟩ := hY pre (X.Lz.tok s win i) (w2.alloc (.cells #[.int .i64 0, .int .i64 0, .int .i64 (wrap64 ((ByteArray.mk s.toArray)[i]'(by rw [hsz]; exact hlt)).toNat)] 38)) (hJ2 _ _ hb2) hpre; rw [htk] at hy)
        refine ⟨fun _ => by omega, hR.mono ?_⟩
        rintro e W3 (⟨rfl, hJ3, hk3⟩ | ⟨rfl, hJx3⟩)
        · gi_wp2
          go_roundw
          case rel => exact ⟨pre ++ [X.Lz.tok s win i], i + 1, rfl, f1, f2, f3, (hB2 _ _ hb2).trans hk3, hJ3⟩
          case measure => exact f4
        · gi_wp2
          refine bodyPost_ret (results_none rfl _ _ _) rfl ?_
          exact ⟨⟨_, rfl⟩, .inr ⟨pre ++ [X.Lz.tok s win i], ⟨_, by rw [hx, hpx, List.append_assoc]; rfl⟩, hJx3⟩⟩
      · have hm' : ((m : Int) < 2) = False := eq_false (by omega)
        have hm64 : i + m ≤ s.length := by
          have := X.Lz.lgA_le s win i hi
          rw [hr] at this
          exact this
        have htk : X.Lz.tok s win i = ((d : Int), (m : Int), 0) := by
          unfold X.Lz.tok
          rw [hr, if_neg hm]
        have had : X.Lz.adv s win i = m := by unfold X.Lz.adv; rw [hr, if_neg hm]
        have f2 : (pre ++ [X.Lz.tok s win i]).length ≤ i + m := by rw [List.length_append, List.length_singleton]; omega
        have f3 : X.Lz.parse s win s.length 0 = (pre ++ [X.Lz.tok s win i]) ++ X.Lz.parse s win s.length (i + m) := by rw [hx, hpx, had, List.append_assoc]; rfl
        have f4 : s.length - (i + m) < s.length - i := by omega
        gi_wp2_with (refine ⟨trivial, fun _ => by omega, ?_⟩; gi_at_call 30; refine (callsIn_wide.2 (hC _)).mono ?_; rintro e w2 ⟨rfl, hb2⟩; have hBs2 := (hb2.cell (p := ⟨Bs, 0, none⟩) (cell_lt hBs1)).trans hBs1; have hBw2 := (hb2.cell (p := ⟨Bw, 0, none⟩) (cell_lt hBw1)).trans hBw1; have hBs3 := cellAl (.cells #[.int .i64 d, .int .i64 m, .int .i64 0] 38) hBs2; obtain ⟨fn, tmps, assign, body, hy, hR⟩ := hY pre (X.Lz.tok s win i) (w2.alloc (.cells #[.int .i64 d, .int .i64 m, .int .i64 0] 38)) (hJ2 _ _ hb2) hpre; rw [htk] at hy)
        refine ⟨fun _ => by omega, hR.mono ?_⟩
        rintro e W3 (⟨rfl, hJ3, hk3⟩ | ⟨rfl, hJx3⟩)
        · gi_wp2
          go_roundw
          case rel => exact ⟨pre ++ [X.Lz.tok s win i], i + m, by simp [X.Lz.wrapSum hm64 hs], hm64, f2, f3, (hB2 _ _ hb2).trans hk3, hJ3⟩
          case measure => simpa [X.Lz.wrapSum hm64 hs, X.Lz.sumNat] using f4
        · gi_wp2
          refine bodyPost_ret (results_none rfl _ _ _) rfl ?_
          exact ⟨⟨_, rfl⟩, .inr ⟨pre ++ [X.Lz.tok s win i], ⟨_, by rw [hx, hpx, List.append_assoc]; rfl⟩, hJx3⟩⟩
/-- lz.each: two boxes, and a closure over them -/
theorem Tryd.each_in (n : Nat) (s : List UInt8) (win : Nat) (w : World) :
    CallsIn Fence.wide n Tryd.prog 31 #[.string ⟨s.toArray⟩, .int .i64 win] w fun e w' => e = .returned (.func (.func 47) #[] #[.pointer (some ⟨w.heap.size, 0, none⟩), .pointer (some ⟨w.heap.size + 1, 0, none⟩)]) ∧
      w' = (w.alloc (.cells #[.string ⟨s.toArray⟩] 9)).alloc (.cells #[.int .i64 win] 3) := by
  refine callsIn_of_wp Tryd.func31 rfl trivial ?_ rfl
  simp only [Tryd.ntmps31, List.size_toArray, List.length_cons, List.length_nil, Nat.reduceAdd, Nat.reduceSub, Array.replicate_succ, Array.replicate_zero, List.push_toArray, List.append_toArray, List.nil_append, List.cons_append]
  gi_wp2
  go_ret
  exact ⟨rfl, rfl⟩
theorem Tryd.each_stops (n : Nat) (hn : 2 ≤ n) (Bs Bw n₀ : Nat) (s : List UInt8) (win : Nat) (hs : s.length ≤ 600) (hw : 1 ≤ win) (hw2 : win ≤ 256) (w : World) (hn₀ : n₀ ≤ w.heap.size)
    (hcs : w.cell? ⟨Bs, 0, none⟩ = some (.string ⟨s.toArray⟩)) (hcw : w.cell? ⟨Bw, 0, none⟩ = some (.int .i64 win)) :
    SeqStopsK Fence.wide n Tryd.prog 47 #[.pointer (some ⟨Bs, 0, none⟩), .pointer (some ⟨Bw, 0, none⟩)] (fun x : X.Lz.Tk => #[.agg #[.int .i64 x.1, .int .i64 x.2.1, .int .i64 x.2.2]]) (KpZ n₀ Bs Bw)
      (fun ys => ys = X.Lz.parse s win s.length 0) (fun pre => pre <+: X.Lz.parse s win s.length 0) s.length w := fun l J Jx W hW hJ _ hY h0 =>
  Tryd.each1_in n hn l Bs Bw n₀ s win hs hw hw2 J Jx W (Nat.le_trans hn₀ hW.size) hJ hY ((hW.cell (p := ⟨Bs, 0, none⟩) (cell_lt hcs)).trans hcs) ((hW.cell (p := ⟨Bw, 0, none⟩) (cell_lt hcw)).trans hcw) h0
end Go.Proofs
