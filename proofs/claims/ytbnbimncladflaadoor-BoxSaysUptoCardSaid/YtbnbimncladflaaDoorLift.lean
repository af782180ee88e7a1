/- From a contract to a row: the law's shell. Conditions: none. -/
import Derived.Test.YtbnbimncladflaaDoorFwC
import Derived.ChangeSlices
import Derived.OpenShut
set_option linter.unusedSimpArgs false
set_option linter.unusedVariables false
set_option maxHeartbeats 4000000
set_option maxRecDepth 20000
namespace Go.X
open Go Go.RowKit

theorem Meets.law {P : Program} {f : FuncId} {args : List SV} {W : World} {v : Value} (h : Meets P f args (fun b => W.heap[b]?) (fun r _ _ => r = .v v)) :
    Calls P f (SV.vals ν0 args).toArray W fun e w' => e = .returned v ∧ Below W.heap.size W w' := by
  refine (h.2 W fun _ _ e => e).mono fun e w' ⟨s, H', M', ν, he, hh, hR⟩ => ?_
  subst hR
  exact ⟨he, hh.below⟩

theorem wf_i64 {n : Int} (h : (Lit.int .i64 n).wf = true) : inK .i64 n := by
  have := bounds_i64 h
  exact this

theorem cellM_heap (W : World) (a : Addr) : cellM (fun b => W.heap[b]?) a = W.cell? a := by
  unfold cellM World.cell?
  rfl

theorem ints_rowM {W : World} {x : Addr} {l c : Nat} {zs : List Int} (hl : l ≤ c) (hm : c ≤ maxLen) (hz : zs.length = c) (hcell : ∀ i, i < zs.length → W.cell? (x.add i) = some (.int .i64 (zs.getD i 0))) :
    RowM (fun b => W.heap[b]?) (.slice (some x) l c) 1 ((zs.take l).map encI) := by
  refine ⟨⟨rfl, by simp only [lenV, List.length_map, List.length_take]; omega, hl, hm⟩, fun _ => rfl, fun i e he => ?_⟩
  rw [List.getElem?_map, Option.map_eq_some_iff] at he
  obtain ⟨n, hn, rfl⟩ := he
  refine ⟨rfl, fun j u hu => ?_⟩
  cases j with
  | succ j => simp [encI] at hu
  | zero =>
    simp only [encI, List.getElem?_cons_zero, Option.some.injEq] at hu
    subst hu
    refine ⟨?_, rfl⟩
    have hi : i < l := by
      have := (List.getElem?_eq_some_iff.1 hn).1
      simp only [List.length_take] at this
      omega
    rw [List.getElem?_take, if_pos hi] at hn
    have := hcell i (by omega)
    simp only [cellE, Nat.mul_one, Nat.add_zero, cellM_heap, this, List.getD, hn, Option.getD_some]
end Go.X
