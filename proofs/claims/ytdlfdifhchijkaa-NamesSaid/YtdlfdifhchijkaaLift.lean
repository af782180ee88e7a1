/- From a contract to a row: the law's shell. Conditions: none. -/
import Derived.Test.YtdlfdifhchijkaaFwB
import Derived.OpenShut
set_option linter.unusedSimpArgs false
set_option linter.unusedVariables false
set_option maxHeartbeats 4000000
namespace Go.X
open Go Go.RowKit

theorem Meets.law {P : Program} {f : FuncId} {args : List SV} {W : World} {v : Value} (h : Meets P f args (fun b => W.heap[b]?) (fun r _ _ => r = .v v)) :
    Calls P f (SV.vals ν0 args).toArray W fun e w' => e = .returned v ∧ Below W.heap.size W w' := by
  refine (h.2 W fun _ _ e => e).mono fun e w' ⟨s, H', M', ν, he, hh, hR⟩ => ?_
  subst hR
  exact ⟨he, hh.below⟩

theorem wf_i64 {n : Int} (h : (Lit.int .i64 n).wf = true) : inK .i64 n := by
  have := bounds_i64 h
  exact this
end Go.X
