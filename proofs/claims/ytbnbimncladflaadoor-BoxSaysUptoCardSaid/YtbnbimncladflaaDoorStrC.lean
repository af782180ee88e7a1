/- The kit's contracts as those of this logic. Conditions: none. -/
import Derived.Test.YtbnbimncladflaaDoorFwR
import Derived.WalkKit
import Derived.Shelf.Lays
set_option linter.unusedSimpArgs false
set_option linter.unusedVariables false
set_option maxHeartbeats 4000000
set_option maxRecDepth 20000
namespace Go.X.St
open Go Go.X Go.RowKit

theorem Meets.ofCalls {P : Program} {f : FuncId} {args : List SV} {M : Mem} {v : Value} (hc : callable P f)
    (h : ∀ w, Calls P f (SV.vals ν0 args).toArray w fun e w' => e = .returned v ∧ Below w.heap.size w w') : Meets P f args M fun r _ _ => r = .v v :=
  ⟨hc, fun w hw => (h w).mono fun e w' ⟨he, hb⟩ => ⟨.v v, [], M, ν0, he,
    Heap.grow (E := ⟨P, 0, w, M⟩) (ν := ν0) (H := []) (M := M) (w := w) ⟨by simp, List.nodup_nil, by simp [fp], hw, Below.refl _ _, Mem.le.refl _, fun b hb => .inl hb, fun k => rfl⟩ hb, rfl⟩⟩
end Go.X.St
