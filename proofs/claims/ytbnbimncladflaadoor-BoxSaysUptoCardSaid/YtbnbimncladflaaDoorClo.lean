/- Facts of the whole program that the rows' closed facts use, each checked once. Conditions: none. -/
import Derived.Test.YtbnbimncladflaaDoorRows
import Derived.WalkKit
import Derived.ProofKit
set_option linter.unusedSimpArgs false
set_option linter.unusedVariables false
set_option maxHeartbeats 4000000
set_option maxRecDepth 20000
namespace Go.Proofs.YtbnbimncladflaaDoor.Clo
open Go
theorem laidOut : laidOutB Tryd.prog = true := by kernel_rfl
end Go.Proofs.YtbnbimncladflaaDoor.Clo
