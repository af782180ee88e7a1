/- Facts of the whole program that the rows' closed facts use, each checked once. Conditions: none. -/
import Derived.Test.YtdlfdifhchijkaaRows
import Derived.WalkKit
import Derived.ProofKit
set_option linter.unusedSimpArgs false
set_option linter.unusedVariables false
namespace Go.Proofs.Ytdlfdifhchijkaa.Clo
open Go
theorem laidOut : laidOutB Try.prog = true := by kernel_rfl
theorem mapsR : mapsRowed Try.prog = true := by kernel_rfl
theorem fuel : (1 + (Try.prog.funcs.toList.map fun g => (Try.prog.leadsTo g).length + 1).sum) = 1033 := by kernel_rfl
theorem clo (f : FuncId) : Try.prog.closure f = Try.prog.closureVia 1033 [f] [] := by unfold Program.closure; rw [fuel]
theorem stops : Try.prog.stops = [] := by kernel_rfl
theorem stopKnobs : Try.prog.stopKnobs = [] := by kernel_rfl
theorem plainKeys : Try.prog.plainKeys = false := by kernel_rfl
theorem stopsHeard : Try.prog.stopsHeard = true := by kernel_rfl
theorem mayEnter : Try.prog.mayEnter = true := by kernel_rfl
theorem lifts : Try.prog.liftsFinal = false := by kernel_rfl
theorem mk : Try.prog.make = some Rows.matchSaysRow.make := by kernel_rfl
end Go.Proofs.Ytdlfdifhchijkaa.Clo
