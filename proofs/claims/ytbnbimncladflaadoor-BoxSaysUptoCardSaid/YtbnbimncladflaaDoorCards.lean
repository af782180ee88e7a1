/-
  DERIVED. GIVEN WITH THE SEED: THE CARDS: each row of YtbnbimncladflaaDoorRows.lean that lists a variable, with what it lists TIED to the program's text (the seventh form; the later family's looks); each row that meets fmt, with fmt's text TOLD by the authors' own Lean function (tested against real Go, not proved from fmt's source: count such statements apart). THE CARD IS WHAT COUNTS. Prove the row's statement (the work); the ties are given (YtbnbimncladflaaDoorTie.lean); close each card by the builder's one call (the guide's Derived/Test/ToyasCard.lean, 'card_holds'). Laid BY PROGRAM, IN A SANDBOX (cutbox-door.mjs). By AI agents, Wed Nov 11 2026. No macro, syntax, notation, axiom, sorry.
-/
import Derived.Test.YtbnbimncladflaaDoorRows
import GoSem.ClaimSeven
namespace Go.Proofs.YtbnbimncladflaaDoor
namespace Rows

/-- THE TIED CARD OF 'woollaw.BoxSays'. -/
def boxSaysCard : Claim7 := { stood := { row := boxSaysRow, standIns := [], harness := (true, "b6d154968d0c79c618d32b8806c0857e8e6709fc1a332edf98630dac704ccad3"), looks := false }, kinds := [], alts := [], laidByText := true, laidKinds := [.data, .pinned], laidTests := true, laidLooks := .later }
def BoxSaysCardSaid : Prop := Claim7.holds Tryd.pinned (.plain (OpenSpec.ofChange boxSaysSpec)) boxSaysCard

/-- THE SECOND FORM's CARD OF 'woollaw.BoxSays'. -/
def boxSaysUptoCard : Claim7 := { stood := { row := boxSaysUptoRow, standIns := [], harness := (true, "b6d154968d0c79c618d32b8806c0857e8e6709fc1a332edf98630dac704ccad3"), looks := false }, kinds := [], alts := [], laidByText := true, laidKinds := [.data, .pinned], laidTests := true, laidLooks := .later }
def BoxSaysUptoCardSaid : Prop := Claim7.holds Tryd.pinned (.plain (OpenSpec.upto boxSaysSpec)) boxSaysUptoCard
end Rows
end Go.Proofs.YtbnbimncladflaaDoor
