/-
  DERIVED. GIVEN WITH THE SEED: THE CARDS: each row of YthafjlokddpjfaaGreatDoorRows.lean that lists a variable, with what it lists TIED to the program's text (the seventh form; the later family's looks); each row that meets fmt, with fmt's text TOLD by the authors' own Lean function (tested against real Go, not proved from fmt's source: count such statements apart). THE CARD IS WHAT COUNTS. Prove the row's statement (the work); the ties are given (YthafjlokddpjfaaGreatDoorTie.lean); close each card by the builder's one call (the guide's Derived/Test/ToyasCard.lean, 'card_holds'). Laid BY PROGRAM, IN A SANDBOX (cutbox-door.mjs). By AI agents, Wed Nov 11 2026. No macro, syntax, notation, axiom, sorry.
-/
import Derived.Test.YthafjlokddpjfaaGreatDoorRows
import GoSem.ClaimSeven
namespace Go.Proofs.YthafjlokddpjfaaGreatDoor
namespace Rows

/-- THE TIED CARD OF 'woollaw.DeskSays'. -/
def deskSaysCard : Claim7 := { stood := { row := deskSaysRow, standIns := [], harness := (true, "e736df1bee78a9e20bb0f81f2d92a0dba41e935df025a8bbdde36a9378972797"), looks := true }, kinds := [], alts := [], laidByText := true, laidKinds := [.data, .data, .data, .data, .sentinel, .sentinel, .pinned], laidTests := true, laidLooks := .later }
def DeskSaysCardSaid : Prop := Claim7.holds Tryz.pinned (.plain (OpenSpec.ofChange deskSaysSpec)) deskSaysCard

/-- THE TIED CARD OF 'wooltop.TopDesk'. -/
def topDeskCard : Claim7 := { stood := { row := topDeskRow, standIns := [], harness := (true, "e736df1bee78a9e20bb0f81f2d92a0dba41e935df025a8bbdde36a9378972797"), looks := true }, kinds := [], alts := [], laidByText := true, laidKinds := [.data, .data, .data, .data, .sentinel, .sentinel, .pinned], laidTests := true, laidLooks := .later }
def TopDeskCardSaid : Prop := Claim7.holds Tryz.pinned (.plain (OpenSpec.ofChange topDeskSpec)) topDeskCard

/-- THE SECOND FORM's CARD OF 'woollaw.DeskSays'. -/
def deskSaysUptoCard : Claim7 := { stood := { row := deskSaysUptoRow, standIns := [], harness := (true, "e736df1bee78a9e20bb0f81f2d92a0dba41e935df025a8bbdde36a9378972797"), looks := true }, kinds := [], alts := [], laidByText := true, laidKinds := [.data, .data, .data, .data, .sentinel, .sentinel, .pinned], laidTests := true, laidLooks := .later }
def DeskSaysUptoCardSaid : Prop := Claim7.holds Tryz.pinned (.plain (OpenSpec.upto deskSaysSpec)) deskSaysUptoCard

/-- THE SECOND FORM's CARD OF 'wooltop.TopDesk'. -/
def topDeskUptoCard : Claim7 := { stood := { row := topDeskUptoRow, standIns := [], harness := (true, "e736df1bee78a9e20bb0f81f2d92a0dba41e935df025a8bbdde36a9378972797"), looks := true }, kinds := [], alts := [], laidByText := true, laidKinds := [.data, .data, .data, .data, .sentinel, .sentinel, .pinned], laidTests := true, laidLooks := .later }
def TopDeskUptoCardSaid : Prop := Claim7.holds Tryz.pinned (.plain (OpenSpec.upto topDeskSpec)) topDeskUptoCard
end Rows
end Go.Proofs.YthafjlokddpjfaaGreatDoor
