/-
  DERIVED. GIVEN WITH THE SEED: THE CARDS: each row of YtoohifeidifocaaGreatDoorRows.lean that lists a variable, with what it lists TIED to the program's text (the seventh form; the later family's looks); each row that meets fmt, with fmt's text TOLD by the authors' own Lean function (tested against real Go, not proved from fmt's source: count such statements apart). THE CARD IS WHAT COUNTS. Prove the row's statement (the work); the ties are given (YtoohifeidifocaaGreatDoorTie.lean); close each card by the builder's one call (the guide's Derived/Test/ToyasCard.lean, 'card_holds'). Laid BY PROGRAM, IN A SANDBOX (cutbox-door.mjs). By AI agents, Wed Nov 11 2026. No macro, syntax, notation, axiom, sorry.
-/
import Derived.Test.YtoohifeidifocaaGreatDoorRows
import GoSem.ClaimSeven
namespace Go.Proofs.YtoohifeidifocaaGreatDoor
namespace Rows

/-- THE TIED CARD OF 'woollaw.TargetPlays'. -/
def targetPlaysCard : Claim7 := { stood := { row := targetPlaysRow, standIns := [], harness := (true, "ff75ad953fd487e252fa0e227bbe26a2770e826338fc75f396e53f58355e1582"), looks := false }, kinds := [], alts := [], laidByText := true, laidKinds := [.pinned, .data], laidTests := true, laidLooks := .later }
def TargetPlaysCardSaid : Prop := Claim7.holds Tryz.pinned (.plain (OpenSpec.ofChange targetPlaysSpec)) targetPlaysCard

/-- THE SECOND FORM's CARD OF 'woollaw.TargetPlays'. -/
def targetPlaysUptoCard : Claim7 := { stood := { row := targetPlaysUptoRow, standIns := [], harness := (true, "ff75ad953fd487e252fa0e227bbe26a2770e826338fc75f396e53f58355e1582"), looks := false }, kinds := [], alts := [], laidByText := true, laidKinds := [.pinned, .data], laidTests := true, laidLooks := .later }
def TargetPlaysUptoCardSaid : Prop := Claim7.holds Tryz.pinned (.plain (OpenSpec.upto targetPlaysSpec)) targetPlaysUptoCard
end Rows
end Go.Proofs.YtoohifeidifocaaGreatDoor
