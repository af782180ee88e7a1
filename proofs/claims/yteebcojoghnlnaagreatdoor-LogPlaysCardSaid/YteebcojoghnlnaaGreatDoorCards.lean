/-
  DERIVED. GIVEN WITH THE SEED: THE CARDS: each row of YteebcojoghnlnaaGreatDoorRows.lean that lists a variable, with what it lists TIED to the program's text (the seventh form; the later family's looks); each row that meets fmt, with fmt's text TOLD by the authors' own Lean function (tested against real Go, not proved from fmt's source: count such statements apart). THE CARD IS WHAT COUNTS. Prove the row's statement (the work); the ties are given (YteebcojoghnlnaaGreatDoorTie.lean); close each card by the builder's one call (the guide's Derived/Test/ToyasCard.lean, 'card_holds'). Laid BY PROGRAM, IN A SANDBOX (cutbox-door.mjs). By AI agents, Wed Nov 11 2026. No macro, syntax, notation, axiom, sorry.
-/
import Derived.Test.YteebcojoghnlnaaGreatDoorRows
import GoSem.ClaimSeven
namespace Go.Proofs.YteebcojoghnlnaaGreatDoor
namespace Rows

/-- THE TIED CARD OF 'woollaw.VolWrites'. -/
def volWritesCard : Claim7 := { stood := { row := volWritesRow, standIns := [], harness := (true, "6299582491adf3741419d31efcff5d9657d1484f607601f780269d111411d27c"), looks := false }, kinds := [], alts := [], laidByText := true, laidKinds := [.data, .pinned], laidTests := true, laidLooks := .later }
def VolWritesCardSaid : Prop := Claim7.holds Tryz.pinned (.plain (OpenSpec.ofChange volWritesSpec)) volWritesCard

/-- THE TIED CARD OF 'woollaw.VolMakes'. -/
def volMakesCard : Claim7 := { stood := { row := volMakesRow, standIns := [], harness := (true, "6299582491adf3741419d31efcff5d9657d1484f607601f780269d111411d27c"), looks := false }, kinds := [], alts := [], laidByText := true, laidKinds := [.data, .pinned], laidTests := true, laidLooks := .later }
def VolMakesCardSaid : Prop := Claim7.holds Tryz.pinned (.plain (OpenSpec.ofChange volMakesSpec)) volMakesCard

/-- THE TIED CARD OF 'woollaw.DiffSays'. -/
def diffSaysCard : Claim7 := { stood := { row := diffSaysRow, standIns := [], harness := (true, "6299582491adf3741419d31efcff5d9657d1484f607601f780269d111411d27c"), looks := false }, kinds := [], alts := [], laidByText := true, laidKinds := [.data, .pinned], laidTests := true, laidLooks := .later }
def DiffSaysCardSaid : Prop := Claim7.holds Tryz.pinned (.plain (OpenSpec.ofChange diffSaysSpec)) diffSaysCard

/-- THE TIED CARD OF 'woollaw.LogDoes'. -/
def logDoesCard : Claim7 := { stood := { row := logDoesRow, standIns := [], harness := (true, "6299582491adf3741419d31efcff5d9657d1484f607601f780269d111411d27c"), looks := false }, kinds := [], alts := [], laidByText := true, laidKinds := [.data, .pinned], laidTests := true, laidLooks := .later }
def LogDoesCardSaid : Prop := Claim7.holds Tryz.pinned (.plain (OpenSpec.ofChange logDoesSpec)) logDoesCard

/-- THE TIED CARD OF 'woollaw.LogPlays'. -/
def logPlaysCard : Claim7 := { stood := { row := logPlaysRow, standIns := [], harness := (true, "6299582491adf3741419d31efcff5d9657d1484f607601f780269d111411d27c"), looks := false }, kinds := [], alts := [], laidByText := true, laidKinds := [.data, .pinned], laidTests := true, laidLooks := .later }
def LogPlaysCardSaid : Prop := Claim7.holds Tryz.pinned (.plain (OpenSpec.ofChange logPlaysSpec)) logPlaysCard

/-- THE TIED CARD OF 'woollaw.TargetPlays'. -/
def targetPlaysCard : Claim7 := { stood := { row := targetPlaysRow, standIns := [], harness := (true, "6299582491adf3741419d31efcff5d9657d1484f607601f780269d111411d27c"), looks := false }, kinds := [], alts := [], laidByText := true, laidKinds := [.data, .pinned], laidTests := true, laidLooks := .later }
def TargetPlaysCardSaid : Prop := Claim7.holds Tryz.pinned (.plain (OpenSpec.ofChange targetPlaysSpec)) targetPlaysCard

/-- THE SECOND FORM's CARD OF 'woollaw.VolWrites'. -/
def volWritesUptoCard : Claim7 := { stood := { row := volWritesUptoRow, standIns := [], harness := (true, "6299582491adf3741419d31efcff5d9657d1484f607601f780269d111411d27c"), looks := false }, kinds := [], alts := [], laidByText := true, laidKinds := [.data, .pinned], laidTests := true, laidLooks := .later }
def VolWritesUptoCardSaid : Prop := Claim7.holds Tryz.pinned (.plain (OpenSpec.upto volWritesSpec)) volWritesUptoCard

/-- THE SECOND FORM's CARD OF 'woollaw.VolMakes'. -/
def volMakesUptoCard : Claim7 := { stood := { row := volMakesUptoRow, standIns := [], harness := (true, "6299582491adf3741419d31efcff5d9657d1484f607601f780269d111411d27c"), looks := false }, kinds := [], alts := [], laidByText := true, laidKinds := [.data, .pinned], laidTests := true, laidLooks := .later }
def VolMakesUptoCardSaid : Prop := Claim7.holds Tryz.pinned (.plain (OpenSpec.upto volMakesSpec)) volMakesUptoCard

/-- THE SECOND FORM's CARD OF 'woollaw.DiffSays'. -/
def diffSaysUptoCard : Claim7 := { stood := { row := diffSaysUptoRow, standIns := [], harness := (true, "6299582491adf3741419d31efcff5d9657d1484f607601f780269d111411d27c"), looks := false }, kinds := [], alts := [], laidByText := true, laidKinds := [.data, .pinned], laidTests := true, laidLooks := .later }
def DiffSaysUptoCardSaid : Prop := Claim7.holds Tryz.pinned (.plain (OpenSpec.upto diffSaysSpec)) diffSaysUptoCard

/-- THE SECOND FORM's CARD OF 'woollaw.LogDoes'. -/
def logDoesUptoCard : Claim7 := { stood := { row := logDoesUptoRow, standIns := [], harness := (true, "6299582491adf3741419d31efcff5d9657d1484f607601f780269d111411d27c"), looks := false }, kinds := [], alts := [], laidByText := true, laidKinds := [.data, .pinned], laidTests := true, laidLooks := .later }
def LogDoesUptoCardSaid : Prop := Claim7.holds Tryz.pinned (.plain (OpenSpec.upto logDoesSpec)) logDoesUptoCard

/-- THE SECOND FORM's CARD OF 'woollaw.LogPlays'. -/
def logPlaysUptoCard : Claim7 := { stood := { row := logPlaysUptoRow, standIns := [], harness := (true, "6299582491adf3741419d31efcff5d9657d1484f607601f780269d111411d27c"), looks := false }, kinds := [], alts := [], laidByText := true, laidKinds := [.data, .pinned], laidTests := true, laidLooks := .later }
def LogPlaysUptoCardSaid : Prop := Claim7.holds Tryz.pinned (.plain (OpenSpec.upto logPlaysSpec)) logPlaysUptoCard

/-- THE SECOND FORM's CARD OF 'woollaw.TargetPlays'. -/
def targetPlaysUptoCard : Claim7 := { stood := { row := targetPlaysUptoRow, standIns := [], harness := (true, "6299582491adf3741419d31efcff5d9657d1484f607601f780269d111411d27c"), looks := false }, kinds := [], alts := [], laidByText := true, laidKinds := [.data, .pinned], laidTests := true, laidLooks := .later }
def TargetPlaysUptoCardSaid : Prop := Claim7.holds Tryz.pinned (.plain (OpenSpec.upto targetPlaysSpec)) targetPlaysUptoCard
end Rows
end Go.Proofs.YteebcojoghnlnaaGreatDoor
