/-
  DERIVED. GIVEN WITH THE SEED: THE CARDS: each row of YtkhclplinfobdaaDoorRows.lean that lists a variable, with what it lists TIED to the program's text (the seventh form; the later family's looks); each row that meets fmt, with fmt's text TOLD by the authors' own Lean function (tested against real Go, not proved from fmt's source: count such statements apart). THE CARD IS WHAT COUNTS. Prove the row's statement (the work); the ties are given (YtkhclplinfobdaaDoorTie.lean); close each card by the builder's one call (the guide's Derived/Test/ToyasCard.lean, 'card_holds'). Laid BY PROGRAM, IN A SANDBOX (cutbox-door.mjs). By AI agents, Wed Nov 11 2026. No macro, syntax, notation, axiom, sorry.
-/
import Derived.Test.YtkhclplinfobdaaDoorRows
import GoSem.ClaimSeven
namespace Go.Proofs.YtkhclplinfobdaaDoor
namespace Rows

/-- THE TIED CARD OF 'woollaw.LogCodes'. -/
def logCodesCard : Claim7 := { stood := { row := logCodesRow, standIns := [], harness := (true, "86739a57c90b01a174af15d9934f917e703536d1b7f6707b566d7ab5c4528b89"), looks := false }, kinds := [], alts := [], laidByText := true, laidKinds := [.data, .pinned], laidTests := true, laidLooks := .later }
def LogCodesCardSaid : Prop := Claim7.holds Tryd.pinned (.plain (OpenSpec.ofChange logCodesSpec)) logCodesCard

/-- THE TIED CARD OF 'woollaw.PackBytes'. -/
def packBytesCard : Claim7 := { stood := { row := packBytesRow, standIns := [], harness := (true, "86739a57c90b01a174af15d9934f917e703536d1b7f6707b566d7ab5c4528b89"), looks := false }, kinds := [], alts := [], laidByText := true, laidKinds := [.data, .pinned], laidTests := true, laidLooks := .later }
def PackBytesCardSaid : Prop := Claim7.holds Tryd.pinned (.plain (OpenSpec.ofChange packBytesSpec)) packBytesCard

/-- THE TIED CARD OF 'woollaw.VolChecks'. -/
def volChecksCard : Claim7 := { stood := { row := volChecksRow, standIns := [], harness := (true, "86739a57c90b01a174af15d9934f917e703536d1b7f6707b566d7ab5c4528b89"), looks := false }, kinds := [], alts := [], laidByText := true, laidKinds := [.data, .pinned], laidTests := true, laidLooks := .later }
def VolChecksCardSaid : Prop := Claim7.holds Tryd.pinned (.plain (OpenSpec.ofChange volChecksSpec)) volChecksCard

/-- THE TIED CARD OF 'woollaw.GammaSays'. -/
def gammaSaysCard : Claim7 := { stood := { row := gammaSaysRow, standIns := [], harness := (true, "86739a57c90b01a174af15d9934f917e703536d1b7f6707b566d7ab5c4528b89"), looks := false }, kinds := [], alts := [], laidByText := true, laidKinds := [.data, .pinned], laidTests := true, laidLooks := .later }
def GammaSaysCardSaid : Prop := Claim7.holds Tryd.pinned (.plain (OpenSpec.ofChange gammaSaysSpec)) gammaSaysCard

/-- THE TIED CARD OF 'woollaw.PackSays'. -/
def packSaysCard : Claim7 := { stood := { row := packSaysRow, standIns := [], harness := (true, "86739a57c90b01a174af15d9934f917e703536d1b7f6707b566d7ab5c4528b89"), looks := false }, kinds := [], alts := [], laidByText := true, laidKinds := [.data, .pinned], laidTests := true, laidLooks := .later }
def PackSaysCardSaid : Prop := Claim7.holds Tryd.pinned (.plain (OpenSpec.ofChange packSaysSpec)) packSaysCard

/-- THE SECOND FORM's CARD OF 'woollaw.LogCodes'. -/
def logCodesUptoCard : Claim7 := { stood := { row := logCodesUptoRow, standIns := [], harness := (true, "86739a57c90b01a174af15d9934f917e703536d1b7f6707b566d7ab5c4528b89"), looks := false }, kinds := [], alts := [], laidByText := true, laidKinds := [.data, .pinned], laidTests := true, laidLooks := .later }
def LogCodesUptoCardSaid : Prop := Claim7.holds Tryd.pinned (.plain (OpenSpec.upto logCodesSpec)) logCodesUptoCard

/-- THE SECOND FORM's CARD OF 'woollaw.PackBytes'. -/
def packBytesUptoCard : Claim7 := { stood := { row := packBytesUptoRow, standIns := [], harness := (true, "86739a57c90b01a174af15d9934f917e703536d1b7f6707b566d7ab5c4528b89"), looks := false }, kinds := [], alts := [], laidByText := true, laidKinds := [.data, .pinned], laidTests := true, laidLooks := .later }
def PackBytesUptoCardSaid : Prop := Claim7.holds Tryd.pinned (.plain (OpenSpec.upto packBytesSpec)) packBytesUptoCard

/-- THE SECOND FORM's CARD OF 'woollaw.VolChecks'. -/
def volChecksUptoCard : Claim7 := { stood := { row := volChecksUptoRow, standIns := [], harness := (true, "86739a57c90b01a174af15d9934f917e703536d1b7f6707b566d7ab5c4528b89"), looks := false }, kinds := [], alts := [], laidByText := true, laidKinds := [.data, .pinned], laidTests := true, laidLooks := .later }
def VolChecksUptoCardSaid : Prop := Claim7.holds Tryd.pinned (.plain (OpenSpec.upto volChecksSpec)) volChecksUptoCard

/-- THE SECOND FORM's CARD OF 'woollaw.GammaSays'. -/
def gammaSaysUptoCard : Claim7 := { stood := { row := gammaSaysUptoRow, standIns := [], harness := (true, "86739a57c90b01a174af15d9934f917e703536d1b7f6707b566d7ab5c4528b89"), looks := false }, kinds := [], alts := [], laidByText := true, laidKinds := [.data, .pinned], laidTests := true, laidLooks := .later }
def GammaSaysUptoCardSaid : Prop := Claim7.holds Tryd.pinned (.plain (OpenSpec.upto gammaSaysSpec)) gammaSaysUptoCard

/-- THE SECOND FORM's CARD OF 'woollaw.PackSays'. -/
def packSaysUptoCard : Claim7 := { stood := { row := packSaysUptoRow, standIns := [], harness := (true, "86739a57c90b01a174af15d9934f917e703536d1b7f6707b566d7ab5c4528b89"), looks := false }, kinds := [], alts := [], laidByText := true, laidKinds := [.data, .pinned], laidTests := true, laidLooks := .later }
def PackSaysUptoCardSaid : Prop := Claim7.holds Tryd.pinned (.plain (OpenSpec.upto packSaysSpec)) packSaysUptoCard
end Rows
end Go.Proofs.YtkhclplinfobdaaDoor
