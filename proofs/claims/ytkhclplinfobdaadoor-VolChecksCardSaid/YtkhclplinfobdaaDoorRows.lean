/-
  NARROWER THAN 'FOR EVERY INPUT', by the rows' own cells (each row's printed sentence says how): LogCodes: laid · PackBytes: laid · VolChecks: laid · GammaSays: laid · PackSays: laid.
  DERIVED. THE GIVEN ROWS OF THIS SEAT. 5 by the template 'for every input the law returns true; each argument reads behind the call as it read before'; 0 by the template 'total and deterministic' (their statements: YtkhclplinfobdaaDoorTotals.lean).
  GIVEN WITH THE SEED: the statements are not yours to turn. If you find one false, say at which input.
  Laid BY PROGRAM, IN A SANDBOX (cutbox-rows.mjs): the forced cells as the released guide's own fill.sh prints them over the translation 6f300dd80a999d54… (all of the seat's roots in one cut). By AI agents, Wed Nov 11 2026. No macro, syntax, notation, axiom, sorry.
-/
import Derived.Test.YtkhclplinfobdaaDoorChecked
import GoSem.PinnedTables
import GoSem.Claim
import GoSem.ClaimJoined
import GoSem.ClaimMapViews
import Derived.JoinedTies
import Derived.KernelRfl
namespace Go.Proofs.YtkhclplinfobdaaDoor
/- THE CELL 'sum', in the pinned program and in every row, IS THE sha256 OF THE DUMP (.gsa) THAT YtkhclplinfobdaaDoorProg.lean LOADS. Nothing in Lean hashes anything: it is a label: what it is worth is what the hold of that sum in a sandbox is worth. -/
noncomputable def Tryd.pinned : Pinned := { name := "ytkhclplinfobdaadoor", sum := "6f300dd80a999d54d2371bcb70d99dd80c0bb06d9a8d0bb87dff2f987513a09d", checked := Tryd.checked }
namespace Rows
def none {H : Type} : Left H := { results := [], args := [] }

/- WHAT THE LISTED PACKAGE-LEVEL VARIABLES READ AS WHEN THE CALL BEGINS. Each datum BY PROGRAM (the guide's laid-datum.mjs) off the statement by which the dump's own 'gosem.cut.vars' lays the variable. In a bare row this is a premise. The card (YtkhclplinfobdaaDoorCards.lean) ties it to the program's text. -/
def laid_unicode_utf8_acceptRanges {H : Type} : DataW H := .agg [.agg [.lit (.int .u8 128), .lit (.int .u8 191)], .agg [.lit (.int .u8 160), .lit (.int .u8 191)], .agg [.lit (.int .u8 128), .lit (.int .u8 159)], .agg [.lit (.int .u8 144), .lit (.int .u8 191)], .agg [.lit (.int .u8 128), .lit (.int .u8 143)], .agg [.lit (.int .u8 0), .lit (.int .u8 0)], .agg [.lit (.int .u8 0), .lit (.int .u8 0)], .agg [.lit (.int .u8 0), .lit (.int .u8 0)], .agg [.lit (.int .u8 0), .lit (.int .u8 0)], .agg [.lit (.int .u8 0), .lit (.int .u8 0)], .agg [.lit (.int .u8 0), .lit (.int .u8 0)], .agg [.lit (.int .u8 0), .lit (.int .u8 0)], .agg [.lit (.int .u8 0), .lit (.int .u8 0)], .agg [.lit (.int .u8 0), .lit (.int .u8 0)], .agg [.lit (.int .u8 0), .lit (.int .u8 0)], .agg [.lit (.int .u8 0), .lit (.int .u8 0)]]
/-- One of Go's own tables, pinned by name: the form's constant. -/
def laid_unicode_utf8_first : DataW Unit := Go.Pinned.utf8First

/-- 'woollaw.LogCodes': WHATEVER THE INPUT: true; the input reads as it did. -/
def logCodesSpec : ChangeSpec := { name := "logCodes", fn := fun _ => fun
  | [d1, d2] => { results := [.lit (.bool true)], args := [d1, d2] }
  | _ => none }
def logCodesRow : OpenClaim := { program := "ytkhclplinfobdaadoor", sum := "6f300dd80a999d54d2371bcb70d99dd80c0bb06d9a8d0bb87dff2f987513a09d", func := "woolsack/woollaw.LogCodes", spec := "logCodes", inPlace := ["internal/bytealg.IndexByteString", "internal/bytealg.IndexString"], unfollowed := true, recurses := true, named := ["unicode/utf8.first", "unicode/utf8.acceptRanges", "internal/bytealg.MaxLen"], plainKeys := false, apart := false, laid := [("unicode/utf8.acceptRanges", laid_unicode_utf8_acceptRanges), ("unicode/utf8.first", laid_unicode_utf8_first)] }
def LogCodesSaid : Prop := logCodesRow.holds Tryd.pinned (OpenSpec.ofChange logCodesSpec)

/-- ITS FALSE NEIGHBOUR: 'it returns false'. Refute it at one input. -/
def logCodesWrong : ChangeSpec := { name := "logCodes", fn := fun _ => fun
  | [d1, d2] => { results := [.lit (.bool false)], args := [d1, d2] }
  | _ => none }
def LogCodesWrongFalsely : Prop := logCodesRow.holds Tryd.pinned (OpenSpec.ofChange logCodesWrong)

/-- 'woollaw.PackBytes': WHATEVER THE INPUT: true; the input reads as it did. -/
def packBytesSpec : ChangeSpec := { name := "packBytes", fn := fun _ => fun
  | [d1, d2] => { results := [.lit (.bool true)], args := [d1, d2] }
  | _ => none }
def packBytesRow : OpenClaim := { program := "ytkhclplinfobdaadoor", sum := "6f300dd80a999d54d2371bcb70d99dd80c0bb06d9a8d0bb87dff2f987513a09d", func := "woolsack/woollaw.PackBytes", spec := "packBytes", inPlace := ["internal/bytealg.IndexByteString", "internal/bytealg.IndexString", "internal/abi.NoEscape", "internal/bytealg.MakeNoZero"], named := ["unicode/utf8.first", "unicode/utf8.acceptRanges", "internal/bytealg.MaxLen"], plainKeys := false, apart := false, laid := [("unicode/utf8.acceptRanges", laid_unicode_utf8_acceptRanges), ("unicode/utf8.first", laid_unicode_utf8_first)] }
def PackBytesSaid : Prop := packBytesRow.holds Tryd.pinned (OpenSpec.ofChange packBytesSpec)

/-- ITS FALSE NEIGHBOUR: 'it returns false'. Refute it at one input. -/
def packBytesWrong : ChangeSpec := { name := "packBytes", fn := fun _ => fun
  | [d1, d2] => { results := [.lit (.bool false)], args := [d1, d2] }
  | _ => none }
def PackBytesWrongFalsely : Prop := packBytesRow.holds Tryd.pinned (OpenSpec.ofChange packBytesWrong)

/-- 'woollaw.VolChecks': WHATEVER THE INPUT: true; the input reads as it did. -/
def volChecksSpec : ChangeSpec := { name := "volChecks", fn := fun _ => fun
  | [d1, d2, d3] => { results := [.lit (.bool true)], args := [d1, d2, d3] }
  | _ => none }
def volChecksRow : OpenClaim := { program := "ytkhclplinfobdaadoor", sum := "6f300dd80a999d54d2371bcb70d99dd80c0bb06d9a8d0bb87dff2f987513a09d", func := "woolsack/woollaw.VolChecks", spec := "volChecks", inPlace := ["internal/bytealg.IndexByteString", "internal/bytealg.IndexString"], unfollowed := true, recurses := true, named := ["unicode/utf8.first", "unicode/utf8.acceptRanges", "internal/bytealg.MaxLen"], plainKeys := false, apart := false, laid := [("unicode/utf8.acceptRanges", laid_unicode_utf8_acceptRanges), ("unicode/utf8.first", laid_unicode_utf8_first)] }
def VolChecksSaid : Prop := volChecksRow.holds Tryd.pinned (OpenSpec.ofChange volChecksSpec)

/-- ITS FALSE NEIGHBOUR: 'it returns false'. Refute it at one input. -/
def volChecksWrong : ChangeSpec := { name := "volChecks", fn := fun _ => fun
  | [d1, d2, d3] => { results := [.lit (.bool false)], args := [d1, d2, d3] }
  | _ => none }
def VolChecksWrongFalsely : Prop := volChecksRow.holds Tryd.pinned (OpenSpec.ofChange volChecksWrong)

/-- 'woollaw.GammaSays': WHATEVER THE INPUT: true; the input reads as it did. -/
def gammaSaysSpec : ChangeSpec := { name := "gammaSays", fn := fun _ => fun
  | [d1, d2] => { results := [.lit (.bool true)], args := [d1, d2] }
  | _ => none }
def gammaSaysRow : OpenClaim := { program := "ytkhclplinfobdaadoor", sum := "6f300dd80a999d54d2371bcb70d99dd80c0bb06d9a8d0bb87dff2f987513a09d", func := "woolsack/woollaw.GammaSays", spec := "gammaSays", inPlace := ["internal/abi.NoEscape", "internal/bytealg.MakeNoZero", "internal/bytealg.IndexByteString", "internal/bytealg.IndexString"], named := ["unicode/utf8.first", "unicode/utf8.acceptRanges", "internal/bytealg.MaxLen"], plainKeys := false, apart := false, laid := [("unicode/utf8.acceptRanges", laid_unicode_utf8_acceptRanges), ("unicode/utf8.first", laid_unicode_utf8_first)] }
def GammaSaysSaid : Prop := gammaSaysRow.holds Tryd.pinned (OpenSpec.ofChange gammaSaysSpec)

/-- ITS FALSE NEIGHBOUR: 'it returns false'. Refute it at one input. -/
def gammaSaysWrong : ChangeSpec := { name := "gammaSays", fn := fun _ => fun
  | [d1, d2] => { results := [.lit (.bool false)], args := [d1, d2] }
  | _ => none }
def GammaSaysWrongFalsely : Prop := gammaSaysRow.holds Tryd.pinned (OpenSpec.ofChange gammaSaysWrong)

/-- 'woollaw.PackSays': WHATEVER THE INPUT: true; the input reads as it did. -/
def packSaysSpec : ChangeSpec := { name := "packSays", fn := fun _ => fun
  | [d1, d2] => { results := [.lit (.bool true)], args := [d1, d2] }
  | _ => none }
def packSaysRow : OpenClaim := { program := "ytkhclplinfobdaadoor", sum := "6f300dd80a999d54d2371bcb70d99dd80c0bb06d9a8d0bb87dff2f987513a09d", func := "woolsack/woollaw.PackSays", spec := "packSays", inPlace := ["internal/abi.NoEscape", "internal/bytealg.MakeNoZero", "internal/bytealg.IndexByteString", "internal/bytealg.IndexString"], named := ["unicode/utf8.first", "unicode/utf8.acceptRanges", "internal/bytealg.MaxLen"], plainKeys := false, apart := false, laid := [("unicode/utf8.acceptRanges", laid_unicode_utf8_acceptRanges), ("unicode/utf8.first", laid_unicode_utf8_first)] }
def PackSaysSaid : Prop := packSaysRow.holds Tryd.pinned (OpenSpec.ofChange packSaysSpec)

/-- ITS FALSE NEIGHBOUR: 'it returns false'. Refute it at one input. -/
def packSaysWrong : ChangeSpec := { name := "packSays", fn := fun _ => fun
  | [d1, d2] => { results := [.lit (.bool false)], args := [d1, d2] }
  | _ => none }
def PackSaysWrongFalsely : Prop := packSaysRow.holds Tryd.pinned (OpenSpec.ofChange packSaysWrong)

/- THE SECOND FORM. 'bulk': how many values and letters a reading holds, each counted each time it is reached (what is shared counts as often as it is met; a slice's spare places count too). A statement '..UptoSaid' is the law's where the arguments, and the package variables that the reading takes, are together of bulk at most 1048576: NARROWER than '..Said'. Prove '..Said' where nothing that the law and all that it calls make is longer than what came in: it says more and counts as full. Else prove '..UptoSaid'. A law counts once. -/
mutual
def uptoBulk {H : Type} : DataW H → Nat
  | .lit (.string bytes) => bytes.length + 1
  | .lit _ => 1
  | .nil => 1
  | .ptr d => uptoBulk d + 1
  | .slice elems spare => uptoBulkAll elems + uptoBulkAll spare + 1
  | .agg parts => uptoBulkAll parts + 1
  | .iface _ d => uptoBulk d + 1
  | .map entries => uptoBulkEntries entries + 1
  | .held _ => 1
def uptoBulkAll {H : Type} : List (DataW H) → Nat
  | [] => 0
  | d :: r => uptoBulk d + uptoBulkAll r
def uptoBulkEntries {H : Type} : List (Lit × DataW H) → Nat
  | [] => 0
  | x :: r => uptoBulkEntry x + uptoBulkEntries r
def uptoBulkEntry {H : Type} : Lit × DataW H → Nat
  | (.string bytes, d) => bytes.length + uptoBulk d + 1
  | (_, d) => uptoBulk d + 1
 end
def uptoSmall : (H : Type) → List (DataW H) → Bool := fun _ ds => decide (uptoBulkAll ds ≤ 1048576)
def OpenSpec.upto (s : _root_.Go.ChangeSpec) : _root_.Go.OpenSpec := { _root_.Go.OpenSpec.ofChange s with cond := some uptoSmall }

/-- 'woollaw.LogCodes', WHERE WHAT IT READS IS OF BULK AT MOST 1048576: true; the input reads as it did. -/
def logCodesUptoRow : OpenClaim := { program := "ytkhclplinfobdaadoor", sum := "6f300dd80a999d54d2371bcb70d99dd80c0bb06d9a8d0bb87dff2f987513a09d", func := "woolsack/woollaw.LogCodes", spec := "logCodes", inPlace := ["internal/bytealg.IndexByteString", "internal/bytealg.IndexString"], unfollowed := true, recurses := true, named := ["unicode/utf8.first", "unicode/utf8.acceptRanges", "internal/bytealg.MaxLen"], plainKeys := false, apart := false, laid := [("unicode/utf8.acceptRanges", laid_unicode_utf8_acceptRanges), ("unicode/utf8.first", laid_unicode_utf8_first)], narrowed := true }
def LogCodesUptoSaid : Prop := logCodesUptoRow.holds Tryd.pinned (OpenSpec.upto logCodesSpec)

/-- 'woollaw.PackBytes', WHERE WHAT IT READS IS OF BULK AT MOST 1048576: true; the input reads as it did. -/
def packBytesUptoRow : OpenClaim := { program := "ytkhclplinfobdaadoor", sum := "6f300dd80a999d54d2371bcb70d99dd80c0bb06d9a8d0bb87dff2f987513a09d", func := "woolsack/woollaw.PackBytes", spec := "packBytes", inPlace := ["internal/bytealg.IndexByteString", "internal/bytealg.IndexString", "internal/abi.NoEscape", "internal/bytealg.MakeNoZero"], named := ["unicode/utf8.first", "unicode/utf8.acceptRanges", "internal/bytealg.MaxLen"], plainKeys := false, apart := false, laid := [("unicode/utf8.acceptRanges", laid_unicode_utf8_acceptRanges), ("unicode/utf8.first", laid_unicode_utf8_first)], narrowed := true }
def PackBytesUptoSaid : Prop := packBytesUptoRow.holds Tryd.pinned (OpenSpec.upto packBytesSpec)

/-- 'woollaw.VolChecks', WHERE WHAT IT READS IS OF BULK AT MOST 1048576: true; the input reads as it did. -/
def volChecksUptoRow : OpenClaim := { program := "ytkhclplinfobdaadoor", sum := "6f300dd80a999d54d2371bcb70d99dd80c0bb06d9a8d0bb87dff2f987513a09d", func := "woolsack/woollaw.VolChecks", spec := "volChecks", inPlace := ["internal/bytealg.IndexByteString", "internal/bytealg.IndexString"], unfollowed := true, recurses := true, named := ["unicode/utf8.first", "unicode/utf8.acceptRanges", "internal/bytealg.MaxLen"], plainKeys := false, apart := false, laid := [("unicode/utf8.acceptRanges", laid_unicode_utf8_acceptRanges), ("unicode/utf8.first", laid_unicode_utf8_first)], narrowed := true }
def VolChecksUptoSaid : Prop := volChecksUptoRow.holds Tryd.pinned (OpenSpec.upto volChecksSpec)

/-- 'woollaw.GammaSays', WHERE WHAT IT READS IS OF BULK AT MOST 1048576: true; the input reads as it did. -/
def gammaSaysUptoRow : OpenClaim := { program := "ytkhclplinfobdaadoor", sum := "6f300dd80a999d54d2371bcb70d99dd80c0bb06d9a8d0bb87dff2f987513a09d", func := "woolsack/woollaw.GammaSays", spec := "gammaSays", inPlace := ["internal/abi.NoEscape", "internal/bytealg.MakeNoZero", "internal/bytealg.IndexByteString", "internal/bytealg.IndexString"], named := ["unicode/utf8.first", "unicode/utf8.acceptRanges", "internal/bytealg.MaxLen"], plainKeys := false, apart := false, laid := [("unicode/utf8.acceptRanges", laid_unicode_utf8_acceptRanges), ("unicode/utf8.first", laid_unicode_utf8_first)], narrowed := true }
def GammaSaysUptoSaid : Prop := gammaSaysUptoRow.holds Tryd.pinned (OpenSpec.upto gammaSaysSpec)

/-- 'woollaw.PackSays', WHERE WHAT IT READS IS OF BULK AT MOST 1048576: true; the input reads as it did. -/
def packSaysUptoRow : OpenClaim := { program := "ytkhclplinfobdaadoor", sum := "6f300dd80a999d54d2371bcb70d99dd80c0bb06d9a8d0bb87dff2f987513a09d", func := "woolsack/woollaw.PackSays", spec := "packSays", inPlace := ["internal/abi.NoEscape", "internal/bytealg.MakeNoZero", "internal/bytealg.IndexByteString", "internal/bytealg.IndexString"], named := ["unicode/utf8.first", "unicode/utf8.acceptRanges", "internal/bytealg.MaxLen"], plainKeys := false, apart := false, laid := [("unicode/utf8.acceptRanges", laid_unicode_utf8_acceptRanges), ("unicode/utf8.first", laid_unicode_utf8_first)], narrowed := true }
def PackSaysUptoSaid : Prop := packSaysUptoRow.holds Tryd.pinned (OpenSpec.upto packSaysSpec)

end Rows
end Go.Proofs.YtkhclplinfobdaaDoor
