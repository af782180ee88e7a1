/-
  NARROWER THAN 'FOR EVERY INPUT', by the rows' own cells (each row's printed sentence says how): VolWrites: laid · VolMakes: laid · DiffSays: laid · LogDoes: laid · LogPlays: laid · TargetPlays: laid.
  DERIVED. THE GIVEN ROWS OF THIS SEAT. 6 by the template 'for every input the law returns true; each argument reads behind the call as it read before'; 0 by the template 'total and deterministic' (their statements: YteebcojoghnlnaaGreatDoorTotals.lean).
  GIVEN WITH THE SEED: the statements are not yours to turn. If you find one false, say at which input.
  Laid BY PROGRAM, IN A SANDBOX (cutbox-rows.mjs): the forced cells as the released guide's own fill.sh prints them over the translation 06643617352efcbc… (all of the seat's roots in one cut). By AI agents, Wed Nov 11 2026. No macro, syntax, notation, axiom, sorry.
-/
import Derived.Test.YteebcojoghnlnaaGreatDoorChecked
import GoSem.PinnedTables
import GoSem.Claim
import GoSem.ClaimJoined
import GoSem.ClaimMapViews
import Derived.JoinedTies
import Derived.KernelRfl
namespace Go.Proofs.YteebcojoghnlnaaGreatDoor
/- THE CELL 'sum', in the pinned program and in every row, IS THE sha256 OF THE DUMP (.gsa) THAT YteebcojoghnlnaaGreatDoorProg.lean LOADS. Nothing in Lean hashes anything: it is a label: what it is worth is what the hold of that sum in a sandbox is worth. -/
noncomputable def Tryz.pinned : Pinned := { name := "yteebcojoghnlnaagreatdoor", sum := "06643617352efcbc6154483d554c030b1024d3d10bb9a5666353f7fe656eea02", checked := Tryz.checked }
namespace Rows
def none {H : Type} : Left H := { results := [], args := [] }

/- WHAT THE LISTED PACKAGE-LEVEL VARIABLES READ AS WHEN THE CALL BEGINS. Each datum BY PROGRAM (the guide's laid-datum.mjs) off the statement by which the dump's own 'gosem.cut.vars' lays the variable. In a bare row this is a premise. The card (YteebcojoghnlnaaGreatDoorCards.lean) ties it to the program's text. -/
def laid_unicode_utf8_acceptRanges {H : Type} : DataW H := .agg [.agg [.lit (.int .u8 128), .lit (.int .u8 191)], .agg [.lit (.int .u8 160), .lit (.int .u8 191)], .agg [.lit (.int .u8 128), .lit (.int .u8 159)], .agg [.lit (.int .u8 144), .lit (.int .u8 191)], .agg [.lit (.int .u8 128), .lit (.int .u8 143)], .agg [.lit (.int .u8 0), .lit (.int .u8 0)], .agg [.lit (.int .u8 0), .lit (.int .u8 0)], .agg [.lit (.int .u8 0), .lit (.int .u8 0)], .agg [.lit (.int .u8 0), .lit (.int .u8 0)], .agg [.lit (.int .u8 0), .lit (.int .u8 0)], .agg [.lit (.int .u8 0), .lit (.int .u8 0)], .agg [.lit (.int .u8 0), .lit (.int .u8 0)], .agg [.lit (.int .u8 0), .lit (.int .u8 0)], .agg [.lit (.int .u8 0), .lit (.int .u8 0)], .agg [.lit (.int .u8 0), .lit (.int .u8 0)], .agg [.lit (.int .u8 0), .lit (.int .u8 0)]]
/-- One of Go's own tables, pinned by name: the form's constant. -/
def laid_unicode_utf8_first : DataW Unit := Go.Pinned.utf8First

/-- 'woollaw.VolWrites': WHATEVER THE INPUT: true; the input reads as it did. -/
def volWritesSpec : ChangeSpec := { name := "volWrites", fn := fun _ => fun
  | [d1, d2, d3, d4] => { results := [.lit (.bool true)], args := [d1, d2, d3, d4] }
  | _ => none }
def volWritesRow : OpenClaim := { program := "yteebcojoghnlnaagreatdoor", sum := "06643617352efcbc6154483d554c030b1024d3d10bb9a5666353f7fe656eea02", func := "woolsack/woollaw.VolWrites", spec := "volWrites", inPlace := ["slices.overlaps[woolsack/api.Item]", "internal/bytealg.IndexByteString", "internal/bytealg.IndexString", "internal/reflectlite.ValueOf", "internal/reflectlite.Swapper", "(internal/reflectlite.Value).Len"], unfollowed := true, recurses := true, named := ["unicode/utf8.first", "unicode/utf8.acceptRanges", "internal/bytealg.MaxLen"], plainKeys := false, apart := false, laid := [("unicode/utf8.acceptRanges", laid_unicode_utf8_acceptRanges), ("unicode/utf8.first", laid_unicode_utf8_first)] }
def VolWritesSaid : Prop := volWritesRow.holds Tryz.pinned (OpenSpec.ofChange volWritesSpec)

/-- ITS FALSE NEIGHBOUR: 'it returns false'. Refute it at one input. -/
def volWritesWrong : ChangeSpec := { name := "volWrites", fn := fun _ => fun
  | [d1, d2, d3, d4] => { results := [.lit (.bool false)], args := [d1, d2, d3, d4] }
  | _ => none }
def VolWritesWrongFalsely : Prop := volWritesRow.holds Tryz.pinned (OpenSpec.ofChange volWritesWrong)

/-- 'woollaw.VolMakes': WHATEVER THE INPUT: true; the input reads as it did. -/
def volMakesSpec : ChangeSpec := { name := "volMakes", fn := fun _ => fun
  | [d1, d2, d3, d4] => { results := [.lit (.bool true)], args := [d1, d2, d3, d4] }
  | _ => none }
def volMakesRow : OpenClaim := { program := "yteebcojoghnlnaagreatdoor", sum := "06643617352efcbc6154483d554c030b1024d3d10bb9a5666353f7fe656eea02", func := "woolsack/woollaw.VolMakes", spec := "volMakes", inPlace := ["internal/bytealg.abigen_runtime_cmpstring", "slices.overlaps[woolsack/api.Vol]", "internal/bytealg.IndexByteString", "internal/bytealg.IndexString", "internal/reflectlite.ValueOf", "internal/reflectlite.Swapper", "(internal/reflectlite.Value).Len"], unfollowed := true, recurses := true, named := ["unicode/utf8.first", "unicode/utf8.acceptRanges", "internal/bytealg.MaxLen"], plainKeys := false, apart := false, laid := [("unicode/utf8.acceptRanges", laid_unicode_utf8_acceptRanges), ("unicode/utf8.first", laid_unicode_utf8_first)] }
def VolMakesSaid : Prop := volMakesRow.holds Tryz.pinned (OpenSpec.ofChange volMakesSpec)

/-- ITS FALSE NEIGHBOUR: 'it returns false'. Refute it at one input. -/
def volMakesWrong : ChangeSpec := { name := "volMakes", fn := fun _ => fun
  | [d1, d2, d3, d4] => { results := [.lit (.bool false)], args := [d1, d2, d3, d4] }
  | _ => none }
def VolMakesWrongFalsely : Prop := volMakesRow.holds Tryz.pinned (OpenSpec.ofChange volMakesWrong)

/-- 'woollaw.DiffSays': WHATEVER THE INPUT: true; the input reads as it did. -/
def diffSaysSpec : ChangeSpec := { name := "diffSays", fn := fun _ => fun
  | [d1, d2, d3, d4] => { results := [.lit (.bool true)], args := [d1, d2, d3, d4] }
  | _ => none }
def diffSaysRow : OpenClaim := { program := "yteebcojoghnlnaagreatdoor", sum := "06643617352efcbc6154483d554c030b1024d3d10bb9a5666353f7fe656eea02", func := "woolsack/woollaw.DiffSays", spec := "diffSays", inPlace := ["slices.overlaps[woolsack/api.Item]", "internal/bytealg.IndexByteString", "internal/bytealg.IndexString", "internal/reflectlite.ValueOf", "internal/reflectlite.Swapper", "(internal/reflectlite.Value).Len"], unfollowed := true, recurses := true, named := ["unicode/utf8.first", "unicode/utf8.acceptRanges", "internal/bytealg.MaxLen"], plainKeys := false, apart := false, laid := [("unicode/utf8.acceptRanges", laid_unicode_utf8_acceptRanges), ("unicode/utf8.first", laid_unicode_utf8_first)] }
def DiffSaysSaid : Prop := diffSaysRow.holds Tryz.pinned (OpenSpec.ofChange diffSaysSpec)

/-- ITS FALSE NEIGHBOUR: 'it returns false'. Refute it at one input. -/
def diffSaysWrong : ChangeSpec := { name := "diffSays", fn := fun _ => fun
  | [d1, d2, d3, d4] => { results := [.lit (.bool false)], args := [d1, d2, d3, d4] }
  | _ => none }
def DiffSaysWrongFalsely : Prop := diffSaysRow.holds Tryz.pinned (OpenSpec.ofChange diffSaysWrong)

/-- 'woollaw.LogDoes': WHATEVER THE INPUT: true; the input reads as it did. -/
def logDoesSpec : ChangeSpec := { name := "logDoes", fn := fun _ => fun
  | [d1, d2] => { results := [.lit (.bool true)], args := [d1, d2] }
  | _ => none }
def logDoesRow : OpenClaim := { program := "yteebcojoghnlnaagreatdoor", sum := "06643617352efcbc6154483d554c030b1024d3d10bb9a5666353f7fe656eea02", func := "woolsack/woollaw.LogDoes", spec := "logDoes", inPlace := ["internal/bytealg.abigen_runtime_cmpstring", "slices.overlaps[woolsack/api.Vol]", "slices.overlaps[woolsack/api.Item]", "internal/bytealg.IndexByteString", "internal/bytealg.IndexString", "internal/reflectlite.ValueOf", "internal/reflectlite.Swapper", "(internal/reflectlite.Value).Len"], unfollowed := true, recurses := true, named := ["unicode/utf8.first", "unicode/utf8.acceptRanges", "internal/bytealg.MaxLen"], plainKeys := false, apart := false, laid := [("unicode/utf8.acceptRanges", laid_unicode_utf8_acceptRanges), ("unicode/utf8.first", laid_unicode_utf8_first)] }
def LogDoesSaid : Prop := logDoesRow.holds Tryz.pinned (OpenSpec.ofChange logDoesSpec)

/-- ITS FALSE NEIGHBOUR: 'it returns false'. Refute it at one input. -/
def logDoesWrong : ChangeSpec := { name := "logDoes", fn := fun _ => fun
  | [d1, d2] => { results := [.lit (.bool false)], args := [d1, d2] }
  | _ => none }
def LogDoesWrongFalsely : Prop := logDoesRow.holds Tryz.pinned (OpenSpec.ofChange logDoesWrong)

/-- 'woollaw.LogPlays': WHATEVER THE INPUT: true; the input reads as it did. -/
def logPlaysSpec : ChangeSpec := { name := "logPlays", fn := fun _ => fun
  | [d1, d2] => { results := [.lit (.bool true)], args := [d1, d2] }
  | _ => none }
def logPlaysRow : OpenClaim := { program := "yteebcojoghnlnaagreatdoor", sum := "06643617352efcbc6154483d554c030b1024d3d10bb9a5666353f7fe656eea02", func := "woolsack/woollaw.LogPlays", spec := "logPlays", inPlace := ["internal/bytealg.IndexByteString", "internal/bytealg.IndexString", "internal/bytealg.abigen_runtime_cmpstring", "slices.overlaps[woolsack/api.Vol]", "slices.overlaps[woolsack/api.Item]", "internal/reflectlite.ValueOf", "internal/reflectlite.Swapper", "(internal/reflectlite.Value).Len"], unfollowed := true, recurses := true, named := ["unicode/utf8.first", "unicode/utf8.acceptRanges", "internal/bytealg.MaxLen"], plainKeys := false, apart := false, laid := [("unicode/utf8.acceptRanges", laid_unicode_utf8_acceptRanges), ("unicode/utf8.first", laid_unicode_utf8_first)] }
def LogPlaysSaid : Prop := logPlaysRow.holds Tryz.pinned (OpenSpec.ofChange logPlaysSpec)

/-- ITS FALSE NEIGHBOUR: 'it returns false'. Refute it at one input. -/
def logPlaysWrong : ChangeSpec := { name := "logPlays", fn := fun _ => fun
  | [d1, d2] => { results := [.lit (.bool false)], args := [d1, d2] }
  | _ => none }
def LogPlaysWrongFalsely : Prop := logPlaysRow.holds Tryz.pinned (OpenSpec.ofChange logPlaysWrong)

/-- 'woollaw.TargetPlays': WHATEVER THE INPUT: true; the input reads as it did. -/
def targetPlaysSpec : ChangeSpec := { name := "targetPlays", fn := fun _ => fun
  | [d1, d2] => { results := [.lit (.bool true)], args := [d1, d2] }
  | _ => none }
def targetPlaysRow : OpenClaim := { program := "yteebcojoghnlnaagreatdoor", sum := "06643617352efcbc6154483d554c030b1024d3d10bb9a5666353f7fe656eea02", func := "woolsack/woollaw.TargetPlays", spec := "targetPlays", inPlace := ["internal/bytealg.abigen_runtime_cmpstring", "slices.overlaps[woolsack/api.Vol]", "slices.overlaps[woolsack/api.Item]", "internal/bytealg.IndexByteString", "internal/bytealg.IndexString", "internal/reflectlite.ValueOf", "internal/reflectlite.Swapper", "(internal/reflectlite.Value).Len", "slices.overlaps[woolsack/api.Reg]"], unfollowed := true, recurses := true, named := ["unicode/utf8.first", "unicode/utf8.acceptRanges", "internal/bytealg.MaxLen"], plainKeys := false, apart := false, laid := [("unicode/utf8.acceptRanges", laid_unicode_utf8_acceptRanges), ("unicode/utf8.first", laid_unicode_utf8_first)] }
def TargetPlaysSaid : Prop := targetPlaysRow.holds Tryz.pinned (OpenSpec.ofChange targetPlaysSpec)

/-- ITS FALSE NEIGHBOUR: 'it returns false'. Refute it at one input. -/
def targetPlaysWrong : ChangeSpec := { name := "targetPlays", fn := fun _ => fun
  | [d1, d2] => { results := [.lit (.bool false)], args := [d1, d2] }
  | _ => none }
def TargetPlaysWrongFalsely : Prop := targetPlaysRow.holds Tryz.pinned (OpenSpec.ofChange targetPlaysWrong)

/- THE SECOND FORM. 'bulk': how many values and letters a reading holds, each counted each time it is reached (what is shared counts as often as it is met; a slice's spare places count too). A statement '..UptoSaid' is the law's where the arguments, and the package variables that the reading takes, are together of bulk at most 1048576: NARROWER than '..Said'. Prove '..Said' where nothing that the law and all that it calls make is longer than what came in: it says more and counts as full. Else prove '..UptoSaid'. A law counts once. -/
mutual
def uptoBulk {H : Type} : DataW H → Nat
  | .lit (.string bytes) => bytes.length + 1
  | .lit _ => 1
  | .nil => 1
  | .ptr d => uptoBulk d + 1
  | .slice elems spare => uptoBulkAll elems + uptoBulkAll spare + 1
  | .agg parts => uptoBulkAll parts + 1
  | .iface _ d => uptoBulk d + 1
  | .map entries => uptoBulkEntries entries + 1
  | .held _ => 1
def uptoBulkAll {H : Type} : List (DataW H) → Nat
  | [] => 0
  | d :: r => uptoBulk d + uptoBulkAll r
def uptoBulkEntries {H : Type} : List (Lit × DataW H) → Nat
  | [] => 0
  | x :: r => uptoBulkEntry x + uptoBulkEntries r
def uptoBulkEntry {H : Type} : Lit × DataW H → Nat
  | (.string bytes, d) => bytes.length + uptoBulk d + 1
  | (_, d) => uptoBulk d + 1
 end
def uptoSmall : (H : Type) → List (DataW H) → Bool := fun _ ds => decide (uptoBulkAll ds ≤ 1048576)
def OpenSpec.upto (s : _root_.Go.ChangeSpec) : _root_.Go.OpenSpec := { _root_.Go.OpenSpec.ofChange s with cond := some uptoSmall }

/-- 'woollaw.VolWrites', WHERE WHAT IT READS IS OF BULK AT MOST 1048576: true; the input reads as it did. -/
def volWritesUptoRow : OpenClaim := { program := "yteebcojoghnlnaagreatdoor", sum := "06643617352efcbc6154483d554c030b1024d3d10bb9a5666353f7fe656eea02", func := "woolsack/woollaw.VolWrites", spec := "volWrites", inPlace := ["slices.overlaps[woolsack/api.Item]", "internal/bytealg.IndexByteString", "internal/bytealg.IndexString", "internal/reflectlite.ValueOf", "internal/reflectlite.Swapper", "(internal/reflectlite.Value).Len"], unfollowed := true, recurses := true, named := ["unicode/utf8.first", "unicode/utf8.acceptRanges", "internal/bytealg.MaxLen"], plainKeys := false, apart := false, laid := [("unicode/utf8.acceptRanges", laid_unicode_utf8_acceptRanges), ("unicode/utf8.first", laid_unicode_utf8_first)], narrowed := true }
def VolWritesUptoSaid : Prop := volWritesUptoRow.holds Tryz.pinned (OpenSpec.upto volWritesSpec)

/-- 'woollaw.VolMakes', WHERE WHAT IT READS IS OF BULK AT MOST 1048576: true; the input reads as it did. -/
def volMakesUptoRow : OpenClaim := { program := "yteebcojoghnlnaagreatdoor", sum := "06643617352efcbc6154483d554c030b1024d3d10bb9a5666353f7fe656eea02", func := "woolsack/woollaw.VolMakes", spec := "volMakes", inPlace := ["internal/bytealg.abigen_runtime_cmpstring", "slices.overlaps[woolsack/api.Vol]", "internal/bytealg.IndexByteString", "internal/bytealg.IndexString", "internal/reflectlite.ValueOf", "internal/reflectlite.Swapper", "(internal/reflectlite.Value).Len"], unfollowed := true, recurses := true, named := ["unicode/utf8.first", "unicode/utf8.acceptRanges", "internal/bytealg.MaxLen"], plainKeys := false, apart := false, laid := [("unicode/utf8.acceptRanges", laid_unicode_utf8_acceptRanges), ("unicode/utf8.first", laid_unicode_utf8_first)], narrowed := true }
def VolMakesUptoSaid : Prop := volMakesUptoRow.holds Tryz.pinned (OpenSpec.upto volMakesSpec)

/-- 'woollaw.DiffSays', WHERE WHAT IT READS IS OF BULK AT MOST 1048576: true; the input reads as it did. -/
def diffSaysUptoRow : OpenClaim := { program := "yteebcojoghnlnaagreatdoor", sum := "06643617352efcbc6154483d554c030b1024d3d10bb9a5666353f7fe656eea02", func := "woolsack/woollaw.DiffSays", spec := "diffSays", inPlace := ["slices.overlaps[woolsack/api.Item]", "internal/bytealg.IndexByteString", "internal/bytealg.IndexString", "internal/reflectlite.ValueOf", "internal/reflectlite.Swapper", "(internal/reflectlite.Value).Len"], unfollowed := true, recurses := true, named := ["unicode/utf8.first", "unicode/utf8.acceptRanges", "internal/bytealg.MaxLen"], plainKeys := false, apart := false, laid := [("unicode/utf8.acceptRanges", laid_unicode_utf8_acceptRanges), ("unicode/utf8.first", laid_unicode_utf8_first)], narrowed := true }
def DiffSaysUptoSaid : Prop := diffSaysUptoRow.holds Tryz.pinned (OpenSpec.upto diffSaysSpec)

/-- 'woollaw.LogDoes', WHERE WHAT IT READS IS OF BULK AT MOST 1048576: true; the input reads as it did. -/
def logDoesUptoRow : OpenClaim := { program := "yteebcojoghnlnaagreatdoor", sum := "06643617352efcbc6154483d554c030b1024d3d10bb9a5666353f7fe656eea02", func := "woolsack/woollaw.LogDoes", spec := "logDoes", inPlace := ["internal/bytealg.abigen_runtime_cmpstring", "slices.overlaps[woolsack/api.Vol]", "slices.overlaps[woolsack/api.Item]", "internal/bytealg.IndexByteString", "internal/bytealg.IndexString", "internal/reflectlite.ValueOf", "internal/reflectlite.Swapper", "(internal/reflectlite.Value).Len"], unfollowed := true, recurses := true, named := ["unicode/utf8.first", "unicode/utf8.acceptRanges", "internal/bytealg.MaxLen"], plainKeys := false, apart := false, laid := [("unicode/utf8.acceptRanges", laid_unicode_utf8_acceptRanges), ("unicode/utf8.first", laid_unicode_utf8_first)], narrowed := true }
def LogDoesUptoSaid : Prop := logDoesUptoRow.holds Tryz.pinned (OpenSpec.upto logDoesSpec)

/-- 'woollaw.LogPlays', WHERE WHAT IT READS IS OF BULK AT MOST 1048576: true; the input reads as it did. -/
def logPlaysUptoRow : OpenClaim := { program := "yteebcojoghnlnaagreatdoor", sum := "06643617352efcbc6154483d554c030b1024d3d10bb9a5666353f7fe656eea02", func := "woolsack/woollaw.LogPlays", spec := "logPlays", inPlace := ["internal/bytealg.IndexByteString", "internal/bytealg.IndexString", "internal/bytealg.abigen_runtime_cmpstring", "slices.overlaps[woolsack/api.Vol]", "slices.overlaps[woolsack/api.Item]", "internal/reflectlite.ValueOf", "internal/reflectlite.Swapper", "(internal/reflectlite.Value).Len"], unfollowed := true, recurses := true, named := ["unicode/utf8.first", "unicode/utf8.acceptRanges", "internal/bytealg.MaxLen"], plainKeys := false, apart := false, laid := [("unicode/utf8.acceptRanges", laid_unicode_utf8_acceptRanges), ("unicode/utf8.first", laid_unicode_utf8_first)], narrowed := true }
def LogPlaysUptoSaid : Prop := logPlaysUptoRow.holds Tryz.pinned (OpenSpec.upto logPlaysSpec)

/-- 'woollaw.TargetPlays', WHERE WHAT IT READS IS OF BULK AT MOST 1048576: true; the input reads as it did. -/
def targetPlaysUptoRow : OpenClaim := { program := "yteebcojoghnlnaagreatdoor", sum := "06643617352efcbc6154483d554c030b1024d3d10bb9a5666353f7fe656eea02", func := "woolsack/woollaw.TargetPlays", spec := "targetPlays", inPlace := ["internal/bytealg.abigen_runtime_cmpstring", "slices.overlaps[woolsack/api.Vol]", "slices.overlaps[woolsack/api.Item]", "internal/bytealg.IndexByteString", "internal/bytealg.IndexString", "internal/reflectlite.ValueOf", "internal/reflectlite.Swapper", "(internal/reflectlite.Value).Len", "slices.overlaps[woolsack/api.Reg]"], unfollowed := true, recurses := true, named := ["unicode/utf8.first", "unicode/utf8.acceptRanges", "internal/bytealg.MaxLen"], plainKeys := false, apart := false, laid := [("unicode/utf8.acceptRanges", laid_unicode_utf8_acceptRanges), ("unicode/utf8.first", laid_unicode_utf8_first)], narrowed := true }
def TargetPlaysUptoSaid : Prop := targetPlaysUptoRow.holds Tryz.pinned (OpenSpec.upto targetPlaysSpec)

end Rows
end Go.Proofs.YteebcojoghnlnaaGreatDoor
