/-
  No cell of these rows narrows 'for every input' (looked for: loops, veiled, ifaces, maps, wideKeys, modest, calm, conditions, laid).
  DERIVED. THE GIVEN ROWS OF THIS SEAT. 12 by the template 'for every input the law returns true; each argument reads behind the call as it read before'; 0 by the template 'total and deterministic' (their statements: YtkhadbanpfngnaaTotals.lean).
  GIVEN WITH THE SEED: the statements are not yours to turn. If you find one false, say at which input.
  Laid BY PROGRAM, IN A SANDBOX (cutbox-rows.mjs): the forced cells as the released guide's own fill.sh prints them over the translation c206f8b777971a3d… (all of the seat's roots in one cut). By AI agents, Wed Nov 11 2026. No macro, syntax, notation, axiom, sorry.
-/
import Derived.Test.YtkhadbanpfngnaaChecked
import GoSem.Claim
import GoSem.ClaimJoined
import GoSem.ClaimMapViews
import Derived.JoinedTies
import Derived.KernelRfl
namespace Go.Proofs.Ytkhadbanpfngnaa
/- THE CELL 'sum', in the pinned program and in every row, IS THE sha256 OF THE DUMP (.gsa) THAT YtkhadbanpfngnaaProg.lean LOADS. Nothing in Lean hashes anything: it is a label: what it is worth is what the hold of that sum in a sandbox is worth. -/
noncomputable def Try.pinned : Pinned := { name := "ytkhadbanpfngnaa", sum := "c206f8b777971a3db325260f5bf7106276e4ecbc778902ac46eddf0a62cbd1de", checked := Try.checked }
namespace Rows
def none {H : Type} : Left H := { results := [], args := [] }

/-- 'woollaw.PrintSays': WHATEVER THE INPUT: true; the input reads as it did. -/
def printSaysSpec : ChangeSpec := { name := "printSays", fn := fun _ => fun
  | [d1, d2] => { results := [.lit (.bool true)], args := [d1, d2] }
  | _ => none }
def printSaysRow : OpenClaim := { program := "ytkhadbanpfngnaa", sum := "c206f8b777971a3db325260f5bf7106276e4ecbc778902ac46eddf0a62cbd1de", func := "woolsack/woollaw.PrintSays", spec := "printSays", unfollowed := true, recurses := true, apart := false }
def PrintSaysSaid : Prop := printSaysRow.holds Try.pinned (OpenSpec.ofChange printSaysSpec)

/-- ITS FALSE NEIGHBOUR: 'it returns false'. Refute it at one input. -/
def printSaysWrong : ChangeSpec := { name := "printSays", fn := fun _ => fun
  | [d1, d2] => { results := [.lit (.bool false)], args := [d1, d2] }
  | _ => none }
def PrintSaysWrongFalsely : Prop := printSaysRow.holds Try.pinned (OpenSpec.ofChange printSaysWrong)

/-- 'woollaw.PolySays': WHATEVER THE INPUT: true; the input reads as it did. -/
def polySaysSpec : ChangeSpec := { name := "polySays", fn := fun _ => fun
  | [d1, d2] => { results := [.lit (.bool true)], args := [d1, d2] }
  | _ => none }
def polySaysRow : OpenClaim := { program := "ytkhadbanpfngnaa", sum := "c206f8b777971a3db325260f5bf7106276e4ecbc778902ac46eddf0a62cbd1de", func := "woolsack/woollaw.PolySays", spec := "polySays", apart := false }
def PolySaysSaid : Prop := polySaysRow.holds Try.pinned (OpenSpec.ofChange polySaysSpec)

/-- ITS FALSE NEIGHBOUR: 'it returns false'. Refute it at one input. -/
def polySaysWrong : ChangeSpec := { name := "polySays", fn := fun _ => fun
  | [d1, d2] => { results := [.lit (.bool false)], args := [d1, d2] }
  | _ => none }
def PolySaysWrongFalsely : Prop := polySaysRow.holds Try.pinned (OpenSpec.ofChange polySaysWrong)

/-- 'woollaw.TreeVerifies': WHATEVER THE INPUT: true; the input reads as it did. -/
def treeVerifiesSpec : ChangeSpec := { name := "treeVerifies", fn := fun _ => fun
  | [d1, d2, d3, d4, d5] => { results := [.lit (.bool true)], args := [d1, d2, d3, d4, d5] }
  | _ => none }
def treeVerifiesRow : OpenClaim := { program := "ytkhadbanpfngnaa", sum := "c206f8b777971a3db325260f5bf7106276e4ecbc778902ac46eddf0a62cbd1de", func := "woolsack/woollaw.TreeVerifies", spec := "treeVerifies", unfollowed := true, recurses := true, apart := false }
def TreeVerifiesSaid : Prop := treeVerifiesRow.holds Try.pinned (OpenSpec.ofChange treeVerifiesSpec)

/-- ITS FALSE NEIGHBOUR: 'it returns false'. Refute it at one input. -/
def treeVerifiesWrong : ChangeSpec := { name := "treeVerifies", fn := fun _ => fun
  | [d1, d2, d3, d4, d5] => { results := [.lit (.bool false)], args := [d1, d2, d3, d4, d5] }
  | _ => none }
def TreeVerifiesWrongFalsely : Prop := treeVerifiesRow.holds Try.pinned (OpenSpec.ofChange treeVerifiesWrong)

/-- 'woollaw.CutSays': WHATEVER THE INPUT: true; the input reads as it did. -/
def cutSaysSpec : ChangeSpec := { name := "cutSays", fn := fun _ => fun
  | [d1, d2, d3, d4] => { results := [.lit (.bool true)], args := [d1, d2, d3, d4] }
  | _ => none }
def cutSaysRow : OpenClaim := { program := "ytkhadbanpfngnaa", sum := "c206f8b777971a3db325260f5bf7106276e4ecbc778902ac46eddf0a62cbd1de", func := "woolsack/woollaw.CutSays", spec := "cutSays", unfollowed := true, recurses := true, apart := false }
def CutSaysSaid : Prop := cutSaysRow.holds Try.pinned (OpenSpec.ofChange cutSaysSpec)

/-- ITS FALSE NEIGHBOUR: 'it returns false'. Refute it at one input. -/
def cutSaysWrong : ChangeSpec := { name := "cutSays", fn := fun _ => fun
  | [d1, d2, d3, d4] => { results := [.lit (.bool false)], args := [d1, d2, d3, d4] }
  | _ => none }
def CutSaysWrongFalsely : Prop := cutSaysRow.holds Try.pinned (OpenSpec.ofChange cutSaysWrong)

/-- 'woollaw.PolyDivides': WHATEVER THE INPUT: true; the input reads as it did. -/
def polyDividesSpec : ChangeSpec := { name := "polyDivides", fn := fun _ => fun
  | [d1, d2] => { results := [.lit (.bool true)], args := [d1, d2] }
  | _ => none }
def polyDividesRow : OpenClaim := { program := "ytkhadbanpfngnaa", sum := "c206f8b777971a3db325260f5bf7106276e4ecbc778902ac46eddf0a62cbd1de", func := "woolsack/woollaw.PolyDivides", spec := "polyDivides", recurses := true, apart := false }
def PolyDividesSaid : Prop := polyDividesRow.holds Try.pinned (OpenSpec.ofChange polyDividesSpec)

/-- ITS FALSE NEIGHBOUR: 'it returns false'. Refute it at one input. -/
def polyDividesWrong : ChangeSpec := { name := "polyDivides", fn := fun _ => fun
  | [d1, d2] => { results := [.lit (.bool false)], args := [d1, d2] }
  | _ => none }
def PolyDividesWrongFalsely : Prop := polyDividesRow.holds Try.pinned (OpenSpec.ofChange polyDividesWrong)

/-- 'woollaw.FrameSays': WHATEVER THE INPUT: true; the input reads as it did. -/
def frameSaysSpec : ChangeSpec := { name := "frameSays", fn := fun _ => fun
  | [d1, d2] => { results := [.lit (.bool true)], args := [d1, d2] }
  | _ => none }
def frameSaysRow : OpenClaim := { program := "ytkhadbanpfngnaa", sum := "c206f8b777971a3db325260f5bf7106276e4ecbc778902ac46eddf0a62cbd1de", func := "woolsack/woollaw.FrameSays", spec := "frameSays", unfollowed := true, recurses := true, apart := false }
def FrameSaysSaid : Prop := frameSaysRow.holds Try.pinned (OpenSpec.ofChange frameSaysSpec)

/-- ITS FALSE NEIGHBOUR: 'it returns false'. Refute it at one input. -/
def frameSaysWrong : ChangeSpec := { name := "frameSays", fn := fun _ => fun
  | [d1, d2] => { results := [.lit (.bool false)], args := [d1, d2] }
  | _ => none }
def FrameSaysWrongFalsely : Prop := frameSaysRow.holds Try.pinned (OpenSpec.ofChange frameSaysWrong)

/-- 'woollaw.ResvMay': WHATEVER THE INPUT: true; the input reads as it did. -/
def resvMaySpec : ChangeSpec := { name := "resvMay", fn := fun _ => fun
  | [d1, d2, d3] => { results := [.lit (.bool true)], args := [d1, d2, d3] }
  | _ => none }
def resvMayRow : OpenClaim := { program := "ytkhadbanpfngnaa", sum := "c206f8b777971a3db325260f5bf7106276e4ecbc778902ac46eddf0a62cbd1de", func := "woolsack/woollaw.ResvMay", spec := "resvMay", unfollowed := true, recurses := true, apart := false }
def ResvMaySaid : Prop := resvMayRow.holds Try.pinned (OpenSpec.ofChange resvMaySpec)

/-- ITS FALSE NEIGHBOUR: 'it returns false'. Refute it at one input. -/
def resvMayWrong : ChangeSpec := { name := "resvMay", fn := fun _ => fun
  | [d1, d2, d3] => { results := [.lit (.bool false)], args := [d1, d2, d3] }
  | _ => none }
def ResvMayWrongFalsely : Prop := resvMayRow.holds Try.pinned (OpenSpec.ofChange resvMayWrong)

/-- 'woollaw.PolyMods': WHATEVER THE INPUT: true; the input reads as it did. -/
def polyModsSpec : ChangeSpec := { name := "polyMods", fn := fun _ => fun
  | [d1, d2, d3, d4] => { results := [.lit (.bool true)], args := [d1, d2, d3, d4] }
  | _ => none }
def polyModsRow : OpenClaim := { program := "ytkhadbanpfngnaa", sum := "c206f8b777971a3db325260f5bf7106276e4ecbc778902ac46eddf0a62cbd1de", func := "woolsack/woollaw.PolyMods", spec := "polyMods", recurses := true, apart := false }
def PolyModsSaid : Prop := polyModsRow.holds Try.pinned (OpenSpec.ofChange polyModsSpec)

/-- ITS FALSE NEIGHBOUR: 'it returns false'. Refute it at one input. -/
def polyModsWrong : ChangeSpec := { name := "polyMods", fn := fun _ => fun
  | [d1, d2, d3, d4] => { results := [.lit (.bool false)], args := [d1, d2, d3, d4] }
  | _ => none }
def PolyModsWrongFalsely : Prop := polyModsRow.holds Try.pinned (OpenSpec.ofChange polyModsWrong)

/-- 'woollaw.SegSays': WHATEVER THE INPUT: true; the input reads as it did. -/
def segSaysSpec : ChangeSpec := { name := "segSays", fn := fun _ => fun
  | [d1, d2] => { results := [.lit (.bool true)], args := [d1, d2] }
  | _ => none }
def segSaysRow : OpenClaim := { program := "ytkhadbanpfngnaa", sum := "c206f8b777971a3db325260f5bf7106276e4ecbc778902ac46eddf0a62cbd1de", func := "woolsack/woollaw.SegSays", spec := "segSays", unfollowed := true, recurses := true, apart := false }
def SegSaysSaid : Prop := segSaysRow.holds Try.pinned (OpenSpec.ofChange segSaysSpec)

/-- ITS FALSE NEIGHBOUR: 'it returns false'. Refute it at one input. -/
def segSaysWrong : ChangeSpec := { name := "segSays", fn := fun _ => fun
  | [d1, d2] => { results := [.lit (.bool false)], args := [d1, d2] }
  | _ => none }
def SegSaysWrongFalsely : Prop := segSaysRow.holds Try.pinned (OpenSpec.ofChange segSaysWrong)

/-- 'woollaw.TreeSays': WHATEVER THE INPUT: true; the input reads as it did. -/
def treeSaysSpec : ChangeSpec := { name := "treeSays", fn := fun _ => fun
  | [d1, d2] => { results := [.lit (.bool true)], args := [d1, d2] }
  | _ => none }
def treeSaysRow : OpenClaim := { program := "ytkhadbanpfngnaa", sum := "c206f8b777971a3db325260f5bf7106276e4ecbc778902ac46eddf0a62cbd1de", func := "woolsack/woollaw.TreeSays", spec := "treeSays", unfollowed := true, recurses := true, apart := false }
def TreeSaysSaid : Prop := treeSaysRow.holds Try.pinned (OpenSpec.ofChange treeSaysSpec)

/-- ITS FALSE NEIGHBOUR: 'it returns false'. Refute it at one input. -/
def treeSaysWrong : ChangeSpec := { name := "treeSays", fn := fun _ => fun
  | [d1, d2] => { results := [.lit (.bool false)], args := [d1, d2] }
  | _ => none }
def TreeSaysWrongFalsely : Prop := treeSaysRow.holds Try.pinned (OpenSpec.ofChange treeSaysWrong)

/-- 'woollaw.PrintMoves': WHATEVER THE INPUT: true; the input reads as it did. -/
def printMovesSpec : ChangeSpec := { name := "printMoves", fn := fun _ => fun
  | [d1, d2, d3, d4, d5, d6] => { results := [.lit (.bool true)], args := [d1, d2, d3, d4, d5, d6] }
  | _ => none }
def printMovesRow : OpenClaim := { program := "ytkhadbanpfngnaa", sum := "c206f8b777971a3db325260f5bf7106276e4ecbc778902ac46eddf0a62cbd1de", func := "woolsack/woollaw.PrintMoves", spec := "printMoves", recurses := true, apart := false }
def PrintMovesSaid : Prop := printMovesRow.holds Try.pinned (OpenSpec.ofChange printMovesSpec)

/-- ITS FALSE NEIGHBOUR: 'it returns false'. Refute it at one input. -/
def printMovesWrong : ChangeSpec := { name := "printMoves", fn := fun _ => fun
  | [d1, d2, d3, d4, d5, d6] => { results := [.lit (.bool false)], args := [d1, d2, d3, d4, d5, d6] }
  | _ => none }
def PrintMovesWrongFalsely : Prop := printMovesRow.holds Try.pinned (OpenSpec.ofChange printMovesWrong)

/-- 'woollaw.QueueSays': WHATEVER THE INPUT: true; the input reads as it did. -/
def queueSaysSpec : ChangeSpec := { name := "queueSays", fn := fun _ => fun
  | [d1, d2, d3] => { results := [.lit (.bool true)], args := [d1, d2, d3] }
  | _ => none }
def queueSaysRow : OpenClaim := { program := "ytkhadbanpfngnaa", sum := "c206f8b777971a3db325260f5bf7106276e4ecbc778902ac46eddf0a62cbd1de", func := "woolsack/woollaw.QueueSays", spec := "queueSays", unfollowed := true, recurses := true, apart := false }
def QueueSaysSaid : Prop := queueSaysRow.holds Try.pinned (OpenSpec.ofChange queueSaysSpec)

/-- ITS FALSE NEIGHBOUR: 'it returns false'. Refute it at one input. -/
def queueSaysWrong : ChangeSpec := { name := "queueSays", fn := fun _ => fun
  | [d1, d2, d3] => { results := [.lit (.bool false)], args := [d1, d2, d3] }
  | _ => none }
def QueueSaysWrongFalsely : Prop := queueSaysRow.holds Try.pinned (OpenSpec.ofChange queueSaysWrong)

/- THE SECOND FORM. 'bulk': how many values and letters a reading holds, each counted each time it is reached (what is shared counts as often as it is met; a slice's spare places count too). A statement '..UptoSaid' is the law's where the arguments, and the package variables that the reading takes, are together of bulk at most 1048576: NARROWER than '..Said'. Prove '..Said' where nothing that the law and all that it calls make is longer than what came in: it says more and counts as full. Else prove '..UptoSaid'. A law counts once. -/
mutual
def uptoBulk {H : Type} : DataW H → Nat
  | .lit (.string bytes) => bytes.length + 1
  | .lit _ => 1
  | .nil => 1
  | .ptr d => uptoBulk d + 1
  | .slice elems spare => uptoBulkAll elems + uptoBulkAll spare + 1
  | .agg parts => uptoBulkAll parts + 1
  | .iface _ d => uptoBulk d + 1
  | .map entries => uptoBulkEntries entries + 1
  | .held _ => 1
def uptoBulkAll {H : Type} : List (DataW H) → Nat
  | [] => 0
  | d :: r => uptoBulk d + uptoBulkAll r
def uptoBulkEntries {H : Type} : List (Lit × DataW H) → Nat
  | [] => 0
  | x :: r => uptoBulkEntry x + uptoBulkEntries r
def uptoBulkEntry {H : Type} : Lit × DataW H → Nat
  | (.string bytes, d) => bytes.length + uptoBulk d + 1
  | (_, d) => uptoBulk d + 1
 end
def uptoSmall : (H : Type) → List (DataW H) → Bool := fun _ ds => decide (uptoBulkAll ds ≤ 1048576)
def OpenSpec.upto (s : _root_.Go.ChangeSpec) : _root_.Go.OpenSpec := { _root_.Go.OpenSpec.ofChange s with cond := some uptoSmall }

/-- 'woollaw.PrintSays', WHERE WHAT IT READS IS OF BULK AT MOST 1048576: true; the input reads as it did. -/
def printSaysUptoRow : OpenClaim := { program := "ytkhadbanpfngnaa", sum := "c206f8b777971a3db325260f5bf7106276e4ecbc778902ac46eddf0a62cbd1de", func := "woolsack/woollaw.PrintSays", spec := "printSays", unfollowed := true, recurses := true, apart := false, narrowed := true }
def PrintSaysUptoSaid : Prop := printSaysUptoRow.holds Try.pinned (OpenSpec.upto printSaysSpec)

/-- 'woollaw.PolySays', WHERE WHAT IT READS IS OF BULK AT MOST 1048576: true; the input reads as it did. -/
def polySaysUptoRow : OpenClaim := { program := "ytkhadbanpfngnaa", sum := "c206f8b777971a3db325260f5bf7106276e4ecbc778902ac46eddf0a62cbd1de", func := "woolsack/woollaw.PolySays", spec := "polySays", apart := false, narrowed := true }
def PolySaysUptoSaid : Prop := polySaysUptoRow.holds Try.pinned (OpenSpec.upto polySaysSpec)

/-- 'woollaw.TreeVerifies', WHERE WHAT IT READS IS OF BULK AT MOST 1048576: true; the input reads as it did. -/
def treeVerifiesUptoRow : OpenClaim := { program := "ytkhadbanpfngnaa", sum := "c206f8b777971a3db325260f5bf7106276e4ecbc778902ac46eddf0a62cbd1de", func := "woolsack/woollaw.TreeVerifies", spec := "treeVerifies", unfollowed := true, recurses := true, apart := false, narrowed := true }
def TreeVerifiesUptoSaid : Prop := treeVerifiesUptoRow.holds Try.pinned (OpenSpec.upto treeVerifiesSpec)

/-- 'woollaw.CutSays', WHERE WHAT IT READS IS OF BULK AT MOST 1048576: true; the input reads as it did. -/
def cutSaysUptoRow : OpenClaim := { program := "ytkhadbanpfngnaa", sum := "c206f8b777971a3db325260f5bf7106276e4ecbc778902ac46eddf0a62cbd1de", func := "woolsack/woollaw.CutSays", spec := "cutSays", unfollowed := true, recurses := true, apart := false, narrowed := true }
def CutSaysUptoSaid : Prop := cutSaysUptoRow.holds Try.pinned (OpenSpec.upto cutSaysSpec)

/-- 'woollaw.PolyDivides', WHERE WHAT IT READS IS OF BULK AT MOST 1048576: true; the input reads as it did. -/
def polyDividesUptoRow : OpenClaim := { program := "ytkhadbanpfngnaa", sum := "c206f8b777971a3db325260f5bf7106276e4ecbc778902ac46eddf0a62cbd1de", func := "woolsack/woollaw.PolyDivides", spec := "polyDivides", recurses := true, apart := false, narrowed := true }
def PolyDividesUptoSaid : Prop := polyDividesUptoRow.holds Try.pinned (OpenSpec.upto polyDividesSpec)

/-- 'woollaw.FrameSays', WHERE WHAT IT READS IS OF BULK AT MOST 1048576: true; the input reads as it did. -/
def frameSaysUptoRow : OpenClaim := { program := "ytkhadbanpfngnaa", sum := "c206f8b777971a3db325260f5bf7106276e4ecbc778902ac46eddf0a62cbd1de", func := "woolsack/woollaw.FrameSays", spec := "frameSays", unfollowed := true, recurses := true, apart := false, narrowed := true }
def FrameSaysUptoSaid : Prop := frameSaysUptoRow.holds Try.pinned (OpenSpec.upto frameSaysSpec)

/-- 'woollaw.ResvMay', WHERE WHAT IT READS IS OF BULK AT MOST 1048576: true; the input reads as it did. -/
def resvMayUptoRow : OpenClaim := { program := "ytkhadbanpfngnaa", sum := "c206f8b777971a3db325260f5bf7106276e4ecbc778902ac46eddf0a62cbd1de", func := "woolsack/woollaw.ResvMay", spec := "resvMay", unfollowed := true, recurses := true, apart := false, narrowed := true }
def ResvMayUptoSaid : Prop := resvMayUptoRow.holds Try.pinned (OpenSpec.upto resvMaySpec)

/-- 'woollaw.PolyMods', WHERE WHAT IT READS IS OF BULK AT MOST 1048576: true; the input reads as it did. -/
def polyModsUptoRow : OpenClaim := { program := "ytkhadbanpfngnaa", sum := "c206f8b777971a3db325260f5bf7106276e4ecbc778902ac46eddf0a62cbd1de", func := "woolsack/woollaw.PolyMods", spec := "polyMods", recurses := true, apart := false, narrowed := true }
def PolyModsUptoSaid : Prop := polyModsUptoRow.holds Try.pinned (OpenSpec.upto polyModsSpec)

/-- 'woollaw.SegSays', WHERE WHAT IT READS IS OF BULK AT MOST 1048576: true; the input reads as it did. -/
def segSaysUptoRow : OpenClaim := { program := "ytkhadbanpfngnaa", sum := "c206f8b777971a3db325260f5bf7106276e4ecbc778902ac46eddf0a62cbd1de", func := "woolsack/woollaw.SegSays", spec := "segSays", unfollowed := true, recurses := true, apart := false, narrowed := true }
def SegSaysUptoSaid : Prop := segSaysUptoRow.holds Try.pinned (OpenSpec.upto segSaysSpec)

/-- 'woollaw.TreeSays', WHERE WHAT IT READS IS OF BULK AT MOST 1048576: true; the input reads as it did. -/
def treeSaysUptoRow : OpenClaim := { program := "ytkhadbanpfngnaa", sum := "c206f8b777971a3db325260f5bf7106276e4ecbc778902ac46eddf0a62cbd1de", func := "woolsack/woollaw.TreeSays", spec := "treeSays", unfollowed := true, recurses := true, apart := false, narrowed := true }
def TreeSaysUptoSaid : Prop := treeSaysUptoRow.holds Try.pinned (OpenSpec.upto treeSaysSpec)

/-- 'woollaw.PrintMoves', WHERE WHAT IT READS IS OF BULK AT MOST 1048576: true; the input reads as it did. -/
def printMovesUptoRow : OpenClaim := { program := "ytkhadbanpfngnaa", sum := "c206f8b777971a3db325260f5bf7106276e4ecbc778902ac46eddf0a62cbd1de", func := "woolsack/woollaw.PrintMoves", spec := "printMoves", recurses := true, apart := false, narrowed := true }
def PrintMovesUptoSaid : Prop := printMovesUptoRow.holds Try.pinned (OpenSpec.upto printMovesSpec)

/-- 'woollaw.QueueSays', WHERE WHAT IT READS IS OF BULK AT MOST 1048576: true; the input reads as it did. -/
def queueSaysUptoRow : OpenClaim := { program := "ytkhadbanpfngnaa", sum := "c206f8b777971a3db325260f5bf7106276e4ecbc778902ac46eddf0a62cbd1de", func := "woolsack/woollaw.QueueSays", spec := "queueSays", unfollowed := true, recurses := true, apart := false, narrowed := true }
def QueueSaysUptoSaid : Prop := queueSaysUptoRow.holds Try.pinned (OpenSpec.upto queueSaysSpec)

end Rows
end Go.Proofs.Ytkhadbanpfngnaa
