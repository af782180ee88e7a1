/-
  No cell of these rows narrows 'for every input' (looked for: loops, veiled, ifaces, maps, wideKeys, modest, calm, conditions, laid).
  DERIVED. THE GIVEN ROWS OF THIS SEAT. 25 by the template 'for every input the law returns true; each argument reads behind the call as it read before'; 0 by the template 'total and deterministic' (their statements: YtdlfdifhchijkaaTotals.lean).
  GIVEN WITH THE SEED: the statements are not yours to turn. If you find one false, say at which input.
  Laid BY PROGRAM, IN A SANDBOX (cutbox-rows.mjs): the forced cells as the released guide's own fill.sh prints them over the translation 7e71807a36b21123… (all of the seat's roots in one cut). By AI agents, Wed Nov 11 2026. No macro, syntax, notation, axiom, sorry.
-/
import Derived.Test.YtdlfdifhchijkaaChecked
import GoSem.Claim
import GoSem.ClaimJoined
import GoSem.ClaimMapViews
import Derived.JoinedTies
import Derived.KernelRfl
namespace Go.Proofs.Ytdlfdifhchijkaa
/- THE CELL 'sum', in the pinned program and in every row, IS THE sha256 OF THE DUMP (.gsa) THAT YtdlfdifhchijkaaProg.lean LOADS. Nothing in Lean hashes anything: it is a label: what it is worth is what the hold of that sum in a sandbox is worth. -/
noncomputable def Try.pinned : Pinned := { name := "ytdlfdifhchijkaa", sum := "7e71807a36b21123249a09ad26c00297ff322d361f8f59f08d26eb641a2b1369", checked := Try.checked }
namespace Rows
def none {H : Type} : Left H := { results := [], args := [] }

/-- 'woollaw.Names': WHATEVER THE INPUT: true; the input reads as it did. -/
def namesSpec : ChangeSpec := { name := "names", fn := fun _ => fun
  | [] => { results := [.lit (.bool true)], args := [] }
  | _ => none }
def namesRow : OpenClaim := { program := "ytdlfdifhchijkaa", sum := "7e71807a36b21123249a09ad26c00297ff322d361f8f59f08d26eb641a2b1369", func := "woolsack/woollaw.Names", spec := "names", plainKeys := false, apart := false }
def NamesSaid : Prop := namesRow.holds Try.pinned (OpenSpec.ofChange namesSpec)

/-- ITS FALSE NEIGHBOUR: 'it returns false'. Refute it at one input. -/
def namesWrong : ChangeSpec := { name := "names", fn := fun _ => fun
  | [] => { results := [.lit (.bool false)], args := [] }
  | _ => none }
def NamesWrongFalsely : Prop := namesRow.holds Try.pinned (OpenSpec.ofChange namesWrong)

/-- 'woollaw.MatchSays': WHATEVER THE INPUT: true; the input reads as it did. -/
def matchSaysSpec : ChangeSpec := { name := "matchSays", fn := fun _ => fun
  | [d1, d2, d3] => { results := [.lit (.bool true)], args := [d1, d2, d3] }
  | _ => none }
def matchSaysRow : OpenClaim := { program := "ytdlfdifhchijkaa", sum := "7e71807a36b21123249a09ad26c00297ff322d361f8f59f08d26eb641a2b1369", func := "woolsack/woollaw.MatchSays", spec := "matchSays", plainKeys := false, apart := false }
def MatchSaysSaid : Prop := matchSaysRow.holds Try.pinned (OpenSpec.ofChange matchSaysSpec)

/-- ITS FALSE NEIGHBOUR: 'it returns false'. Refute it at one input. -/
def matchSaysWrong : ChangeSpec := { name := "matchSays", fn := fun _ => fun
  | [d1, d2, d3] => { results := [.lit (.bool false)], args := [d1, d2, d3] }
  | _ => none }
def MatchSaysWrongFalsely : Prop := matchSaysRow.holds Try.pinned (OpenSpec.ofChange matchSaysWrong)

/-- 'woollaw.PrimeCounts': WHATEVER THE INPUT: true; the input reads as it did. -/
def primeCountsSpec : ChangeSpec := { name := "primeCounts", fn := fun _ => fun
  | [d] => { results := [.lit (.bool true)], args := [d] }
  | _ => none }
def primeCountsRow : OpenClaim := { program := "ytdlfdifhchijkaa", sum := "7e71807a36b21123249a09ad26c00297ff322d361f8f59f08d26eb641a2b1369", func := "woolsack/woollaw.PrimeCounts", spec := "primeCounts", recurses := true, plainKeys := false, apart := false }
def PrimeCountsSaid : Prop := primeCountsRow.holds Try.pinned (OpenSpec.ofChange primeCountsSpec)

/-- ITS FALSE NEIGHBOUR: 'it returns false'. Refute it at one input. -/
def primeCountsWrong : ChangeSpec := { name := "primeCounts", fn := fun _ => fun
  | [d] => { results := [.lit (.bool false)], args := [d] }
  | _ => none }
def PrimeCountsWrongFalsely : Prop := primeCountsRow.holds Try.pinned (OpenSpec.ofChange primeCountsWrong)

/-- 'woollaw.CutSplits': WHATEVER THE INPUT: true; the input reads as it did. -/
def cutSplitsSpec : ChangeSpec := { name := "cutSplits", fn := fun _ => fun
  | [d1, d2] => { results := [.lit (.bool true)], args := [d1, d2] }
  | _ => none }
def cutSplitsRow : OpenClaim := { program := "ytdlfdifhchijkaa", sum := "7e71807a36b21123249a09ad26c00297ff322d361f8f59f08d26eb641a2b1369", func := "woolsack/woollaw.CutSplits", spec := "cutSplits", plainKeys := false, apart := false }
def CutSplitsSaid : Prop := cutSplitsRow.holds Try.pinned (OpenSpec.ofChange cutSplitsSpec)

/-- ITS FALSE NEIGHBOUR: 'it returns false'. Refute it at one input. -/
def cutSplitsWrong : ChangeSpec := { name := "cutSplits", fn := fun _ => fun
  | [d1, d2] => { results := [.lit (.bool false)], args := [d1, d2] }
  | _ => none }
def CutSplitsWrongFalsely : Prop := cutSplitsRow.holds Try.pinned (OpenSpec.ofChange cutSplitsWrong)

/-- 'woollaw.PrintSays': WHATEVER THE INPUT: true; the input reads as it did. -/
def printSaysSpec : ChangeSpec := { name := "printSays", fn := fun _ => fun
  | [d1, d2] => { results := [.lit (.bool true)], args := [d1, d2] }
  | _ => none }
def printSaysRow : OpenClaim := { program := "ytdlfdifhchijkaa", sum := "7e71807a36b21123249a09ad26c00297ff322d361f8f59f08d26eb641a2b1369", func := "woolsack/woollaw.PrintSays", spec := "printSays", unfollowed := true, recurses := true, plainKeys := false, apart := false }
def PrintSaysSaid : Prop := printSaysRow.holds Try.pinned (OpenSpec.ofChange printSaysSpec)

/-- ITS FALSE NEIGHBOUR: 'it returns false'. Refute it at one input. -/
def printSaysWrong : ChangeSpec := { name := "printSays", fn := fun _ => fun
  | [d1, d2] => { results := [.lit (.bool false)], args := [d1, d2] }
  | _ => none }
def PrintSaysWrongFalsely : Prop := printSaysRow.holds Try.pinned (OpenSpec.ofChange printSaysWrong)

/-- 'woollaw.PolySays': WHATEVER THE INPUT: true; the input reads as it did. -/
def polySaysSpec : ChangeSpec := { name := "polySays", fn := fun _ => fun
  | [d1, d2] => { results := [.lit (.bool true)], args := [d1, d2] }
  | _ => none }
def polySaysRow : OpenClaim := { program := "ytdlfdifhchijkaa", sum := "7e71807a36b21123249a09ad26c00297ff322d361f8f59f08d26eb641a2b1369", func := "woolsack/woollaw.PolySays", spec := "polySays", plainKeys := false, apart := false }
def PolySaysSaid : Prop := polySaysRow.holds Try.pinned (OpenSpec.ofChange polySaysSpec)

/-- ITS FALSE NEIGHBOUR: 'it returns false'. Refute it at one input. -/
def polySaysWrong : ChangeSpec := { name := "polySays", fn := fun _ => fun
  | [d1, d2] => { results := [.lit (.bool false)], args := [d1, d2] }
  | _ => none }
def PolySaysWrongFalsely : Prop := polySaysRow.holds Try.pinned (OpenSpec.ofChange polySaysWrong)

/-- 'woollaw.TreeVerifies': WHATEVER THE INPUT: true; the input reads as it did. -/
def treeVerifiesSpec : ChangeSpec := { name := "treeVerifies", fn := fun _ => fun
  | [d1, d2, d3, d4, d5] => { results := [.lit (.bool true)], args := [d1, d2, d3, d4, d5] }
  | _ => none }
def treeVerifiesRow : OpenClaim := { program := "ytdlfdifhchijkaa", sum := "7e71807a36b21123249a09ad26c00297ff322d361f8f59f08d26eb641a2b1369", func := "woolsack/woollaw.TreeVerifies", spec := "treeVerifies", unfollowed := true, recurses := true, plainKeys := false, apart := false }
def TreeVerifiesSaid : Prop := treeVerifiesRow.holds Try.pinned (OpenSpec.ofChange treeVerifiesSpec)

/-- ITS FALSE NEIGHBOUR: 'it returns false'. Refute it at one input. -/
def treeVerifiesWrong : ChangeSpec := { name := "treeVerifies", fn := fun _ => fun
  | [d1, d2, d3, d4, d5] => { results := [.lit (.bool false)], args := [d1, d2, d3, d4, d5] }
  | _ => none }
def TreeVerifiesWrongFalsely : Prop := treeVerifiesRow.holds Try.pinned (OpenSpec.ofChange treeVerifiesWrong)

/-- 'woollaw.CutSays': WHATEVER THE INPUT: true; the input reads as it did. -/
def cutSaysSpec : ChangeSpec := { name := "cutSays", fn := fun _ => fun
  | [d1, d2, d3, d4] => { results := [.lit (.bool true)], args := [d1, d2, d3, d4] }
  | _ => none }
def cutSaysRow : OpenClaim := { program := "ytdlfdifhchijkaa", sum := "7e71807a36b21123249a09ad26c00297ff322d361f8f59f08d26eb641a2b1369", func := "woolsack/woollaw.CutSays", spec := "cutSays", unfollowed := true, recurses := true, plainKeys := false, apart := false }
def CutSaysSaid : Prop := cutSaysRow.holds Try.pinned (OpenSpec.ofChange cutSaysSpec)

/-- ITS FALSE NEIGHBOUR: 'it returns false'. Refute it at one input. -/
def cutSaysWrong : ChangeSpec := { name := "cutSays", fn := fun _ => fun
  | [d1, d2, d3, d4] => { results := [.lit (.bool false)], args := [d1, d2, d3, d4] }
  | _ => none }
def CutSaysWrongFalsely : Prop := cutSaysRow.holds Try.pinned (OpenSpec.ofChange cutSaysWrong)

/-- 'woollaw.PolyDivides': WHATEVER THE INPUT: true; the input reads as it did. -/
def polyDividesSpec : ChangeSpec := { name := "polyDivides", fn := fun _ => fun
  | [d1, d2] => { results := [.lit (.bool true)], args := [d1, d2] }
  | _ => none }
def polyDividesRow : OpenClaim := { program := "ytdlfdifhchijkaa", sum := "7e71807a36b21123249a09ad26c00297ff322d361f8f59f08d26eb641a2b1369", func := "woolsack/woollaw.PolyDivides", spec := "polyDivides", recurses := true, plainKeys := false, apart := false }
def PolyDividesSaid : Prop := polyDividesRow.holds Try.pinned (OpenSpec.ofChange polyDividesSpec)

/-- ITS FALSE NEIGHBOUR: 'it returns false'. Refute it at one input. -/
def polyDividesWrong : ChangeSpec := { name := "polyDivides", fn := fun _ => fun
  | [d1, d2] => { results := [.lit (.bool false)], args := [d1, d2] }
  | _ => none }
def PolyDividesWrongFalsely : Prop := polyDividesRow.holds Try.pinned (OpenSpec.ofChange polyDividesWrong)

/-- 'woollaw.FrameSays': WHATEVER THE INPUT: true; the input reads as it did. -/
def frameSaysSpec : ChangeSpec := { name := "frameSays", fn := fun _ => fun
  | [d1, d2] => { results := [.lit (.bool true)], args := [d1, d2] }
  | _ => none }
def frameSaysRow : OpenClaim := { program := "ytdlfdifhchijkaa", sum := "7e71807a36b21123249a09ad26c00297ff322d361f8f59f08d26eb641a2b1369", func := "woolsack/woollaw.FrameSays", spec := "frameSays", unfollowed := true, recurses := true, plainKeys := false, apart := false }
def FrameSaysSaid : Prop := frameSaysRow.holds Try.pinned (OpenSpec.ofChange frameSaysSpec)

/-- ITS FALSE NEIGHBOUR: 'it returns false'. Refute it at one input. -/
def frameSaysWrong : ChangeSpec := { name := "frameSays", fn := fun _ => fun
  | [d1, d2] => { results := [.lit (.bool false)], args := [d1, d2] }
  | _ => none }
def FrameSaysWrongFalsely : Prop := frameSaysRow.holds Try.pinned (OpenSpec.ofChange frameSaysWrong)

/-- 'wooltop.TopRabin': WHATEVER THE INPUT: true; the input reads as it did. -/
def topRabinSpec : ChangeSpec := { name := "topRabin", fn := fun _ => fun
  | [d1, d2, d3, d4] => { results := [.lit (.bool true)], args := [d1, d2, d3, d4] }
  | _ => none }
def topRabinRow : OpenClaim := { program := "ytdlfdifhchijkaa", sum := "7e71807a36b21123249a09ad26c00297ff322d361f8f59f08d26eb641a2b1369", func := "woolsack/wooltop.TopRabin", spec := "topRabin", plainKeys := false, apart := false }
def TopRabinSaid : Prop := topRabinRow.holds Try.pinned (OpenSpec.ofChange topRabinSpec)

/-- ITS FALSE NEIGHBOUR: 'it returns false'. Refute it at one input. -/
def topRabinWrong : ChangeSpec := { name := "topRabin", fn := fun _ => fun
  | [d1, d2, d3, d4] => { results := [.lit (.bool false)], args := [d1, d2, d3, d4] }
  | _ => none }
def TopRabinWrongFalsely : Prop := topRabinRow.holds Try.pinned (OpenSpec.ofChange topRabinWrong)

/-- 'woollaw.ResvMay': WHATEVER THE INPUT: true; the input reads as it did. -/
def resvMaySpec : ChangeSpec := { name := "resvMay", fn := fun _ => fun
  | [d1, d2, d3] => { results := [.lit (.bool true)], args := [d1, d2, d3] }
  | _ => none }
def resvMayRow : OpenClaim := { program := "ytdlfdifhchijkaa", sum := "7e71807a36b21123249a09ad26c00297ff322d361f8f59f08d26eb641a2b1369", func := "woolsack/woollaw.ResvMay", spec := "resvMay", unfollowed := true, recurses := true, plainKeys := false, apart := false }
def ResvMaySaid : Prop := resvMayRow.holds Try.pinned (OpenSpec.ofChange resvMaySpec)

/-- ITS FALSE NEIGHBOUR: 'it returns false'. Refute it at one input. -/
def resvMayWrong : ChangeSpec := { name := "resvMay", fn := fun _ => fun
  | [d1, d2, d3] => { results := [.lit (.bool false)], args := [d1, d2, d3] }
  | _ => none }
def ResvMayWrongFalsely : Prop := resvMayRow.holds Try.pinned (OpenSpec.ofChange resvMayWrong)

/-- 'woollaw.PolyMods': WHATEVER THE INPUT: true; the input reads as it did. -/
def polyModsSpec : ChangeSpec := { name := "polyMods", fn := fun _ => fun
  | [d1, d2, d3, d4] => { results := [.lit (.bool true)], args := [d1, d2, d3, d4] }
  | _ => none }
def polyModsRow : OpenClaim := { program := "ytdlfdifhchijkaa", sum := "7e71807a36b21123249a09ad26c00297ff322d361f8f59f08d26eb641a2b1369", func := "woolsack/woollaw.PolyMods", spec := "polyMods", recurses := true, plainKeys := false, apart := false }
def PolyModsSaid : Prop := polyModsRow.holds Try.pinned (OpenSpec.ofChange polyModsSpec)

/-- ITS FALSE NEIGHBOUR: 'it returns false'. Refute it at one input. -/
def polyModsWrong : ChangeSpec := { name := "polyMods", fn := fun _ => fun
  | [d1, d2, d3, d4] => { results := [.lit (.bool false)], args := [d1, d2, d3, d4] }
  | _ => none }
def PolyModsWrongFalsely : Prop := polyModsRow.holds Try.pinned (OpenSpec.ofChange polyModsWrong)

/-- 'woollaw.SegSays': WHATEVER THE INPUT: true; the input reads as it did. -/
def segSaysSpec : ChangeSpec := { name := "segSays", fn := fun _ => fun
  | [d1, d2] => { results := [.lit (.bool true)], args := [d1, d2] }
  | _ => none }
def segSaysRow : OpenClaim := { program := "ytdlfdifhchijkaa", sum := "7e71807a36b21123249a09ad26c00297ff322d361f8f59f08d26eb641a2b1369", func := "woolsack/woollaw.SegSays", spec := "segSays", unfollowed := true, recurses := true, plainKeys := false, apart := false }
def SegSaysSaid : Prop := segSaysRow.holds Try.pinned (OpenSpec.ofChange segSaysSpec)

/-- ITS FALSE NEIGHBOUR: 'it returns false'. Refute it at one input. -/
def segSaysWrong : ChangeSpec := { name := "segSays", fn := fun _ => fun
  | [d1, d2] => { results := [.lit (.bool false)], args := [d1, d2] }
  | _ => none }
def SegSaysWrongFalsely : Prop := segSaysRow.holds Try.pinned (OpenSpec.ofChange segSaysWrong)

/-- 'woollaw.TreeSays': WHATEVER THE INPUT: true; the input reads as it did. -/
def treeSaysSpec : ChangeSpec := { name := "treeSays", fn := fun _ => fun
  | [d1, d2] => { results := [.lit (.bool true)], args := [d1, d2] }
  | _ => none }
def treeSaysRow : OpenClaim := { program := "ytdlfdifhchijkaa", sum := "7e71807a36b21123249a09ad26c00297ff322d361f8f59f08d26eb641a2b1369", func := "woolsack/woollaw.TreeSays", spec := "treeSays", unfollowed := true, recurses := true, plainKeys := false, apart := false }
def TreeSaysSaid : Prop := treeSaysRow.holds Try.pinned (OpenSpec.ofChange treeSaysSpec)

/-- ITS FALSE NEIGHBOUR: 'it returns false'. Refute it at one input. -/
def treeSaysWrong : ChangeSpec := { name := "treeSays", fn := fun _ => fun
  | [d1, d2] => { results := [.lit (.bool false)], args := [d1, d2] }
  | _ => none }
def TreeSaysWrongFalsely : Prop := treeSaysRow.holds Try.pinned (OpenSpec.ofChange treeSaysWrong)

/-- 'wooltop.TopDedup': WHATEVER THE INPUT: true; the input reads as it did. -/
def topDedupSpec : ChangeSpec := { name := "topDedup", fn := fun _ => fun
  | [d1, d2] => { results := [.lit (.bool true)], args := [d1, d2] }
  | _ => none }
def topDedupRow : OpenClaim := { program := "ytdlfdifhchijkaa", sum := "7e71807a36b21123249a09ad26c00297ff322d361f8f59f08d26eb641a2b1369", func := "woolsack/wooltop.TopDedup", spec := "topDedup", inPlace := ["internal/bytealg.abigen_runtime_cmpstring", "slices.overlaps[woolsack/api.Vol]", "slices.overlaps[woolsack/api.Item]"], unfollowed := true, recurses := true, plainKeys := false, apart := false }
def TopDedupSaid : Prop := topDedupRow.holds Try.pinned (OpenSpec.ofChange topDedupSpec)

/-- ITS FALSE NEIGHBOUR: 'it returns false'. Refute it at one input. -/
def topDedupWrong : ChangeSpec := { name := "topDedup", fn := fun _ => fun
  | [d1, d2] => { results := [.lit (.bool false)], args := [d1, d2] }
  | _ => none }
def TopDedupWrongFalsely : Prop := topDedupRow.holds Try.pinned (OpenSpec.ofChange topDedupWrong)

/-- 'woollaw.PrintMoves': WHATEVER THE INPUT: true; the input reads as it did. -/
def printMovesSpec : ChangeSpec := { name := "printMoves", fn := fun _ => fun
  | [d1, d2, d3, d4, d5, d6] => { results := [.lit (.bool true)], args := [d1, d2, d3, d4, d5, d6] }
  | _ => none }
def printMovesRow : OpenClaim := { program := "ytdlfdifhchijkaa", sum := "7e71807a36b21123249a09ad26c00297ff322d361f8f59f08d26eb641a2b1369", func := "woolsack/woollaw.PrintMoves", spec := "printMoves", recurses := true, plainKeys := false, apart := false }
def PrintMovesSaid : Prop := printMovesRow.holds Try.pinned (OpenSpec.ofChange printMovesSpec)

/-- ITS FALSE NEIGHBOUR: 'it returns false'. Refute it at one input. -/
def printMovesWrong : ChangeSpec := { name := "printMoves", fn := fun _ => fun
  | [d1, d2, d3, d4, d5, d6] => { results := [.lit (.bool false)], args := [d1, d2, d3, d4, d5, d6] }
  | _ => none }
def PrintMovesWrongFalsely : Prop := printMovesRow.holds Try.pinned (OpenSpec.ofChange printMovesWrong)

/-- 'woollaw.QueueSays': WHATEVER THE INPUT: true; the input reads as it did. -/
def queueSaysSpec : ChangeSpec := { name := "queueSays", fn := fun _ => fun
  | [d1, d2, d3] => { results := [.lit (.bool true)], args := [d1, d2, d3] }
  | _ => none }
def queueSaysRow : OpenClaim := { program := "ytdlfdifhchijkaa", sum := "7e71807a36b21123249a09ad26c00297ff322d361f8f59f08d26eb641a2b1369", func := "woolsack/woollaw.QueueSays", spec := "queueSays", unfollowed := true, recurses := true, plainKeys := false, apart := false }
def QueueSaysSaid : Prop := queueSaysRow.holds Try.pinned (OpenSpec.ofChange queueSaysSpec)

/-- ITS FALSE NEIGHBOUR: 'it returns false'. Refute it at one input. -/
def queueSaysWrong : ChangeSpec := { name := "queueSays", fn := fun _ => fun
  | [d1, d2, d3] => { results := [.lit (.bool false)], args := [d1, d2, d3] }
  | _ => none }
def QueueSaysWrongFalsely : Prop := queueSaysRow.holds Try.pinned (OpenSpec.ofChange queueSaysWrong)

/-- 'woollaw.TreeClashes': WHATEVER THE INPUT: true; the input reads as it did. -/
def treeClashesSpec : ChangeSpec := { name := "treeClashes", fn := fun _ => fun
  | [d1, d2] => { results := [.lit (.bool true)], args := [d1, d2] }
  | _ => none }
def treeClashesRow : OpenClaim := { program := "ytdlfdifhchijkaa", sum := "7e71807a36b21123249a09ad26c00297ff322d361f8f59f08d26eb641a2b1369", func := "woolsack/woollaw.TreeClashes", spec := "treeClashes", unfollowed := true, recurses := true, plainKeys := false, apart := false }
def TreeClashesSaid : Prop := treeClashesRow.holds Try.pinned (OpenSpec.ofChange treeClashesSpec)

/-- ITS FALSE NEIGHBOUR: 'it returns false'. Refute it at one input. -/
def treeClashesWrong : ChangeSpec := { name := "treeClashes", fn := fun _ => fun
  | [d1, d2] => { results := [.lit (.bool false)], args := [d1, d2] }
  | _ => none }
def TreeClashesWrongFalsely : Prop := treeClashesRow.holds Try.pinned (OpenSpec.ofChange treeClashesWrong)

/-- 'woollaw.PrimeSays': WHATEVER THE INPUT: true; the input reads as it did. -/
def primeSaysSpec : ChangeSpec := { name := "primeSays", fn := fun _ => fun
  | [d] => { results := [.lit (.bool true)], args := [d] }
  | _ => none }
def primeSaysRow : OpenClaim := { program := "ytdlfdifhchijkaa", sum := "7e71807a36b21123249a09ad26c00297ff322d361f8f59f08d26eb641a2b1369", func := "woolsack/woollaw.PrimeSays", spec := "primeSays", plainKeys := false, apart := false }
def PrimeSaysSaid : Prop := primeSaysRow.holds Try.pinned (OpenSpec.ofChange primeSaysSpec)

/-- ITS FALSE NEIGHBOUR: 'it returns false'. Refute it at one input. -/
def primeSaysWrong : ChangeSpec := { name := "primeSays", fn := fun _ => fun
  | [d] => { results := [.lit (.bool false)], args := [d] }
  | _ => none }
def PrimeSaysWrongFalsely : Prop := primeSaysRow.holds Try.pinned (OpenSpec.ofChange primeSaysWrong)

/-- 'wooltop.TopBackup': WHATEVER THE INPUT: true; the input reads as it did. -/
def topBackupSpec : ChangeSpec := { name := "topBackup", fn := fun _ => fun
  | [d1, d2, d3] => { results := [.lit (.bool true)], args := [d1, d2, d3] }
  | _ => none }
def topBackupRow : OpenClaim := { program := "ytdlfdifhchijkaa", sum := "7e71807a36b21123249a09ad26c00297ff322d361f8f59f08d26eb641a2b1369", func := "woolsack/wooltop.TopBackup", spec := "topBackup", inPlace := ["internal/bytealg.abigen_runtime_cmpstring", "slices.overlaps[woolsack/api.Vol]", "slices.overlaps[woolsack/api.Item]"], unfollowed := true, recurses := true, plainKeys := false, apart := false }
def TopBackupSaid : Prop := topBackupRow.holds Try.pinned (OpenSpec.ofChange topBackupSpec)

/-- ITS FALSE NEIGHBOUR: 'it returns false'. Refute it at one input. -/
def topBackupWrong : ChangeSpec := { name := "topBackup", fn := fun _ => fun
  | [d1, d2, d3] => { results := [.lit (.bool false)], args := [d1, d2, d3] }
  | _ => none }
def TopBackupWrongFalsely : Prop := topBackupRow.holds Try.pinned (OpenSpec.ofChange topBackupWrong)

/-- 'woollaw.LzSays': WHATEVER THE INPUT: true; the input reads as it did. -/
def lzSaysSpec : ChangeSpec := { name := "lzSays", fn := fun _ => fun
  | [d1, d2, d3] => { results := [.lit (.bool true)], args := [d1, d2, d3] }
  | _ => none }
def lzSaysRow : OpenClaim := { program := "ytdlfdifhchijkaa", sum := "7e71807a36b21123249a09ad26c00297ff322d361f8f59f08d26eb641a2b1369", func := "woolsack/woollaw.LzSays", spec := "lzSays", inPlace := ["internal/abi.NoEscape", "internal/bytealg.MakeNoZero"], unfollowed := true, recurses := true, plainKeys := false, apart := false }
def LzSaysSaid : Prop := lzSaysRow.holds Try.pinned (OpenSpec.ofChange lzSaysSpec)

/-- ITS FALSE NEIGHBOUR: 'it returns false'. Refute it at one input. -/
def lzSaysWrong : ChangeSpec := { name := "lzSays", fn := fun _ => fun
  | [d1, d2, d3] => { results := [.lit (.bool false)], args := [d1, d2, d3] }
  | _ => none }
def LzSaysWrongFalsely : Prop := lzSaysRow.holds Try.pinned (OpenSpec.ofChange lzSaysWrong)

/-- 'woollaw.SegCleans': WHATEVER THE INPUT: true; the input reads as it did. -/
def segCleansSpec : ChangeSpec := { name := "segCleans", fn := fun _ => fun
  | [d1, d2] => { results := [.lit (.bool true)], args := [d1, d2] }
  | _ => none }
def segCleansRow : OpenClaim := { program := "ytdlfdifhchijkaa", sum := "7e71807a36b21123249a09ad26c00297ff322d361f8f59f08d26eb641a2b1369", func := "woolsack/woollaw.SegCleans", spec := "segCleans", unfollowed := true, recurses := true, plainKeys := false, apart := false }
def SegCleansSaid : Prop := segCleansRow.holds Try.pinned (OpenSpec.ofChange segCleansSpec)

/-- ITS FALSE NEIGHBOUR: 'it returns false'. Refute it at one input. -/
def segCleansWrong : ChangeSpec := { name := "segCleans", fn := fun _ => fun
  | [d1, d2] => { results := [.lit (.bool false)], args := [d1, d2] }
  | _ => none }
def SegCleansWrongFalsely : Prop := segCleansRow.holds Try.pinned (OpenSpec.ofChange segCleansWrong)

/-- 'woollaw.ResvSays': WHATEVER THE INPUT: true; the input reads as it did. -/
def resvSaysSpec : ChangeSpec := { name := "resvSays", fn := fun _ => fun
  | [d1, d2, d3, d4, d5] => { results := [.lit (.bool true)], args := [d1, d2, d3, d4, d5] }
  | _ => none }
def resvSaysRow : OpenClaim := { program := "ytdlfdifhchijkaa", sum := "7e71807a36b21123249a09ad26c00297ff322d361f8f59f08d26eb641a2b1369", func := "woolsack/woollaw.ResvSays", spec := "resvSays", inPlace := ["slices.overlaps[woolsack/api.Reg]"], unfollowed := true, recurses := true, plainKeys := false, apart := false }
def ResvSaysSaid : Prop := resvSaysRow.holds Try.pinned (OpenSpec.ofChange resvSaysSpec)

/-- ITS FALSE NEIGHBOUR: 'it returns false'. Refute it at one input. -/
def resvSaysWrong : ChangeSpec := { name := "resvSays", fn := fun _ => fun
  | [d1, d2, d3, d4, d5] => { results := [.lit (.bool false)], args := [d1, d2, d3, d4, d5] }
  | _ => none }
def ResvSaysWrongFalsely : Prop := resvSaysRow.holds Try.pinned (OpenSpec.ofChange resvSaysWrong)

/-- 'woollaw.BagSays': WHATEVER THE INPUT: true; the input reads as it did. -/
def bagSaysSpec : ChangeSpec := { name := "bagSays", fn := fun _ => fun
  | [d1, d2, d3] => { results := [.lit (.bool true)], args := [d1, d2, d3] }
  | _ => none }
def bagSaysRow : OpenClaim := { program := "ytdlfdifhchijkaa", sum := "7e71807a36b21123249a09ad26c00297ff322d361f8f59f08d26eb641a2b1369", func := "woolsack/woollaw.BagSays", spec := "bagSays", inPlace := ["slices.overlaps[woolsack/api.Item]", "internal/reflectlite.ValueOf", "internal/reflectlite.Swapper", "(internal/reflectlite.Value).Len"], unfollowed := true, recurses := true, plainKeys := false, apart := false }
def BagSaysSaid : Prop := bagSaysRow.holds Try.pinned (OpenSpec.ofChange bagSaysSpec)

/-- ITS FALSE NEIGHBOUR: 'it returns false'. Refute it at one input. -/
def bagSaysWrong : ChangeSpec := { name := "bagSays", fn := fun _ => fun
  | [d1, d2, d3] => { results := [.lit (.bool false)], args := [d1, d2, d3] }
  | _ => none }
def BagSaysWrongFalsely : Prop := bagSaysRow.holds Try.pinned (OpenSpec.ofChange bagSaysWrong)

/- THE SECOND FORM. 'bulk': how many values and letters a reading holds, each counted each time it is reached (what is shared counts as often as it is met; a slice's spare places count too). A statement '..UptoSaid' is the law's where the arguments, and the package variables that the reading takes, are together of bulk at most 1048576: NARROWER than '..Said'. Prove '..Said' where nothing that the law and all that it calls make is longer than what came in: it says more and counts as full. Else prove '..UptoSaid'. A law counts once. -/
mutual
def uptoBulk {H : Type} : DataW H → Nat
  | .lit (.string bytes) => bytes.length + 1
  | .lit _ => 1
  | .nil => 1
  | .ptr d => uptoBulk d + 1
  | .slice elems spare => uptoBulkAll elems + uptoBulkAll spare + 1
  | .agg parts => uptoBulkAll parts + 1
  | .iface _ d => uptoBulk d + 1
  | .map entries => uptoBulkEntries entries + 1
  | .held _ => 1
def uptoBulkAll {H : Type} : List (DataW H) → Nat
  | [] => 0
  | d :: r => uptoBulk d + uptoBulkAll r
def uptoBulkEntries {H : Type} : List (Lit × DataW H) → Nat
  | [] => 0
  | x :: r => uptoBulkEntry x + uptoBulkEntries r
def uptoBulkEntry {H : Type} : Lit × DataW H → Nat
  | (.string bytes, d) => bytes.length + uptoBulk d + 1
  | (_, d) => uptoBulk d + 1
 end
def uptoSmall : (H : Type) → List (DataW H) → Bool := fun _ ds => decide (uptoBulkAll ds ≤ 1048576)
def OpenSpec.upto (s : _root_.Go.ChangeSpec) : _root_.Go.OpenSpec := { _root_.Go.OpenSpec.ofChange s with cond := some uptoSmall }

/-- 'woollaw.Names', WHERE WHAT IT READS IS OF BULK AT MOST 1048576: true; the input reads as it did. -/
def namesUptoRow : OpenClaim := { program := "ytdlfdifhchijkaa", sum := "7e71807a36b21123249a09ad26c00297ff322d361f8f59f08d26eb641a2b1369", func := "woolsack/woollaw.Names", spec := "names", plainKeys := false, apart := false, narrowed := true }
def NamesUptoSaid : Prop := namesUptoRow.holds Try.pinned (OpenSpec.upto namesSpec)

/-- 'woollaw.MatchSays', WHERE WHAT IT READS IS OF BULK AT MOST 1048576: true; the input reads as it did. -/
def matchSaysUptoRow : OpenClaim := { program := "ytdlfdifhchijkaa", sum := "7e71807a36b21123249a09ad26c00297ff322d361f8f59f08d26eb641a2b1369", func := "woolsack/woollaw.MatchSays", spec := "matchSays", plainKeys := false, apart := false, narrowed := true }
def MatchSaysUptoSaid : Prop := matchSaysUptoRow.holds Try.pinned (OpenSpec.upto matchSaysSpec)

/-- 'woollaw.PrimeCounts', WHERE WHAT IT READS IS OF BULK AT MOST 1048576: true; the input reads as it did. -/
def primeCountsUptoRow : OpenClaim := { program := "ytdlfdifhchijkaa", sum := "7e71807a36b21123249a09ad26c00297ff322d361f8f59f08d26eb641a2b1369", func := "woolsack/woollaw.PrimeCounts", spec := "primeCounts", recurses := true, plainKeys := false, apart := false, narrowed := true }
def PrimeCountsUptoSaid : Prop := primeCountsUptoRow.holds Try.pinned (OpenSpec.upto primeCountsSpec)

/-- 'woollaw.CutSplits', WHERE WHAT IT READS IS OF BULK AT MOST 1048576: true; the input reads as it did. -/
def cutSplitsUptoRow : OpenClaim := { program := "ytdlfdifhchijkaa", sum := "7e71807a36b21123249a09ad26c00297ff322d361f8f59f08d26eb641a2b1369", func := "woolsack/woollaw.CutSplits", spec := "cutSplits", plainKeys := false, apart := false, narrowed := true }
def CutSplitsUptoSaid : Prop := cutSplitsUptoRow.holds Try.pinned (OpenSpec.upto cutSplitsSpec)

/-- 'woollaw.PrintSays', WHERE WHAT IT READS IS OF BULK AT MOST 1048576: true; the input reads as it did. -/
def printSaysUptoRow : OpenClaim := { program := "ytdlfdifhchijkaa", sum := "7e71807a36b21123249a09ad26c00297ff322d361f8f59f08d26eb641a2b1369", func := "woolsack/woollaw.PrintSays", spec := "printSays", unfollowed := true, recurses := true, plainKeys := false, apart := false, narrowed := true }
def PrintSaysUptoSaid : Prop := printSaysUptoRow.holds Try.pinned (OpenSpec.upto printSaysSpec)

/-- 'woollaw.PolySays', WHERE WHAT IT READS IS OF BULK AT MOST 1048576: true; the input reads as it did. -/
def polySaysUptoRow : OpenClaim := { program := "ytdlfdifhchijkaa", sum := "7e71807a36b21123249a09ad26c00297ff322d361f8f59f08d26eb641a2b1369", func := "woolsack/woollaw.PolySays", spec := "polySays", plainKeys := false, apart := false, narrowed := true }
def PolySaysUptoSaid : Prop := polySaysUptoRow.holds Try.pinned (OpenSpec.upto polySaysSpec)

/-- 'woollaw.TreeVerifies', WHERE WHAT IT READS IS OF BULK AT MOST 1048576: true; the input reads as it did. -/
def treeVerifiesUptoRow : OpenClaim := { program := "ytdlfdifhchijkaa", sum := "7e71807a36b21123249a09ad26c00297ff322d361f8f59f08d26eb641a2b1369", func := "woolsack/woollaw.TreeVerifies", spec := "treeVerifies", unfollowed := true, recurses := true, plainKeys := false, apart := false, narrowed := true }
def TreeVerifiesUptoSaid : Prop := treeVerifiesUptoRow.holds Try.pinned (OpenSpec.upto treeVerifiesSpec)

/-- 'woollaw.CutSays', WHERE WHAT IT READS IS OF BULK AT MOST 1048576: true; the input reads as it did. -/
def cutSaysUptoRow : OpenClaim := { program := "ytdlfdifhchijkaa", sum := "7e71807a36b21123249a09ad26c00297ff322d361f8f59f08d26eb641a2b1369", func := "woolsack/woollaw.CutSays", spec := "cutSays", unfollowed := true, recurses := true, plainKeys := false, apart := false, narrowed := true }
def CutSaysUptoSaid : Prop := cutSaysUptoRow.holds Try.pinned (OpenSpec.upto cutSaysSpec)

/-- 'woollaw.PolyDivides', WHERE WHAT IT READS IS OF BULK AT MOST 1048576: true; the input reads as it did. -/
def polyDividesUptoRow : OpenClaim := { program := "ytdlfdifhchijkaa", sum := "7e71807a36b21123249a09ad26c00297ff322d361f8f59f08d26eb641a2b1369", func := "woolsack/woollaw.PolyDivides", spec := "polyDivides", recurses := true, plainKeys := false, apart := false, narrowed := true }
def PolyDividesUptoSaid : Prop := polyDividesUptoRow.holds Try.pinned (OpenSpec.upto polyDividesSpec)

/-- 'woollaw.FrameSays', WHERE WHAT IT READS IS OF BULK AT MOST 1048576: true; the input reads as it did. -/
def frameSaysUptoRow : OpenClaim := { program := "ytdlfdifhchijkaa", sum := "7e71807a36b21123249a09ad26c00297ff322d361f8f59f08d26eb641a2b1369", func := "woolsack/woollaw.FrameSays", spec := "frameSays", unfollowed := true, recurses := true, plainKeys := false, apart := false, narrowed := true }
def FrameSaysUptoSaid : Prop := frameSaysUptoRow.holds Try.pinned (OpenSpec.upto frameSaysSpec)

/-- 'wooltop.TopRabin', WHERE WHAT IT READS IS OF BULK AT MOST 1048576: true; the input reads as it did. -/
def topRabinUptoRow : OpenClaim := { program := "ytdlfdifhchijkaa", sum := "7e71807a36b21123249a09ad26c00297ff322d361f8f59f08d26eb641a2b1369", func := "woolsack/wooltop.TopRabin", spec := "topRabin", plainKeys := false, apart := false, narrowed := true }
def TopRabinUptoSaid : Prop := topRabinUptoRow.holds Try.pinned (OpenSpec.upto topRabinSpec)

/-- 'woollaw.ResvMay', WHERE WHAT IT READS IS OF BULK AT MOST 1048576: true; the input reads as it did. -/
def resvMayUptoRow : OpenClaim := { program := "ytdlfdifhchijkaa", sum := "7e71807a36b21123249a09ad26c00297ff322d361f8f59f08d26eb641a2b1369", func := "woolsack/woollaw.ResvMay", spec := "resvMay", unfollowed := true, recurses := true, plainKeys := false, apart := false, narrowed := true }
def ResvMayUptoSaid : Prop := resvMayUptoRow.holds Try.pinned (OpenSpec.upto resvMaySpec)

/-- 'woollaw.PolyMods', WHERE WHAT IT READS IS OF BULK AT MOST 1048576: true; the input reads as it did. -/
def polyModsUptoRow : OpenClaim := { program := "ytdlfdifhchijkaa", sum := "7e71807a36b21123249a09ad26c00297ff322d361f8f59f08d26eb641a2b1369", func := "woolsack/woollaw.PolyMods", spec := "polyMods", recurses := true, plainKeys := false, apart := false, narrowed := true }
def PolyModsUptoSaid : Prop := polyModsUptoRow.holds Try.pinned (OpenSpec.upto polyModsSpec)

/-- 'woollaw.SegSays', WHERE WHAT IT READS IS OF BULK AT MOST 1048576: true; the input reads as it did. -/
def segSaysUptoRow : OpenClaim := { program := "ytdlfdifhchijkaa", sum := "7e71807a36b21123249a09ad26c00297ff322d361f8f59f08d26eb641a2b1369", func := "woolsack/woollaw.SegSays", spec := "segSays", unfollowed := true, recurses := true, plainKeys := false, apart := false, narrowed := true }
def SegSaysUptoSaid : Prop := segSaysUptoRow.holds Try.pinned (OpenSpec.upto segSaysSpec)

/-- 'woollaw.TreeSays', WHERE WHAT IT READS IS OF BULK AT MOST 1048576: true; the input reads as it did. -/
def treeSaysUptoRow : OpenClaim := { program := "ytdlfdifhchijkaa", sum := "7e71807a36b21123249a09ad26c00297ff322d361f8f59f08d26eb641a2b1369", func := "woolsack/woollaw.TreeSays", spec := "treeSays", unfollowed := true, recurses := true, plainKeys := false, apart := false, narrowed := true }
def TreeSaysUptoSaid : Prop := treeSaysUptoRow.holds Try.pinned (OpenSpec.upto treeSaysSpec)

/-- 'wooltop.TopDedup', WHERE WHAT IT READS IS OF BULK AT MOST 1048576: true; the input reads as it did. -/
def topDedupUptoRow : OpenClaim := { program := "ytdlfdifhchijkaa", sum := "7e71807a36b21123249a09ad26c00297ff322d361f8f59f08d26eb641a2b1369", func := "woolsack/wooltop.TopDedup", spec := "topDedup", inPlace := ["internal/bytealg.abigen_runtime_cmpstring", "slices.overlaps[woolsack/api.Vol]", "slices.overlaps[woolsack/api.Item]"], unfollowed := true, recurses := true, plainKeys := false, apart := false, narrowed := true }
def TopDedupUptoSaid : Prop := topDedupUptoRow.holds Try.pinned (OpenSpec.upto topDedupSpec)

/-- 'woollaw.PrintMoves', WHERE WHAT IT READS IS OF BULK AT MOST 1048576: true; the input reads as it did. -/
def printMovesUptoRow : OpenClaim := { program := "ytdlfdifhchijkaa", sum := "7e71807a36b21123249a09ad26c00297ff322d361f8f59f08d26eb641a2b1369", func := "woolsack/woollaw.PrintMoves", spec := "printMoves", recurses := true, plainKeys := false, apart := false, narrowed := true }
def PrintMovesUptoSaid : Prop := printMovesUptoRow.holds Try.pinned (OpenSpec.upto printMovesSpec)

/-- 'woollaw.QueueSays', WHERE WHAT IT READS IS OF BULK AT MOST 1048576: true; the input reads as it did. -/
def queueSaysUptoRow : OpenClaim := { program := "ytdlfdifhchijkaa", sum := "7e71807a36b21123249a09ad26c00297ff322d361f8f59f08d26eb641a2b1369", func := "woolsack/woollaw.QueueSays", spec := "queueSays", unfollowed := true, recurses := true, plainKeys := false, apart := false, narrowed := true }
def QueueSaysUptoSaid : Prop := queueSaysUptoRow.holds Try.pinned (OpenSpec.upto queueSaysSpec)

/-- 'woollaw.TreeClashes', WHERE WHAT IT READS IS OF BULK AT MOST 1048576: true; the input reads as it did. -/
def treeClashesUptoRow : OpenClaim := { program := "ytdlfdifhchijkaa", sum := "7e71807a36b21123249a09ad26c00297ff322d361f8f59f08d26eb641a2b1369", func := "woolsack/woollaw.TreeClashes", spec := "treeClashes", unfollowed := true, recurses := true, plainKeys := false, apart := false, narrowed := true }
def TreeClashesUptoSaid : Prop := treeClashesUptoRow.holds Try.pinned (OpenSpec.upto treeClashesSpec)

/-- 'woollaw.PrimeSays', WHERE WHAT IT READS IS OF BULK AT MOST 1048576: true; the input reads as it did. -/
def primeSaysUptoRow : OpenClaim := { program := "ytdlfdifhchijkaa", sum := "7e71807a36b21123249a09ad26c00297ff322d361f8f59f08d26eb641a2b1369", func := "woolsack/woollaw.PrimeSays", spec := "primeSays", plainKeys := false, apart := false, narrowed := true }
def PrimeSaysUptoSaid : Prop := primeSaysUptoRow.holds Try.pinned (OpenSpec.upto primeSaysSpec)

/-- 'wooltop.TopBackup', WHERE WHAT IT READS IS OF BULK AT MOST 1048576: true; the input reads as it did. -/
def topBackupUptoRow : OpenClaim := { program := "ytdlfdifhchijkaa", sum := "7e71807a36b21123249a09ad26c00297ff322d361f8f59f08d26eb641a2b1369", func := "woolsack/wooltop.TopBackup", spec := "topBackup", inPlace := ["internal/bytealg.abigen_runtime_cmpstring", "slices.overlaps[woolsack/api.Vol]", "slices.overlaps[woolsack/api.Item]"], unfollowed := true, recurses := true, plainKeys := false, apart := false, narrowed := true }
def TopBackupUptoSaid : Prop := topBackupUptoRow.holds Try.pinned (OpenSpec.upto topBackupSpec)

/-- 'woollaw.LzSays', WHERE WHAT IT READS IS OF BULK AT MOST 1048576: true; the input reads as it did. -/
def lzSaysUptoRow : OpenClaim := { program := "ytdlfdifhchijkaa", sum := "7e71807a36b21123249a09ad26c00297ff322d361f8f59f08d26eb641a2b1369", func := "woolsack/woollaw.LzSays", spec := "lzSays", inPlace := ["internal/abi.NoEscape", "internal/bytealg.MakeNoZero"], unfollowed := true, recurses := true, plainKeys := false, apart := false, narrowed := true }
def LzSaysUptoSaid : Prop := lzSaysUptoRow.holds Try.pinned (OpenSpec.upto lzSaysSpec)

/-- 'woollaw.SegCleans', WHERE WHAT IT READS IS OF BULK AT MOST 1048576: true; the input reads as it did. -/
def segCleansUptoRow : OpenClaim := { program := "ytdlfdifhchijkaa", sum := "7e71807a36b21123249a09ad26c00297ff322d361f8f59f08d26eb641a2b1369", func := "woolsack/woollaw.SegCleans", spec := "segCleans", unfollowed := true, recurses := true, plainKeys := false, apart := false, narrowed := true }
def SegCleansUptoSaid : Prop := segCleansUptoRow.holds Try.pinned (OpenSpec.upto segCleansSpec)

/-- 'woollaw.ResvSays', WHERE WHAT IT READS IS OF BULK AT MOST 1048576: true; the input reads as it did. -/
def resvSaysUptoRow : OpenClaim := { program := "ytdlfdifhchijkaa", sum := "7e71807a36b21123249a09ad26c00297ff322d361f8f59f08d26eb641a2b1369", func := "woolsack/woollaw.ResvSays", spec := "resvSays", inPlace := ["slices.overlaps[woolsack/api.Reg]"], unfollowed := true, recurses := true, plainKeys := false, apart := false, narrowed := true }
def ResvSaysUptoSaid : Prop := resvSaysUptoRow.holds Try.pinned (OpenSpec.upto resvSaysSpec)

/-- 'woollaw.BagSays', WHERE WHAT IT READS IS OF BULK AT MOST 1048576: true; the input reads as it did. -/
def bagSaysUptoRow : OpenClaim := { program := "ytdlfdifhchijkaa", sum := "7e71807a36b21123249a09ad26c00297ff322d361f8f59f08d26eb641a2b1369", func := "woolsack/woollaw.BagSays", spec := "bagSays", inPlace := ["slices.overlaps[woolsack/api.Item]", "internal/reflectlite.ValueOf", "internal/reflectlite.Swapper", "(internal/reflectlite.Value).Len"], unfollowed := true, recurses := true, plainKeys := false, apart := false, narrowed := true }
def BagSaysUptoSaid : Prop := bagSaysUptoRow.holds Try.pinned (OpenSpec.upto bagSaysSpec)

end Rows
end Go.Proofs.Ytdlfdifhchijkaa
