/-
  No cell of these rows narrows 'for every input' (looked for: loops, veiled, ifaces, maps, wideKeys, modest, calm, conditions, laid).
  DERIVED. THE GIVEN ROWS OF THIS SEAT. 4 by the template 'for every input the law returns true; each argument reads behind the call as it read before'; 0 by the template 'total and deterministic' (their statements: YtolifffhoahioaaTotals.lean).
  GIVEN WITH THE SEED: the statements are not yours to turn. If you find one false, say at which input.
  Laid BY PROGRAM, IN A SANDBOX (cutbox-rows.mjs): the forced cells as the released guide's own fill.sh prints them over the translation 7ab14cbf7347468d… (all of the seat's roots in one cut). By AI agents, Wed Nov 11 2026. No macro, syntax, notation, axiom, sorry.
-/
import Derived.Test.YtolifffhoahioaaChecked
import GoSem.Claim
import GoSem.ClaimJoined
import GoSem.ClaimMapViews
import Derived.JoinedTies
import Derived.KernelRfl
namespace Go.Proofs.Ytolifffhoahioaa
/- THE CELL 'sum', in the pinned program and in every row, IS THE sha256 OF THE DUMP (.gsa) THAT YtolifffhoahioaaProg.lean LOADS. Nothing in Lean hashes anything: it is a label: what it is worth is what the hold of that sum in a sandbox is worth. -/
noncomputable def Try.pinned : Pinned := { name := "ytolifffhoahioaa", sum := "7ab14cbf7347468dfdd145e3749f9e6352dfdc07686ea7624c2b7b90a69d731f", checked := Try.checked }
namespace Rows
def none {H : Type} : Left H := { results := [], args := [] }

/-- 'woollaw.QueueSays': WHATEVER THE INPUT: true; the input reads as it did. -/
def queueSaysSpec : ChangeSpec := { name := "queueSays", fn := fun _ => fun
  | [d1, d2, d3] => { results := [.lit (.bool true)], args := [d1, d2, d3] }
  | _ => none }
def queueSaysRow : OpenClaim := { program := "ytolifffhoahioaa", sum := "7ab14cbf7347468dfdd145e3749f9e6352dfdc07686ea7624c2b7b90a69d731f", func := "woolsack/woollaw.QueueSays", spec := "queueSays", unfollowed := true, recurses := true, plainKeys := false, apart := false }
def QueueSaysSaid : Prop := queueSaysRow.holds Try.pinned (OpenSpec.ofChange queueSaysSpec)

/-- ITS FALSE NEIGHBOUR: 'it returns false'. Refute it at one input. -/
def queueSaysWrong : ChangeSpec := { name := "queueSays", fn := fun _ => fun
  | [d1, d2, d3] => { results := [.lit (.bool false)], args := [d1, d2, d3] }
  | _ => none }
def QueueSaysWrongFalsely : Prop := queueSaysRow.holds Try.pinned (OpenSpec.ofChange queueSaysWrong)

/-- 'woollaw.LzSays': WHATEVER THE INPUT: true; the input reads as it did. -/
def lzSaysSpec : ChangeSpec := { name := "lzSays", fn := fun _ => fun
  | [d1, d2, d3] => { results := [.lit (.bool true)], args := [d1, d2, d3] }
  | _ => none }
def lzSaysRow : OpenClaim := { program := "ytolifffhoahioaa", sum := "7ab14cbf7347468dfdd145e3749f9e6352dfdc07686ea7624c2b7b90a69d731f", func := "woolsack/woollaw.LzSays", spec := "lzSays", inPlace := ["internal/abi.NoEscape", "internal/bytealg.MakeNoZero"], unfollowed := true, recurses := true, plainKeys := false, apart := false }
def LzSaysSaid : Prop := lzSaysRow.holds Try.pinned (OpenSpec.ofChange lzSaysSpec)

/-- ITS FALSE NEIGHBOUR: 'it returns false'. Refute it at one input. -/
def lzSaysWrong : ChangeSpec := { name := "lzSays", fn := fun _ => fun
  | [d1, d2, d3] => { results := [.lit (.bool false)], args := [d1, d2, d3] }
  | _ => none }
def LzSaysWrongFalsely : Prop := lzSaysRow.holds Try.pinned (OpenSpec.ofChange lzSaysWrong)

/-- 'woollaw.SegCleans': WHATEVER THE INPUT: true; the input reads as it did. -/
def segCleansSpec : ChangeSpec := { name := "segCleans", fn := fun _ => fun
  | [d1, d2] => { results := [.lit (.bool true)], args := [d1, d2] }
  | _ => none }
def segCleansRow : OpenClaim := { program := "ytolifffhoahioaa", sum := "7ab14cbf7347468dfdd145e3749f9e6352dfdc07686ea7624c2b7b90a69d731f", func := "woolsack/woollaw.SegCleans", spec := "segCleans", unfollowed := true, recurses := true, plainKeys := false, apart := false }
def SegCleansSaid : Prop := segCleansRow.holds Try.pinned (OpenSpec.ofChange segCleansSpec)

/-- ITS FALSE NEIGHBOUR: 'it returns false'. Refute it at one input. -/
def segCleansWrong : ChangeSpec := { name := "segCleans", fn := fun _ => fun
  | [d1, d2] => { results := [.lit (.bool false)], args := [d1, d2] }
  | _ => none }
def SegCleansWrongFalsely : Prop := segCleansRow.holds Try.pinned (OpenSpec.ofChange segCleansWrong)

/-- 'woollaw.ResvSays': WHATEVER THE INPUT: true; the input reads as it did. -/
def resvSaysSpec : ChangeSpec := { name := "resvSays", fn := fun _ => fun
  | [d1, d2, d3, d4, d5] => { results := [.lit (.bool true)], args := [d1, d2, d3, d4, d5] }
  | _ => none }
def resvSaysRow : OpenClaim := { program := "ytolifffhoahioaa", sum := "7ab14cbf7347468dfdd145e3749f9e6352dfdc07686ea7624c2b7b90a69d731f", func := "woolsack/woollaw.ResvSays", spec := "resvSays", inPlace := ["slices.overlaps[woolsack/api.Reg]"], unfollowed := true, recurses := true, plainKeys := false, apart := false }
def ResvSaysSaid : Prop := resvSaysRow.holds Try.pinned (OpenSpec.ofChange resvSaysSpec)

/-- ITS FALSE NEIGHBOUR: 'it returns false'. Refute it at one input. -/
def resvSaysWrong : ChangeSpec := { name := "resvSays", fn := fun _ => fun
  | [d1, d2, d3, d4, d5] => { results := [.lit (.bool false)], args := [d1, d2, d3, d4, d5] }
  | _ => none }
def ResvSaysWrongFalsely : Prop := resvSaysRow.holds Try.pinned (OpenSpec.ofChange resvSaysWrong)

/- THE SECOND FORM. 'bulk': how many values and letters a reading holds, each counted each time it is reached (what is shared counts as often as it is met; a slice's spare places count too). A statement '..UptoSaid' is the law's where the arguments, and the package variables that the reading takes, are together of bulk at most 1048576: NARROWER than '..Said'. Prove '..Said' where nothing that the law and all that it calls make is longer than what came in: it says more and counts as full. Else prove '..UptoSaid'. A law counts once. -/
mutual
def uptoBulk {H : Type} : DataW H → Nat
  | .lit (.string bytes) => bytes.length + 1
  | .lit _ => 1
  | .nil => 1
  | .ptr d => uptoBulk d + 1
  | .slice elems spare => uptoBulkAll elems + uptoBulkAll spare + 1
  | .agg parts => uptoBulkAll parts + 1
  | .iface _ d => uptoBulk d + 1
  | .map entries => uptoBulkEntries entries + 1
  | .held _ => 1
def uptoBulkAll {H : Type} : List (DataW H) → Nat
  | [] => 0
  | d :: r => uptoBulk d + uptoBulkAll r
def uptoBulkEntries {H : Type} : List (Lit × DataW H) → Nat
  | [] => 0
  | x :: r => uptoBulkEntry x + uptoBulkEntries r
def uptoBulkEntry {H : Type} : Lit × DataW H → Nat
  | (.string bytes, d) => bytes.length + uptoBulk d + 1
  | (_, d) => uptoBulk d + 1
 end
def uptoSmall : (H : Type) → List (DataW H) → Bool := fun _ ds => decide (uptoBulkAll ds ≤ 1048576)
def OpenSpec.upto (s : _root_.Go.ChangeSpec) : _root_.Go.OpenSpec := { _root_.Go.OpenSpec.ofChange s with cond := some uptoSmall }

/-- 'woollaw.QueueSays', WHERE WHAT IT READS IS OF BULK AT MOST 1048576: true; the input reads as it did. -/
def queueSaysUptoRow : OpenClaim := { program := "ytolifffhoahioaa", sum := "7ab14cbf7347468dfdd145e3749f9e6352dfdc07686ea7624c2b7b90a69d731f", func := "woolsack/woollaw.QueueSays", spec := "queueSays", unfollowed := true, recurses := true, plainKeys := false, apart := false, narrowed := true }
def QueueSaysUptoSaid : Prop := queueSaysUptoRow.holds Try.pinned (OpenSpec.upto queueSaysSpec)

/-- 'woollaw.LzSays', WHERE WHAT IT READS IS OF BULK AT MOST 1048576: true; the input reads as it did. -/
def lzSaysUptoRow : OpenClaim := { program := "ytolifffhoahioaa", sum := "7ab14cbf7347468dfdd145e3749f9e6352dfdc07686ea7624c2b7b90a69d731f", func := "woolsack/woollaw.LzSays", spec := "lzSays", inPlace := ["internal/abi.NoEscape", "internal/bytealg.MakeNoZero"], unfollowed := true, recurses := true, plainKeys := false, apart := false, narrowed := true }
def LzSaysUptoSaid : Prop := lzSaysUptoRow.holds Try.pinned (OpenSpec.upto lzSaysSpec)

/-- 'woollaw.SegCleans', WHERE WHAT IT READS IS OF BULK AT MOST 1048576: true; the input reads as it did. -/
def segCleansUptoRow : OpenClaim := { program := "ytolifffhoahioaa", sum := "7ab14cbf7347468dfdd145e3749f9e6352dfdc07686ea7624c2b7b90a69d731f", func := "woolsack/woollaw.SegCleans", spec := "segCleans", unfollowed := true, recurses := true, plainKeys := false, apart := false, narrowed := true }
def SegCleansUptoSaid : Prop := segCleansUptoRow.holds Try.pinned (OpenSpec.upto segCleansSpec)

/-- 'woollaw.ResvSays', WHERE WHAT IT READS IS OF BULK AT MOST 1048576: true; the input reads as it did. -/
def resvSaysUptoRow : OpenClaim := { program := "ytolifffhoahioaa", sum := "7ab14cbf7347468dfdd145e3749f9e6352dfdc07686ea7624c2b7b90a69d731f", func := "woolsack/woollaw.ResvSays", spec := "resvSays", inPlace := ["slices.overlaps[woolsack/api.Reg]"], unfollowed := true, recurses := true, plainKeys := false, apart := false, narrowed := true }
def ResvSaysUptoSaid : Prop := resvSaysUptoRow.holds Try.pinned (OpenSpec.upto resvSaysSpec)

end Rows
end Go.Proofs.Ytolifffhoahioaa
