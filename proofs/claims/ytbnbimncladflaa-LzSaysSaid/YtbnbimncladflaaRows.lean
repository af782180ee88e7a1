/-
  No cell of these rows narrows 'for every input' (looked for: loops, veiled, ifaces, maps, wideKeys, modest, calm, conditions, laid).
  DERIVED. THE GIVEN ROWS OF THIS SEAT. 4 by the template 'for every input the law returns true; each argument reads behind the call as it read before'; 0 by the template 'total and deterministic' (their statements: YtbnbimncladflaaTotals.lean).
  GIVEN WITH THE SEED: the statements are not yours to turn. If you find one false, say at which input.
  Laid BY PROGRAM, IN A SANDBOX (cutbox-rows.mjs): the forced cells as the released guide's own fill.sh prints them over the translation ce8d0e64f17e5718… (all of the seat's roots in one cut). By AI agents, Wed Nov 11 2026. No macro, syntax, notation, axiom, sorry.
-/
import Derived.Test.YtbnbimncladflaaChecked
import GoSem.Claim
import GoSem.ClaimJoined
import GoSem.ClaimMapViews
import Derived.JoinedTies
import Derived.KernelRfl
namespace Go.Proofs.Ytbnbimncladflaa
/- THE CELL 'sum', in the pinned program and in every row, IS THE sha256 OF THE DUMP (.gsa) THAT YtbnbimncladflaaProg.lean LOADS. Nothing in Lean hashes anything: it is a label: what it is worth is what the hold of that sum in a sandbox is worth. -/
noncomputable def Try.pinned : Pinned := { name := "ytbnbimncladflaa", sum := "ce8d0e64f17e571888eea7bd8c275d0a0602aecff36c8bbda234a7212fb602a7", checked := Try.checked }
namespace Rows
def none {H : Type} : Left H := { results := [], args := [] }

/-- 'wooltop.TopDedup': WHATEVER THE INPUT: true; the input reads as it did. -/
def topDedupSpec : ChangeSpec := { name := "topDedup", fn := fun _ => fun
  | [d1, d2] => { results := [.lit (.bool true)], args := [d1, d2] }
  | _ => none }
def topDedupRow : OpenClaim := { program := "ytbnbimncladflaa", sum := "ce8d0e64f17e571888eea7bd8c275d0a0602aecff36c8bbda234a7212fb602a7", func := "woolsack/wooltop.TopDedup", spec := "topDedup", inPlace := ["internal/bytealg.abigen_runtime_cmpstring", "slices.overlaps[woolsack/api.Vol]", "slices.overlaps[woolsack/api.Item]"], unfollowed := true, recurses := true, plainKeys := false, apart := false }
def TopDedupSaid : Prop := topDedupRow.holds Try.pinned (OpenSpec.ofChange topDedupSpec)

/-- ITS FALSE NEIGHBOUR: 'it returns false'. Refute it at one input. -/
def topDedupWrong : ChangeSpec := { name := "topDedup", fn := fun _ => fun
  | [d1, d2] => { results := [.lit (.bool false)], args := [d1, d2] }
  | _ => none }
def TopDedupWrongFalsely : Prop := topDedupRow.holds Try.pinned (OpenSpec.ofChange topDedupWrong)

/-- 'wooltop.TopBackup': WHATEVER THE INPUT: true; the input reads as it did. -/
def topBackupSpec : ChangeSpec := { name := "topBackup", fn := fun _ => fun
  | [d1, d2, d3] => { results := [.lit (.bool true)], args := [d1, d2, d3] }
  | _ => none }
def topBackupRow : OpenClaim := { program := "ytbnbimncladflaa", sum := "ce8d0e64f17e571888eea7bd8c275d0a0602aecff36c8bbda234a7212fb602a7", func := "woolsack/wooltop.TopBackup", spec := "topBackup", inPlace := ["internal/bytealg.abigen_runtime_cmpstring", "slices.overlaps[woolsack/api.Vol]", "slices.overlaps[woolsack/api.Item]"], unfollowed := true, recurses := true, plainKeys := false, apart := false }
def TopBackupSaid : Prop := topBackupRow.holds Try.pinned (OpenSpec.ofChange topBackupSpec)

/-- ITS FALSE NEIGHBOUR: 'it returns false'. Refute it at one input. -/
def topBackupWrong : ChangeSpec := { name := "topBackup", fn := fun _ => fun
  | [d1, d2, d3] => { results := [.lit (.bool false)], args := [d1, d2, d3] }
  | _ => none }
def TopBackupWrongFalsely : Prop := topBackupRow.holds Try.pinned (OpenSpec.ofChange topBackupWrong)

/-- 'woollaw.LzSays': WHATEVER THE INPUT: true; the input reads as it did. -/
def lzSaysSpec : ChangeSpec := { name := "lzSays", fn := fun _ => fun
  | [d1, d2, d3] => { results := [.lit (.bool true)], args := [d1, d2, d3] }
  | _ => none }
def lzSaysRow : OpenClaim := { program := "ytbnbimncladflaa", sum := "ce8d0e64f17e571888eea7bd8c275d0a0602aecff36c8bbda234a7212fb602a7", func := "woolsack/woollaw.LzSays", spec := "lzSays", inPlace := ["internal/abi.NoEscape", "internal/bytealg.MakeNoZero"], unfollowed := true, recurses := true, plainKeys := false, apart := false }
def LzSaysSaid : Prop := lzSaysRow.holds Try.pinned (OpenSpec.ofChange lzSaysSpec)

/-- ITS FALSE NEIGHBOUR: 'it returns false'. Refute it at one input. -/
def lzSaysWrong : ChangeSpec := { name := "lzSays", fn := fun _ => fun
  | [d1, d2, d3] => { results := [.lit (.bool false)], args := [d1, d2, d3] }
  | _ => none }
def LzSaysWrongFalsely : Prop := lzSaysRow.holds Try.pinned (OpenSpec.ofChange lzSaysWrong)

/-- 'woollaw.BagSays': WHATEVER THE INPUT: true; the input reads as it did. -/
def bagSaysSpec : ChangeSpec := { name := "bagSays", fn := fun _ => fun
  | [d1, d2, d3] => { results := [.lit (.bool true)], args := [d1, d2, d3] }
  | _ => none }
def bagSaysRow : OpenClaim := { program := "ytbnbimncladflaa", sum := "ce8d0e64f17e571888eea7bd8c275d0a0602aecff36c8bbda234a7212fb602a7", func := "woolsack/woollaw.BagSays", spec := "bagSays", inPlace := ["slices.overlaps[woolsack/api.Item]", "internal/reflectlite.ValueOf", "internal/reflectlite.Swapper", "(internal/reflectlite.Value).Len"], unfollowed := true, recurses := true, plainKeys := false, apart := false }
def BagSaysSaid : Prop := bagSaysRow.holds Try.pinned (OpenSpec.ofChange bagSaysSpec)

/-- ITS FALSE NEIGHBOUR: 'it returns false'. Refute it at one input. -/
def bagSaysWrong : ChangeSpec := { name := "bagSays", fn := fun _ => fun
  | [d1, d2, d3] => { results := [.lit (.bool false)], args := [d1, d2, d3] }
  | _ => none }
def BagSaysWrongFalsely : Prop := bagSaysRow.holds Try.pinned (OpenSpec.ofChange bagSaysWrong)

/- THE SECOND FORM. 'bulk': how many values and letters a reading holds, each counted each time it is reached (what is shared counts as often as it is met; a slice's spare places count too). A statement '..UptoSaid' is the law's where the arguments, and the package variables that the reading takes, are together of bulk at most 1048576: NARROWER than '..Said'. Prove '..Said' where nothing that the law and all that it calls make is longer than what came in: it says more and counts as full. Else prove '..UptoSaid'. A law counts once. -/
mutual
def uptoBulk {H : Type} : DataW H → Nat
  | .lit (.string bytes) => bytes.length + 1
  | .lit _ => 1
  | .nil => 1
  | .ptr d => uptoBulk d + 1
  | .slice elems spare => uptoBulkAll elems + uptoBulkAll spare + 1
  | .agg parts => uptoBulkAll parts + 1
  | .iface _ d => uptoBulk d + 1
  | .map entries => uptoBulkEntries entries + 1
  | .held _ => 1
def uptoBulkAll {H : Type} : List (DataW H) → Nat
  | [] => 0
  | d :: r => uptoBulk d + uptoBulkAll r
def uptoBulkEntries {H : Type} : List (Lit × DataW H) → Nat
  | [] => 0
  | x :: r => uptoBulkEntry x + uptoBulkEntries r
def uptoBulkEntry {H : Type} : Lit × DataW H → Nat
  | (.string bytes, d) => bytes.length + uptoBulk d + 1
  | (_, d) => uptoBulk d + 1
 end
def uptoSmall : (H : Type) → List (DataW H) → Bool := fun _ ds => decide (uptoBulkAll ds ≤ 1048576)
def OpenSpec.upto (s : _root_.Go.ChangeSpec) : _root_.Go.OpenSpec := { _root_.Go.OpenSpec.ofChange s with cond := some uptoSmall }

/-- 'wooltop.TopDedup', WHERE WHAT IT READS IS OF BULK AT MOST 1048576: true; the input reads as it did. -/
def topDedupUptoRow : OpenClaim := { program := "ytbnbimncladflaa", sum := "ce8d0e64f17e571888eea7bd8c275d0a0602aecff36c8bbda234a7212fb602a7", func := "woolsack/wooltop.TopDedup", spec := "topDedup", inPlace := ["internal/bytealg.abigen_runtime_cmpstring", "slices.overlaps[woolsack/api.Vol]", "slices.overlaps[woolsack/api.Item]"], unfollowed := true, recurses := true, plainKeys := false, apart := false, narrowed := true }
def TopDedupUptoSaid : Prop := topDedupUptoRow.holds Try.pinned (OpenSpec.upto topDedupSpec)

/-- 'wooltop.TopBackup', WHERE WHAT IT READS IS OF BULK AT MOST 1048576: true; the input reads as it did. -/
def topBackupUptoRow : OpenClaim := { program := "ytbnbimncladflaa", sum := "ce8d0e64f17e571888eea7bd8c275d0a0602aecff36c8bbda234a7212fb602a7", func := "woolsack/wooltop.TopBackup", spec := "topBackup", inPlace := ["internal/bytealg.abigen_runtime_cmpstring", "slices.overlaps[woolsack/api.Vol]", "slices.overlaps[woolsack/api.Item]"], unfollowed := true, recurses := true, plainKeys := false, apart := false, narrowed := true }
def TopBackupUptoSaid : Prop := topBackupUptoRow.holds Try.pinned (OpenSpec.upto topBackupSpec)

/-- 'woollaw.LzSays', WHERE WHAT IT READS IS OF BULK AT MOST 1048576: true; the input reads as it did. -/
def lzSaysUptoRow : OpenClaim := { program := "ytbnbimncladflaa", sum := "ce8d0e64f17e571888eea7bd8c275d0a0602aecff36c8bbda234a7212fb602a7", func := "woolsack/woollaw.LzSays", spec := "lzSays", inPlace := ["internal/abi.NoEscape", "internal/bytealg.MakeNoZero"], unfollowed := true, recurses := true, plainKeys := false, apart := false, narrowed := true }
def LzSaysUptoSaid : Prop := lzSaysUptoRow.holds Try.pinned (OpenSpec.upto lzSaysSpec)

/-- 'woollaw.BagSays', WHERE WHAT IT READS IS OF BULK AT MOST 1048576: true; the input reads as it did. -/
def bagSaysUptoRow : OpenClaim := { program := "ytbnbimncladflaa", sum := "ce8d0e64f17e571888eea7bd8c275d0a0602aecff36c8bbda234a7212fb602a7", func := "woolsack/woollaw.BagSays", spec := "bagSays", inPlace := ["slices.overlaps[woolsack/api.Item]", "internal/reflectlite.ValueOf", "internal/reflectlite.Swapper", "(internal/reflectlite.Value).Len"], unfollowed := true, recurses := true, plainKeys := false, apart := false, narrowed := true }
def BagSaysUptoSaid : Prop := bagSaysUptoRow.holds Try.pinned (OpenSpec.upto bagSaysSpec)

end Rows
end Go.Proofs.Ytbnbimncladflaa
