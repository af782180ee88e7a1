/- strings.Trim at "01": the kit's contract as one of this logic. Conditions: none. -/
import Derived.Test.YtbnbimncladflaaDoorStrC
import Derived.WalkKit
import Derived.Shelf.Lays
import Derived.Shelf.Strings.SlTrimAscii
set_option linter.unusedSimpArgs false
set_option linter.unusedVariables false
set_option maxHeartbeats 4000000
set_option maxRecDepth 20000
namespace Go.Proofs
open Go.Shelf
def Tryd.lays160_ren : Go.Shelf.Ren := ⟨fun | 160 => 50 | 232 => 51 | 231 => 62 | 227 => 52 | 234 => 53 | 233 => 63 | 236 => 54 | 235 => 64 | 228 => 65 | 271 => 66 | 151 => 67 | 197 => 73 | 120 => 74 | 152 => 75 | 260 => 77 | 137 => 78 | 119 => 79 | 224 => 80 | 225 => 81 | 217 => 82 | 266 => 83 | n => n, fun | 9 => 9 | 4 => 4 | 3 => 3 | 5 => 5 | 117 => 75 | 116 => 74 | 0 => 0 | 124 => 78 | 21 => 21 | 105 => 89 | 46 => 66 | 119 => 100 | 139 => 103 | 138 => 102 | n => n, fun | 3 => 1 | 4 => 2 | n => n⟩
theorem Tryd.lays160 : Go.Proofs.Lays.n160 Tryd.prog Tryd.lays160_ren := {
  mixed := by kernel_rfl,
  f119 := Tryd.func79.trans (congrArg some (by kernel_rfl)),
  f120 := Tryd.func74.trans (congrArg some (by kernel_rfl)),
  f137 := Tryd.func78.trans (congrArg some (by kernel_rfl)),
  f151 := Tryd.func67.trans (congrArg some (by kernel_rfl)),
  f152 := Tryd.func75.trans (congrArg some (by kernel_rfl)),
  f160 := Tryd.func50.trans (congrArg some (by kernel_rfl)),
  f197 := Tryd.func73.trans (congrArg some (by kernel_rfl)),
  f217 := Tryd.func82.trans (congrArg some (by kernel_rfl)),
  f224 := Tryd.func80.trans (congrArg some (by kernel_rfl)),
  f225 := Tryd.func81.trans (congrArg some (by kernel_rfl)),
  f227 := Tryd.func52.trans (congrArg some (by kernel_rfl)),
  f228 := Tryd.func65.trans (congrArg some (by kernel_rfl)),
  f231 := Tryd.func62.trans (congrArg some (by kernel_rfl)),
  f232 := Tryd.func51.trans (congrArg some (by kernel_rfl)),
  f233 := Tryd.func63.trans (congrArg some (by kernel_rfl)),
  f234 := Tryd.func53.trans (congrArg some (by kernel_rfl)),
  f235 := Tryd.func64.trans (congrArg some (by kernel_rfl)),
  f236 := Tryd.func54.trans (congrArg some (by kernel_rfl)),
  f260 := Tryd.func77.trans (congrArg some (by kernel_rfl)),
  f266 := Tryd.func83.trans (congrArg some (by kernel_rfl)),
  f271 := Tryd.func66.trans (congrArg some (by kernel_rfl)),
  t0 := Tryd.underlying0,
  a0 := Tryd.isAgg0,
  z0 := Tryd.sizeOf0,
  v0 := Tryd.zeroValue0,
  t3 := Tryd.underlying3,
  a3 := Tryd.isAgg3,
  z3 := Tryd.sizeOf3,
  v3 := Tryd.zeroValue3,
  t4 := Tryd.underlying4,
  a4 := Tryd.isAgg4,
  z4 := Tryd.sizeOf4,
  v4 := Tryd.zeroValue4,
  t5 := Tryd.underlying5,
  a5 := Tryd.isAgg5,
  z5 := Tryd.sizeOf5,
  v5 := Tryd.zeroValue5,
  t9 := Tryd.underlying9,
  a9 := Tryd.isAgg9,
  z9 := Tryd.sizeOf9,
  v9 := Tryd.zeroValue9,
  t21 := Tryd.underlying21,
  a21 := Tryd.isAgg21,
  z21 := Tryd.sizeOf21,
  v21 := Tryd.zeroValue21,
  t46 := Tryd.underlying66,
  a46 := Tryd.isAgg66,
  z46 := Tryd.sizeOf66,
  v46 := Tryd.zeroValue66,
  t105 := Tryd.underlying89,
  a105 := Tryd.isAgg89,
  z105 := Tryd.sizeOf89,
  v105 := Tryd.zeroValue89,
  t116 := Tryd.underlying74,
  a116 := Tryd.isAgg74,
  z116 := Tryd.sizeOf74,
  t117 := Tryd.underlying75,
  a117 := Tryd.isAgg75,
  z117 := Tryd.sizeOf75,
  v117 := Tryd.zeroValue75,
  t119 := Tryd.underlying100,
  a119 := Tryd.isAgg100,
  z119 := Tryd.sizeOf100,
  t124 := Tryd.underlying78,
  a124 := Tryd.isAgg78,
  z124 := Tryd.sizeOf78,
  v124 := Tryd.zeroValue78,
  t138 := Tryd.underlying102,
  a138 := Tryd.isAgg102,
  z138 := Tryd.sizeOf102,
  v138 := Tryd.zeroValue102,
  t139 := Tryd.underlying103,
  a139 := Tryd.isAgg103,
  z139 := Tryd.sizeOf103,
  v139 := Tryd.zeroValue103,
  g3 := by kernel_rfl,
  g4 := by kernel_rfl }

end Go.Proofs
namespace Go.X.St
open Go Go.X Go.RowKit

theorem trim01 (s : List UInt8) (M : Mem) (hs : s.length ≤ 9223372036854775807) :
    Meets Proofs.Tryd.prog 50 [.v (.string ⟨s.toArray⟩), .v (.string ⟨#[48, 49]⟩)] M fun r _ _ => r = .v (.string ⟨(Lib.trimS s [48, 49]).toArray⟩) := by
  refine Meets.ofCalls ⟨_, Proofs.Tryd.func50, by kernel_rfl, by kernel_rfl⟩ fun w => ?_
  exact Proofs.Any.strings_Trim_laid Proofs.Tryd.lays160 (by kernel_rfl) ⟨s.toArray⟩ ⟨#[48, 49]⟩ w (by simpa [ByteArray.size] using hs) (by decide) (Proofs.ascii_of_all (by decide))
end Go.X.St
