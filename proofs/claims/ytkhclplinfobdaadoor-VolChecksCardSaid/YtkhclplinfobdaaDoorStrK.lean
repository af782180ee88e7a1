/- strings.Trim at "01": the kit's contract as one of this logic. Conditions: none. -/
import Derived.Test.YtkhclplinfobdaaDoorFwR
import Derived.WalkKit
import Derived.Shelf.Lays
import Derived.Shelf.Strings.SlTrimAscii
set_option linter.unusedSimpArgs false
set_option linter.unusedVariables false
set_option maxHeartbeats 4000000
set_option maxRecDepth 20000
namespace Go.Proofs
open Go.Shelf
def Tryd.lays160_ren : Go.Shelf.Ren := ⟨fun | 160 => 60 | 232 => 78 | 231 => 87 | 227 => 79 | 234 => 80 | 233 => 88 | 236 => 81 | 235 => 89 | 228 => 104 | 271 => 105 | 151 => 106 | 197 => 110 | 120 => 114 | 152 => 115 | 260 => 116 | 137 => 119 | 119 => 120 | 224 => 121 | 225 => 122 | 217 => 124 | 266 => 125 | n => n, fun | 9 => 9 | 4 => 4 | 3 => 3 | 5 => 5 | 117 => 112 | 116 => 111 | 0 => 0 | 124 => 115 | 21 => 21 | 105 => 136 | 46 => 100 | 119 => 147 | 139 => 150 | 138 => 149 | n => n, fun | 3 => 1 | 4 => 2 | n => n⟩
theorem Tryd.lays160 : Go.Proofs.Lays.n160 Tryd.prog Tryd.lays160_ren := {
  mixed := by kernel_rfl,
  f119 := Tryd.func120.trans (congrArg some (by kernel_rfl)),
  f120 := Tryd.func114.trans (congrArg some (by kernel_rfl)),
  f137 := Tryd.func119.trans (congrArg some (by kernel_rfl)),
  f151 := Tryd.func106.trans (congrArg some (by kernel_rfl)),
  f152 := Tryd.func115.trans (congrArg some (by kernel_rfl)),
  f160 := Tryd.func60.trans (congrArg some (by kernel_rfl)),
  f197 := Tryd.func110.trans (congrArg some (by kernel_rfl)),
  f217 := Tryd.func124.trans (congrArg some (by kernel_rfl)),
  f224 := Tryd.func121.trans (congrArg some (by kernel_rfl)),
  f225 := Tryd.func122.trans (congrArg some (by kernel_rfl)),
  f227 := Tryd.func79.trans (congrArg some (by kernel_rfl)),
  f228 := Tryd.func104.trans (congrArg some (by kernel_rfl)),
  f231 := Tryd.func87.trans (congrArg some (by kernel_rfl)),
  f232 := Tryd.func78.trans (congrArg some (by kernel_rfl)),
  f233 := Tryd.func88.trans (congrArg some (by kernel_rfl)),
  f234 := Tryd.func80.trans (congrArg some (by kernel_rfl)),
  f235 := Tryd.func89.trans (congrArg some (by kernel_rfl)),
  f236 := Tryd.func81.trans (congrArg some (by kernel_rfl)),
  f260 := Tryd.func116.trans (congrArg some (by kernel_rfl)),
  f266 := Tryd.func125.trans (congrArg some (by kernel_rfl)),
  f271 := Tryd.func105.trans (congrArg some (by kernel_rfl)),
  t0 := Tryd.underlying0,
  a0 := Tryd.isAgg0,
  z0 := Tryd.sizeOf0,
  v0 := Tryd.zeroValue0,
  t3 := Tryd.underlying3,
  a3 := Tryd.isAgg3,
  z3 := Tryd.sizeOf3,
  v3 := Tryd.zeroValue3,
  t4 := Tryd.underlying4,
  a4 := Tryd.isAgg4,
  z4 := Tryd.sizeOf4,
  v4 := Tryd.zeroValue4,
  t5 := Tryd.underlying5,
  a5 := Tryd.isAgg5,
  z5 := Tryd.sizeOf5,
  v5 := Tryd.zeroValue5,
  t9 := Tryd.underlying9,
  a9 := Tryd.isAgg9,
  z9 := Tryd.sizeOf9,
  v9 := Tryd.zeroValue9,
  t21 := Tryd.underlying21,
  a21 := Tryd.isAgg21,
  z21 := Tryd.sizeOf21,
  v21 := Tryd.zeroValue21,
  t46 := Tryd.underlying100,
  a46 := Tryd.isAgg100,
  z46 := Tryd.sizeOf100,
  v46 := Tryd.zeroValue100,
  t105 := Tryd.underlying136,
  a105 := Tryd.isAgg136,
  z105 := Tryd.sizeOf136,
  v105 := Tryd.zeroValue136,
  t116 := Tryd.underlying111,
  a116 := Tryd.isAgg111,
  z116 := Tryd.sizeOf111,
  t117 := Tryd.underlying112,
  a117 := Tryd.isAgg112,
  z117 := Tryd.sizeOf112,
  v117 := Tryd.zeroValue112,
  t119 := Tryd.underlying147,
  a119 := Tryd.isAgg147,
  z119 := Tryd.sizeOf147,
  t124 := Tryd.underlying115,
  a124 := Tryd.isAgg115,
  z124 := Tryd.sizeOf115,
  v124 := Tryd.zeroValue115,
  t138 := Tryd.underlying149,
  a138 := Tryd.isAgg149,
  z138 := Tryd.sizeOf149,
  v138 := Tryd.zeroValue149,
  t139 := Tryd.underlying150,
  a139 := Tryd.isAgg150,
  z139 := Tryd.sizeOf150,
  v139 := Tryd.zeroValue150,
  g3 := by kernel_rfl,
  g4 := by kernel_rfl }

end Go.Proofs
namespace Go.X.St
open Go Go.X Go.RowKit

theorem Meets.ofCalls {P : Program} {f : FuncId} {args : List SV} {M : Mem} {v : Value} (hc : callable P f)
    (h : ∀ w, Calls P f (SV.vals ν0 args).toArray w fun e w' => e = .returned v ∧ Below w.heap.size w w') : Meets P f args M fun r _ _ => r = .v v :=
  ⟨hc, fun w hw => (h w).mono fun e w' ⟨he, hb⟩ => ⟨.v v, [], M, ν0, he,
    Heap.grow (E := ⟨P, 0, w, M⟩) (ν := ν0) (H := []) (M := M) (w := w) ⟨by simp, List.nodup_nil, by simp [fp], hw, Below.refl _ _, Mem.le.refl _, fun b hb => .inl hb, fun k => rfl⟩ hb, rfl⟩⟩

theorem trim01 (s : List UInt8) (M : Mem) (hs : s.length ≤ 9223372036854775807) :
    Meets Proofs.Tryd.prog 60 [.v (.string ⟨s.toArray⟩), .v (.string ⟨#[48, 49]⟩)] M fun r _ _ => r = .v (.string ⟨(Lib.trimS s [48, 49]).toArray⟩) := by
  refine Meets.ofCalls ⟨_, Proofs.Tryd.func60, by kernel_rfl, by kernel_rfl⟩ fun w => ?_
  exact Proofs.Any.strings_Trim_laid Proofs.Tryd.lays160 (by kernel_rfl) ⟨s.toArray⟩ ⟨#[48, 49]⟩ w (by simpa [ByteArray.size] using hs) (by decide) (Proofs.ascii_of_all (by decide))
end Go.X.St
