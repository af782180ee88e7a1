/- The shapes of the types of this translation. Conditions: none. -/
import Derived.Test.YtkmbglbjpbdldaaProg
import Derived.Test.YtkmbglbjpbdldaaFwB
import Derived.KernelRfl
set_option linter.unusedVariables false
namespace Go.X
open Go
theorem sh2 : shp Proofs.Try.prog 2 = .int .i64 := by kernel_rfl
theorem so2 : szOk Proofs.Try.prog 2 = True := eq_true (szOk_of (n := 1) sh2 (by kernel_rfl) (by decide) (by decide))
theorem zs2 : zsT Proofs.Try.prog 2 = some [.int .i64 0] := by kernel_rfl
theorem sh3 : shp Proofs.Try.prog 3 = .int .i64 := by kernel_rfl
theorem so3 : szOk Proofs.Try.prog 3 = True := eq_true (szOk_of (n := 1) sh3 (by kernel_rfl) (by decide) (by decide))
theorem zs3 : zsT Proofs.Try.prog 3 = some [.int .i64 0] := by kernel_rfl
theorem sh4 : shp Proofs.Try.prog 4 = .bool := by kernel_rfl
theorem so4 : szOk Proofs.Try.prog 4 = True := eq_true (szOk_of (n := 1) sh4 (by kernel_rfl) (by decide) (by decide))
theorem zs4 : zsT Proofs.Try.prog 4 = some [.bool false] := by kernel_rfl
theorem sh5 : shp Proofs.Try.prog 5 = .int .u8 := by kernel_rfl
theorem so5 : szOk Proofs.Try.prog 5 = True := eq_true (szOk_of (n := 1) sh5 (by kernel_rfl) (by decide) (by decide))
theorem zs5 : zsT Proofs.Try.prog 5 = some [.int .u8 0] := by kernel_rfl
theorem sh6 : shp Proofs.Try.prog 6 = .int .u8 := by kernel_rfl
theorem so6 : szOk Proofs.Try.prog 6 = True := eq_true (szOk_of (n := 1) sh6 (by kernel_rfl) (by decide) (by decide))
theorem zs6 : zsT Proofs.Try.prog 6 = some [.int .u8 0] := by kernel_rfl
theorem sh7 : shp Proofs.Try.prog 7 = .struct [(0, 1, false), (1, 1, false), (2, 1, false), (3, 1, false)] 4 := by kernel_rfl
theorem zt7 : zeroT Proofs.Try.prog 7 = some [.int .i64 0, .int .i64 0, .bool false, .int .u8 0] := by kernel_rfl
theorem so7 : szOk Proofs.Try.prog 7 = True := eq_true (szOk_of (n := 4) sh7 (by kernel_rfl) (by decide) (by decide))
theorem zs7 : zsT Proofs.Try.prog 7 = some [.int .i64 0, .int .i64 0, .bool false, .int .u8 0] := by kernel_rfl
theorem sh8 : shp Proofs.Try.prog 8 = .struct [(0, 1, false), (1, 1, false), (2, 1, false), (3, 1, false)] 4 := by kernel_rfl
theorem zt8 : zeroT Proofs.Try.prog 8 = some [.int .i64 0, .int .i64 0, .bool false, .int .u8 0] := by kernel_rfl
theorem so8 : szOk Proofs.Try.prog 8 = True := eq_true (szOk_of (n := 4) sh8 (by kernel_rfl) (by decide) (by decide))
theorem zs8 : zsT Proofs.Try.prog 8 = some [.int .i64 0, .int .i64 0, .bool false, .int .u8 0] := by kernel_rfl
theorem sh9 : shp Proofs.Try.prog 9 = .str := by kernel_rfl
theorem so9 : szOk Proofs.Try.prog 9 = True := eq_true (szOk_of (n := 1) sh9 (by kernel_rfl) (by decide) (by decide))
theorem zs9 : zsT Proofs.Try.prog 9 = some [.string ⟨([] : List UInt8).toArray⟩] := by kernel_rfl
theorem sh10 : shp Proofs.Try.prog 10 = .str := by kernel_rfl
theorem so10 : szOk Proofs.Try.prog 10 = True := eq_true (szOk_of (n := 1) sh10 (by kernel_rfl) (by decide) (by decide))
theorem zs10 : zsT Proofs.Try.prog 10 = some [.string ⟨([] : List UInt8).toArray⟩] := by kernel_rfl
theorem sh11 : shp Proofs.Try.prog 11 = .str := by kernel_rfl
theorem so11 : szOk Proofs.Try.prog 11 = True := eq_true (szOk_of (n := 1) sh11 (by kernel_rfl) (by decide) (by decide))
theorem zs11 : zsT Proofs.Try.prog 11 = some [.string ⟨([] : List UInt8).toArray⟩] := by kernel_rfl
theorem sh12 : shp Proofs.Try.prog 12 = .int .u64 := by kernel_rfl
theorem so12 : szOk Proofs.Try.prog 12 = True := eq_true (szOk_of (n := 1) sh12 (by kernel_rfl) (by decide) (by decide))
theorem zs12 : zsT Proofs.Try.prog 12 = some [.int .u64 0] := by kernel_rfl
theorem sh13 : shp Proofs.Try.prog 13 = .struct [(0, 1, false), (1, 1, false)] 2 := by kernel_rfl
theorem zt13 : zeroT Proofs.Try.prog 13 = some [.string ⟨([] : List UInt8).toArray⟩, .int .u64 0] := by kernel_rfl
theorem so13 : szOk Proofs.Try.prog 13 = True := eq_true (szOk_of (n := 2) sh13 (by kernel_rfl) (by decide) (by decide))
theorem zs13 : zsT Proofs.Try.prog 13 = some [.string ⟨([] : List UInt8).toArray⟩, .int .u64 0] := by kernel_rfl
theorem sh14 : shp Proofs.Try.prog 14 = .struct [(0, 1, false), (1, 1, false)] 2 := by kernel_rfl
theorem zt14 : zeroT Proofs.Try.prog 14 = some [.string ⟨([] : List UInt8).toArray⟩, .int .u64 0] := by kernel_rfl
theorem so14 : szOk Proofs.Try.prog 14 = True := eq_true (szOk_of (n := 2) sh14 (by kernel_rfl) (by decide) (by decide))
theorem zs14 : zsT Proofs.Try.prog 14 = some [.string ⟨([] : List UInt8).toArray⟩, .int .u64 0] := by kernel_rfl
theorem sh18 : shp Proofs.Try.prog 18 = .struct [(0, 1, false)] 1 := by kernel_rfl
theorem zt18 : zeroT Proofs.Try.prog 18 = some [.pointer none] := by kernel_rfl
theorem so18 : szOk Proofs.Try.prog 18 = True := eq_true (szOk_of (n := 1) sh18 (by kernel_rfl) (by decide) (by decide))
theorem zs18 : zsT Proofs.Try.prog 18 = some [.pointer none] := by kernel_rfl
theorem sh19 : shp Proofs.Try.prog 19 = .struct [(0, 1, false)] 1 := by kernel_rfl
theorem zt19 : zeroT Proofs.Try.prog 19 = some [.pointer none] := by kernel_rfl
theorem so19 : szOk Proofs.Try.prog 19 = True := eq_true (szOk_of (n := 1) sh19 (by kernel_rfl) (by decide) (by decide))
theorem zs19 : zsT Proofs.Try.prog 19 = some [.pointer none] := by kernel_rfl
theorem sh21 : shp Proofs.Try.prog 21 = .int .i32 := by kernel_rfl
theorem so21 : szOk Proofs.Try.prog 21 = True := eq_true (szOk_of (n := 1) sh21 (by kernel_rfl) (by decide) (by decide))
theorem zs21 : zsT Proofs.Try.prog 21 = some [.int .i32 0] := by kernel_rfl
theorem sh23 : shp Proofs.Try.prog 23 = .int .i64 := by kernel_rfl
theorem so23 : szOk Proofs.Try.prog 23 = True := eq_true (szOk_of (n := 1) sh23 (by kernel_rfl) (by decide) (by decide))
theorem zs23 : zsT Proofs.Try.prog 23 = some [.int .i64 0] := by kernel_rfl
theorem sh30 : shp Proofs.Try.prog 30 = .slice 32 2 true := by kernel_rfl
theorem so30 : szOk Proofs.Try.prog 30 = True := eq_true (szOk_of (n := 1) sh30 (by kernel_rfl) (by decide) (by decide))
theorem sl30 : slT Proofs.Try.prog 30 = some (32, 2, 16, [.int .i64 0, .int .i64 0]) := by kernel_rfl
theorem zs30 : zsT Proofs.Try.prog 30 = some [.slice none 0 0] := by kernel_rfl
theorem sh31 : shp Proofs.Try.prog 31 = .struct [(0, 1, false), (1, 1, false)] 2 := by kernel_rfl
theorem zt31 : zeroT Proofs.Try.prog 31 = some [.int .i64 0, .int .i64 0] := by kernel_rfl
theorem so31 : szOk Proofs.Try.prog 31 = True := eq_true (szOk_of (n := 2) sh31 (by kernel_rfl) (by decide) (by decide))
theorem zs31 : zsT Proofs.Try.prog 31 = some [.int .i64 0, .int .i64 0] := by kernel_rfl
theorem sh32 : shp Proofs.Try.prog 32 = .struct [(0, 1, false), (1, 1, false)] 2 := by kernel_rfl
theorem zt32 : zeroT Proofs.Try.prog 32 = some [.int .i64 0, .int .i64 0] := by kernel_rfl
theorem so32 : szOk Proofs.Try.prog 32 = True := eq_true (szOk_of (n := 2) sh32 (by kernel_rfl) (by decide) (by decide))
theorem zs32 : zsT Proofs.Try.prog 32 = some [.int .i64 0, .int .i64 0] := by kernel_rfl
theorem sh35 : shp Proofs.Try.prog 35 = .slice 3 1 false := by kernel_rfl
theorem so35 : szOk Proofs.Try.prog 35 = True := eq_true (szOk_of (n := 1) sh35 (by kernel_rfl) (by decide) (by decide))
theorem sl35 : slT Proofs.Try.prog 35 = some (3, 1, 8, [.int .i64 0]) := by kernel_rfl
theorem zs35 : zsT Proofs.Try.prog 35 = some [.slice none 0 0] := by kernel_rfl
theorem sh47 : shp Proofs.Try.prog 47 = .slice 9 1 false := by kernel_rfl
theorem so47 : szOk Proofs.Try.prog 47 = True := eq_true (szOk_of (n := 1) sh47 (by kernel_rfl) (by decide) (by decide))
theorem sl47 : slT Proofs.Try.prog 47 = some (9, 1, 16, [.string ⟨([] : List UInt8).toArray⟩]) := by kernel_rfl
theorem zs47 : zsT Proofs.Try.prog 47 = some [.slice none 0 0] := by kernel_rfl
theorem sh66 : shp Proofs.Try.prog 66 = .slice 71 3 true := by kernel_rfl
theorem so66 : szOk Proofs.Try.prog 66 = True := eq_true (szOk_of (n := 1) sh66 (by kernel_rfl) (by decide) (by decide))
theorem sl66 : slT Proofs.Try.prog 66 = some (71, 3, 24, [.int .i64 0, .int .i64 0, .int .i64 0]) := by kernel_rfl
theorem zs66 : zsT Proofs.Try.prog 66 = some [.slice none 0 0] := by kernel_rfl
theorem sh70 : shp Proofs.Try.prog 70 = .struct [(0, 1, false), (1, 1, false), (2, 1, false)] 3 := by kernel_rfl
theorem zt70 : zeroT Proofs.Try.prog 70 = some [.int .i64 0, .int .i64 0, .int .i64 0] := by kernel_rfl
theorem so70 : szOk Proofs.Try.prog 70 = True := eq_true (szOk_of (n := 3) sh70 (by kernel_rfl) (by decide) (by decide))
theorem zs70 : zsT Proofs.Try.prog 70 = some [.int .i64 0, .int .i64 0, .int .i64 0] := by kernel_rfl
theorem sh71 : shp Proofs.Try.prog 71 = .struct [(0, 1, false), (1, 1, false), (2, 1, false)] 3 := by kernel_rfl
theorem zt71 : zeroT Proofs.Try.prog 71 = some [.int .i64 0, .int .i64 0, .int .i64 0] := by kernel_rfl
theorem so71 : szOk Proofs.Try.prog 71 = True := eq_true (szOk_of (n := 3) sh71 (by kernel_rfl) (by decide) (by decide))
theorem zs71 : zsT Proofs.Try.prog 71 = some [.int .i64 0, .int .i64 0, .int .i64 0] := by kernel_rfl
theorem sh76 : shp Proofs.Try.prog 76 = .slice 84 1 false := by kernel_rfl
theorem so76 : szOk Proofs.Try.prog 76 = True := eq_true (szOk_of (n := 1) sh76 (by kernel_rfl) (by decide) (by decide))
theorem sl76 : slT Proofs.Try.prog 76 = some (84, 1, 24, [.slice none 0 0]) := by kernel_rfl
theorem zs76 : zsT Proofs.Try.prog 76 = some [.slice none 0 0] := by kernel_rfl
theorem sh77 : shp Proofs.Try.prog 77 = .slice 149 4 true := by kernel_rfl
theorem so77 : szOk Proofs.Try.prog 77 = True := eq_true (szOk_of (n := 1) sh77 (by kernel_rfl) (by decide) (by decide))
theorem sl77 : slT Proofs.Try.prog 77 = some (149, 4, 40, [.int .i64 0, .int .i64 0, .string ⟨([] : List UInt8).toArray⟩, .int .i64 0]) := by kernel_rfl
theorem zs77 : zsT Proofs.Try.prog 77 = some [.slice none 0 0] := by kernel_rfl
theorem sh84 : shp Proofs.Try.prog 84 = .slice 145 4 true := by kernel_rfl
theorem so84 : szOk Proofs.Try.prog 84 = True := eq_true (szOk_of (n := 1) sh84 (by kernel_rfl) (by decide) (by decide))
theorem sl84 : slT Proofs.Try.prog 84 = some (145, 4, 40, [.bool false, .int .i64 0, .int .i64 0, .string ⟨([] : List UInt8).toArray⟩]) := by kernel_rfl
theorem zs84 : zsT Proofs.Try.prog 84 = some [.slice none 0 0] := by kernel_rfl
theorem sh90 : shp Proofs.Try.prog 90 = .slice 159 2 true := by kernel_rfl
theorem so90 : szOk Proofs.Try.prog 90 = True := eq_true (szOk_of (n := 1) sh90 (by kernel_rfl) (by decide) (by decide))
theorem sl90 : slT Proofs.Try.prog 90 = some (159, 2, 16, [.int .i64 0, .int .i64 0]) := by kernel_rfl
theorem zs90 : zsT Proofs.Try.prog 90 = some [.slice none 0 0] := by kernel_rfl
theorem sh91 : shp Proofs.Try.prog 91 = .struct [(0, 1, false), (1, 1, false), (2, 1, false), (3, 1, false)] 4 := by kernel_rfl
theorem zt91 : zeroT Proofs.Try.prog 91 = some [.int .i64 0, .slice none 0 0, .int .i64 0, .int .i64 0] := by kernel_rfl
theorem so91 : szOk Proofs.Try.prog 91 = True := eq_true (szOk_of (n := 4) sh91 (by kernel_rfl) (by decide) (by decide))
theorem zs91 : zsT Proofs.Try.prog 91 = some [.int .i64 0, .slice none 0 0, .int .i64 0, .int .i64 0] := by kernel_rfl
theorem sh92 : shp Proofs.Try.prog 92 = .struct [(0, 1, false), (1, 1, false), (2, 1, false), (3, 1, false)] 4 := by kernel_rfl
theorem zt92 : zeroT Proofs.Try.prog 92 = some [.int .i64 0, .slice none 0 0, .int .i64 0, .int .i64 0] := by kernel_rfl
theorem so92 : szOk Proofs.Try.prog 92 = True := eq_true (szOk_of (n := 4) sh92 (by kernel_rfl) (by decide) (by decide))
theorem zs92 : zsT Proofs.Try.prog 92 = some [.int .i64 0, .slice none 0 0, .int .i64 0, .int .i64 0] := by kernel_rfl
theorem sh101 : shp Proofs.Try.prog 101 = .int .u64 := by kernel_rfl
theorem so101 : szOk Proofs.Try.prog 101 = True := eq_true (szOk_of (n := 1) sh101 (by kernel_rfl) (by decide) (by decide))
theorem zs101 : zsT Proofs.Try.prog 101 = some [.int .u64 0] := by kernel_rfl
theorem sh109 : shp Proofs.Try.prog 109 = .slice 30 1 false := by kernel_rfl
theorem so109 : szOk Proofs.Try.prog 109 = True := eq_true (szOk_of (n := 1) sh109 (by kernel_rfl) (by decide) (by decide))
theorem sl109 : slT Proofs.Try.prog 109 = some (30, 1, 24, [.slice none 0 0]) := by kernel_rfl
theorem zs109 : zsT Proofs.Try.prog 109 = some [.slice none 0 0] := by kernel_rfl
theorem sh112 : shp Proofs.Try.prog 112 = .slice 35 1 false := by kernel_rfl
theorem so112 : szOk Proofs.Try.prog 112 = True := eq_true (szOk_of (n := 1) sh112 (by kernel_rfl) (by decide) (by decide))
theorem sl112 : slT Proofs.Try.prog 112 = some (35, 1, 24, [.slice none 0 0]) := by kernel_rfl
theorem zs112 : zsT Proofs.Try.prog 112 = some [.slice none 0 0] := by kernel_rfl
theorem sh116 : shp Proofs.Try.prog 116 = .struct [(0, 1, false), (1, 1, false), (2, 1, false), (3, 1, false)] 4 := by kernel_rfl
theorem zt116 : zeroT Proofs.Try.prog 116 = some [.slice none 0 0, .slice none 0 0, .slice none 0 0, .int .i64 0] := by kernel_rfl
theorem so116 : szOk Proofs.Try.prog 116 = True := eq_true (szOk_of (n := 4) sh116 (by kernel_rfl) (by decide) (by decide))
theorem zs116 : zsT Proofs.Try.prog 116 = some [.slice none 0 0, .slice none 0 0, .slice none 0 0, .int .i64 0] := by kernel_rfl
theorem sh117 : shp Proofs.Try.prog 117 = .struct [(0, 1, false), (1, 1, false), (2, 1, false), (3, 1, false)] 4 := by kernel_rfl
theorem zt117 : zeroT Proofs.Try.prog 117 = some [.slice none 0 0, .slice none 0 0, .slice none 0 0, .int .i64 0] := by kernel_rfl
theorem so117 : szOk Proofs.Try.prog 117 = True := eq_true (szOk_of (n := 4) sh117 (by kernel_rfl) (by decide) (by decide))
theorem zs117 : zsT Proofs.Try.prog 117 = some [.slice none 0 0, .slice none 0 0, .slice none 0 0, .int .i64 0] := by kernel_rfl
theorem sh121 : shp Proofs.Try.prog 121 = .slice 4 1 false := by kernel_rfl
theorem so121 : szOk Proofs.Try.prog 121 = True := eq_true (szOk_of (n := 1) sh121 (by kernel_rfl) (by decide) (by decide))
theorem sl121 : slT Proofs.Try.prog 121 = some (4, 1, 1, [.bool false]) := by kernel_rfl
theorem zs121 : zsT Proofs.Try.prog 121 = some [.slice none 0 0] := by kernel_rfl
theorem sh132 : shp Proofs.Try.prog 132 = .slice 5 1 false := by kernel_rfl
theorem so132 : szOk Proofs.Try.prog 132 = True := eq_true (szOk_of (n := 1) sh132 (by kernel_rfl) (by decide) (by decide))
theorem sl132 : slT Proofs.Try.prog 132 = some (5, 1, 1, [.int .u8 0]) := by kernel_rfl
theorem zs132 : zsT Proofs.Try.prog 132 = some [.slice none 0 0] := by kernel_rfl
theorem sh137 : shp Proofs.Try.prog 137 = .slice 121 1 false := by kernel_rfl
theorem so137 : szOk Proofs.Try.prog 137 = True := eq_true (szOk_of (n := 1) sh137 (by kernel_rfl) (by decide) (by decide))
theorem sl137 : slT Proofs.Try.prog 137 = some (121, 1, 24, [.slice none 0 0]) := by kernel_rfl
theorem zs137 : zsT Proofs.Try.prog 137 = some [.slice none 0 0] := by kernel_rfl
theorem sh142 : shp Proofs.Try.prog 142 = .struct [(0, 1, false), (1, 1, false), (2, 1, false)] 3 := by kernel_rfl
theorem zt142 : zeroT Proofs.Try.prog 142 = some [.bool false, .int .i64 0, .int .i64 0] := by kernel_rfl
theorem so142 : szOk Proofs.Try.prog 142 = True := eq_true (szOk_of (n := 3) sh142 (by kernel_rfl) (by decide) (by decide))
theorem zs142 : zsT Proofs.Try.prog 142 = some [.bool false, .int .i64 0, .int .i64 0] := by kernel_rfl
theorem sh143 : shp Proofs.Try.prog 143 = .struct [(0, 1, false), (1, 1, false), (2, 1, false)] 3 := by kernel_rfl
theorem zt143 : zeroT Proofs.Try.prog 143 = some [.bool false, .int .i64 0, .int .i64 0] := by kernel_rfl
theorem so143 : szOk Proofs.Try.prog 143 = True := eq_true (szOk_of (n := 3) sh143 (by kernel_rfl) (by decide) (by decide))
theorem zs143 : zsT Proofs.Try.prog 143 = some [.bool false, .int .i64 0, .int .i64 0] := by kernel_rfl
theorem sh144 : shp Proofs.Try.prog 144 = .struct [(0, 3, true), (3, 1, false)] 4 := by kernel_rfl
theorem zt144 : zeroT Proofs.Try.prog 144 = some [.bool false, .int .i64 0, .int .i64 0, .string ⟨([] : List UInt8).toArray⟩] := by kernel_rfl
theorem so144 : szOk Proofs.Try.prog 144 = True := eq_true (szOk_of (n := 4) sh144 (by kernel_rfl) (by decide) (by decide))
theorem zs144 : zsT Proofs.Try.prog 144 = some [.bool false, .int .i64 0, .int .i64 0, .string ⟨([] : List UInt8).toArray⟩] := by kernel_rfl
theorem sh145 : shp Proofs.Try.prog 145 = .struct [(0, 3, true), (3, 1, false)] 4 := by kernel_rfl
theorem zt145 : zeroT Proofs.Try.prog 145 = some [.bool false, .int .i64 0, .int .i64 0, .string ⟨([] : List UInt8).toArray⟩] := by kernel_rfl
theorem so145 : szOk Proofs.Try.prog 145 = True := eq_true (szOk_of (n := 4) sh145 (by kernel_rfl) (by decide) (by decide))
theorem zs145 : zsT Proofs.Try.prog 145 = some [.bool false, .int .i64 0, .int .i64 0, .string ⟨([] : List UInt8).toArray⟩] := by kernel_rfl
theorem sh148 : shp Proofs.Try.prog 148 = .struct [(0, 1, false), (1, 1, false), (2, 1, false), (3, 1, false)] 4 := by kernel_rfl
theorem zt148 : zeroT Proofs.Try.prog 148 = some [.int .i64 0, .int .i64 0, .string ⟨([] : List UInt8).toArray⟩, .int .i64 0] := by kernel_rfl
theorem so148 : szOk Proofs.Try.prog 148 = True := eq_true (szOk_of (n := 4) sh148 (by kernel_rfl) (by decide) (by decide))
theorem zs148 : zsT Proofs.Try.prog 148 = some [.int .i64 0, .int .i64 0, .string ⟨([] : List UInt8).toArray⟩, .int .i64 0] := by kernel_rfl
theorem sh149 : shp Proofs.Try.prog 149 = .struct [(0, 1, false), (1, 1, false), (2, 1, false), (3, 1, false)] 4 := by kernel_rfl
theorem zt149 : zeroT Proofs.Try.prog 149 = some [.int .i64 0, .int .i64 0, .string ⟨([] : List UInt8).toArray⟩, .int .i64 0] := by kernel_rfl
theorem so149 : szOk Proofs.Try.prog 149 = True := eq_true (szOk_of (n := 4) sh149 (by kernel_rfl) (by decide) (by decide))
theorem zs149 : zsT Proofs.Try.prog 149 = some [.int .i64 0, .int .i64 0, .string ⟨([] : List UInt8).toArray⟩, .int .i64 0] := by kernel_rfl
theorem sh155 : shp Proofs.Try.prog 155 = .slice 76 1 false := by kernel_rfl
theorem so155 : szOk Proofs.Try.prog 155 = True := eq_true (szOk_of (n := 1) sh155 (by kernel_rfl) (by decide) (by decide))
theorem sl155 : slT Proofs.Try.prog 155 = some (76, 1, 24, [.slice none 0 0]) := by kernel_rfl
theorem zs155 : zsT Proofs.Try.prog 155 = some [.slice none 0 0] := by kernel_rfl
theorem sh158 : shp Proofs.Try.prog 158 = .struct [(0, 1, false), (1, 1, false)] 2 := by kernel_rfl
theorem zt158 : zeroT Proofs.Try.prog 158 = some [.int .i64 0, .int .i64 0] := by kernel_rfl
theorem so158 : szOk Proofs.Try.prog 158 = True := eq_true (szOk_of (n := 2) sh158 (by kernel_rfl) (by decide) (by decide))
theorem zs158 : zsT Proofs.Try.prog 158 = some [.int .i64 0, .int .i64 0] := by kernel_rfl
theorem sh159 : shp Proofs.Try.prog 159 = .struct [(0, 1, false), (1, 1, false)] 2 := by kernel_rfl
theorem zt159 : zeroT Proofs.Try.prog 159 = some [.int .i64 0, .int .i64 0] := by kernel_rfl
theorem so159 : szOk Proofs.Try.prog 159 = True := eq_true (szOk_of (n := 2) sh159 (by kernel_rfl) (by decide) (by decide))
theorem zs159 : zsT Proofs.Try.prog 159 = some [.int .i64 0, .int .i64 0] := by kernel_rfl
theorem sh184 : shp Proofs.Try.prog 184 = .int .u64 := by kernel_rfl
theorem so184 : szOk Proofs.Try.prog 184 = True := eq_true (szOk_of (n := 1) sh184 (by kernel_rfl) (by decide) (by decide))
theorem zs184 : zsT Proofs.Try.prog 184 = some [.int .u64 0] := by kernel_rfl
theorem sh191 : shp Proofs.Try.prog 191 = .struct [(0, 1, false), (1, 1, false)] 2 := by kernel_rfl
theorem zt191 : zeroT Proofs.Try.prog 191 = some [.pointer none, .slice none 0 0] := by kernel_rfl
theorem so191 : szOk Proofs.Try.prog 191 = True := eq_true (szOk_of (n := 2) sh191 (by kernel_rfl) (by decide) (by decide))
theorem zs191 : zsT Proofs.Try.prog 191 = some [.pointer none, .slice none 0 0] := by kernel_rfl
theorem sh192 : shp Proofs.Try.prog 192 = .struct [(0, 1, false), (1, 1, false)] 2 := by kernel_rfl
theorem zt192 : zeroT Proofs.Try.prog 192 = some [.pointer none, .slice none 0 0] := by kernel_rfl
theorem so192 : szOk Proofs.Try.prog 192 = True := eq_true (szOk_of (n := 2) sh192 (by kernel_rfl) (by decide) (by decide))
theorem zs192 : zsT Proofs.Try.prog 192 = some [.pointer none, .slice none 0 0] := by kernel_rfl
theorem sh211 : shp Proofs.Try.prog 211 = .int .u32 := by kernel_rfl
theorem so211 : szOk Proofs.Try.prog 211 = True := eq_true (szOk_of (n := 1) sh211 (by kernel_rfl) (by decide) (by decide))
theorem zs211 : zsT Proofs.Try.prog 211 = some [.int .u32 0] := by kernel_rfl
theorem sh225 : shp Proofs.Try.prog 225 = .struct [(0, 1, false), (1, 1, false), (2, 1, false), (3, 1, false)] 4 := by kernel_rfl
theorem zt225 : zeroT Proofs.Try.prog 225 = some [.pointer none, .pointer none, .pointer none, .string ⟨([] : List UInt8).toArray⟩] := by kernel_rfl
theorem so225 : szOk Proofs.Try.prog 225 = True := eq_true (szOk_of (n := 4) sh225 (by kernel_rfl) (by decide) (by decide))
theorem zs225 : zsT Proofs.Try.prog 225 = some [.pointer none, .pointer none, .pointer none, .string ⟨([] : List UInt8).toArray⟩] := by kernel_rfl
theorem sh226 : shp Proofs.Try.prog 226 = .struct [(0, 1, false), (1, 1, false), (2, 1, false), (3, 1, false)] 4 := by kernel_rfl
theorem zt226 : zeroT Proofs.Try.prog 226 = some [.pointer none, .pointer none, .pointer none, .string ⟨([] : List UInt8).toArray⟩] := by kernel_rfl
theorem so226 : szOk Proofs.Try.prog 226 = True := eq_true (szOk_of (n := 4) sh226 (by kernel_rfl) (by decide) (by decide))
theorem zs226 : zsT Proofs.Try.prog 226 = some [.pointer none, .pointer none, .pointer none, .string ⟨([] : List UInt8).toArray⟩] := by kernel_rfl
theorem sh228 : shp Proofs.Try.prog 228 = .struct [(0, 0, true)] 0 := by kernel_rfl
theorem zt228 : zeroT Proofs.Try.prog 228 = some [] := by kernel_rfl
theorem zs228 : zsT Proofs.Try.prog 228 = some [] := by kernel_rfl
theorem sh229 : shp Proofs.Try.prog 229 = .struct [(0, 0, true)] 0 := by kernel_rfl
theorem zt229 : zeroT Proofs.Try.prog 229 = some [] := by kernel_rfl
theorem zs229 : zsT Proofs.Try.prog 229 = some [] := by kernel_rfl
theorem sh230 : shp Proofs.Try.prog 230 = .int .u8 := by kernel_rfl
theorem so230 : szOk Proofs.Try.prog 230 = True := eq_true (szOk_of (n := 1) sh230 (by kernel_rfl) (by decide) (by decide))
theorem zs230 : zsT Proofs.Try.prog 230 = some [.int .u8 0] := by kernel_rfl
theorem sh231 : shp Proofs.Try.prog 231 = .int .u8 := by kernel_rfl
theorem so231 : szOk Proofs.Try.prog 231 = True := eq_true (szOk_of (n := 1) sh231 (by kernel_rfl) (by decide) (by decide))
theorem zs231 : zsT Proofs.Try.prog 231 = some [.int .u8 0] := by kernel_rfl
theorem sh233 : shp Proofs.Try.prog 233 = .int .i32 := by kernel_rfl
theorem so233 : szOk Proofs.Try.prog 233 = True := eq_true (szOk_of (n := 1) sh233 (by kernel_rfl) (by decide) (by decide))
theorem zs233 : zsT Proofs.Try.prog 233 = some [.int .i32 0] := by kernel_rfl
theorem sh234 : shp Proofs.Try.prog 234 = .int .i32 := by kernel_rfl
theorem so234 : szOk Proofs.Try.prog 234 = True := eq_true (szOk_of (n := 1) sh234 (by kernel_rfl) (by decide) (by decide))
theorem zs234 : zsT Proofs.Try.prog 234 = some [.int .i32 0] := by kernel_rfl
theorem sh235 : shp Proofs.Try.prog 235 = .struct [(0, 1, false), (1, 1, false), (2, 1, false), (3, 1, false), (4, 1, false), (5, 1, false), (6, 1, false), (7, 1, false), (8, 1, false), (9, 1, false), (10, 1, false)] 11 := by kernel_rfl
theorem zt235 : zeroT Proofs.Try.prog 235 = some [.int .u64 0, .int .u64 0, .int .u32 0, .int .u8 0, .int .u8 0, .int .u8 0, .int .u8 0, .nilFunc, .pointer none, .int .i32 0, .int .i32 0] := by kernel_rfl
theorem so235 : szOk Proofs.Try.prog 235 = True := eq_true (szOk_of (n := 11) sh235 (by kernel_rfl) (by decide) (by decide))
theorem sh236 : shp Proofs.Try.prog 236 = .struct [(0, 1, false), (1, 1, false), (2, 1, false), (3, 1, false), (4, 1, false), (5, 1, false), (6, 1, false), (7, 1, false), (8, 1, false), (9, 1, false), (10, 1, false)] 11 := by kernel_rfl
theorem zt236 : zeroT Proofs.Try.prog 236 = some [.int .u64 0, .int .u64 0, .int .u32 0, .int .u8 0, .int .u8 0, .int .u8 0, .int .u8 0, .nilFunc, .pointer none, .int .i32 0, .int .i32 0] := by kernel_rfl
theorem so236 : szOk Proofs.Try.prog 236 = True := eq_true (szOk_of (n := 11) sh236 (by kernel_rfl) (by decide) (by decide))
theorem eq7 : eqT Proofs.Try.prog 7 = some [.int .i64, .int .i64, .bool, .int .u8] := by kernel_rfl
theorem eq8 : eqT Proofs.Try.prog 8 = some [.int .i64, .int .i64, .bool, .int .u8] := by kernel_rfl
theorem eq31 : eqT Proofs.Try.prog 31 = some [.int .i64, .int .i64] := by kernel_rfl
theorem eq32 : eqT Proofs.Try.prog 32 = some [.int .i64, .int .i64] := by kernel_rfl
theorem eq70 : eqT Proofs.Try.prog 70 = some [.int .i64, .int .i64, .int .i64] := by kernel_rfl
theorem eq71 : eqT Proofs.Try.prog 71 = some [.int .i64, .int .i64, .int .i64] := by kernel_rfl
theorem eq142 : eqT Proofs.Try.prog 142 = some [.bool, .int .i64, .int .i64] := by kernel_rfl
theorem eq143 : eqT Proofs.Try.prog 143 = some [.bool, .int .i64, .int .i64] := by kernel_rfl
theorem eq144 : eqT Proofs.Try.prog 144 = some [.bool, .int .i64, .int .i64, .str] := by kernel_rfl
theorem eq145 : eqT Proofs.Try.prog 145 = some [.bool, .int .i64, .int .i64, .str] := by kernel_rfl
theorem eq148 : eqT Proofs.Try.prog 148 = some [.int .i64, .int .i64, .str, .int .i64] := by kernel_rfl
theorem eq149 : eqT Proofs.Try.prog 149 = some [.int .i64, .int .i64, .str, .int .i64] := by kernel_rfl
theorem eq158 : eqT Proofs.Try.prog 158 = some [.int .i64, .int .i64] := by kernel_rfl
theorem eq159 : eqT Proofs.Try.prog 159 = some [.int .i64, .int .i64] := by kernel_rfl
theorem shs : ((((((shp Proofs.Try.prog 2 = .int .i64) ∧ ((shp Proofs.Try.prog 3 = .int .i64) ∧ (shp Proofs.Try.prog 4 = .bool))) ∧ (((shp Proofs.Try.prog 5 = .int .u8) ∧ (shp Proofs.Try.prog 6 = .int .u8)) ∧ ((shp Proofs.Try.prog 7 = .struct [(0, 1, false), (1, 1, false), (2, 1, false), (3, 1, false)] 4) ∧ (shp Proofs.Try.prog 8 = .struct [(0, 1, false), (1, 1, false), (2, 1, false), (3, 1, false)] 4)))) ∧ ((((shp Proofs.Try.prog 9 = .str) ∧ (shp Proofs.Try.prog 10 = .str)) ∧ ((shp Proofs.Try.prog 11 = .str) ∧ (shp Proofs.Try.prog 12 = .int .u64))) ∧ (((shp Proofs.Try.prog 13 = .struct [(0, 1, false), (1, 1, false)] 2) ∧ (shp Proofs.Try.prog 14 = .struct [(0, 1, false), (1, 1, false)] 2)) ∧ ((shp Proofs.Try.prog 18 = .struct [(0, 1, false)] 1) ∧ (shp Proofs.Try.prog 19 = .struct [(0, 1, false)] 1))))) ∧ (((((shp Proofs.Try.prog 21 = .int .i32) ∧ (shp Proofs.Try.prog 23 = .int .i64)) ∧ ((shp Proofs.Try.prog 30 = .slice 32 2 true) ∧ (shp Proofs.Try.prog 31 = .struct [(0, 1, false), (1, 1, false)] 2))) ∧ (((shp Proofs.Try.prog 32 = .struct [(0, 1, false), (1, 1, false)] 2) ∧ (shp Proofs.Try.prog 35 = .slice 3 1 false)) ∧ ((shp Proofs.Try.prog 47 = .slice 9 1 false) ∧ (shp Proofs.Try.prog 66 = .slice 71 3 true)))) ∧ ((((shp Proofs.Try.prog 70 = .struct [(0, 1, false), (1, 1, false), (2, 1, false)] 3) ∧ (shp Proofs.Try.prog 71 = .struct [(0, 1, false), (1, 1, false), (2, 1, false)] 3)) ∧ ((shp Proofs.Try.prog 76 = .slice 84 1 false) ∧ (shp Proofs.Try.prog 77 = .slice 149 4 true))) ∧ (((shp Proofs.Try.prog 84 = .slice 145 4 true) ∧ (shp Proofs.Try.prog 90 = .slice 159 2 true)) ∧ ((shp Proofs.Try.prog 91 = .struct [(0, 1, false), (1, 1, false), (2, 1, false), (3, 1, false)] 4) ∧ (shp Proofs.Try.prog 92 = .struct [(0, 1, false), (1, 1, false), (2, 1, false), (3, 1, false)] 4)))))) ∧ (((((shp Proofs.Try.prog 101 = .int .u64) ∧ ((shp Proofs.Try.prog 109 = .slice 30 1 false) ∧ (shp Proofs.Try.prog 112 = .slice 35 1 false))) ∧ (((shp Proofs.Try.prog 116 = .struct [(0, 1, false), (1, 1, false), (2, 1, false), (3, 1, false)] 4) ∧ (shp Proofs.Try.prog 117 = .struct [(0, 1, false), (1, 1, false), (2, 1, false), (3, 1, false)] 4)) ∧ ((shp Proofs.Try.prog 121 = .slice 4 1 false) ∧ (shp Proofs.Try.prog 132 = .slice 5 1 false)))) ∧ ((((shp Proofs.Try.prog 137 = .slice 121 1 false) ∧ (shp Proofs.Try.prog 142 = .struct [(0, 1, false), (1, 1, false), (2, 1, false)] 3)) ∧ ((shp Proofs.Try.prog 143 = .struct [(0, 1, false), (1, 1, false), (2, 1, false)] 3) ∧ (shp Proofs.Try.prog 144 = .struct [(0, 3, true), (3, 1, false)] 4))) ∧ (((shp Proofs.Try.prog 145 = .struct [(0, 3, true), (3, 1, false)] 4) ∧ (shp Proofs.Try.prog 148 = .struct [(0, 1, false), (1, 1, false), (2, 1, false), (3, 1, false)] 4)) ∧ ((shp Proofs.Try.prog 149 = .struct [(0, 1, false), (1, 1, false), (2, 1, false), (3, 1, false)] 4) ∧ (shp Proofs.Try.prog 155 = .slice 76 1 false))))) ∧ (((((shp Proofs.Try.prog 158 = .struct [(0, 1, false), (1, 1, false)] 2) ∧ (shp Proofs.Try.prog 159 = .struct [(0, 1, false), (1, 1, false)] 2)) ∧ ((shp Proofs.Try.prog 184 = .int .u64) ∧ (shp Proofs.Try.prog 191 = .struct [(0, 1, false), (1, 1, false)] 2))) ∧ (((shp Proofs.Try.prog 192 = .struct [(0, 1, false), (1, 1, false)] 2) ∧ (shp Proofs.Try.prog 211 = .int .u32)) ∧ ((shp Proofs.Try.prog 225 = .struct [(0, 1, false), (1, 1, false), (2, 1, false), (3, 1, false)] 4) ∧ (shp Proofs.Try.prog 226 = .struct [(0, 1, false), (1, 1, false), (2, 1, false), (3, 1, false)] 4)))) ∧ ((((shp Proofs.Try.prog 228 = .struct [(0, 0, true)] 0) ∧ (shp Proofs.Try.prog 229 = .struct [(0, 0, true)] 0)) ∧ ((shp Proofs.Try.prog 230 = .int .u8) ∧ (shp Proofs.Try.prog 231 = .int .u8))) ∧ (((shp Proofs.Try.prog 233 = .int .i32) ∧ (shp Proofs.Try.prog 234 = .int .i32)) ∧ ((shp Proofs.Try.prog 235 = .struct [(0, 1, false), (1, 1, false), (2, 1, false), (3, 1, false), (4, 1, false), (5, 1, false), (6, 1, false), (7, 1, false), (8, 1, false), (9, 1, false), (10, 1, false)] 11) ∧ (shp Proofs.Try.prog 236 = .struct [(0, 1, false), (1, 1, false), (2, 1, false), (3, 1, false), (4, 1, false), (5, 1, false), (6, 1, false), (7, 1, false), (8, 1, false), (9, 1, false), (10, 1, false)] 11))))))) :=
  ⟨⟨⟨⟨⟨sh2, ⟨sh3, sh4⟩⟩, ⟨⟨sh5, sh6⟩, ⟨sh7, sh8⟩⟩⟩, ⟨⟨⟨sh9, sh10⟩, ⟨sh11, sh12⟩⟩, ⟨⟨sh13, sh14⟩, ⟨sh18, sh19⟩⟩⟩⟩, ⟨⟨⟨⟨sh21, sh23⟩, ⟨sh30, sh31⟩⟩, ⟨⟨sh32, sh35⟩, ⟨sh47, sh66⟩⟩⟩, ⟨⟨⟨sh70, sh71⟩, ⟨sh76, sh77⟩⟩, ⟨⟨sh84, sh90⟩, ⟨sh91, sh92⟩⟩⟩⟩⟩, ⟨⟨⟨⟨sh101, ⟨sh109, sh112⟩⟩, ⟨⟨sh116, sh117⟩, ⟨sh121, sh132⟩⟩⟩, ⟨⟨⟨sh137, sh142⟩, ⟨sh143, sh144⟩⟩, ⟨⟨sh145, sh148⟩, ⟨sh149, sh155⟩⟩⟩⟩, ⟨⟨⟨⟨sh158, sh159⟩, ⟨sh184, sh191⟩⟩, ⟨⟨sh192, sh211⟩, ⟨sh225, sh226⟩⟩⟩, ⟨⟨⟨sh228, sh229⟩, ⟨sh230, sh231⟩⟩, ⟨⟨sh233, sh234⟩, ⟨sh235, sh236⟩⟩⟩⟩⟩⟩
theorem zts : (((((zeroT Proofs.Try.prog 7 = some [.int .i64 0, .int .i64 0, .bool false, .int .u8 0]) ∧ ((zeroT Proofs.Try.prog 8 = some [.int .i64 0, .int .i64 0, .bool false, .int .u8 0]) ∧ (zeroT Proofs.Try.prog 13 = some [.string ⟨([] : List UInt8).toArray⟩, .int .u64 0]))) ∧ (((zeroT Proofs.Try.prog 14 = some [.string ⟨([] : List UInt8).toArray⟩, .int .u64 0]) ∧ (zeroT Proofs.Try.prog 18 = some [.pointer none])) ∧ ((zeroT Proofs.Try.prog 19 = some [.pointer none]) ∧ (zeroT Proofs.Try.prog 31 = some [.int .i64 0, .int .i64 0])))) ∧ ((((zeroT Proofs.Try.prog 32 = some [.int .i64 0, .int .i64 0]) ∧ (zeroT Proofs.Try.prog 70 = some [.int .i64 0, .int .i64 0, .int .i64 0])) ∧ ((zeroT Proofs.Try.prog 71 = some [.int .i64 0, .int .i64 0, .int .i64 0]) ∧ (zeroT Proofs.Try.prog 91 = some [.int .i64 0, .slice none 0 0, .int .i64 0, .int .i64 0]))) ∧ (((zeroT Proofs.Try.prog 92 = some [.int .i64 0, .slice none 0 0, .int .i64 0, .int .i64 0]) ∧ (zeroT Proofs.Try.prog 116 = some [.slice none 0 0, .slice none 0 0, .slice none 0 0, .int .i64 0])) ∧ ((zeroT Proofs.Try.prog 117 = some [.slice none 0 0, .slice none 0 0, .slice none 0 0, .int .i64 0]) ∧ (zeroT Proofs.Try.prog 142 = some [.bool false, .int .i64 0, .int .i64 0]))))) ∧ ((((zeroT Proofs.Try.prog 143 = some [.bool false, .int .i64 0, .int .i64 0]) ∧ ((zeroT Proofs.Try.prog 144 = some [.bool false, .int .i64 0, .int .i64 0, .string ⟨([] : List UInt8).toArray⟩]) ∧ (zeroT Proofs.Try.prog 145 = some [.bool false, .int .i64 0, .int .i64 0, .string ⟨([] : List UInt8).toArray⟩]))) ∧ (((zeroT Proofs.Try.prog 148 = some [.int .i64 0, .int .i64 0, .string ⟨([] : List UInt8).toArray⟩, .int .i64 0]) ∧ (zeroT Proofs.Try.prog 149 = some [.int .i64 0, .int .i64 0, .string ⟨([] : List UInt8).toArray⟩, .int .i64 0])) ∧ ((zeroT Proofs.Try.prog 158 = some [.int .i64 0, .int .i64 0]) ∧ (zeroT Proofs.Try.prog 159 = some [.int .i64 0, .int .i64 0])))) ∧ ((((zeroT Proofs.Try.prog 191 = some [.pointer none, .slice none 0 0]) ∧ (zeroT Proofs.Try.prog 192 = some [.pointer none, .slice none 0 0])) ∧ ((zeroT Proofs.Try.prog 225 = some [.pointer none, .pointer none, .pointer none, .string ⟨([] : List UInt8).toArray⟩]) ∧ (zeroT Proofs.Try.prog 226 = some [.pointer none, .pointer none, .pointer none, .string ⟨([] : List UInt8).toArray⟩]))) ∧ (((zeroT Proofs.Try.prog 228 = some []) ∧ (zeroT Proofs.Try.prog 229 = some [])) ∧ ((zeroT Proofs.Try.prog 235 = some [.int .u64 0, .int .u64 0, .int .u32 0, .int .u8 0, .int .u8 0, .int .u8 0, .int .u8 0, .nilFunc, .pointer none, .int .i32 0, .int .i32 0]) ∧ (zeroT Proofs.Try.prog 236 = some [.int .u64 0, .int .u64 0, .int .u32 0, .int .u8 0, .int .u8 0, .int .u8 0, .int .u8 0, .nilFunc, .pointer none, .int .i32 0, .int .i32 0])))))) :=
  ⟨⟨⟨⟨zt7, ⟨zt8, zt13⟩⟩, ⟨⟨zt14, zt18⟩, ⟨zt19, zt31⟩⟩⟩, ⟨⟨⟨zt32, zt70⟩, ⟨zt71, zt91⟩⟩, ⟨⟨zt92, zt116⟩, ⟨zt117, zt142⟩⟩⟩⟩, ⟨⟨⟨zt143, ⟨zt144, zt145⟩⟩, ⟨⟨zt148, zt149⟩, ⟨zt158, zt159⟩⟩⟩, ⟨⟨⟨zt191, zt192⟩, ⟨zt225, zt226⟩⟩, ⟨⟨zt228, zt229⟩, ⟨zt235, zt236⟩⟩⟩⟩⟩
theorem sos : ((((((szOk Proofs.Try.prog 2 = True) ∧ ((szOk Proofs.Try.prog 3 = True) ∧ (szOk Proofs.Try.prog 4 = True))) ∧ (((szOk Proofs.Try.prog 5 = True) ∧ (szOk Proofs.Try.prog 6 = True)) ∧ ((szOk Proofs.Try.prog 7 = True) ∧ (szOk Proofs.Try.prog 8 = True)))) ∧ ((((szOk Proofs.Try.prog 9 = True) ∧ (szOk Proofs.Try.prog 10 = True)) ∧ ((szOk Proofs.Try.prog 11 = True) ∧ (szOk Proofs.Try.prog 12 = True))) ∧ (((szOk Proofs.Try.prog 13 = True) ∧ (szOk Proofs.Try.prog 14 = True)) ∧ ((szOk Proofs.Try.prog 18 = True) ∧ (szOk Proofs.Try.prog 19 = True))))) ∧ ((((szOk Proofs.Try.prog 21 = True) ∧ ((szOk Proofs.Try.prog 23 = True) ∧ (szOk Proofs.Try.prog 30 = True))) ∧ (((szOk Proofs.Try.prog 31 = True) ∧ (szOk Proofs.Try.prog 32 = True)) ∧ ((szOk Proofs.Try.prog 35 = True) ∧ (szOk Proofs.Try.prog 47 = True)))) ∧ ((((szOk Proofs.Try.prog 66 = True) ∧ (szOk Proofs.Try.prog 70 = True)) ∧ ((szOk Proofs.Try.prog 71 = True) ∧ (szOk Proofs.Try.prog 76 = True))) ∧ (((szOk Proofs.Try.prog 77 = True) ∧ (szOk Proofs.Try.prog 84 = True)) ∧ ((szOk Proofs.Try.prog 90 = True) ∧ (szOk Proofs.Try.prog 91 = True)))))) ∧ (((((szOk Proofs.Try.prog 92 = True) ∧ ((szOk Proofs.Try.prog 101 = True) ∧ (szOk Proofs.Try.prog 109 = True))) ∧ (((szOk Proofs.Try.prog 112 = True) ∧ (szOk Proofs.Try.prog 116 = True)) ∧ ((szOk Proofs.Try.prog 117 = True) ∧ (szOk Proofs.Try.prog 121 = True)))) ∧ ((((szOk Proofs.Try.prog 132 = True) ∧ (szOk Proofs.Try.prog 137 = True)) ∧ ((szOk Proofs.Try.prog 142 = True) ∧ (szOk Proofs.Try.prog 143 = True))) ∧ (((szOk Proofs.Try.prog 144 = True) ∧ (szOk Proofs.Try.prog 145 = True)) ∧ ((szOk Proofs.Try.prog 148 = True) ∧ (szOk Proofs.Try.prog 149 = True))))) ∧ ((((szOk Proofs.Try.prog 155 = True) ∧ ((szOk Proofs.Try.prog 158 = True) ∧ (szOk Proofs.Try.prog 159 = True))) ∧ (((szOk Proofs.Try.prog 184 = True) ∧ (szOk Proofs.Try.prog 191 = True)) ∧ ((szOk Proofs.Try.prog 192 = True) ∧ (szOk Proofs.Try.prog 211 = True)))) ∧ ((((szOk Proofs.Try.prog 225 = True) ∧ (szOk Proofs.Try.prog 226 = True)) ∧ ((szOk Proofs.Try.prog 230 = True) ∧ (szOk Proofs.Try.prog 231 = True))) ∧ (((szOk Proofs.Try.prog 233 = True) ∧ (szOk Proofs.Try.prog 234 = True)) ∧ ((szOk Proofs.Try.prog 235 = True) ∧ (szOk Proofs.Try.prog 236 = True))))))) :=
  ⟨⟨⟨⟨⟨so2, ⟨so3, so4⟩⟩, ⟨⟨so5, so6⟩, ⟨so7, so8⟩⟩⟩, ⟨⟨⟨so9, so10⟩, ⟨so11, so12⟩⟩, ⟨⟨so13, so14⟩, ⟨so18, so19⟩⟩⟩⟩, ⟨⟨⟨so21, ⟨so23, so30⟩⟩, ⟨⟨so31, so32⟩, ⟨so35, so47⟩⟩⟩, ⟨⟨⟨so66, so70⟩, ⟨so71, so76⟩⟩, ⟨⟨so77, so84⟩, ⟨so90, so91⟩⟩⟩⟩⟩, ⟨⟨⟨⟨so92, ⟨so101, so109⟩⟩, ⟨⟨so112, so116⟩, ⟨so117, so121⟩⟩⟩, ⟨⟨⟨so132, so137⟩, ⟨so142, so143⟩⟩, ⟨⟨so144, so145⟩, ⟨so148, so149⟩⟩⟩⟩, ⟨⟨⟨so155, ⟨so158, so159⟩⟩, ⟨⟨so184, so191⟩, ⟨so192, so211⟩⟩⟩, ⟨⟨⟨so225, so226⟩, ⟨so230, so231⟩⟩, ⟨⟨so233, so234⟩, ⟨so235, so236⟩⟩⟩⟩⟩⟩
theorem sls : ((((slT Proofs.Try.prog 30 = some (32, 2, 16, [.int .i64 0, .int .i64 0])) ∧ ((slT Proofs.Try.prog 35 = some (3, 1, 8, [.int .i64 0])) ∧ (slT Proofs.Try.prog 47 = some (9, 1, 16, [.string ⟨([] : List UInt8).toArray⟩])))) ∧ (((slT Proofs.Try.prog 66 = some (71, 3, 24, [.int .i64 0, .int .i64 0, .int .i64 0])) ∧ (slT Proofs.Try.prog 76 = some (84, 1, 24, [.slice none 0 0]))) ∧ ((slT Proofs.Try.prog 77 = some (149, 4, 40, [.int .i64 0, .int .i64 0, .string ⟨([] : List UInt8).toArray⟩, .int .i64 0])) ∧ (slT Proofs.Try.prog 84 = some (145, 4, 40, [.bool false, .int .i64 0, .int .i64 0, .string ⟨([] : List UInt8).toArray⟩]))))) ∧ (((slT Proofs.Try.prog 90 = some (159, 2, 16, [.int .i64 0, .int .i64 0])) ∧ ((slT Proofs.Try.prog 109 = some (30, 1, 24, [.slice none 0 0])) ∧ (slT Proofs.Try.prog 112 = some (35, 1, 24, [.slice none 0 0])))) ∧ (((slT Proofs.Try.prog 121 = some (4, 1, 1, [.bool false])) ∧ (slT Proofs.Try.prog 132 = some (5, 1, 1, [.int .u8 0]))) ∧ ((slT Proofs.Try.prog 137 = some (121, 1, 24, [.slice none 0 0])) ∧ (slT Proofs.Try.prog 155 = some (76, 1, 24, [.slice none 0 0])))))) :=
  ⟨⟨⟨sl30, ⟨sl35, sl47⟩⟩, ⟨⟨sl66, sl76⟩, ⟨sl77, sl84⟩⟩⟩, ⟨⟨sl90, ⟨sl109, sl112⟩⟩, ⟨⟨sl121, sl132⟩, ⟨sl137, sl155⟩⟩⟩⟩
theorem zss : ((((((zsT Proofs.Try.prog 2 = some [.int .i64 0]) ∧ ((zsT Proofs.Try.prog 3 = some [.int .i64 0]) ∧ (zsT Proofs.Try.prog 4 = some [.bool false]))) ∧ (((zsT Proofs.Try.prog 5 = some [.int .u8 0]) ∧ (zsT Proofs.Try.prog 6 = some [.int .u8 0])) ∧ ((zsT Proofs.Try.prog 7 = some [.int .i64 0, .int .i64 0, .bool false, .int .u8 0]) ∧ (zsT Proofs.Try.prog 8 = some [.int .i64 0, .int .i64 0, .bool false, .int .u8 0])))) ∧ ((((zsT Proofs.Try.prog 9 = some [.string ⟨([] : List UInt8).toArray⟩]) ∧ (zsT Proofs.Try.prog 10 = some [.string ⟨([] : List UInt8).toArray⟩])) ∧ ((zsT Proofs.Try.prog 11 = some [.string ⟨([] : List UInt8).toArray⟩]) ∧ (zsT Proofs.Try.prog 12 = some [.int .u64 0]))) ∧ (((zsT Proofs.Try.prog 13 = some [.string ⟨([] : List UInt8).toArray⟩, .int .u64 0]) ∧ (zsT Proofs.Try.prog 14 = some [.string ⟨([] : List UInt8).toArray⟩, .int .u64 0])) ∧ ((zsT Proofs.Try.prog 18 = some [.pointer none]) ∧ (zsT Proofs.Try.prog 19 = some [.pointer none]))))) ∧ ((((zsT Proofs.Try.prog 21 = some [.int .i32 0]) ∧ ((zsT Proofs.Try.prog 23 = some [.int .i64 0]) ∧ (zsT Proofs.Try.prog 30 = some [.slice none 0 0]))) ∧ (((zsT Proofs.Try.prog 31 = some [.int .i64 0, .int .i64 0]) ∧ (zsT Proofs.Try.prog 32 = some [.int .i64 0, .int .i64 0])) ∧ ((zsT Proofs.Try.prog 35 = some [.slice none 0 0]) ∧ (zsT Proofs.Try.prog 47 = some [.slice none 0 0])))) ∧ ((((zsT Proofs.Try.prog 66 = some [.slice none 0 0]) ∧ (zsT Proofs.Try.prog 70 = some [.int .i64 0, .int .i64 0, .int .i64 0])) ∧ ((zsT Proofs.Try.prog 71 = some [.int .i64 0, .int .i64 0, .int .i64 0]) ∧ (zsT Proofs.Try.prog 76 = some [.slice none 0 0]))) ∧ (((zsT Proofs.Try.prog 77 = some [.slice none 0 0]) ∧ (zsT Proofs.Try.prog 84 = some [.slice none 0 0])) ∧ ((zsT Proofs.Try.prog 90 = some [.slice none 0 0]) ∧ (zsT Proofs.Try.prog 91 = some [.int .i64 0, .slice none 0 0, .int .i64 0, .int .i64 0])))))) ∧ (((((zsT Proofs.Try.prog 92 = some [.int .i64 0, .slice none 0 0, .int .i64 0, .int .i64 0]) ∧ ((zsT Proofs.Try.prog 101 = some [.int .u64 0]) ∧ (zsT Proofs.Try.prog 109 = some [.slice none 0 0]))) ∧ (((zsT Proofs.Try.prog 112 = some [.slice none 0 0]) ∧ (zsT Proofs.Try.prog 116 = some [.slice none 0 0, .slice none 0 0, .slice none 0 0, .int .i64 0])) ∧ ((zsT Proofs.Try.prog 117 = some [.slice none 0 0, .slice none 0 0, .slice none 0 0, .int .i64 0]) ∧ (zsT Proofs.Try.prog 121 = some [.slice none 0 0])))) ∧ ((((zsT Proofs.Try.prog 132 = some [.slice none 0 0]) ∧ (zsT Proofs.Try.prog 137 = some [.slice none 0 0])) ∧ ((zsT Proofs.Try.prog 142 = some [.bool false, .int .i64 0, .int .i64 0]) ∧ (zsT Proofs.Try.prog 143 = some [.bool false, .int .i64 0, .int .i64 0]))) ∧ (((zsT Proofs.Try.prog 144 = some [.bool false, .int .i64 0, .int .i64 0, .string ⟨([] : List UInt8).toArray⟩]) ∧ (zsT Proofs.Try.prog 145 = some [.bool false, .int .i64 0, .int .i64 0, .string ⟨([] : List UInt8).toArray⟩])) ∧ ((zsT Proofs.Try.prog 148 = some [.int .i64 0, .int .i64 0, .string ⟨([] : List UInt8).toArray⟩, .int .i64 0]) ∧ (zsT Proofs.Try.prog 149 = some [.int .i64 0, .int .i64 0, .string ⟨([] : List UInt8).toArray⟩, .int .i64 0]))))) ∧ ((((zsT Proofs.Try.prog 155 = some [.slice none 0 0]) ∧ ((zsT Proofs.Try.prog 158 = some [.int .i64 0, .int .i64 0]) ∧ (zsT Proofs.Try.prog 159 = some [.int .i64 0, .int .i64 0]))) ∧ (((zsT Proofs.Try.prog 184 = some [.int .u64 0]) ∧ (zsT Proofs.Try.prog 191 = some [.pointer none, .slice none 0 0])) ∧ ((zsT Proofs.Try.prog 192 = some [.pointer none, .slice none 0 0]) ∧ (zsT Proofs.Try.prog 211 = some [.int .u32 0])))) ∧ ((((zsT Proofs.Try.prog 225 = some [.pointer none, .pointer none, .pointer none, .string ⟨([] : List UInt8).toArray⟩]) ∧ (zsT Proofs.Try.prog 226 = some [.pointer none, .pointer none, .pointer none, .string ⟨([] : List UInt8).toArray⟩])) ∧ ((zsT Proofs.Try.prog 228 = some []) ∧ (zsT Proofs.Try.prog 229 = some []))) ∧ (((zsT Proofs.Try.prog 230 = some [.int .u8 0]) ∧ (zsT Proofs.Try.prog 231 = some [.int .u8 0])) ∧ ((zsT Proofs.Try.prog 233 = some [.int .i32 0]) ∧ (zsT Proofs.Try.prog 234 = some [.int .i32 0]))))))) :=
  ⟨⟨⟨⟨⟨zs2, ⟨zs3, zs4⟩⟩, ⟨⟨zs5, zs6⟩, ⟨zs7, zs8⟩⟩⟩, ⟨⟨⟨zs9, zs10⟩, ⟨zs11, zs12⟩⟩, ⟨⟨zs13, zs14⟩, ⟨zs18, zs19⟩⟩⟩⟩, ⟨⟨⟨zs21, ⟨zs23, zs30⟩⟩, ⟨⟨zs31, zs32⟩, ⟨zs35, zs47⟩⟩⟩, ⟨⟨⟨zs66, zs70⟩, ⟨zs71, zs76⟩⟩, ⟨⟨zs77, zs84⟩, ⟨zs90, zs91⟩⟩⟩⟩⟩, ⟨⟨⟨⟨zs92, ⟨zs101, zs109⟩⟩, ⟨⟨zs112, zs116⟩, ⟨zs117, zs121⟩⟩⟩, ⟨⟨⟨zs132, zs137⟩, ⟨zs142, zs143⟩⟩, ⟨⟨zs144, zs145⟩, ⟨zs148, zs149⟩⟩⟩⟩, ⟨⟨⟨zs155, ⟨zs158, zs159⟩⟩, ⟨⟨zs184, zs191⟩, ⟨zs192, zs211⟩⟩⟩, ⟨⟨⟨zs225, zs226⟩, ⟨zs228, zs229⟩⟩, ⟨⟨zs230, zs231⟩, ⟨zs233, zs234⟩⟩⟩⟩⟩⟩
theorem eqs : ((((eqT Proofs.Try.prog 7 = some [.int .i64, .int .i64, .bool, .int .u8]) ∧ ((eqT Proofs.Try.prog 8 = some [.int .i64, .int .i64, .bool, .int .u8]) ∧ (eqT Proofs.Try.prog 31 = some [.int .i64, .int .i64]))) ∧ (((eqT Proofs.Try.prog 32 = some [.int .i64, .int .i64]) ∧ (eqT Proofs.Try.prog 70 = some [.int .i64, .int .i64, .int .i64])) ∧ ((eqT Proofs.Try.prog 71 = some [.int .i64, .int .i64, .int .i64]) ∧ (eqT Proofs.Try.prog 142 = some [.bool, .int .i64, .int .i64])))) ∧ (((eqT Proofs.Try.prog 143 = some [.bool, .int .i64, .int .i64]) ∧ ((eqT Proofs.Try.prog 144 = some [.bool, .int .i64, .int .i64, .str]) ∧ (eqT Proofs.Try.prog 145 = some [.bool, .int .i64, .int .i64, .str]))) ∧ (((eqT Proofs.Try.prog 148 = some [.int .i64, .int .i64, .str, .int .i64]) ∧ (eqT Proofs.Try.prog 149 = some [.int .i64, .int .i64, .str, .int .i64])) ∧ ((eqT Proofs.Try.prog 158 = some [.int .i64, .int .i64]) ∧ (eqT Proofs.Try.prog 159 = some [.int .i64, .int .i64]))))) :=
  ⟨⟨⟨eq7, ⟨eq8, eq31⟩⟩, ⟨⟨eq32, eq70⟩, ⟨eq71, eq142⟩⟩⟩, ⟨⟨eq143, ⟨eq144, eq145⟩⟩, ⟨⟨eq148, eq149⟩, ⟨eq158, eq159⟩⟩⟩⟩
end Go.X
