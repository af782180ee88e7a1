/- The shapes of the types of this translation. Conditions: none. -/
import Derived.Test.YtkhadbanpfngnaaProg
import Derived.Test.YtkhadbanpfngnaaFwB
import Derived.KernelRfl
set_option linter.unusedVariables false
namespace Go.X
open Go
theorem sh2 : shp Proofs.Try.prog 2 = .int .i64 := by kernel_rfl
theorem so2 : szOk Proofs.Try.prog 2 = True := eq_true (szOk_of (n := 1) sh2 (by kernel_rfl) (by decide) (by decide))
theorem zs2 : zsT Proofs.Try.prog 2 = some [.int .i64 0] := by kernel_rfl
theorem sh3 : shp Proofs.Try.prog 3 = .int .i64 := by kernel_rfl
theorem so3 : szOk Proofs.Try.prog 3 = True := eq_true (szOk_of (n := 1) sh3 (by kernel_rfl) (by decide) (by decide))
theorem zs3 : zsT Proofs.Try.prog 3 = some [.int .i64 0] := by kernel_rfl
theorem sh4 : shp Proofs.Try.prog 4 = .bool := by kernel_rfl
theorem so4 : szOk Proofs.Try.prog 4 = True := eq_true (szOk_of (n := 1) sh4 (by kernel_rfl) (by decide) (by decide))
theorem zs4 : zsT Proofs.Try.prog 4 = some [.bool false] := by kernel_rfl
theorem sh5 : shp Proofs.Try.prog 5 = .int .u8 := by kernel_rfl
theorem so5 : szOk Proofs.Try.prog 5 = True := eq_true (szOk_of (n := 1) sh5 (by kernel_rfl) (by decide) (by decide))
theorem zs5 : zsT Proofs.Try.prog 5 = some [.int .u8 0] := by kernel_rfl
theorem sh6 : shp Proofs.Try.prog 6 = .int .u8 := by kernel_rfl
theorem so6 : szOk Proofs.Try.prog 6 = True := eq_true (szOk_of (n := 1) sh6 (by kernel_rfl) (by decide) (by decide))
theorem zs6 : zsT Proofs.Try.prog 6 = some [.int .u8 0] := by kernel_rfl
theorem sh7 : shp Proofs.Try.prog 7 = .struct [(0, 1, false), (1, 1, false), (2, 1, false), (3, 1, false)] 4 := by kernel_rfl
theorem zt7 : zeroT Proofs.Try.prog 7 = some [.int .i64 0, .int .i64 0, .bool false, .int .u8 0] := by kernel_rfl
theorem so7 : szOk Proofs.Try.prog 7 = True := eq_true (szOk_of (n := 4) sh7 (by kernel_rfl) (by decide) (by decide))
theorem zs7 : zsT Proofs.Try.prog 7 = some [.int .i64 0, .int .i64 0, .bool false, .int .u8 0] := by kernel_rfl
theorem sh8 : shp Proofs.Try.prog 8 = .struct [(0, 1, false), (1, 1, false), (2, 1, false), (3, 1, false)] 4 := by kernel_rfl
theorem zt8 : zeroT Proofs.Try.prog 8 = some [.int .i64 0, .int .i64 0, .bool false, .int .u8 0] := by kernel_rfl
theorem so8 : szOk Proofs.Try.prog 8 = True := eq_true (szOk_of (n := 4) sh8 (by kernel_rfl) (by decide) (by decide))
theorem zs8 : zsT Proofs.Try.prog 8 = some [.int .i64 0, .int .i64 0, .bool false, .int .u8 0] := by kernel_rfl
theorem sh9 : shp Proofs.Try.prog 9 = .str := by kernel_rfl
theorem so9 : szOk Proofs.Try.prog 9 = True := eq_true (szOk_of (n := 1) sh9 (by kernel_rfl) (by decide) (by decide))
theorem zs9 : zsT Proofs.Try.prog 9 = some [.string ⟨([] : List UInt8).toArray⟩] := by kernel_rfl
theorem sh10 : shp Proofs.Try.prog 10 = .str := by kernel_rfl
theorem so10 : szOk Proofs.Try.prog 10 = True := eq_true (szOk_of (n := 1) sh10 (by kernel_rfl) (by decide) (by decide))
theorem zs10 : zsT Proofs.Try.prog 10 = some [.string ⟨([] : List UInt8).toArray⟩] := by kernel_rfl
theorem sh11 : shp Proofs.Try.prog 11 = .str := by kernel_rfl
theorem so11 : szOk Proofs.Try.prog 11 = True := eq_true (szOk_of (n := 1) sh11 (by kernel_rfl) (by decide) (by decide))
theorem zs11 : zsT Proofs.Try.prog 11 = some [.string ⟨([] : List UInt8).toArray⟩] := by kernel_rfl
theorem sh12 : shp Proofs.Try.prog 12 = .int .u64 := by kernel_rfl
theorem so12 : szOk Proofs.Try.prog 12 = True := eq_true (szOk_of (n := 1) sh12 (by kernel_rfl) (by decide) (by decide))
theorem zs12 : zsT Proofs.Try.prog 12 = some [.int .u64 0] := by kernel_rfl
theorem sh13 : shp Proofs.Try.prog 13 = .struct [(0, 1, false), (1, 1, false)] 2 := by kernel_rfl
theorem zt13 : zeroT Proofs.Try.prog 13 = some [.string ⟨([] : List UInt8).toArray⟩, .int .u64 0] := by kernel_rfl
theorem so13 : szOk Proofs.Try.prog 13 = True := eq_true (szOk_of (n := 2) sh13 (by kernel_rfl) (by decide) (by decide))
theorem zs13 : zsT Proofs.Try.prog 13 = some [.string ⟨([] : List UInt8).toArray⟩, .int .u64 0] := by kernel_rfl
theorem sh14 : shp Proofs.Try.prog 14 = .struct [(0, 1, false), (1, 1, false)] 2 := by kernel_rfl
theorem zt14 : zeroT Proofs.Try.prog 14 = some [.string ⟨([] : List UInt8).toArray⟩, .int .u64 0] := by kernel_rfl
theorem so14 : szOk Proofs.Try.prog 14 = True := eq_true (szOk_of (n := 2) sh14 (by kernel_rfl) (by decide) (by decide))
theorem zs14 : zsT Proofs.Try.prog 14 = some [.string ⟨([] : List UInt8).toArray⟩, .int .u64 0] := by kernel_rfl
theorem sh18 : shp Proofs.Try.prog 18 = .struct [(0, 1, false)] 1 := by kernel_rfl
theorem zt18 : zeroT Proofs.Try.prog 18 = some [.pointer none] := by kernel_rfl
theorem so18 : szOk Proofs.Try.prog 18 = True := eq_true (szOk_of (n := 1) sh18 (by kernel_rfl) (by decide) (by decide))
theorem zs18 : zsT Proofs.Try.prog 18 = some [.pointer none] := by kernel_rfl
theorem sh19 : shp Proofs.Try.prog 19 = .struct [(0, 1, false)] 1 := by kernel_rfl
theorem zt19 : zeroT Proofs.Try.prog 19 = some [.pointer none] := by kernel_rfl
theorem so19 : szOk Proofs.Try.prog 19 = True := eq_true (szOk_of (n := 1) sh19 (by kernel_rfl) (by decide) (by decide))
theorem zs19 : zsT Proofs.Try.prog 19 = some [.pointer none] := by kernel_rfl
theorem sh21 : shp Proofs.Try.prog 21 = .int .i32 := by kernel_rfl
theorem so21 : szOk Proofs.Try.prog 21 = True := eq_true (szOk_of (n := 1) sh21 (by kernel_rfl) (by decide) (by decide))
theorem zs21 : zsT Proofs.Try.prog 21 = some [.int .i32 0] := by kernel_rfl
theorem sh22 : shp Proofs.Try.prog 22 = .int .i64 := by kernel_rfl
theorem so22 : szOk Proofs.Try.prog 22 = True := eq_true (szOk_of (n := 1) sh22 (by kernel_rfl) (by decide) (by decide))
theorem zs22 : zsT Proofs.Try.prog 22 = some [.int .i64 0] := by kernel_rfl
theorem sh31 : shp Proofs.Try.prog 31 = .slice 4 1 false := by kernel_rfl
theorem so31 : szOk Proofs.Try.prog 31 = True := eq_true (szOk_of (n := 1) sh31 (by kernel_rfl) (by decide) (by decide))
theorem sl31 : slT Proofs.Try.prog 31 = some (4, 1, 1, [.bool false]) := by kernel_rfl
theorem zs31 : zsT Proofs.Try.prog 31 = some [.slice none 0 0] := by kernel_rfl
theorem sh36 : shp Proofs.Try.prog 36 = .slice 41 2 true := by kernel_rfl
theorem so36 : szOk Proofs.Try.prog 36 = True := eq_true (szOk_of (n := 1) sh36 (by kernel_rfl) (by decide) (by decide))
theorem sl36 : slT Proofs.Try.prog 36 = some (41, 2, 16, [.bool false, .int .i64 0]) := by kernel_rfl
theorem zs36 : zsT Proofs.Try.prog 36 = some [.slice none 0 0] := by kernel_rfl
theorem sh40 : shp Proofs.Try.prog 40 = .struct [(0, 1, false), (1, 1, false)] 2 := by kernel_rfl
theorem zt40 : zeroT Proofs.Try.prog 40 = some [.bool false, .int .i64 0] := by kernel_rfl
theorem so40 : szOk Proofs.Try.prog 40 = True := eq_true (szOk_of (n := 2) sh40 (by kernel_rfl) (by decide) (by decide))
theorem zs40 : zsT Proofs.Try.prog 40 = some [.bool false, .int .i64 0] := by kernel_rfl
theorem sh41 : shp Proofs.Try.prog 41 = .struct [(0, 1, false), (1, 1, false)] 2 := by kernel_rfl
theorem zt41 : zeroT Proofs.Try.prog 41 = some [.bool false, .int .i64 0] := by kernel_rfl
theorem so41 : szOk Proofs.Try.prog 41 = True := eq_true (szOk_of (n := 2) sh41 (by kernel_rfl) (by decide) (by decide))
theorem zs41 : zsT Proofs.Try.prog 41 = some [.bool false, .int .i64 0] := by kernel_rfl
theorem sh44 : shp Proofs.Try.prog 44 = .slice 3 1 false := by kernel_rfl
theorem so44 : szOk Proofs.Try.prog 44 = True := eq_true (szOk_of (n := 1) sh44 (by kernel_rfl) (by decide) (by decide))
theorem sl44 : slT Proofs.Try.prog 44 = some (3, 1, 8, [.int .i64 0]) := by kernel_rfl
theorem zs44 : zsT Proofs.Try.prog 44 = some [.slice none 0 0] := by kernel_rfl
theorem sh55 : shp Proofs.Try.prog 55 = .struct [(0, 1, false), (1, 1, false)] 2 := by kernel_rfl
theorem zt55 : zeroT Proofs.Try.prog 55 = some [.int .i64 0, .string ⟨([] : List UInt8).toArray⟩] := by kernel_rfl
theorem so55 : szOk Proofs.Try.prog 55 = True := eq_true (szOk_of (n := 2) sh55 (by kernel_rfl) (by decide) (by decide))
theorem zs55 : zsT Proofs.Try.prog 55 = some [.int .i64 0, .string ⟨([] : List UInt8).toArray⟩] := by kernel_rfl
theorem sh56 : shp Proofs.Try.prog 56 = .struct [(0, 1, false), (1, 1, false)] 2 := by kernel_rfl
theorem zt56 : zeroT Proofs.Try.prog 56 = some [.int .i64 0, .string ⟨([] : List UInt8).toArray⟩] := by kernel_rfl
theorem so56 : szOk Proofs.Try.prog 56 = True := eq_true (szOk_of (n := 2) sh56 (by kernel_rfl) (by decide) (by decide))
theorem zs56 : zsT Proofs.Try.prog 56 = some [.int .i64 0, .string ⟨([] : List UInt8).toArray⟩] := by kernel_rfl
theorem sh62 : shp Proofs.Try.prog 62 = .slice 128 2 true := by kernel_rfl
theorem so62 : szOk Proofs.Try.prog 62 = True := eq_true (szOk_of (n := 1) sh62 (by kernel_rfl) (by decide) (by decide))
theorem sl62 : slT Proofs.Try.prog 62 = some (128, 2, 16, [.int .i64 0, .int .i64 0]) := by kernel_rfl
theorem zs62 : zsT Proofs.Try.prog 62 = some [.slice none 0 0] := by kernel_rfl
theorem sh63 : shp Proofs.Try.prog 63 = .struct [(0, 1, false), (1, 1, false), (2, 1, false), (3, 1, false)] 4 := by kernel_rfl
theorem zt63 : zeroT Proofs.Try.prog 63 = some [.int .i64 0, .slice none 0 0, .int .i64 0, .int .i64 0] := by kernel_rfl
theorem so63 : szOk Proofs.Try.prog 63 = True := eq_true (szOk_of (n := 4) sh63 (by kernel_rfl) (by decide) (by decide))
theorem zs63 : zsT Proofs.Try.prog 63 = some [.int .i64 0, .slice none 0 0, .int .i64 0, .int .i64 0] := by kernel_rfl
theorem sh64 : shp Proofs.Try.prog 64 = .struct [(0, 1, false), (1, 1, false), (2, 1, false), (3, 1, false)] 4 := by kernel_rfl
theorem zt64 : zeroT Proofs.Try.prog 64 = some [.int .i64 0, .slice none 0 0, .int .i64 0, .int .i64 0] := by kernel_rfl
theorem so64 : szOk Proofs.Try.prog 64 = True := eq_true (szOk_of (n := 4) sh64 (by kernel_rfl) (by decide) (by decide))
theorem zs64 : zsT Proofs.Try.prog 64 = some [.int .i64 0, .slice none 0 0, .int .i64 0, .int .i64 0] := by kernel_rfl
theorem sh71 : shp Proofs.Try.prog 71 = .slice 79 1 false := by kernel_rfl
theorem so71 : szOk Proofs.Try.prog 71 = True := eq_true (szOk_of (n := 1) sh71 (by kernel_rfl) (by decide) (by decide))
theorem sl71 : slT Proofs.Try.prog 71 = some (79, 1, 24, [.slice none 0 0]) := by kernel_rfl
theorem zs71 : zsT Proofs.Try.prog 71 = some [.slice none 0 0] := by kernel_rfl
theorem sh72 : shp Proofs.Try.prog 72 = .struct [(0, 1, false), (1, 1, false), (2, 1, false)] 3 := by kernel_rfl
theorem zt72 : zeroT Proofs.Try.prog 72 = some [.bool false, .int .i64 0, .int .i64 0] := by kernel_rfl
theorem so72 : szOk Proofs.Try.prog 72 = True := eq_true (szOk_of (n := 3) sh72 (by kernel_rfl) (by decide) (by decide))
theorem zs72 : zsT Proofs.Try.prog 72 = some [.bool false, .int .i64 0, .int .i64 0] := by kernel_rfl
theorem sh73 : shp Proofs.Try.prog 73 = .struct [(0, 1, false), (1, 1, false), (2, 1, false)] 3 := by kernel_rfl
theorem zt73 : zeroT Proofs.Try.prog 73 = some [.bool false, .int .i64 0, .int .i64 0] := by kernel_rfl
theorem so73 : szOk Proofs.Try.prog 73 = True := eq_true (szOk_of (n := 3) sh73 (by kernel_rfl) (by decide) (by decide))
theorem zs73 : zsT Proofs.Try.prog 73 = some [.bool false, .int .i64 0, .int .i64 0] := by kernel_rfl
theorem sh74 : shp Proofs.Try.prog 74 = .struct [(0, 3, true), (3, 1, false)] 4 := by kernel_rfl
theorem zt74 : zeroT Proofs.Try.prog 74 = some [.bool false, .int .i64 0, .int .i64 0, .string ⟨([] : List UInt8).toArray⟩] := by kernel_rfl
theorem so74 : szOk Proofs.Try.prog 74 = True := eq_true (szOk_of (n := 4) sh74 (by kernel_rfl) (by decide) (by decide))
theorem zs74 : zsT Proofs.Try.prog 74 = some [.bool false, .int .i64 0, .int .i64 0, .string ⟨([] : List UInt8).toArray⟩] := by kernel_rfl
theorem sh75 : shp Proofs.Try.prog 75 = .struct [(0, 3, true), (3, 1, false)] 4 := by kernel_rfl
theorem zt75 : zeroT Proofs.Try.prog 75 = some [.bool false, .int .i64 0, .int .i64 0, .string ⟨([] : List UInt8).toArray⟩] := by kernel_rfl
theorem so75 : szOk Proofs.Try.prog 75 = True := eq_true (szOk_of (n := 4) sh75 (by kernel_rfl) (by decide) (by decide))
theorem zs75 : zsT Proofs.Try.prog 75 = some [.bool false, .int .i64 0, .int .i64 0, .string ⟨([] : List UInt8).toArray⟩] := by kernel_rfl
theorem sh79 : shp Proofs.Try.prog 79 = .slice 75 4 true := by kernel_rfl
theorem so79 : szOk Proofs.Try.prog 79 = True := eq_true (szOk_of (n := 1) sh79 (by kernel_rfl) (by decide) (by decide))
theorem sl79 : slT Proofs.Try.prog 79 = some (75, 4, 40, [.bool false, .int .i64 0, .int .i64 0, .string ⟨([] : List UInt8).toArray⟩]) := by kernel_rfl
theorem zs79 : zsT Proofs.Try.prog 79 = some [.slice none 0 0] := by kernel_rfl
theorem sh83 : shp Proofs.Try.prog 83 = .slice 9 1 false := by kernel_rfl
theorem so83 : szOk Proofs.Try.prog 83 = True := eq_true (szOk_of (n := 1) sh83 (by kernel_rfl) (by decide) (by decide))
theorem sl83 : slT Proofs.Try.prog 83 = some (9, 1, 16, [.string ⟨([] : List UInt8).toArray⟩]) := by kernel_rfl
theorem zs83 : zsT Proofs.Try.prog 83 = some [.slice none 0 0] := by kernel_rfl
theorem sh95 : shp Proofs.Try.prog 95 = .slice 97 2 true := by kernel_rfl
theorem so95 : szOk Proofs.Try.prog 95 = True := eq_true (szOk_of (n := 1) sh95 (by kernel_rfl) (by decide) (by decide))
theorem sl95 : slT Proofs.Try.prog 95 = some (97, 2, 16, [.int .i64 0, .int .i64 0]) := by kernel_rfl
theorem zs95 : zsT Proofs.Try.prog 95 = some [.slice none 0 0] := by kernel_rfl
theorem sh96 : shp Proofs.Try.prog 96 = .struct [(0, 1, false), (1, 1, false)] 2 := by kernel_rfl
theorem zt96 : zeroT Proofs.Try.prog 96 = some [.int .i64 0, .int .i64 0] := by kernel_rfl
theorem so96 : szOk Proofs.Try.prog 96 = True := eq_true (szOk_of (n := 2) sh96 (by kernel_rfl) (by decide) (by decide))
theorem zs96 : zsT Proofs.Try.prog 96 = some [.int .i64 0, .int .i64 0] := by kernel_rfl
theorem sh97 : shp Proofs.Try.prog 97 = .struct [(0, 1, false), (1, 1, false)] 2 := by kernel_rfl
theorem zt97 : zeroT Proofs.Try.prog 97 = some [.int .i64 0, .int .i64 0] := by kernel_rfl
theorem so97 : szOk Proofs.Try.prog 97 = True := eq_true (szOk_of (n := 2) sh97 (by kernel_rfl) (by decide) (by decide))
theorem zs97 : zsT Proofs.Try.prog 97 = some [.int .i64 0, .int .i64 0] := by kernel_rfl
theorem sh112 : shp Proofs.Try.prog 112 = .int .u64 := by kernel_rfl
theorem so112 : szOk Proofs.Try.prog 112 = True := eq_true (szOk_of (n := 1) sh112 (by kernel_rfl) (by decide) (by decide))
theorem zs112 : zsT Proofs.Try.prog 112 = some [.int .u64 0] := by kernel_rfl
theorem sh121 : shp Proofs.Try.prog 121 = .int .u64 := by kernel_rfl
theorem so121 : szOk Proofs.Try.prog 121 = True := eq_true (szOk_of (n := 1) sh121 (by kernel_rfl) (by decide) (by decide))
theorem zs121 : zsT Proofs.Try.prog 121 = some [.int .u64 0] := by kernel_rfl
theorem sh122 : shp Proofs.Try.prog 122 = .slice 5 1 false := by kernel_rfl
theorem so122 : szOk Proofs.Try.prog 122 = True := eq_true (szOk_of (n := 1) sh122 (by kernel_rfl) (by decide) (by decide))
theorem sl122 : slT Proofs.Try.prog 122 = some (5, 1, 1, [.int .u8 0]) := by kernel_rfl
theorem zs122 : zsT Proofs.Try.prog 122 = some [.slice none 0 0] := by kernel_rfl
theorem sh127 : shp Proofs.Try.prog 127 = .struct [(0, 1, false), (1, 1, false)] 2 := by kernel_rfl
theorem zt127 : zeroT Proofs.Try.prog 127 = some [.int .i64 0, .int .i64 0] := by kernel_rfl
theorem so127 : szOk Proofs.Try.prog 127 = True := eq_true (szOk_of (n := 2) sh127 (by kernel_rfl) (by decide) (by decide))
theorem zs127 : zsT Proofs.Try.prog 127 = some [.int .i64 0, .int .i64 0] := by kernel_rfl
theorem sh128 : shp Proofs.Try.prog 128 = .struct [(0, 1, false), (1, 1, false)] 2 := by kernel_rfl
theorem zt128 : zeroT Proofs.Try.prog 128 = some [.int .i64 0, .int .i64 0] := by kernel_rfl
theorem so128 : szOk Proofs.Try.prog 128 = True := eq_true (szOk_of (n := 2) sh128 (by kernel_rfl) (by decide) (by decide))
theorem zs128 : zsT Proofs.Try.prog 128 = some [.int .i64 0, .int .i64 0] := by kernel_rfl
theorem sh136 : shp Proofs.Try.prog 136 = .slice 44 1 false := by kernel_rfl
theorem so136 : szOk Proofs.Try.prog 136 = True := eq_true (szOk_of (n := 1) sh136 (by kernel_rfl) (by decide) (by decide))
theorem sl136 : slT Proofs.Try.prog 136 = some (44, 1, 24, [.slice none 0 0]) := by kernel_rfl
theorem zs136 : zsT Proofs.Try.prog 136 = some [.slice none 0 0] := by kernel_rfl
theorem sh144 : shp Proofs.Try.prog 144 = .slice 95 1 false := by kernel_rfl
theorem so144 : szOk Proofs.Try.prog 144 = True := eq_true (szOk_of (n := 1) sh144 (by kernel_rfl) (by decide) (by decide))
theorem sl144 : slT Proofs.Try.prog 144 = some (95, 1, 24, [.slice none 0 0]) := by kernel_rfl
theorem zs144 : zsT Proofs.Try.prog 144 = some [.slice none 0 0] := by kernel_rfl
theorem sh156 : shp Proofs.Try.prog 156 = .struct [(0, 1, false), (1, 1, false), (2, 1, false), (3, 1, false)] 4 := by kernel_rfl
theorem zt156 : zeroT Proofs.Try.prog 156 = some [.pointer none, .pointer none, .pointer none, .string ⟨([] : List UInt8).toArray⟩] := by kernel_rfl
theorem so156 : szOk Proofs.Try.prog 156 = True := eq_true (szOk_of (n := 4) sh156 (by kernel_rfl) (by decide) (by decide))
theorem zs156 : zsT Proofs.Try.prog 156 = some [.pointer none, .pointer none, .pointer none, .string ⟨([] : List UInt8).toArray⟩] := by kernel_rfl
theorem sh157 : shp Proofs.Try.prog 157 = .struct [(0, 1, false), (1, 1, false), (2, 1, false), (3, 1, false)] 4 := by kernel_rfl
theorem zt157 : zeroT Proofs.Try.prog 157 = some [.pointer none, .pointer none, .pointer none, .string ⟨([] : List UInt8).toArray⟩] := by kernel_rfl
theorem so157 : szOk Proofs.Try.prog 157 = True := eq_true (szOk_of (n := 4) sh157 (by kernel_rfl) (by decide) (by decide))
theorem zs157 : zsT Proofs.Try.prog 157 = some [.pointer none, .pointer none, .pointer none, .string ⟨([] : List UInt8).toArray⟩] := by kernel_rfl
theorem sh159 : shp Proofs.Try.prog 159 = .struct [(0, 0, true)] 0 := by kernel_rfl
theorem zt159 : zeroT Proofs.Try.prog 159 = some [] := by kernel_rfl
theorem zs159 : zsT Proofs.Try.prog 159 = some [] := by kernel_rfl
theorem sh160 : shp Proofs.Try.prog 160 = .struct [(0, 0, true)] 0 := by kernel_rfl
theorem zt160 : zeroT Proofs.Try.prog 160 = some [] := by kernel_rfl
theorem zs160 : zsT Proofs.Try.prog 160 = some [] := by kernel_rfl
theorem sh162 : shp Proofs.Try.prog 162 = .int .u32 := by kernel_rfl
theorem so162 : szOk Proofs.Try.prog 162 = True := eq_true (szOk_of (n := 1) sh162 (by kernel_rfl) (by decide) (by decide))
theorem zs162 : zsT Proofs.Try.prog 162 = some [.int .u32 0] := by kernel_rfl
theorem sh163 : shp Proofs.Try.prog 163 = .int .u8 := by kernel_rfl
theorem so163 : szOk Proofs.Try.prog 163 = True := eq_true (szOk_of (n := 1) sh163 (by kernel_rfl) (by decide) (by decide))
theorem zs163 : zsT Proofs.Try.prog 163 = some [.int .u8 0] := by kernel_rfl
theorem sh164 : shp Proofs.Try.prog 164 = .int .u8 := by kernel_rfl
theorem so164 : szOk Proofs.Try.prog 164 = True := eq_true (szOk_of (n := 1) sh164 (by kernel_rfl) (by decide) (by decide))
theorem zs164 : zsT Proofs.Try.prog 164 = some [.int .u8 0] := by kernel_rfl
theorem sh167 : shp Proofs.Try.prog 167 = .int .i32 := by kernel_rfl
theorem so167 : szOk Proofs.Try.prog 167 = True := eq_true (szOk_of (n := 1) sh167 (by kernel_rfl) (by decide) (by decide))
theorem zs167 : zsT Proofs.Try.prog 167 = some [.int .i32 0] := by kernel_rfl
theorem sh168 : shp Proofs.Try.prog 168 = .int .i32 := by kernel_rfl
theorem so168 : szOk Proofs.Try.prog 168 = True := eq_true (szOk_of (n := 1) sh168 (by kernel_rfl) (by decide) (by decide))
theorem zs168 : zsT Proofs.Try.prog 168 = some [.int .i32 0] := by kernel_rfl
theorem sh169 : shp Proofs.Try.prog 169 = .struct [(0, 1, false), (1, 1, false), (2, 1, false), (3, 1, false), (4, 1, false), (5, 1, false), (6, 1, false), (7, 1, false), (8, 1, false), (9, 1, false), (10, 1, false)] 11 := by kernel_rfl
theorem zt169 : zeroT Proofs.Try.prog 169 = some [.int .u64 0, .int .u64 0, .int .u32 0, .int .u8 0, .int .u8 0, .int .u8 0, .int .u8 0, .nilFunc, .pointer none, .int .i32 0, .int .i32 0] := by kernel_rfl
theorem so169 : szOk Proofs.Try.prog 169 = True := eq_true (szOk_of (n := 11) sh169 (by kernel_rfl) (by decide) (by decide))
theorem sh170 : shp Proofs.Try.prog 170 = .struct [(0, 1, false), (1, 1, false), (2, 1, false), (3, 1, false), (4, 1, false), (5, 1, false), (6, 1, false), (7, 1, false), (8, 1, false), (9, 1, false), (10, 1, false)] 11 := by kernel_rfl
theorem zt170 : zeroT Proofs.Try.prog 170 = some [.int .u64 0, .int .u64 0, .int .u32 0, .int .u8 0, .int .u8 0, .int .u8 0, .int .u8 0, .nilFunc, .pointer none, .int .i32 0, .int .i32 0] := by kernel_rfl
theorem so170 : szOk Proofs.Try.prog 170 = True := eq_true (szOk_of (n := 11) sh170 (by kernel_rfl) (by decide) (by decide))
theorem eq7 : eqT Proofs.Try.prog 7 = some [.int .i64, .int .i64, .bool, .int .u8] := by kernel_rfl
theorem eq8 : eqT Proofs.Try.prog 8 = some [.int .i64, .int .i64, .bool, .int .u8] := by kernel_rfl
theorem eq40 : eqT Proofs.Try.prog 40 = some [.bool, .int .i64] := by kernel_rfl
theorem eq41 : eqT Proofs.Try.prog 41 = some [.bool, .int .i64] := by kernel_rfl
theorem eq55 : eqT Proofs.Try.prog 55 = some [.int .i64, .str] := by kernel_rfl
theorem eq56 : eqT Proofs.Try.prog 56 = some [.int .i64, .str] := by kernel_rfl
theorem eq72 : eqT Proofs.Try.prog 72 = some [.bool, .int .i64, .int .i64] := by kernel_rfl
theorem eq73 : eqT Proofs.Try.prog 73 = some [.bool, .int .i64, .int .i64] := by kernel_rfl
theorem eq74 : eqT Proofs.Try.prog 74 = some [.bool, .int .i64, .int .i64, .str] := by kernel_rfl
theorem eq75 : eqT Proofs.Try.prog 75 = some [.bool, .int .i64, .int .i64, .str] := by kernel_rfl
theorem eq96 : eqT Proofs.Try.prog 96 = some [.int .i64, .int .i64] := by kernel_rfl
theorem eq97 : eqT Proofs.Try.prog 97 = some [.int .i64, .int .i64] := by kernel_rfl
theorem eq127 : eqT Proofs.Try.prog 127 = some [.int .i64, .int .i64] := by kernel_rfl
theorem eq128 : eqT Proofs.Try.prog 128 = some [.int .i64, .int .i64] := by kernel_rfl
theorem shs : ((((((shp Proofs.Try.prog 2 = .int .i64) ∧ ((shp Proofs.Try.prog 3 = .int .i64) ∧ (shp Proofs.Try.prog 4 = .bool))) ∧ ((shp Proofs.Try.prog 5 = .int .u8) ∧ ((shp Proofs.Try.prog 6 = .int .u8) ∧ (shp Proofs.Try.prog 7 = .struct [(0, 1, false), (1, 1, false), (2, 1, false), (3, 1, false)] 4)))) ∧ (((shp Proofs.Try.prog 8 = .struct [(0, 1, false), (1, 1, false), (2, 1, false), (3, 1, false)] 4) ∧ ((shp Proofs.Try.prog 9 = .str) ∧ (shp Proofs.Try.prog 10 = .str))) ∧ (((shp Proofs.Try.prog 11 = .str) ∧ (shp Proofs.Try.prog 12 = .int .u64)) ∧ ((shp Proofs.Try.prog 13 = .struct [(0, 1, false), (1, 1, false)] 2) ∧ (shp Proofs.Try.prog 14 = .struct [(0, 1, false), (1, 1, false)] 2))))) ∧ ((((shp Proofs.Try.prog 18 = .struct [(0, 1, false)] 1) ∧ ((shp Proofs.Try.prog 19 = .struct [(0, 1, false)] 1) ∧ (shp Proofs.Try.prog 21 = .int .i32))) ∧ (((shp Proofs.Try.prog 22 = .int .i64) ∧ (shp Proofs.Try.prog 31 = .slice 4 1 false)) ∧ ((shp Proofs.Try.prog 36 = .slice 41 2 true) ∧ (shp Proofs.Try.prog 40 = .struct [(0, 1, false), (1, 1, false)] 2)))) ∧ (((shp Proofs.Try.prog 41 = .struct [(0, 1, false), (1, 1, false)] 2) ∧ ((shp Proofs.Try.prog 44 = .slice 3 1 false) ∧ (shp Proofs.Try.prog 55 = .struct [(0, 1, false), (1, 1, false)] 2))) ∧ (((shp Proofs.Try.prog 56 = .struct [(0, 1, false), (1, 1, false)] 2) ∧ (shp Proofs.Try.prog 62 = .slice 128 2 true)) ∧ ((shp Proofs.Try.prog 63 = .struct [(0, 1, false), (1, 1, false), (2, 1, false), (3, 1, false)] 4) ∧ (shp Proofs.Try.prog 64 = .struct [(0, 1, false), (1, 1, false), (2, 1, false), (3, 1, false)] 4)))))) ∧ (((((shp Proofs.Try.prog 71 = .slice 79 1 false) ∧ ((shp Proofs.Try.prog 72 = .struct [(0, 1, false), (1, 1, false), (2, 1, false)] 3) ∧ (shp Proofs.Try.prog 73 = .struct [(0, 1, false), (1, 1, false), (2, 1, false)] 3))) ∧ (((shp Proofs.Try.prog 74 = .struct [(0, 3, true), (3, 1, false)] 4) ∧ (shp Proofs.Try.prog 75 = .struct [(0, 3, true), (3, 1, false)] 4)) ∧ ((shp Proofs.Try.prog 79 = .slice 75 4 true) ∧ (shp Proofs.Try.prog 83 = .slice 9 1 false)))) ∧ (((shp Proofs.Try.prog 95 = .slice 97 2 true) ∧ ((shp Proofs.Try.prog 96 = .struct [(0, 1, false), (1, 1, false)] 2) ∧ (shp Proofs.Try.prog 97 = .struct [(0, 1, false), (1, 1, false)] 2))) ∧ (((shp Proofs.Try.prog 112 = .int .u64) ∧ (shp Proofs.Try.prog 121 = .int .u64)) ∧ ((shp Proofs.Try.prog 122 = .slice 5 1 false) ∧ (shp Proofs.Try.prog 127 = .struct [(0, 1, false), (1, 1, false)] 2))))) ∧ ((((shp Proofs.Try.prog 128 = .struct [(0, 1, false), (1, 1, false)] 2) ∧ ((shp Proofs.Try.prog 136 = .slice 44 1 false) ∧ (shp Proofs.Try.prog 144 = .slice 95 1 false))) ∧ (((shp Proofs.Try.prog 156 = .struct [(0, 1, false), (1, 1, false), (2, 1, false), (3, 1, false)] 4) ∧ (shp Proofs.Try.prog 157 = .struct [(0, 1, false), (1, 1, false), (2, 1, false), (3, 1, false)] 4)) ∧ ((shp Proofs.Try.prog 159 = .struct [(0, 0, true)] 0) ∧ (shp Proofs.Try.prog 160 = .struct [(0, 0, true)] 0)))) ∧ (((shp Proofs.Try.prog 162 = .int .u32) ∧ ((shp Proofs.Try.prog 163 = .int .u8) ∧ (shp Proofs.Try.prog 164 = .int .u8))) ∧ (((shp Proofs.Try.prog 167 = .int .i32) ∧ (shp Proofs.Try.prog 168 = .int .i32)) ∧ ((shp Proofs.Try.prog 169 = .struct [(0, 1, false), (1, 1, false), (2, 1, false), (3, 1, false), (4, 1, false), (5, 1, false), (6, 1, false), (7, 1, false), (8, 1, false), (9, 1, false), (10, 1, false)] 11) ∧ (shp Proofs.Try.prog 170 = .struct [(0, 1, false), (1, 1, false), (2, 1, false), (3, 1, false), (4, 1, false), (5, 1, false), (6, 1, false), (7, 1, false), (8, 1, false), (9, 1, false), (10, 1, false)] 11))))))) :=
  ⟨⟨⟨⟨⟨sh2, ⟨sh3, sh4⟩⟩, ⟨sh5, ⟨sh6, sh7⟩⟩⟩, ⟨⟨sh8, ⟨sh9, sh10⟩⟩, ⟨⟨sh11, sh12⟩, ⟨sh13, sh14⟩⟩⟩⟩, ⟨⟨⟨sh18, ⟨sh19, sh21⟩⟩, ⟨⟨sh22, sh31⟩, ⟨sh36, sh40⟩⟩⟩, ⟨⟨sh41, ⟨sh44, sh55⟩⟩, ⟨⟨sh56, sh62⟩, ⟨sh63, sh64⟩⟩⟩⟩⟩, ⟨⟨⟨⟨sh71, ⟨sh72, sh73⟩⟩, ⟨⟨sh74, sh75⟩, ⟨sh79, sh83⟩⟩⟩, ⟨⟨sh95, ⟨sh96, sh97⟩⟩, ⟨⟨sh112, sh121⟩, ⟨sh122, sh127⟩⟩⟩⟩, ⟨⟨⟨sh128, ⟨sh136, sh144⟩⟩, ⟨⟨sh156, sh157⟩, ⟨sh159, sh160⟩⟩⟩, ⟨⟨sh162, ⟨sh163, sh164⟩⟩, ⟨⟨sh167, sh168⟩, ⟨sh169, sh170⟩⟩⟩⟩⟩⟩
theorem zts : (((((zeroT Proofs.Try.prog 7 = some [.int .i64 0, .int .i64 0, .bool false, .int .u8 0]) ∧ ((zeroT Proofs.Try.prog 8 = some [.int .i64 0, .int .i64 0, .bool false, .int .u8 0]) ∧ (zeroT Proofs.Try.prog 13 = some [.string ⟨([] : List UInt8).toArray⟩, .int .u64 0]))) ∧ ((zeroT Proofs.Try.prog 14 = some [.string ⟨([] : List UInt8).toArray⟩, .int .u64 0]) ∧ ((zeroT Proofs.Try.prog 18 = some [.pointer none]) ∧ (zeroT Proofs.Try.prog 19 = some [.pointer none])))) ∧ (((zeroT Proofs.Try.prog 40 = some [.bool false, .int .i64 0]) ∧ ((zeroT Proofs.Try.prog 41 = some [.bool false, .int .i64 0]) ∧ (zeroT Proofs.Try.prog 55 = some [.int .i64 0, .string ⟨([] : List UInt8).toArray⟩]))) ∧ (((zeroT Proofs.Try.prog 56 = some [.int .i64 0, .string ⟨([] : List UInt8).toArray⟩]) ∧ (zeroT Proofs.Try.prog 63 = some [.int .i64 0, .slice none 0 0, .int .i64 0, .int .i64 0])) ∧ ((zeroT Proofs.Try.prog 64 = some [.int .i64 0, .slice none 0 0, .int .i64 0, .int .i64 0]) ∧ (zeroT Proofs.Try.prog 72 = some [.bool false, .int .i64 0, .int .i64 0]))))) ∧ ((((zeroT Proofs.Try.prog 73 = some [.bool false, .int .i64 0, .int .i64 0]) ∧ ((zeroT Proofs.Try.prog 74 = some [.bool false, .int .i64 0, .int .i64 0, .string ⟨([] : List UInt8).toArray⟩]) ∧ (zeroT Proofs.Try.prog 75 = some [.bool false, .int .i64 0, .int .i64 0, .string ⟨([] : List UInt8).toArray⟩]))) ∧ ((zeroT Proofs.Try.prog 96 = some [.int .i64 0, .int .i64 0]) ∧ ((zeroT Proofs.Try.prog 97 = some [.int .i64 0, .int .i64 0]) ∧ (zeroT Proofs.Try.prog 127 = some [.int .i64 0, .int .i64 0])))) ∧ (((zeroT Proofs.Try.prog 128 = some [.int .i64 0, .int .i64 0]) ∧ ((zeroT Proofs.Try.prog 156 = some [.pointer none, .pointer none, .pointer none, .string ⟨([] : List UInt8).toArray⟩]) ∧ (zeroT Proofs.Try.prog 157 = some [.pointer none, .pointer none, .pointer none, .string ⟨([] : List UInt8).toArray⟩]))) ∧ (((zeroT Proofs.Try.prog 159 = some []) ∧ (zeroT Proofs.Try.prog 160 = some [])) ∧ ((zeroT Proofs.Try.prog 169 = some [.int .u64 0, .int .u64 0, .int .u32 0, .int .u8 0, .int .u8 0, .int .u8 0, .int .u8 0, .nilFunc, .pointer none, .int .i32 0, .int .i32 0]) ∧ (zeroT Proofs.Try.prog 170 = some [.int .u64 0, .int .u64 0, .int .u32 0, .int .u8 0, .int .u8 0, .int .u8 0, .int .u8 0, .nilFunc, .pointer none, .int .i32 0, .int .i32 0])))))) :=
  ⟨⟨⟨⟨zt7, ⟨zt8, zt13⟩⟩, ⟨zt14, ⟨zt18, zt19⟩⟩⟩, ⟨⟨zt40, ⟨zt41, zt55⟩⟩, ⟨⟨zt56, zt63⟩, ⟨zt64, zt72⟩⟩⟩⟩, ⟨⟨⟨zt73, ⟨zt74, zt75⟩⟩, ⟨zt96, ⟨zt97, zt127⟩⟩⟩, ⟨⟨zt128, ⟨zt156, zt157⟩⟩, ⟨⟨zt159, zt160⟩, ⟨zt169, zt170⟩⟩⟩⟩⟩
theorem sos : ((((((szOk Proofs.Try.prog 2 = True) ∧ ((szOk Proofs.Try.prog 3 = True) ∧ (szOk Proofs.Try.prog 4 = True))) ∧ ((szOk Proofs.Try.prog 5 = True) ∧ ((szOk Proofs.Try.prog 6 = True) ∧ (szOk Proofs.Try.prog 7 = True)))) ∧ (((szOk Proofs.Try.prog 8 = True) ∧ ((szOk Proofs.Try.prog 9 = True) ∧ (szOk Proofs.Try.prog 10 = True))) ∧ (((szOk Proofs.Try.prog 11 = True) ∧ (szOk Proofs.Try.prog 12 = True)) ∧ ((szOk Proofs.Try.prog 13 = True) ∧ (szOk Proofs.Try.prog 14 = True))))) ∧ ((((szOk Proofs.Try.prog 18 = True) ∧ ((szOk Proofs.Try.prog 19 = True) ∧ (szOk Proofs.Try.prog 21 = True))) ∧ ((szOk Proofs.Try.prog 22 = True) ∧ ((szOk Proofs.Try.prog 31 = True) ∧ (szOk Proofs.Try.prog 36 = True)))) ∧ (((szOk Proofs.Try.prog 40 = True) ∧ ((szOk Proofs.Try.prog 41 = True) ∧ (szOk Proofs.Try.prog 44 = True))) ∧ (((szOk Proofs.Try.prog 55 = True) ∧ (szOk Proofs.Try.prog 56 = True)) ∧ ((szOk Proofs.Try.prog 62 = True) ∧ (szOk Proofs.Try.prog 63 = True)))))) ∧ (((((szOk Proofs.Try.prog 64 = True) ∧ ((szOk Proofs.Try.prog 71 = True) ∧ (szOk Proofs.Try.prog 72 = True))) ∧ ((szOk Proofs.Try.prog 73 = True) ∧ ((szOk Proofs.Try.prog 74 = True) ∧ (szOk Proofs.Try.prog 75 = True)))) ∧ (((szOk Proofs.Try.prog 79 = True) ∧ ((szOk Proofs.Try.prog 83 = True) ∧ (szOk Proofs.Try.prog 95 = True))) ∧ (((szOk Proofs.Try.prog 96 = True) ∧ (szOk Proofs.Try.prog 97 = True)) ∧ ((szOk Proofs.Try.prog 112 = True) ∧ (szOk Proofs.Try.prog 121 = True))))) ∧ ((((szOk Proofs.Try.prog 122 = True) ∧ ((szOk Proofs.Try.prog 127 = True) ∧ (szOk Proofs.Try.prog 128 = True))) ∧ (((szOk Proofs.Try.prog 136 = True) ∧ (szOk Proofs.Try.prog 144 = True)) ∧ ((szOk Proofs.Try.prog 156 = True) ∧ (szOk Proofs.Try.prog 157 = True)))) ∧ (((szOk Proofs.Try.prog 162 = True) ∧ ((szOk Proofs.Try.prog 163 = True) ∧ (szOk Proofs.Try.prog 164 = True))) ∧ (((szOk Proofs.Try.prog 167 = True) ∧ (szOk Proofs.Try.prog 168 = True)) ∧ ((szOk Proofs.Try.prog 169 = True) ∧ (szOk Proofs.Try.prog 170 = True))))))) :=
  ⟨⟨⟨⟨⟨so2, ⟨so3, so4⟩⟩, ⟨so5, ⟨so6, so7⟩⟩⟩, ⟨⟨so8, ⟨so9, so10⟩⟩, ⟨⟨so11, so12⟩, ⟨so13, so14⟩⟩⟩⟩, ⟨⟨⟨so18, ⟨so19, so21⟩⟩, ⟨so22, ⟨so31, so36⟩⟩⟩, ⟨⟨so40, ⟨so41, so44⟩⟩, ⟨⟨so55, so56⟩, ⟨so62, so63⟩⟩⟩⟩⟩, ⟨⟨⟨⟨so64, ⟨so71, so72⟩⟩, ⟨so73, ⟨so74, so75⟩⟩⟩, ⟨⟨so79, ⟨so83, so95⟩⟩, ⟨⟨so96, so97⟩, ⟨so112, so121⟩⟩⟩⟩, ⟨⟨⟨so122, ⟨so127, so128⟩⟩, ⟨⟨so136, so144⟩, ⟨so156, so157⟩⟩⟩, ⟨⟨so162, ⟨so163, so164⟩⟩, ⟨⟨so167, so168⟩, ⟨so169, so170⟩⟩⟩⟩⟩⟩
theorem sls : ((((slT Proofs.Try.prog 31 = some (4, 1, 1, [.bool false])) ∧ (slT Proofs.Try.prog 36 = some (41, 2, 16, [.bool false, .int .i64 0]))) ∧ ((slT Proofs.Try.prog 44 = some (3, 1, 8, [.int .i64 0])) ∧ ((slT Proofs.Try.prog 62 = some (128, 2, 16, [.int .i64 0, .int .i64 0])) ∧ (slT Proofs.Try.prog 71 = some (79, 1, 24, [.slice none 0 0]))))) ∧ (((slT Proofs.Try.prog 79 = some (75, 4, 40, [.bool false, .int .i64 0, .int .i64 0, .string ⟨([] : List UInt8).toArray⟩])) ∧ ((slT Proofs.Try.prog 83 = some (9, 1, 16, [.string ⟨([] : List UInt8).toArray⟩])) ∧ (slT Proofs.Try.prog 95 = some (97, 2, 16, [.int .i64 0, .int .i64 0])))) ∧ ((slT Proofs.Try.prog 122 = some (5, 1, 1, [.int .u8 0])) ∧ ((slT Proofs.Try.prog 136 = some (44, 1, 24, [.slice none 0 0])) ∧ (slT Proofs.Try.prog 144 = some (95, 1, 24, [.slice none 0 0])))))) :=
  ⟨⟨⟨sl31, sl36⟩, ⟨sl44, ⟨sl62, sl71⟩⟩⟩, ⟨⟨sl79, ⟨sl83, sl95⟩⟩, ⟨sl122, ⟨sl136, sl144⟩⟩⟩⟩
theorem zss : ((((((zsT Proofs.Try.prog 2 = some [.int .i64 0]) ∧ ((zsT Proofs.Try.prog 3 = some [.int .i64 0]) ∧ (zsT Proofs.Try.prog 4 = some [.bool false]))) ∧ ((zsT Proofs.Try.prog 5 = some [.int .u8 0]) ∧ ((zsT Proofs.Try.prog 6 = some [.int .u8 0]) ∧ (zsT Proofs.Try.prog 7 = some [.int .i64 0, .int .i64 0, .bool false, .int .u8 0])))) ∧ (((zsT Proofs.Try.prog 8 = some [.int .i64 0, .int .i64 0, .bool false, .int .u8 0]) ∧ ((zsT Proofs.Try.prog 9 = some [.string ⟨([] : List UInt8).toArray⟩]) ∧ (zsT Proofs.Try.prog 10 = some [.string ⟨([] : List UInt8).toArray⟩]))) ∧ (((zsT Proofs.Try.prog 11 = some [.string ⟨([] : List UInt8).toArray⟩]) ∧ (zsT Proofs.Try.prog 12 = some [.int .u64 0])) ∧ ((zsT Proofs.Try.prog 13 = some [.string ⟨([] : List UInt8).toArray⟩, .int .u64 0]) ∧ (zsT Proofs.Try.prog 14 = some [.string ⟨([] : List UInt8).toArray⟩, .int .u64 0]))))) ∧ ((((zsT Proofs.Try.prog 18 = some [.pointer none]) ∧ ((zsT Proofs.Try.prog 19 = some [.pointer none]) ∧ (zsT Proofs.Try.prog 21 = some [.int .i32 0]))) ∧ ((zsT Proofs.Try.prog 22 = some [.int .i64 0]) ∧ ((zsT Proofs.Try.prog 31 = some [.slice none 0 0]) ∧ (zsT Proofs.Try.prog 36 = some [.slice none 0 0])))) ∧ (((zsT Proofs.Try.prog 40 = some [.bool false, .int .i64 0]) ∧ ((zsT Proofs.Try.prog 41 = some [.bool false, .int .i64 0]) ∧ (zsT Proofs.Try.prog 44 = some [.slice none 0 0]))) ∧ (((zsT Proofs.Try.prog 55 = some [.int .i64 0, .string ⟨([] : List UInt8).toArray⟩]) ∧ (zsT Proofs.Try.prog 56 = some [.int .i64 0, .string ⟨([] : List UInt8).toArray⟩])) ∧ ((zsT Proofs.Try.prog 62 = some [.slice none 0 0]) ∧ (zsT Proofs.Try.prog 63 = some [.int .i64 0, .slice none 0 0, .int .i64 0, .int .i64 0])))))) ∧ (((((zsT Proofs.Try.prog 64 = some [.int .i64 0, .slice none 0 0, .int .i64 0, .int .i64 0]) ∧ ((zsT Proofs.Try.prog 71 = some [.slice none 0 0]) ∧ (zsT Proofs.Try.prog 72 = some [.bool false, .int .i64 0, .int .i64 0]))) ∧ ((zsT Proofs.Try.prog 73 = some [.bool false, .int .i64 0, .int .i64 0]) ∧ ((zsT Proofs.Try.prog 74 = some [.bool false, .int .i64 0, .int .i64 0, .string ⟨([] : List UInt8).toArray⟩]) ∧ (zsT Proofs.Try.prog 75 = some [.bool false, .int .i64 0, .int .i64 0, .string ⟨([] : List UInt8).toArray⟩])))) ∧ (((zsT Proofs.Try.prog 79 = some [.slice none 0 0]) ∧ ((zsT Proofs.Try.prog 83 = some [.slice none 0 0]) ∧ (zsT Proofs.Try.prog 95 = some [.slice none 0 0]))) ∧ (((zsT Proofs.Try.prog 96 = some [.int .i64 0, .int .i64 0]) ∧ (zsT Proofs.Try.prog 97 = some [.int .i64 0, .int .i64 0])) ∧ ((zsT Proofs.Try.prog 112 = some [.int .u64 0]) ∧ (zsT Proofs.Try.prog 121 = some [.int .u64 0]))))) ∧ ((((zsT Proofs.Try.prog 122 = some [.slice none 0 0]) ∧ ((zsT Proofs.Try.prog 127 = some [.int .i64 0, .int .i64 0]) ∧ (zsT Proofs.Try.prog 128 = some [.int .i64 0, .int .i64 0]))) ∧ (((zsT Proofs.Try.prog 136 = some [.slice none 0 0]) ∧ (zsT Proofs.Try.prog 144 = some [.slice none 0 0])) ∧ ((zsT Proofs.Try.prog 156 = some [.pointer none, .pointer none, .pointer none, .string ⟨([] : List UInt8).toArray⟩]) ∧ (zsT Proofs.Try.prog 157 = some [.pointer none, .pointer none, .pointer none, .string ⟨([] : List UInt8).toArray⟩])))) ∧ (((zsT Proofs.Try.prog 159 = some []) ∧ ((zsT Proofs.Try.prog 160 = some []) ∧ (zsT Proofs.Try.prog 162 = some [.int .u32 0]))) ∧ (((zsT Proofs.Try.prog 163 = some [.int .u8 0]) ∧ (zsT Proofs.Try.prog 164 = some [.int .u8 0])) ∧ ((zsT Proofs.Try.prog 167 = some [.int .i32 0]) ∧ (zsT Proofs.Try.prog 168 = some [.int .i32 0]))))))) :=
  ⟨⟨⟨⟨⟨zs2, ⟨zs3, zs4⟩⟩, ⟨zs5, ⟨zs6, zs7⟩⟩⟩, ⟨⟨zs8, ⟨zs9, zs10⟩⟩, ⟨⟨zs11, zs12⟩, ⟨zs13, zs14⟩⟩⟩⟩, ⟨⟨⟨zs18, ⟨zs19, zs21⟩⟩, ⟨zs22, ⟨zs31, zs36⟩⟩⟩, ⟨⟨zs40, ⟨zs41, zs44⟩⟩, ⟨⟨zs55, zs56⟩, ⟨zs62, zs63⟩⟩⟩⟩⟩, ⟨⟨⟨⟨zs64, ⟨zs71, zs72⟩⟩, ⟨zs73, ⟨zs74, zs75⟩⟩⟩, ⟨⟨zs79, ⟨zs83, zs95⟩⟩, ⟨⟨zs96, zs97⟩, ⟨zs112, zs121⟩⟩⟩⟩, ⟨⟨⟨zs122, ⟨zs127, zs128⟩⟩, ⟨⟨zs136, zs144⟩, ⟨zs156, zs157⟩⟩⟩, ⟨⟨zs159, ⟨zs160, zs162⟩⟩, ⟨⟨zs163, zs164⟩, ⟨zs167, zs168⟩⟩⟩⟩⟩⟩
theorem eqs : ((((eqT Proofs.Try.prog 7 = some [.int .i64, .int .i64, .bool, .int .u8]) ∧ ((eqT Proofs.Try.prog 8 = some [.int .i64, .int .i64, .bool, .int .u8]) ∧ (eqT Proofs.Try.prog 40 = some [.bool, .int .i64]))) ∧ (((eqT Proofs.Try.prog 41 = some [.bool, .int .i64]) ∧ (eqT Proofs.Try.prog 55 = some [.int .i64, .str])) ∧ ((eqT Proofs.Try.prog 56 = some [.int .i64, .str]) ∧ (eqT Proofs.Try.prog 72 = some [.bool, .int .i64, .int .i64])))) ∧ (((eqT Proofs.Try.prog 73 = some [.bool, .int .i64, .int .i64]) ∧ ((eqT Proofs.Try.prog 74 = some [.bool, .int .i64, .int .i64, .str]) ∧ (eqT Proofs.Try.prog 75 = some [.bool, .int .i64, .int .i64, .str]))) ∧ (((eqT Proofs.Try.prog 96 = some [.int .i64, .int .i64]) ∧ (eqT Proofs.Try.prog 97 = some [.int .i64, .int .i64])) ∧ ((eqT Proofs.Try.prog 127 = some [.int .i64, .int .i64]) ∧ (eqT Proofs.Try.prog 128 = some [.int .i64, .int .i64]))))) :=
  ⟨⟨⟨eq7, ⟨eq8, eq40⟩⟩, ⟨⟨eq41, eq55⟩, ⟨eq56, eq72⟩⟩⟩, ⟨⟨eq73, ⟨eq74, eq75⟩⟩, ⟨⟨eq96, eq97⟩, ⟨eq127, eq128⟩⟩⟩⟩
end Go.X
