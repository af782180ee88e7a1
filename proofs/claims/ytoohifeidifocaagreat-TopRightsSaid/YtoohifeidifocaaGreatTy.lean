/- The shapes of the types of this translation. Conditions: none. -/
import Derived.Test.YtoohifeidifocaaGreatProg
import Derived.KernelRfl
import Derived.Test.YtoohifeidifocaaGreatFwB
set_option linter.unusedVariables false
namespace Go.X
open Go
theorem sh2 : shp Proofs.Tryz.prog 2 = .int .i64 := by kernel_rfl
theorem so2 : szOk Proofs.Tryz.prog 2 = True := eq_true (szOk_of (n := 1) sh2 (by kernel_rfl) (by decide) (by decide))
theorem zs2 : zsT Proofs.Tryz.prog 2 = some [.int .i64 0] := by kernel_rfl
theorem sh3 : shp Proofs.Tryz.prog 3 = .int .i64 := by kernel_rfl
theorem so3 : szOk Proofs.Tryz.prog 3 = True := eq_true (szOk_of (n := 1) sh3 (by kernel_rfl) (by decide) (by decide))
theorem zs3 : zsT Proofs.Tryz.prog 3 = some [.int .i64 0] := by kernel_rfl
theorem sh4 : shp Proofs.Tryz.prog 4 = .bool := by kernel_rfl
theorem so4 : szOk Proofs.Tryz.prog 4 = True := eq_true (szOk_of (n := 1) sh4 (by kernel_rfl) (by decide) (by decide))
theorem zs4 : zsT Proofs.Tryz.prog 4 = some [.bool false] := by kernel_rfl
theorem sh5 : shp Proofs.Tryz.prog 5 = .int .u8 := by kernel_rfl
theorem so5 : szOk Proofs.Tryz.prog 5 = True := eq_true (szOk_of (n := 1) sh5 (by kernel_rfl) (by decide) (by decide))
theorem zs5 : zsT Proofs.Tryz.prog 5 = some [.int .u8 0] := by kernel_rfl
theorem sh6 : shp Proofs.Tryz.prog 6 = .int .u8 := by kernel_rfl
theorem so6 : szOk Proofs.Tryz.prog 6 = True := eq_true (szOk_of (n := 1) sh6 (by kernel_rfl) (by decide) (by decide))
theorem zs6 : zsT Proofs.Tryz.prog 6 = some [.int .u8 0] := by kernel_rfl
theorem sh7 : shp Proofs.Tryz.prog 7 = .struct [(0, 1, false), (1, 1, false), (2, 1, false), (3, 1, false)] 4 := by kernel_rfl
theorem zt7 : zeroT Proofs.Tryz.prog 7 = some [.int .i64 0, .int .i64 0, .bool false, .int .u8 0] := by kernel_rfl
theorem so7 : szOk Proofs.Tryz.prog 7 = True := eq_true (szOk_of (n := 4) sh7 (by kernel_rfl) (by decide) (by decide))
theorem zs7 : zsT Proofs.Tryz.prog 7 = some [.int .i64 0, .int .i64 0, .bool false, .int .u8 0] := by kernel_rfl
theorem sh8 : shp Proofs.Tryz.prog 8 = .struct [(0, 1, false), (1, 1, false), (2, 1, false), (3, 1, false)] 4 := by kernel_rfl
theorem zt8 : zeroT Proofs.Tryz.prog 8 = some [.int .i64 0, .int .i64 0, .bool false, .int .u8 0] := by kernel_rfl
theorem so8 : szOk Proofs.Tryz.prog 8 = True := eq_true (szOk_of (n := 4) sh8 (by kernel_rfl) (by decide) (by decide))
theorem zs8 : zsT Proofs.Tryz.prog 8 = some [.int .i64 0, .int .i64 0, .bool false, .int .u8 0] := by kernel_rfl
theorem sh9 : shp Proofs.Tryz.prog 9 = .str := by kernel_rfl
theorem so9 : szOk Proofs.Tryz.prog 9 = True := eq_true (szOk_of (n := 1) sh9 (by kernel_rfl) (by decide) (by decide))
theorem zs9 : zsT Proofs.Tryz.prog 9 = some [.string ⟨([] : List UInt8).toArray⟩] := by kernel_rfl
theorem sh10 : shp Proofs.Tryz.prog 10 = .str := by kernel_rfl
theorem so10 : szOk Proofs.Tryz.prog 10 = True := eq_true (szOk_of (n := 1) sh10 (by kernel_rfl) (by decide) (by decide))
theorem zs10 : zsT Proofs.Tryz.prog 10 = some [.string ⟨([] : List UInt8).toArray⟩] := by kernel_rfl
theorem sh11 : shp Proofs.Tryz.prog 11 = .str := by kernel_rfl
theorem so11 : szOk Proofs.Tryz.prog 11 = True := eq_true (szOk_of (n := 1) sh11 (by kernel_rfl) (by decide) (by decide))
theorem zs11 : zsT Proofs.Tryz.prog 11 = some [.string ⟨([] : List UInt8).toArray⟩] := by kernel_rfl
theorem sh12 : shp Proofs.Tryz.prog 12 = .int .u64 := by kernel_rfl
theorem so12 : szOk Proofs.Tryz.prog 12 = True := eq_true (szOk_of (n := 1) sh12 (by kernel_rfl) (by decide) (by decide))
theorem zs12 : zsT Proofs.Tryz.prog 12 = some [.int .u64 0] := by kernel_rfl
theorem sh13 : shp Proofs.Tryz.prog 13 = .struct [(0, 1, false), (1, 1, false)] 2 := by kernel_rfl
theorem zt13 : zeroT Proofs.Tryz.prog 13 = some [.string ⟨([] : List UInt8).toArray⟩, .int .u64 0] := by kernel_rfl
theorem so13 : szOk Proofs.Tryz.prog 13 = True := eq_true (szOk_of (n := 2) sh13 (by kernel_rfl) (by decide) (by decide))
theorem zs13 : zsT Proofs.Tryz.prog 13 = some [.string ⟨([] : List UInt8).toArray⟩, .int .u64 0] := by kernel_rfl
theorem sh14 : shp Proofs.Tryz.prog 14 = .struct [(0, 1, false), (1, 1, false)] 2 := by kernel_rfl
theorem zt14 : zeroT Proofs.Tryz.prog 14 = some [.string ⟨([] : List UInt8).toArray⟩, .int .u64 0] := by kernel_rfl
theorem so14 : szOk Proofs.Tryz.prog 14 = True := eq_true (szOk_of (n := 2) sh14 (by kernel_rfl) (by decide) (by decide))
theorem zs14 : zsT Proofs.Tryz.prog 14 = some [.string ⟨([] : List UInt8).toArray⟩, .int .u64 0] := by kernel_rfl
theorem sh18 : shp Proofs.Tryz.prog 18 = .struct [(0, 1, false)] 1 := by kernel_rfl
theorem zt18 : zeroT Proofs.Tryz.prog 18 = some [.pointer none] := by kernel_rfl
theorem so18 : szOk Proofs.Tryz.prog 18 = True := eq_true (szOk_of (n := 1) sh18 (by kernel_rfl) (by decide) (by decide))
theorem zs18 : zsT Proofs.Tryz.prog 18 = some [.pointer none] := by kernel_rfl
theorem sh19 : shp Proofs.Tryz.prog 19 = .struct [(0, 1, false)] 1 := by kernel_rfl
theorem zt19 : zeroT Proofs.Tryz.prog 19 = some [.pointer none] := by kernel_rfl
theorem so19 : szOk Proofs.Tryz.prog 19 = True := eq_true (szOk_of (n := 1) sh19 (by kernel_rfl) (by decide) (by decide))
theorem zs19 : zsT Proofs.Tryz.prog 19 = some [.pointer none] := by kernel_rfl
theorem sh21 : shp Proofs.Tryz.prog 21 = .int .i32 := by kernel_rfl
theorem so21 : szOk Proofs.Tryz.prog 21 = True := eq_true (szOk_of (n := 1) sh21 (by kernel_rfl) (by decide) (by decide))
theorem zs21 : zsT Proofs.Tryz.prog 21 = some [.int .i32 0] := by kernel_rfl
theorem sh22 : shp Proofs.Tryz.prog 22 = .slice 30 5 true := by kernel_rfl
theorem so22 : szOk Proofs.Tryz.prog 22 = True := eq_true (szOk_of (n := 1) sh22 (by kernel_rfl) (by decide) (by decide))
theorem sl22 : slT Proofs.Tryz.prog 22 = some (30, 5, 64, [.int .i64 0, .string ⟨([] : List UInt8).toArray⟩, .string ⟨([] : List UInt8).toArray⟩, .int .i64 0, .string ⟨([] : List UInt8).toArray⟩]) := by kernel_rfl
theorem zs22 : zsT Proofs.Tryz.prog 22 = some [.slice none 0 0] := by kernel_rfl
theorem sh23 : shp Proofs.Tryz.prog 23 = .slice 33 1 false := by kernel_rfl
theorem so23 : szOk Proofs.Tryz.prog 23 = True := eq_true (szOk_of (n := 1) sh23 (by kernel_rfl) (by decide) (by decide))
theorem sl23 : slT Proofs.Tryz.prog 23 = some (33, 1, 24, [.slice none 0 0]) := by kernel_rfl
theorem zs23 : zsT Proofs.Tryz.prog 23 = some [.slice none 0 0] := by kernel_rfl
theorem sh27 : shp Proofs.Tryz.prog 27 = .int .i64 := by kernel_rfl
theorem so27 : szOk Proofs.Tryz.prog 27 = True := eq_true (szOk_of (n := 1) sh27 (by kernel_rfl) (by decide) (by decide))
theorem zs27 : zsT Proofs.Tryz.prog 27 = some [.int .i64 0] := by kernel_rfl
theorem sh29 : shp Proofs.Tryz.prog 29 = .struct [(0, 1, false), (1, 1, false), (2, 1, false), (3, 1, false), (4, 1, false)] 5 := by kernel_rfl
theorem zt29 : zeroT Proofs.Tryz.prog 29 = some [.int .i64 0, .string ⟨([] : List UInt8).toArray⟩, .string ⟨([] : List UInt8).toArray⟩, .int .i64 0, .string ⟨([] : List UInt8).toArray⟩] := by kernel_rfl
theorem so29 : szOk Proofs.Tryz.prog 29 = True := eq_true (szOk_of (n := 5) sh29 (by kernel_rfl) (by decide) (by decide))
theorem zs29 : zsT Proofs.Tryz.prog 29 = some [.int .i64 0, .string ⟨([] : List UInt8).toArray⟩, .string ⟨([] : List UInt8).toArray⟩, .int .i64 0, .string ⟨([] : List UInt8).toArray⟩] := by kernel_rfl
theorem sh30 : shp Proofs.Tryz.prog 30 = .struct [(0, 1, false), (1, 1, false), (2, 1, false), (3, 1, false), (4, 1, false)] 5 := by kernel_rfl
theorem zt30 : zeroT Proofs.Tryz.prog 30 = some [.int .i64 0, .string ⟨([] : List UInt8).toArray⟩, .string ⟨([] : List UInt8).toArray⟩, .int .i64 0, .string ⟨([] : List UInt8).toArray⟩] := by kernel_rfl
theorem so30 : szOk Proofs.Tryz.prog 30 = True := eq_true (szOk_of (n := 5) sh30 (by kernel_rfl) (by decide) (by decide))
theorem zs30 : zsT Proofs.Tryz.prog 30 = some [.int .i64 0, .string ⟨([] : List UInt8).toArray⟩, .string ⟨([] : List UInt8).toArray⟩, .int .i64 0, .string ⟨([] : List UInt8).toArray⟩] := by kernel_rfl
theorem sh32 : shp Proofs.Tryz.prog 32 = .arr 4 1 4 := by kernel_rfl
theorem so32 : szOk Proofs.Tryz.prog 32 = True := eq_true (szOk_of (n := 4) sh32 (by kernel_rfl) (by decide) (by decide))
theorem zs32 : zsT Proofs.Tryz.prog 32 = some [.string ⟨([] : List UInt8).toArray⟩, .string ⟨([] : List UInt8).toArray⟩, .string ⟨([] : List UInt8).toArray⟩, .string ⟨([] : List UInt8).toArray⟩] := by kernel_rfl
theorem sh33 : shp Proofs.Tryz.prog 33 = .slice 3 1 false := by kernel_rfl
theorem so33 : szOk Proofs.Tryz.prog 33 = True := eq_true (szOk_of (n := 1) sh33 (by kernel_rfl) (by decide) (by decide))
theorem sl33 : slT Proofs.Tryz.prog 33 = some (3, 1, 8, [.int .i64 0]) := by kernel_rfl
theorem zs33 : zsT Proofs.Tryz.prog 33 = some [.slice none 0 0] := by kernel_rfl
theorem sh40 : shp Proofs.Tryz.prog 40 = .slice 80 2 true := by kernel_rfl
theorem so40 : szOk Proofs.Tryz.prog 40 = True := eq_true (szOk_of (n := 1) sh40 (by kernel_rfl) (by decide) (by decide))
theorem sl40 : slT Proofs.Tryz.prog 40 = some (80, 2, 16, [.int .i64 0, .int .i64 0]) := by kernel_rfl
theorem zs40 : zsT Proofs.Tryz.prog 40 = some [.slice none 0 0] := by kernel_rfl
theorem sh41 : shp Proofs.Tryz.prog 41 = .struct [(0, 1, false), (1, 1, false), (2, 1, false), (3, 1, false)] 4 := by kernel_rfl
theorem zt41 : zeroT Proofs.Tryz.prog 41 = some [.int .i64 0, .slice none 0 0, .int .i64 0, .int .i64 0] := by kernel_rfl
theorem so41 : szOk Proofs.Tryz.prog 41 = True := eq_true (szOk_of (n := 4) sh41 (by kernel_rfl) (by decide) (by decide))
theorem zs41 : zsT Proofs.Tryz.prog 41 = some [.int .i64 0, .slice none 0 0, .int .i64 0, .int .i64 0] := by kernel_rfl
theorem sh42 : shp Proofs.Tryz.prog 42 = .struct [(0, 1, false), (1, 1, false), (2, 1, false), (3, 1, false)] 4 := by kernel_rfl
theorem zt42 : zeroT Proofs.Tryz.prog 42 = some [.int .i64 0, .slice none 0 0, .int .i64 0, .int .i64 0] := by kernel_rfl
theorem so42 : szOk Proofs.Tryz.prog 42 = True := eq_true (szOk_of (n := 4) sh42 (by kernel_rfl) (by decide) (by decide))
theorem zs42 : zsT Proofs.Tryz.prog 42 = some [.int .i64 0, .slice none 0 0, .int .i64 0, .int .i64 0] := by kernel_rfl
theorem sh45 : shp Proofs.Tryz.prog 45 = .slice 113 4 true := by kernel_rfl
theorem so45 : szOk Proofs.Tryz.prog 45 = True := eq_true (szOk_of (n := 1) sh45 (by kernel_rfl) (by decide) (by decide))
theorem sl45 : slT Proofs.Tryz.prog 45 = some (113, 4, 40, [.int .i64 0, .int .i64 0, .string ⟨([] : List UInt8).toArray⟩, .int .i64 0]) := by kernel_rfl
theorem zs45 : zsT Proofs.Tryz.prog 45 = some [.slice none 0 0] := by kernel_rfl
theorem sh46 : shp Proofs.Tryz.prog 46 = .slice 92 2 true := by kernel_rfl
theorem so46 : szOk Proofs.Tryz.prog 46 = True := eq_true (szOk_of (n := 1) sh46 (by kernel_rfl) (by decide) (by decide))
theorem sl46 : slT Proofs.Tryz.prog 46 = some (92, 2, 40, [.string ⟨([] : List UInt8).toArray⟩, .slice none 0 0]) := by kernel_rfl
theorem zs46 : zsT Proofs.Tryz.prog 46 = some [.slice none 0 0] := by kernel_rfl
theorem sh47 : shp Proofs.Tryz.prog 47 = .struct [(0, 1, false), (1, 1, false)] 2 := by kernel_rfl
theorem zt47 : zeroT Proofs.Tryz.prog 47 = some [.slice none 0 0, .slice none 0 0] := by kernel_rfl
theorem so47 : szOk Proofs.Tryz.prog 47 = True := eq_true (szOk_of (n := 2) sh47 (by kernel_rfl) (by decide) (by decide))
theorem zs47 : zsT Proofs.Tryz.prog 47 = some [.slice none 0 0, .slice none 0 0] := by kernel_rfl
theorem sh48 : shp Proofs.Tryz.prog 48 = .struct [(0, 1, false), (1, 1, false)] 2 := by kernel_rfl
theorem zt48 : zeroT Proofs.Tryz.prog 48 = some [.slice none 0 0, .slice none 0 0] := by kernel_rfl
theorem so48 : szOk Proofs.Tryz.prog 48 = True := eq_true (szOk_of (n := 2) sh48 (by kernel_rfl) (by decide) (by decide))
theorem zs48 : zsT Proofs.Tryz.prog 48 = some [.slice none 0 0, .slice none 0 0] := by kernel_rfl
theorem sh49 : shp Proofs.Tryz.prog 49 = .struct [(0, 2, true), (2, 4, true), (6, 1, false), (7, 1, false)] 8 := by kernel_rfl
theorem zt49 : zeroT Proofs.Tryz.prog 49 = some [.slice none 0 0, .slice none 0 0, .int .i64 0, .slice none 0 0, .int .i64 0, .int .i64 0, .string ⟨([] : List UInt8).toArray⟩, .int .i64 0] := by kernel_rfl
theorem so49 : szOk Proofs.Tryz.prog 49 = True := eq_true (szOk_of (n := 8) sh49 (by kernel_rfl) (by decide) (by decide))
theorem zs49 : zsT Proofs.Tryz.prog 49 = some [.slice none 0 0, .slice none 0 0, .int .i64 0, .slice none 0 0, .int .i64 0, .int .i64 0, .string ⟨([] : List UInt8).toArray⟩, .int .i64 0] := by kernel_rfl
theorem sh50 : shp Proofs.Tryz.prog 50 = .struct [(0, 2, true), (2, 4, true), (6, 1, false), (7, 1, false)] 8 := by kernel_rfl
theorem zt50 : zeroT Proofs.Tryz.prog 50 = some [.slice none 0 0, .slice none 0 0, .int .i64 0, .slice none 0 0, .int .i64 0, .int .i64 0, .string ⟨([] : List UInt8).toArray⟩, .int .i64 0] := by kernel_rfl
theorem so50 : szOk Proofs.Tryz.prog 50 = True := eq_true (szOk_of (n := 8) sh50 (by kernel_rfl) (by decide) (by decide))
theorem zs50 : zsT Proofs.Tryz.prog 50 = some [.slice none 0 0, .slice none 0 0, .int .i64 0, .slice none 0 0, .int .i64 0, .int .i64 0, .string ⟨([] : List UInt8).toArray⟩, .int .i64 0] := by kernel_rfl
theorem sh57 : shp Proofs.Tryz.prog 57 = .struct [(0, 1, false), (1, 1, false)] 2 := by kernel_rfl
theorem zt57 : zeroT Proofs.Tryz.prog 57 = some [.int .i64 0, .string ⟨([] : List UInt8).toArray⟩] := by kernel_rfl
theorem so57 : szOk Proofs.Tryz.prog 57 = True := eq_true (szOk_of (n := 2) sh57 (by kernel_rfl) (by decide) (by decide))
theorem zs57 : zsT Proofs.Tryz.prog 57 = some [.int .i64 0, .string ⟨([] : List UInt8).toArray⟩] := by kernel_rfl
theorem sh58 : shp Proofs.Tryz.prog 58 = .struct [(0, 1, false), (1, 1, false)] 2 := by kernel_rfl
theorem zt58 : zeroT Proofs.Tryz.prog 58 = some [.int .i64 0, .string ⟨([] : List UInt8).toArray⟩] := by kernel_rfl
theorem so58 : szOk Proofs.Tryz.prog 58 = True := eq_true (szOk_of (n := 2) sh58 (by kernel_rfl) (by decide) (by decide))
theorem zs58 : zsT Proofs.Tryz.prog 58 = some [.int .i64 0, .string ⟨([] : List UInt8).toArray⟩] := by kernel_rfl
theorem sh62 : shp Proofs.Tryz.prog 62 = .int .u64 := by kernel_rfl
theorem so62 : szOk Proofs.Tryz.prog 62 = True := eq_true (szOk_of (n := 1) sh62 (by kernel_rfl) (by decide) (by decide))
theorem zs62 : zsT Proofs.Tryz.prog 62 = some [.int .u64 0] := by kernel_rfl
theorem sh76 : shp Proofs.Tryz.prog 76 = .slice 5 1 false := by kernel_rfl
theorem so76 : szOk Proofs.Tryz.prog 76 = True := eq_true (szOk_of (n := 1) sh76 (by kernel_rfl) (by decide) (by decide))
theorem sl76 : slT Proofs.Tryz.prog 76 = some (5, 1, 1, [.int .u8 0]) := by kernel_rfl
theorem zs76 : zsT Proofs.Tryz.prog 76 = some [.slice none 0 0] := by kernel_rfl
theorem sh78 : shp Proofs.Tryz.prog 78 = .int .u64 := by kernel_rfl
theorem so78 : szOk Proofs.Tryz.prog 78 = True := eq_true (szOk_of (n := 1) sh78 (by kernel_rfl) (by decide) (by decide))
theorem zs78 : zsT Proofs.Tryz.prog 78 = some [.int .u64 0] := by kernel_rfl
theorem sh79 : shp Proofs.Tryz.prog 79 = .struct [(0, 1, false), (1, 1, false)] 2 := by kernel_rfl
theorem zt79 : zeroT Proofs.Tryz.prog 79 = some [.int .i64 0, .int .i64 0] := by kernel_rfl
theorem so79 : szOk Proofs.Tryz.prog 79 = True := eq_true (szOk_of (n := 2) sh79 (by kernel_rfl) (by decide) (by decide))
theorem zs79 : zsT Proofs.Tryz.prog 79 = some [.int .i64 0, .int .i64 0] := by kernel_rfl
theorem sh80 : shp Proofs.Tryz.prog 80 = .struct [(0, 1, false), (1, 1, false)] 2 := by kernel_rfl
theorem zt80 : zeroT Proofs.Tryz.prog 80 = some [.int .i64 0, .int .i64 0] := by kernel_rfl
theorem so80 : szOk Proofs.Tryz.prog 80 = True := eq_true (szOk_of (n := 2) sh80 (by kernel_rfl) (by decide) (by decide))
theorem zs80 : zsT Proofs.Tryz.prog 80 = some [.int .i64 0, .int .i64 0] := by kernel_rfl
theorem sh88 : shp Proofs.Tryz.prog 88 = .struct [(0, 1, false), (1, 1, false), (2, 1, false)] 3 := by kernel_rfl
theorem zt88 : zeroT Proofs.Tryz.prog 88 = some [.bool false, .int .i64 0, .int .i64 0] := by kernel_rfl
theorem so88 : szOk Proofs.Tryz.prog 88 = True := eq_true (szOk_of (n := 3) sh88 (by kernel_rfl) (by decide) (by decide))
theorem zs88 : zsT Proofs.Tryz.prog 88 = some [.bool false, .int .i64 0, .int .i64 0] := by kernel_rfl
theorem sh89 : shp Proofs.Tryz.prog 89 = .struct [(0, 1, false), (1, 1, false), (2, 1, false)] 3 := by kernel_rfl
theorem zt89 : zeroT Proofs.Tryz.prog 89 = some [.bool false, .int .i64 0, .int .i64 0] := by kernel_rfl
theorem so89 : szOk Proofs.Tryz.prog 89 = True := eq_true (szOk_of (n := 3) sh89 (by kernel_rfl) (by decide) (by decide))
theorem zs89 : zsT Proofs.Tryz.prog 89 = some [.bool false, .int .i64 0, .int .i64 0] := by kernel_rfl
theorem sh90 : shp Proofs.Tryz.prog 90 = .slice 89 3 true := by kernel_rfl
theorem so90 : szOk Proofs.Tryz.prog 90 = True := eq_true (szOk_of (n := 1) sh90 (by kernel_rfl) (by decide) (by decide))
theorem sl90 : slT Proofs.Tryz.prog 90 = some (89, 3, 24, [.bool false, .int .i64 0, .int .i64 0]) := by kernel_rfl
theorem zs90 : zsT Proofs.Tryz.prog 90 = some [.slice none 0 0] := by kernel_rfl
theorem sh91 : shp Proofs.Tryz.prog 91 = .struct [(0, 1, false), (1, 1, false)] 2 := by kernel_rfl
theorem zt91 : zeroT Proofs.Tryz.prog 91 = some [.string ⟨([] : List UInt8).toArray⟩, .slice none 0 0] := by kernel_rfl
theorem so91 : szOk Proofs.Tryz.prog 91 = True := eq_true (szOk_of (n := 2) sh91 (by kernel_rfl) (by decide) (by decide))
theorem zs91 : zsT Proofs.Tryz.prog 91 = some [.string ⟨([] : List UInt8).toArray⟩, .slice none 0 0] := by kernel_rfl
theorem sh92 : shp Proofs.Tryz.prog 92 = .struct [(0, 1, false), (1, 1, false)] 2 := by kernel_rfl
theorem zt92 : zeroT Proofs.Tryz.prog 92 = some [.string ⟨([] : List UInt8).toArray⟩, .slice none 0 0] := by kernel_rfl
theorem so92 : szOk Proofs.Tryz.prog 92 = True := eq_true (szOk_of (n := 2) sh92 (by kernel_rfl) (by decide) (by decide))
theorem zs92 : zsT Proofs.Tryz.prog 92 = some [.string ⟨([] : List UInt8).toArray⟩, .slice none 0 0] := by kernel_rfl
theorem sh112 : shp Proofs.Tryz.prog 112 = .struct [(0, 1, false), (1, 1, false), (2, 1, false), (3, 1, false)] 4 := by kernel_rfl
theorem zt112 : zeroT Proofs.Tryz.prog 112 = some [.int .i64 0, .int .i64 0, .string ⟨([] : List UInt8).toArray⟩, .int .i64 0] := by kernel_rfl
theorem so112 : szOk Proofs.Tryz.prog 112 = True := eq_true (szOk_of (n := 4) sh112 (by kernel_rfl) (by decide) (by decide))
theorem zs112 : zsT Proofs.Tryz.prog 112 = some [.int .i64 0, .int .i64 0, .string ⟨([] : List UInt8).toArray⟩, .int .i64 0] := by kernel_rfl
theorem sh113 : shp Proofs.Tryz.prog 113 = .struct [(0, 1, false), (1, 1, false), (2, 1, false), (3, 1, false)] 4 := by kernel_rfl
theorem zt113 : zeroT Proofs.Tryz.prog 113 = some [.int .i64 0, .int .i64 0, .string ⟨([] : List UInt8).toArray⟩, .int .i64 0] := by kernel_rfl
theorem so113 : szOk Proofs.Tryz.prog 113 = True := eq_true (szOk_of (n := 4) sh113 (by kernel_rfl) (by decide) (by decide))
theorem zs113 : zsT Proofs.Tryz.prog 113 = some [.int .i64 0, .int .i64 0, .string ⟨([] : List UInt8).toArray⟩, .int .i64 0] := by kernel_rfl
theorem sh149 : shp Proofs.Tryz.prog 149 = .struct [(0, 1, false), (1, 1, false), (2, 1, false), (3, 1, false)] 4 := by kernel_rfl
theorem zt149 : zeroT Proofs.Tryz.prog 149 = some [.pointer none, .pointer none, .pointer none, .string ⟨([] : List UInt8).toArray⟩] := by kernel_rfl
theorem so149 : szOk Proofs.Tryz.prog 149 = True := eq_true (szOk_of (n := 4) sh149 (by kernel_rfl) (by decide) (by decide))
theorem zs149 : zsT Proofs.Tryz.prog 149 = some [.pointer none, .pointer none, .pointer none, .string ⟨([] : List UInt8).toArray⟩] := by kernel_rfl
theorem sh150 : shp Proofs.Tryz.prog 150 = .struct [(0, 1, false), (1, 1, false), (2, 1, false), (3, 1, false)] 4 := by kernel_rfl
theorem zt150 : zeroT Proofs.Tryz.prog 150 = some [.pointer none, .pointer none, .pointer none, .string ⟨([] : List UInt8).toArray⟩] := by kernel_rfl
theorem so150 : szOk Proofs.Tryz.prog 150 = True := eq_true (szOk_of (n := 4) sh150 (by kernel_rfl) (by decide) (by decide))
theorem zs150 : zsT Proofs.Tryz.prog 150 = some [.pointer none, .pointer none, .pointer none, .string ⟨([] : List UInt8).toArray⟩] := by kernel_rfl
theorem sh152 : shp Proofs.Tryz.prog 152 = .struct [(0, 0, true)] 0 := by kernel_rfl
theorem zt152 : zeroT Proofs.Tryz.prog 152 = some [] := by kernel_rfl
theorem zs152 : zsT Proofs.Tryz.prog 152 = some [] := by kernel_rfl
theorem sh153 : shp Proofs.Tryz.prog 153 = .struct [(0, 0, true)] 0 := by kernel_rfl
theorem zt153 : zeroT Proofs.Tryz.prog 153 = some [] := by kernel_rfl
theorem zs153 : zsT Proofs.Tryz.prog 153 = some [] := by kernel_rfl
theorem sh155 : shp Proofs.Tryz.prog 155 = .int .u32 := by kernel_rfl
theorem so155 : szOk Proofs.Tryz.prog 155 = True := eq_true (szOk_of (n := 1) sh155 (by kernel_rfl) (by decide) (by decide))
theorem zs155 : zsT Proofs.Tryz.prog 155 = some [.int .u32 0] := by kernel_rfl
theorem sh156 : shp Proofs.Tryz.prog 156 = .int .u8 := by kernel_rfl
theorem so156 : szOk Proofs.Tryz.prog 156 = True := eq_true (szOk_of (n := 1) sh156 (by kernel_rfl) (by decide) (by decide))
theorem zs156 : zsT Proofs.Tryz.prog 156 = some [.int .u8 0] := by kernel_rfl
theorem sh157 : shp Proofs.Tryz.prog 157 = .int .u8 := by kernel_rfl
theorem so157 : szOk Proofs.Tryz.prog 157 = True := eq_true (szOk_of (n := 1) sh157 (by kernel_rfl) (by decide) (by decide))
theorem zs157 : zsT Proofs.Tryz.prog 157 = some [.int .u8 0] := by kernel_rfl
theorem sh160 : shp Proofs.Tryz.prog 160 = .int .i32 := by kernel_rfl
theorem so160 : szOk Proofs.Tryz.prog 160 = True := eq_true (szOk_of (n := 1) sh160 (by kernel_rfl) (by decide) (by decide))
theorem zs160 : zsT Proofs.Tryz.prog 160 = some [.int .i32 0] := by kernel_rfl
theorem sh161 : shp Proofs.Tryz.prog 161 = .int .i32 := by kernel_rfl
theorem so161 : szOk Proofs.Tryz.prog 161 = True := eq_true (szOk_of (n := 1) sh161 (by kernel_rfl) (by decide) (by decide))
theorem zs161 : zsT Proofs.Tryz.prog 161 = some [.int .i32 0] := by kernel_rfl
theorem sh162 : shp Proofs.Tryz.prog 162 = .struct [(0, 1, false), (1, 1, false), (2, 1, false), (3, 1, false), (4, 1, false), (5, 1, false), (6, 1, false), (7, 1, false), (8, 1, false), (9, 1, false), (10, 1, false)] 11 := by kernel_rfl
theorem zt162 : zeroT Proofs.Tryz.prog 162 = some [.int .u64 0, .int .u64 0, .int .u32 0, .int .u8 0, .int .u8 0, .int .u8 0, .int .u8 0, .nilFunc, .pointer none, .int .i32 0, .int .i32 0] := by kernel_rfl
theorem so162 : szOk Proofs.Tryz.prog 162 = True := eq_true (szOk_of (n := 11) sh162 (by kernel_rfl) (by decide) (by decide))
theorem sh163 : shp Proofs.Tryz.prog 163 = .struct [(0, 1, false), (1, 1, false), (2, 1, false), (3, 1, false), (4, 1, false), (5, 1, false), (6, 1, false), (7, 1, false), (8, 1, false), (9, 1, false), (10, 1, false)] 11 := by kernel_rfl
theorem zt163 : zeroT Proofs.Tryz.prog 163 = some [.int .u64 0, .int .u64 0, .int .u32 0, .int .u8 0, .int .u8 0, .int .u8 0, .int .u8 0, .nilFunc, .pointer none, .int .i32 0, .int .i32 0] := by kernel_rfl
theorem so163 : szOk Proofs.Tryz.prog 163 = True := eq_true (szOk_of (n := 11) sh163 (by kernel_rfl) (by decide) (by decide))
theorem eq30 : eqT Proofs.Tryz.prog 30 = some [.int .i64, .str, .str, .int .i64, .str] := by kernel_rfl
theorem eq58 : eqT Proofs.Tryz.prog 58 = some [.int .i64, .str] := by kernel_rfl
theorem eq80 : eqT Proofs.Tryz.prog 80 = some [.int .i64, .int .i64] := by kernel_rfl
theorem eq89 : eqT Proofs.Tryz.prog 89 = some [.bool, .int .i64, .int .i64] := by kernel_rfl
theorem eq113 : eqT Proofs.Tryz.prog 113 = some [.int .i64, .int .i64, .str, .int .i64] := by kernel_rfl
theorem shs : ((((((shp Proofs.Tryz.prog 2 = .int .i64) ∧ ((shp Proofs.Tryz.prog 3 = .int .i64) ∧ (shp Proofs.Tryz.prog 4 = .bool))) ∧ (((shp Proofs.Tryz.prog 5 = .int .u8) ∧ (shp Proofs.Tryz.prog 6 = .int .u8)) ∧ ((shp Proofs.Tryz.prog 7 = .struct [(0, 1, false), (1, 1, false), (2, 1, false), (3, 1, false)] 4) ∧ (shp Proofs.Tryz.prog 8 = .struct [(0, 1, false), (1, 1, false), (2, 1, false), (3, 1, false)] 4)))) ∧ (((shp Proofs.Tryz.prog 9 = .str) ∧ ((shp Proofs.Tryz.prog 10 = .str) ∧ (shp Proofs.Tryz.prog 11 = .str))) ∧ (((shp Proofs.Tryz.prog 12 = .int .u64) ∧ (shp Proofs.Tryz.prog 13 = .struct [(0, 1, false), (1, 1, false)] 2)) ∧ ((shp Proofs.Tryz.prog 14 = .struct [(0, 1, false), (1, 1, false)] 2) ∧ (shp Proofs.Tryz.prog 18 = .struct [(0, 1, false)] 1))))) ∧ ((((shp Proofs.Tryz.prog 19 = .struct [(0, 1, false)] 1) ∧ ((shp Proofs.Tryz.prog 21 = .int .i32) ∧ (shp Proofs.Tryz.prog 22 = .slice 30 5 true))) ∧ (((shp Proofs.Tryz.prog 23 = .slice 33 1 false) ∧ (shp Proofs.Tryz.prog 27 = .int .i64)) ∧ ((shp Proofs.Tryz.prog 29 = .struct [(0, 1, false), (1, 1, false), (2, 1, false), (3, 1, false), (4, 1, false)] 5) ∧ (shp Proofs.Tryz.prog 30 = .struct [(0, 1, false), (1, 1, false), (2, 1, false), (3, 1, false), (4, 1, false)] 5)))) ∧ (((shp Proofs.Tryz.prog 32 = .arr 4 1 4) ∧ ((shp Proofs.Tryz.prog 33 = .slice 3 1 false) ∧ (shp Proofs.Tryz.prog 40 = .slice 80 2 true))) ∧ (((shp Proofs.Tryz.prog 41 = .struct [(0, 1, false), (1, 1, false), (2, 1, false), (3, 1, false)] 4) ∧ (shp Proofs.Tryz.prog 42 = .struct [(0, 1, false), (1, 1, false), (2, 1, false), (3, 1, false)] 4)) ∧ ((shp Proofs.Tryz.prog 45 = .slice 113 4 true) ∧ (shp Proofs.Tryz.prog 46 = .slice 92 2 true)))))) ∧ (((((shp Proofs.Tryz.prog 47 = .struct [(0, 1, false), (1, 1, false)] 2) ∧ ((shp Proofs.Tryz.prog 48 = .struct [(0, 1, false), (1, 1, false)] 2) ∧ (shp Proofs.Tryz.prog 49 = .struct [(0, 2, true), (2, 4, true), (6, 1, false), (7, 1, false)] 8))) ∧ (((shp Proofs.Tryz.prog 50 = .struct [(0, 2, true), (2, 4, true), (6, 1, false), (7, 1, false)] 8) ∧ (shp Proofs.Tryz.prog 57 = .struct [(0, 1, false), (1, 1, false)] 2)) ∧ ((shp Proofs.Tryz.prog 58 = .struct [(0, 1, false), (1, 1, false)] 2) ∧ (shp Proofs.Tryz.prog 62 = .int .u64)))) ∧ (((shp Proofs.Tryz.prog 76 = .slice 5 1 false) ∧ ((shp Proofs.Tryz.prog 78 = .int .u64) ∧ (shp Proofs.Tryz.prog 79 = .struct [(0, 1, false), (1, 1, false)] 2))) ∧ (((shp Proofs.Tryz.prog 80 = .struct [(0, 1, false), (1, 1, false)] 2) ∧ (shp Proofs.Tryz.prog 88 = .struct [(0, 1, false), (1, 1, false), (2, 1, false)] 3)) ∧ ((shp Proofs.Tryz.prog 89 = .struct [(0, 1, false), (1, 1, false), (2, 1, false)] 3) ∧ (shp Proofs.Tryz.prog 90 = .slice 89 3 true))))) ∧ ((((shp Proofs.Tryz.prog 91 = .struct [(0, 1, false), (1, 1, false)] 2) ∧ ((shp Proofs.Tryz.prog 92 = .struct [(0, 1, false), (1, 1, false)] 2) ∧ (shp Proofs.Tryz.prog 112 = .struct [(0, 1, false), (1, 1, false), (2, 1, false), (3, 1, false)] 4))) ∧ (((shp Proofs.Tryz.prog 113 = .struct [(0, 1, false), (1, 1, false), (2, 1, false), (3, 1, false)] 4) ∧ (shp Proofs.Tryz.prog 149 = .struct [(0, 1, false), (1, 1, false), (2, 1, false), (3, 1, false)] 4)) ∧ ((shp Proofs.Tryz.prog 150 = .struct [(0, 1, false), (1, 1, false), (2, 1, false), (3, 1, false)] 4) ∧ (shp Proofs.Tryz.prog 152 = .struct [(0, 0, true)] 0)))) ∧ ((((shp Proofs.Tryz.prog 153 = .struct [(0, 0, true)] 0) ∧ (shp Proofs.Tryz.prog 155 = .int .u32)) ∧ ((shp Proofs.Tryz.prog 156 = .int .u8) ∧ (shp Proofs.Tryz.prog 157 = .int .u8))) ∧ (((shp Proofs.Tryz.prog 160 = .int .i32) ∧ (shp Proofs.Tryz.prog 161 = .int .i32)) ∧ ((shp Proofs.Tryz.prog 162 = .struct [(0, 1, false), (1, 1, false), (2, 1, false), (3, 1, false), (4, 1, false), (5, 1, false), (6, 1, false), (7, 1, false), (8, 1, false), (9, 1, false), (10, 1, false)] 11) ∧ (shp Proofs.Tryz.prog 163 = .struct [(0, 1, false), (1, 1, false), (2, 1, false), (3, 1, false), (4, 1, false), (5, 1, false), (6, 1, false), (7, 1, false), (8, 1, false), (9, 1, false), (10, 1, false)] 11))))))) :=
  ⟨⟨⟨⟨⟨sh2, ⟨sh3, sh4⟩⟩, ⟨⟨sh5, sh6⟩, ⟨sh7, sh8⟩⟩⟩, ⟨⟨sh9, ⟨sh10, sh11⟩⟩, ⟨⟨sh12, sh13⟩, ⟨sh14, sh18⟩⟩⟩⟩, ⟨⟨⟨sh19, ⟨sh21, sh22⟩⟩, ⟨⟨sh23, sh27⟩, ⟨sh29, sh30⟩⟩⟩, ⟨⟨sh32, ⟨sh33, sh40⟩⟩, ⟨⟨sh41, sh42⟩, ⟨sh45, sh46⟩⟩⟩⟩⟩, ⟨⟨⟨⟨sh47, ⟨sh48, sh49⟩⟩, ⟨⟨sh50, sh57⟩, ⟨sh58, sh62⟩⟩⟩, ⟨⟨sh76, ⟨sh78, sh79⟩⟩, ⟨⟨sh80, sh88⟩, ⟨sh89, sh90⟩⟩⟩⟩, ⟨⟨⟨sh91, ⟨sh92, sh112⟩⟩, ⟨⟨sh113, sh149⟩, ⟨sh150, sh152⟩⟩⟩, ⟨⟨⟨sh153, sh155⟩, ⟨sh156, sh157⟩⟩, ⟨⟨sh160, sh161⟩, ⟨sh162, sh163⟩⟩⟩⟩⟩⟩
theorem zts : (((((zeroT Proofs.Tryz.prog 7 = some [.int .i64 0, .int .i64 0, .bool false, .int .u8 0]) ∧ ((zeroT Proofs.Tryz.prog 8 = some [.int .i64 0, .int .i64 0, .bool false, .int .u8 0]) ∧ (zeroT Proofs.Tryz.prog 13 = some [.string ⟨([] : List UInt8).toArray⟩, .int .u64 0]))) ∧ (((zeroT Proofs.Tryz.prog 14 = some [.string ⟨([] : List UInt8).toArray⟩, .int .u64 0]) ∧ (zeroT Proofs.Tryz.prog 18 = some [.pointer none])) ∧ ((zeroT Proofs.Tryz.prog 19 = some [.pointer none]) ∧ (zeroT Proofs.Tryz.prog 29 = some [.int .i64 0, .string ⟨([] : List UInt8).toArray⟩, .string ⟨([] : List UInt8).toArray⟩, .int .i64 0, .string ⟨([] : List UInt8).toArray⟩])))) ∧ ((((zeroT Proofs.Tryz.prog 30 = some [.int .i64 0, .string ⟨([] : List UInt8).toArray⟩, .string ⟨([] : List UInt8).toArray⟩, .int .i64 0, .string ⟨([] : List UInt8).toArray⟩]) ∧ (zeroT Proofs.Tryz.prog 41 = some [.int .i64 0, .slice none 0 0, .int .i64 0, .int .i64 0])) ∧ ((zeroT Proofs.Tryz.prog 42 = some [.int .i64 0, .slice none 0 0, .int .i64 0, .int .i64 0]) ∧ (zeroT Proofs.Tryz.prog 47 = some [.slice none 0 0, .slice none 0 0]))) ∧ (((zeroT Proofs.Tryz.prog 48 = some [.slice none 0 0, .slice none 0 0]) ∧ (zeroT Proofs.Tryz.prog 49 = some [.slice none 0 0, .slice none 0 0, .int .i64 0, .slice none 0 0, .int .i64 0, .int .i64 0, .string ⟨([] : List UInt8).toArray⟩, .int .i64 0])) ∧ ((zeroT Proofs.Tryz.prog 50 = some [.slice none 0 0, .slice none 0 0, .int .i64 0, .slice none 0 0, .int .i64 0, .int .i64 0, .string ⟨([] : List UInt8).toArray⟩, .int .i64 0]) ∧ (zeroT Proofs.Tryz.prog 57 = some [.int .i64 0, .string ⟨([] : List UInt8).toArray⟩]))))) ∧ ((((zeroT Proofs.Tryz.prog 58 = some [.int .i64 0, .string ⟨([] : List UInt8).toArray⟩]) ∧ ((zeroT Proofs.Tryz.prog 79 = some [.int .i64 0, .int .i64 0]) ∧ (zeroT Proofs.Tryz.prog 80 = some [.int .i64 0, .int .i64 0]))) ∧ (((zeroT Proofs.Tryz.prog 88 = some [.bool false, .int .i64 0, .int .i64 0]) ∧ (zeroT Proofs.Tryz.prog 89 = some [.bool false, .int .i64 0, .int .i64 0])) ∧ ((zeroT Proofs.Tryz.prog 91 = some [.string ⟨([] : List UInt8).toArray⟩, .slice none 0 0]) ∧ (zeroT Proofs.Tryz.prog 92 = some [.string ⟨([] : List UInt8).toArray⟩, .slice none 0 0])))) ∧ ((((zeroT Proofs.Tryz.prog 112 = some [.int .i64 0, .int .i64 0, .string ⟨([] : List UInt8).toArray⟩, .int .i64 0]) ∧ (zeroT Proofs.Tryz.prog 113 = some [.int .i64 0, .int .i64 0, .string ⟨([] : List UInt8).toArray⟩, .int .i64 0])) ∧ ((zeroT Proofs.Tryz.prog 149 = some [.pointer none, .pointer none, .pointer none, .string ⟨([] : List UInt8).toArray⟩]) ∧ (zeroT Proofs.Tryz.prog 150 = some [.pointer none, .pointer none, .pointer none, .string ⟨([] : List UInt8).toArray⟩]))) ∧ (((zeroT Proofs.Tryz.prog 152 = some []) ∧ (zeroT Proofs.Tryz.prog 153 = some [])) ∧ ((zeroT Proofs.Tryz.prog 162 = some [.int .u64 0, .int .u64 0, .int .u32 0, .int .u8 0, .int .u8 0, .int .u8 0, .int .u8 0, .nilFunc, .pointer none, .int .i32 0, .int .i32 0]) ∧ (zeroT Proofs.Tryz.prog 163 = some [.int .u64 0, .int .u64 0, .int .u32 0, .int .u8 0, .int .u8 0, .int .u8 0, .int .u8 0, .nilFunc, .pointer none, .int .i32 0, .int .i32 0])))))) :=
  ⟨⟨⟨⟨zt7, ⟨zt8, zt13⟩⟩, ⟨⟨zt14, zt18⟩, ⟨zt19, zt29⟩⟩⟩, ⟨⟨⟨zt30, zt41⟩, ⟨zt42, zt47⟩⟩, ⟨⟨zt48, zt49⟩, ⟨zt50, zt57⟩⟩⟩⟩, ⟨⟨⟨zt58, ⟨zt79, zt80⟩⟩, ⟨⟨zt88, zt89⟩, ⟨zt91, zt92⟩⟩⟩, ⟨⟨⟨zt112, zt113⟩, ⟨zt149, zt150⟩⟩, ⟨⟨zt152, zt153⟩, ⟨zt162, zt163⟩⟩⟩⟩⟩
theorem sos : ((((((szOk Proofs.Tryz.prog 2 = True) ∧ ((szOk Proofs.Tryz.prog 3 = True) ∧ (szOk Proofs.Tryz.prog 4 = True))) ∧ ((szOk Proofs.Tryz.prog 5 = True) ∧ ((szOk Proofs.Tryz.prog 6 = True) ∧ (szOk Proofs.Tryz.prog 7 = True)))) ∧ (((szOk Proofs.Tryz.prog 8 = True) ∧ ((szOk Proofs.Tryz.prog 9 = True) ∧ (szOk Proofs.Tryz.prog 10 = True))) ∧ (((szOk Proofs.Tryz.prog 11 = True) ∧ (szOk Proofs.Tryz.prog 12 = True)) ∧ ((szOk Proofs.Tryz.prog 13 = True) ∧ (szOk Proofs.Tryz.prog 14 = True))))) ∧ ((((szOk Proofs.Tryz.prog 18 = True) ∧ ((szOk Proofs.Tryz.prog 19 = True) ∧ (szOk Proofs.Tryz.prog 21 = True))) ∧ (((szOk Proofs.Tryz.prog 22 = True) ∧ (szOk Proofs.Tryz.prog 23 = True)) ∧ ((szOk Proofs.Tryz.prog 27 = True) ∧ (szOk Proofs.Tryz.prog 29 = True)))) ∧ (((szOk Proofs.Tryz.prog 30 = True) ∧ ((szOk Proofs.Tryz.prog 32 = True) ∧ (szOk Proofs.Tryz.prog 33 = True))) ∧ (((szOk Proofs.Tryz.prog 40 = True) ∧ (szOk Proofs.Tryz.prog 41 = True)) ∧ ((szOk Proofs.Tryz.prog 42 = True) ∧ (szOk Proofs.Tryz.prog 45 = True)))))) ∧ (((((szOk Proofs.Tryz.prog 46 = True) ∧ ((szOk Proofs.Tryz.prog 47 = True) ∧ (szOk Proofs.Tryz.prog 48 = True))) ∧ (((szOk Proofs.Tryz.prog 49 = True) ∧ (szOk Proofs.Tryz.prog 50 = True)) ∧ ((szOk Proofs.Tryz.prog 57 = True) ∧ (szOk Proofs.Tryz.prog 58 = True)))) ∧ (((szOk Proofs.Tryz.prog 62 = True) ∧ ((szOk Proofs.Tryz.prog 76 = True) ∧ (szOk Proofs.Tryz.prog 78 = True))) ∧ (((szOk Proofs.Tryz.prog 79 = True) ∧ (szOk Proofs.Tryz.prog 80 = True)) ∧ ((szOk Proofs.Tryz.prog 88 = True) ∧ (szOk Proofs.Tryz.prog 89 = True))))) ∧ ((((szOk Proofs.Tryz.prog 90 = True) ∧ ((szOk Proofs.Tryz.prog 91 = True) ∧ (szOk Proofs.Tryz.prog 92 = True))) ∧ (((szOk Proofs.Tryz.prog 112 = True) ∧ (szOk Proofs.Tryz.prog 113 = True)) ∧ ((szOk Proofs.Tryz.prog 149 = True) ∧ (szOk Proofs.Tryz.prog 150 = True)))) ∧ (((szOk Proofs.Tryz.prog 155 = True) ∧ ((szOk Proofs.Tryz.prog 156 = True) ∧ (szOk Proofs.Tryz.prog 157 = True))) ∧ (((szOk Proofs.Tryz.prog 160 = True) ∧ (szOk Proofs.Tryz.prog 161 = True)) ∧ ((szOk Proofs.Tryz.prog 162 = True) ∧ (szOk Proofs.Tryz.prog 163 = True))))))) :=
  ⟨⟨⟨⟨⟨so2, ⟨so3, so4⟩⟩, ⟨so5, ⟨so6, so7⟩⟩⟩, ⟨⟨so8, ⟨so9, so10⟩⟩, ⟨⟨so11, so12⟩, ⟨so13, so14⟩⟩⟩⟩, ⟨⟨⟨so18, ⟨so19, so21⟩⟩, ⟨⟨so22, so23⟩, ⟨so27, so29⟩⟩⟩, ⟨⟨so30, ⟨so32, so33⟩⟩, ⟨⟨so40, so41⟩, ⟨so42, so45⟩⟩⟩⟩⟩, ⟨⟨⟨⟨so46, ⟨so47, so48⟩⟩, ⟨⟨so49, so50⟩, ⟨so57, so58⟩⟩⟩, ⟨⟨so62, ⟨so76, so78⟩⟩, ⟨⟨so79, so80⟩, ⟨so88, so89⟩⟩⟩⟩, ⟨⟨⟨so90, ⟨so91, so92⟩⟩, ⟨⟨so112, so113⟩, ⟨so149, so150⟩⟩⟩, ⟨⟨so155, ⟨so156, so157⟩⟩, ⟨⟨so160, so161⟩, ⟨so162, so163⟩⟩⟩⟩⟩⟩
theorem sls : ((((slT Proofs.Tryz.prog 22 = some (30, 5, 64, [.int .i64 0, .string ⟨([] : List UInt8).toArray⟩, .string ⟨([] : List UInt8).toArray⟩, .int .i64 0, .string ⟨([] : List UInt8).toArray⟩])) ∧ (slT Proofs.Tryz.prog 23 = some (33, 1, 24, [.slice none 0 0]))) ∧ ((slT Proofs.Tryz.prog 33 = some (3, 1, 8, [.int .i64 0])) ∧ (slT Proofs.Tryz.prog 40 = some (80, 2, 16, [.int .i64 0, .int .i64 0])))) ∧ (((slT Proofs.Tryz.prog 45 = some (113, 4, 40, [.int .i64 0, .int .i64 0, .string ⟨([] : List UInt8).toArray⟩, .int .i64 0])) ∧ (slT Proofs.Tryz.prog 46 = some (92, 2, 40, [.string ⟨([] : List UInt8).toArray⟩, .slice none 0 0]))) ∧ ((slT Proofs.Tryz.prog 76 = some (5, 1, 1, [.int .u8 0])) ∧ (slT Proofs.Tryz.prog 90 = some (89, 3, 24, [.bool false, .int .i64 0, .int .i64 0]))))) :=
  ⟨⟨⟨sl22, sl23⟩, ⟨sl33, sl40⟩⟩, ⟨⟨sl45, sl46⟩, ⟨sl76, sl90⟩⟩⟩
theorem zss : ((((((zsT Proofs.Tryz.prog 2 = some [.int .i64 0]) ∧ ((zsT Proofs.Tryz.prog 3 = some [.int .i64 0]) ∧ (zsT Proofs.Tryz.prog 4 = some [.bool false]))) ∧ ((zsT Proofs.Tryz.prog 5 = some [.int .u8 0]) ∧ ((zsT Proofs.Tryz.prog 6 = some [.int .u8 0]) ∧ (zsT Proofs.Tryz.prog 7 = some [.int .i64 0, .int .i64 0, .bool false, .int .u8 0])))) ∧ (((zsT Proofs.Tryz.prog 8 = some [.int .i64 0, .int .i64 0, .bool false, .int .u8 0]) ∧ ((zsT Proofs.Tryz.prog 9 = some [.string ⟨([] : List UInt8).toArray⟩]) ∧ (zsT Proofs.Tryz.prog 10 = some [.string ⟨([] : List UInt8).toArray⟩]))) ∧ (((zsT Proofs.Tryz.prog 11 = some [.string ⟨([] : List UInt8).toArray⟩]) ∧ (zsT Proofs.Tryz.prog 12 = some [.int .u64 0])) ∧ ((zsT Proofs.Tryz.prog 13 = some [.string ⟨([] : List UInt8).toArray⟩, .int .u64 0]) ∧ (zsT Proofs.Tryz.prog 14 = some [.string ⟨([] : List UInt8).toArray⟩, .int .u64 0]))))) ∧ ((((zsT Proofs.Tryz.prog 18 = some [.pointer none]) ∧ ((zsT Proofs.Tryz.prog 19 = some [.pointer none]) ∧ (zsT Proofs.Tryz.prog 21 = some [.int .i32 0]))) ∧ (((zsT Proofs.Tryz.prog 22 = some [.slice none 0 0]) ∧ (zsT Proofs.Tryz.prog 23 = some [.slice none 0 0])) ∧ ((zsT Proofs.Tryz.prog 27 = some [.int .i64 0]) ∧ (zsT Proofs.Tryz.prog 29 = some [.int .i64 0, .string ⟨([] : List UInt8).toArray⟩, .string ⟨([] : List UInt8).toArray⟩, .int .i64 0, .string ⟨([] : List UInt8).toArray⟩])))) ∧ (((zsT Proofs.Tryz.prog 30 = some [.int .i64 0, .string ⟨([] : List UInt8).toArray⟩, .string ⟨([] : List UInt8).toArray⟩, .int .i64 0, .string ⟨([] : List UInt8).toArray⟩]) ∧ ((zsT Proofs.Tryz.prog 32 = some [.string ⟨([] : List UInt8).toArray⟩, .string ⟨([] : List UInt8).toArray⟩, .string ⟨([] : List UInt8).toArray⟩, .string ⟨([] : List UInt8).toArray⟩]) ∧ (zsT Proofs.Tryz.prog 33 = some [.slice none 0 0]))) ∧ (((zsT Proofs.Tryz.prog 40 = some [.slice none 0 0]) ∧ (zsT Proofs.Tryz.prog 41 = some [.int .i64 0, .slice none 0 0, .int .i64 0, .int .i64 0])) ∧ ((zsT Proofs.Tryz.prog 42 = some [.int .i64 0, .slice none 0 0, .int .i64 0, .int .i64 0]) ∧ (zsT Proofs.Tryz.prog 45 = some [.slice none 0 0])))))) ∧ (((((zsT Proofs.Tryz.prog 46 = some [.slice none 0 0]) ∧ ((zsT Proofs.Tryz.prog 47 = some [.slice none 0 0, .slice none 0 0]) ∧ (zsT Proofs.Tryz.prog 48 = some [.slice none 0 0, .slice none 0 0]))) ∧ (((zsT Proofs.Tryz.prog 49 = some [.slice none 0 0, .slice none 0 0, .int .i64 0, .slice none 0 0, .int .i64 0, .int .i64 0, .string ⟨([] : List UInt8).toArray⟩, .int .i64 0]) ∧ (zsT Proofs.Tryz.prog 50 = some [.slice none 0 0, .slice none 0 0, .int .i64 0, .slice none 0 0, .int .i64 0, .int .i64 0, .string ⟨([] : List UInt8).toArray⟩, .int .i64 0])) ∧ ((zsT Proofs.Tryz.prog 57 = some [.int .i64 0, .string ⟨([] : List UInt8).toArray⟩]) ∧ (zsT Proofs.Tryz.prog 58 = some [.int .i64 0, .string ⟨([] : List UInt8).toArray⟩])))) ∧ (((zsT Proofs.Tryz.prog 62 = some [.int .u64 0]) ∧ ((zsT Proofs.Tryz.prog 76 = some [.slice none 0 0]) ∧ (zsT Proofs.Tryz.prog 78 = some [.int .u64 0]))) ∧ (((zsT Proofs.Tryz.prog 79 = some [.int .i64 0, .int .i64 0]) ∧ (zsT Proofs.Tryz.prog 80 = some [.int .i64 0, .int .i64 0])) ∧ ((zsT Proofs.Tryz.prog 88 = some [.bool false, .int .i64 0, .int .i64 0]) ∧ (zsT Proofs.Tryz.prog 89 = some [.bool false, .int .i64 0, .int .i64 0]))))) ∧ ((((zsT Proofs.Tryz.prog 90 = some [.slice none 0 0]) ∧ ((zsT Proofs.Tryz.prog 91 = some [.string ⟨([] : List UInt8).toArray⟩, .slice none 0 0]) ∧ (zsT Proofs.Tryz.prog 92 = some [.string ⟨([] : List UInt8).toArray⟩, .slice none 0 0]))) ∧ (((zsT Proofs.Tryz.prog 112 = some [.int .i64 0, .int .i64 0, .string ⟨([] : List UInt8).toArray⟩, .int .i64 0]) ∧ (zsT Proofs.Tryz.prog 113 = some [.int .i64 0, .int .i64 0, .string ⟨([] : List UInt8).toArray⟩, .int .i64 0])) ∧ ((zsT Proofs.Tryz.prog 149 = some [.pointer none, .pointer none, .pointer none, .string ⟨([] : List UInt8).toArray⟩]) ∧ (zsT Proofs.Tryz.prog 150 = some [.pointer none, .pointer none, .pointer none, .string ⟨([] : List UInt8).toArray⟩])))) ∧ (((zsT Proofs.Tryz.prog 152 = some []) ∧ ((zsT Proofs.Tryz.prog 153 = some []) ∧ (zsT Proofs.Tryz.prog 155 = some [.int .u32 0]))) ∧ (((zsT Proofs.Tryz.prog 156 = some [.int .u8 0]) ∧ (zsT Proofs.Tryz.prog 157 = some [.int .u8 0])) ∧ ((zsT Proofs.Tryz.prog 160 = some [.int .i32 0]) ∧ (zsT Proofs.Tryz.prog 161 = some [.int .i32 0]))))))) :=
  ⟨⟨⟨⟨⟨zs2, ⟨zs3, zs4⟩⟩, ⟨zs5, ⟨zs6, zs7⟩⟩⟩, ⟨⟨zs8, ⟨zs9, zs10⟩⟩, ⟨⟨zs11, zs12⟩, ⟨zs13, zs14⟩⟩⟩⟩, ⟨⟨⟨zs18, ⟨zs19, zs21⟩⟩, ⟨⟨zs22, zs23⟩, ⟨zs27, zs29⟩⟩⟩, ⟨⟨zs30, ⟨zs32, zs33⟩⟩, ⟨⟨zs40, zs41⟩, ⟨zs42, zs45⟩⟩⟩⟩⟩, ⟨⟨⟨⟨zs46, ⟨zs47, zs48⟩⟩, ⟨⟨zs49, zs50⟩, ⟨zs57, zs58⟩⟩⟩, ⟨⟨zs62, ⟨zs76, zs78⟩⟩, ⟨⟨zs79, zs80⟩, ⟨zs88, zs89⟩⟩⟩⟩, ⟨⟨⟨zs90, ⟨zs91, zs92⟩⟩, ⟨⟨zs112, zs113⟩, ⟨zs149, zs150⟩⟩⟩, ⟨⟨zs152, ⟨zs153, zs155⟩⟩, ⟨⟨zs156, zs157⟩, ⟨zs160, zs161⟩⟩⟩⟩⟩⟩
theorem eqs : (((eqT Proofs.Tryz.prog 30 = some [.int .i64, .str, .str, .int .i64, .str]) ∧ (eqT Proofs.Tryz.prog 58 = some [.int .i64, .str])) ∧ ((eqT Proofs.Tryz.prog 80 = some [.int .i64, .int .i64]) ∧ ((eqT Proofs.Tryz.prog 89 = some [.bool, .int .i64, .int .i64]) ∧ (eqT Proofs.Tryz.prog 113 = some [.int .i64, .int .i64, .str, .int .i64])))) :=
  ⟨⟨eq30, eq58⟩, ⟨eq80, ⟨eq89, eq113⟩⟩⟩
end Go.X

