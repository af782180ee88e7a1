/- The shapes of the types of this translation. Conditions: none. -/
import Derived.Test.YteebcojoghnlnaaGreatDoorProg
import Derived.KernelRfl
import Derived.Test.YteebcojoghnlnaaGreatDoorFwB
set_option linter.unusedVariables false
namespace Go.X
open Go
theorem sh2 : shp Proofs.Tryz.prog 2 = .int .i64 := by kernel_rfl
theorem so2 : szOk Proofs.Tryz.prog 2 = True := eq_true (szOk_of (n := 1) sh2 (by kernel_rfl) (by decide) (by decide))
theorem zs2 : zsT Proofs.Tryz.prog 2 = some [.int .i64 0] := by kernel_rfl
theorem sh3 : shp Proofs.Tryz.prog 3 = .int .i64 := by kernel_rfl
theorem so3 : szOk Proofs.Tryz.prog 3 = True := eq_true (szOk_of (n := 1) sh3 (by kernel_rfl) (by decide) (by decide))
theorem zs3 : zsT Proofs.Tryz.prog 3 = some [.int .i64 0] := by kernel_rfl
theorem sh4 : shp Proofs.Tryz.prog 4 = .bool := by kernel_rfl
theorem so4 : szOk Proofs.Tryz.prog 4 = True := eq_true (szOk_of (n := 1) sh4 (by kernel_rfl) (by decide) (by decide))
theorem zs4 : zsT Proofs.Tryz.prog 4 = some [.bool false] := by kernel_rfl
theorem sh5 : shp Proofs.Tryz.prog 5 = .int .u8 := by kernel_rfl
theorem so5 : szOk Proofs.Tryz.prog 5 = True := eq_true (szOk_of (n := 1) sh5 (by kernel_rfl) (by decide) (by decide))
theorem zs5 : zsT Proofs.Tryz.prog 5 = some [.int .u8 0] := by kernel_rfl
theorem sh6 : shp Proofs.Tryz.prog 6 = .int .u8 := by kernel_rfl
theorem so6 : szOk Proofs.Tryz.prog 6 = True := eq_true (szOk_of (n := 1) sh6 (by kernel_rfl) (by decide) (by decide))
theorem zs6 : zsT Proofs.Tryz.prog 6 = some [.int .u8 0] := by kernel_rfl
theorem sh7 : shp Proofs.Tryz.prog 7 = .struct [(0, 1, false), (1, 1, false), (2, 1, false), (3, 1, false)] 4 := by kernel_rfl
theorem zt7 : zeroT Proofs.Tryz.prog 7 = some [.int .i64 0, .int .i64 0, .bool false, .int .u8 0] := by kernel_rfl
theorem so7 : szOk Proofs.Tryz.prog 7 = True := eq_true (szOk_of (n := 4) sh7 (by kernel_rfl) (by decide) (by decide))
theorem zs7 : zsT Proofs.Tryz.prog 7 = some [.int .i64 0, .int .i64 0, .bool false, .int .u8 0] := by kernel_rfl
theorem sh8 : shp Proofs.Tryz.prog 8 = .struct [(0, 1, false), (1, 1, false), (2, 1, false), (3, 1, false)] 4 := by kernel_rfl
theorem zt8 : zeroT Proofs.Tryz.prog 8 = some [.int .i64 0, .int .i64 0, .bool false, .int .u8 0] := by kernel_rfl
theorem so8 : szOk Proofs.Tryz.prog 8 = True := eq_true (szOk_of (n := 4) sh8 (by kernel_rfl) (by decide) (by decide))
theorem zs8 : zsT Proofs.Tryz.prog 8 = some [.int .i64 0, .int .i64 0, .bool false, .int .u8 0] := by kernel_rfl
theorem sh9 : shp Proofs.Tryz.prog 9 = .str := by kernel_rfl
theorem so9 : szOk Proofs.Tryz.prog 9 = True := eq_true (szOk_of (n := 1) sh9 (by kernel_rfl) (by decide) (by decide))
theorem zs9 : zsT Proofs.Tryz.prog 9 = some [.string ⟨([] : List UInt8).toArray⟩] := by kernel_rfl
theorem sh10 : shp Proofs.Tryz.prog 10 = .str := by kernel_rfl
theorem so10 : szOk Proofs.Tryz.prog 10 = True := eq_true (szOk_of (n := 1) sh10 (by kernel_rfl) (by decide) (by decide))
theorem zs10 : zsT Proofs.Tryz.prog 10 = some [.string ⟨([] : List UInt8).toArray⟩] := by kernel_rfl
theorem sh11 : shp Proofs.Tryz.prog 11 = .str := by kernel_rfl
theorem so11 : szOk Proofs.Tryz.prog 11 = True := eq_true (szOk_of (n := 1) sh11 (by kernel_rfl) (by decide) (by decide))
theorem zs11 : zsT Proofs.Tryz.prog 11 = some [.string ⟨([] : List UInt8).toArray⟩] := by kernel_rfl
theorem sh12 : shp Proofs.Tryz.prog 12 = .int .u64 := by kernel_rfl
theorem so12 : szOk Proofs.Tryz.prog 12 = True := eq_true (szOk_of (n := 1) sh12 (by kernel_rfl) (by decide) (by decide))
theorem zs12 : zsT Proofs.Tryz.prog 12 = some [.int .u64 0] := by kernel_rfl
theorem sh13 : shp Proofs.Tryz.prog 13 = .struct [(0, 1, false), (1, 1, false)] 2 := by kernel_rfl
theorem zt13 : zeroT Proofs.Tryz.prog 13 = some [.string ⟨([] : List UInt8).toArray⟩, .int .u64 0] := by kernel_rfl
theorem so13 : szOk Proofs.Tryz.prog 13 = True := eq_true (szOk_of (n := 2) sh13 (by kernel_rfl) (by decide) (by decide))
theorem zs13 : zsT Proofs.Tryz.prog 13 = some [.string ⟨([] : List UInt8).toArray⟩, .int .u64 0] := by kernel_rfl
theorem sh14 : shp Proofs.Tryz.prog 14 = .struct [(0, 1, false), (1, 1, false)] 2 := by kernel_rfl
theorem zt14 : zeroT Proofs.Tryz.prog 14 = some [.string ⟨([] : List UInt8).toArray⟩, .int .u64 0] := by kernel_rfl
theorem so14 : szOk Proofs.Tryz.prog 14 = True := eq_true (szOk_of (n := 2) sh14 (by kernel_rfl) (by decide) (by decide))
theorem zs14 : zsT Proofs.Tryz.prog 14 = some [.string ⟨([] : List UInt8).toArray⟩, .int .u64 0] := by kernel_rfl
theorem sh18 : shp Proofs.Tryz.prog 18 = .struct [(0, 1, false)] 1 := by kernel_rfl
theorem zt18 : zeroT Proofs.Tryz.prog 18 = some [.pointer none] := by kernel_rfl
theorem so18 : szOk Proofs.Tryz.prog 18 = True := eq_true (szOk_of (n := 1) sh18 (by kernel_rfl) (by decide) (by decide))
theorem zs18 : zsT Proofs.Tryz.prog 18 = some [.pointer none] := by kernel_rfl
theorem sh19 : shp Proofs.Tryz.prog 19 = .struct [(0, 1, false)] 1 := by kernel_rfl
theorem zt19 : zeroT Proofs.Tryz.prog 19 = some [.pointer none] := by kernel_rfl
theorem so19 : szOk Proofs.Tryz.prog 19 = True := eq_true (szOk_of (n := 1) sh19 (by kernel_rfl) (by decide) (by decide))
theorem zs19 : zsT Proofs.Tryz.prog 19 = some [.pointer none] := by kernel_rfl
theorem sh21 : shp Proofs.Tryz.prog 21 = .int .i32 := by kernel_rfl
theorem so21 : szOk Proofs.Tryz.prog 21 = True := eq_true (szOk_of (n := 1) sh21 (by kernel_rfl) (by decide) (by decide))
theorem zs21 : zsT Proofs.Tryz.prog 21 = some [.int .i32 0] := by kernel_rfl
theorem sh22 : shp Proofs.Tryz.prog 22 = .slice 107 4 true := by kernel_rfl
theorem so22 : szOk Proofs.Tryz.prog 22 = True := eq_true (szOk_of (n := 1) sh22 (by kernel_rfl) (by decide) (by decide))
theorem sl22 : slT Proofs.Tryz.prog 22 = some (107, 4, 40, [.int .i64 0, .int .i64 0, .string ⟨([] : List UInt8).toArray⟩, .int .i64 0]) := by kernel_rfl
theorem zs22 : zsT Proofs.Tryz.prog 22 = some [.slice none 0 0] := by kernel_rfl
theorem sh23 : shp Proofs.Tryz.prog 23 = .slice 47 2 true := by kernel_rfl
theorem so23 : szOk Proofs.Tryz.prog 23 = True := eq_true (szOk_of (n := 1) sh23 (by kernel_rfl) (by decide) (by decide))
theorem sl23 : slT Proofs.Tryz.prog 23 = some (47, 2, 40, [.string ⟨([] : List UInt8).toArray⟩, .slice none 0 0]) := by kernel_rfl
theorem zs23 : zsT Proofs.Tryz.prog 23 = some [.slice none 0 0] := by kernel_rfl
theorem sh24 : shp Proofs.Tryz.prog 24 = .struct [(0, 1, false), (1, 1, false)] 2 := by kernel_rfl
theorem zt24 : zeroT Proofs.Tryz.prog 24 = some [.slice none 0 0, .slice none 0 0] := by kernel_rfl
theorem so24 : szOk Proofs.Tryz.prog 24 = True := eq_true (szOk_of (n := 2) sh24 (by kernel_rfl) (by decide) (by decide))
theorem zs24 : zsT Proofs.Tryz.prog 24 = some [.slice none 0 0, .slice none 0 0] := by kernel_rfl
theorem sh25 : shp Proofs.Tryz.prog 25 = .struct [(0, 1, false), (1, 1, false)] 2 := by kernel_rfl
theorem zt25 : zeroT Proofs.Tryz.prog 25 = some [.slice none 0 0, .slice none 0 0] := by kernel_rfl
theorem so25 : szOk Proofs.Tryz.prog 25 = True := eq_true (szOk_of (n := 2) sh25 (by kernel_rfl) (by decide) (by decide))
theorem zs25 : zsT Proofs.Tryz.prog 25 = some [.slice none 0 0, .slice none 0 0] := by kernel_rfl
theorem sh26 : shp Proofs.Tryz.prog 26 = .int .i64 := by kernel_rfl
theorem so26 : szOk Proofs.Tryz.prog 26 = True := eq_true (szOk_of (n := 1) sh26 (by kernel_rfl) (by decide) (by decide))
theorem zs26 : zsT Proofs.Tryz.prog 26 = some [.int .i64 0] := by kernel_rfl
theorem sh31 : shp Proofs.Tryz.prog 31 = .struct [(0, 1, false), (1, 1, false), (2, 1, false), (3, 1, false), (4, 1, false)] 5 := by kernel_rfl
theorem zt31 : zeroT Proofs.Tryz.prog 31 = some [.int .i64 0, .string ⟨([] : List UInt8).toArray⟩, .string ⟨([] : List UInt8).toArray⟩, .int .i64 0, .string ⟨([] : List UInt8).toArray⟩] := by kernel_rfl
theorem so31 : szOk Proofs.Tryz.prog 31 = True := eq_true (szOk_of (n := 5) sh31 (by kernel_rfl) (by decide) (by decide))
theorem zs31 : zsT Proofs.Tryz.prog 31 = some [.int .i64 0, .string ⟨([] : List UInt8).toArray⟩, .string ⟨([] : List UInt8).toArray⟩, .int .i64 0, .string ⟨([] : List UInt8).toArray⟩] := by kernel_rfl
theorem sh32 : shp Proofs.Tryz.prog 32 = .struct [(0, 1, false), (1, 1, false), (2, 1, false), (3, 1, false), (4, 1, false)] 5 := by kernel_rfl
theorem zt32 : zeroT Proofs.Tryz.prog 32 = some [.int .i64 0, .string ⟨([] : List UInt8).toArray⟩, .string ⟨([] : List UInt8).toArray⟩, .int .i64 0, .string ⟨([] : List UInt8).toArray⟩] := by kernel_rfl
theorem so32 : szOk Proofs.Tryz.prog 32 = True := eq_true (szOk_of (n := 5) sh32 (by kernel_rfl) (by decide) (by decide))
theorem zs32 : zsT Proofs.Tryz.prog 32 = some [.int .i64 0, .string ⟨([] : List UInt8).toArray⟩, .string ⟨([] : List UInt8).toArray⟩, .int .i64 0, .string ⟨([] : List UInt8).toArray⟩] := by kernel_rfl
theorem sh38 : shp Proofs.Tryz.prog 38 = .slice 3 1 false := by kernel_rfl
theorem so38 : szOk Proofs.Tryz.prog 38 = True := eq_true (szOk_of (n := 1) sh38 (by kernel_rfl) (by decide) (by decide))
theorem sl38 : slT Proofs.Tryz.prog 38 = some (3, 1, 8, [.int .i64 0]) := by kernel_rfl
theorem zs38 : zsT Proofs.Tryz.prog 38 = some [.slice none 0 0] := by kernel_rfl
theorem sh45 : shp Proofs.Tryz.prog 45 = .slice 49 3 true := by kernel_rfl
theorem so45 : szOk Proofs.Tryz.prog 45 = True := eq_true (szOk_of (n := 1) sh45 (by kernel_rfl) (by decide) (by decide))
theorem sl45 : slT Proofs.Tryz.prog 45 = some (49, 3, 24, [.bool false, .int .i64 0, .int .i64 0]) := by kernel_rfl
theorem zs45 : zsT Proofs.Tryz.prog 45 = some [.slice none 0 0] := by kernel_rfl
theorem sh46 : shp Proofs.Tryz.prog 46 = .struct [(0, 1, false), (1, 1, false)] 2 := by kernel_rfl
theorem zt46 : zeroT Proofs.Tryz.prog 46 = some [.string ⟨([] : List UInt8).toArray⟩, .slice none 0 0] := by kernel_rfl
theorem so46 : szOk Proofs.Tryz.prog 46 = True := eq_true (szOk_of (n := 2) sh46 (by kernel_rfl) (by decide) (by decide))
theorem zs46 : zsT Proofs.Tryz.prog 46 = some [.string ⟨([] : List UInt8).toArray⟩, .slice none 0 0] := by kernel_rfl
theorem sh47 : shp Proofs.Tryz.prog 47 = .struct [(0, 1, false), (1, 1, false)] 2 := by kernel_rfl
theorem zt47 : zeroT Proofs.Tryz.prog 47 = some [.string ⟨([] : List UInt8).toArray⟩, .slice none 0 0] := by kernel_rfl
theorem so47 : szOk Proofs.Tryz.prog 47 = True := eq_true (szOk_of (n := 2) sh47 (by kernel_rfl) (by decide) (by decide))
theorem zs47 : zsT Proofs.Tryz.prog 47 = some [.string ⟨([] : List UInt8).toArray⟩, .slice none 0 0] := by kernel_rfl
theorem sh48 : shp Proofs.Tryz.prog 48 = .struct [(0, 1, false), (1, 1, false), (2, 1, false)] 3 := by kernel_rfl
theorem zt48 : zeroT Proofs.Tryz.prog 48 = some [.bool false, .int .i64 0, .int .i64 0] := by kernel_rfl
theorem so48 : szOk Proofs.Tryz.prog 48 = True := eq_true (szOk_of (n := 3) sh48 (by kernel_rfl) (by decide) (by decide))
theorem zs48 : zsT Proofs.Tryz.prog 48 = some [.bool false, .int .i64 0, .int .i64 0] := by kernel_rfl
theorem sh49 : shp Proofs.Tryz.prog 49 = .struct [(0, 1, false), (1, 1, false), (2, 1, false)] 3 := by kernel_rfl
theorem zt49 : zeroT Proofs.Tryz.prog 49 = some [.bool false, .int .i64 0, .int .i64 0] := by kernel_rfl
theorem so49 : szOk Proofs.Tryz.prog 49 = True := eq_true (szOk_of (n := 3) sh49 (by kernel_rfl) (by decide) (by decide))
theorem zs49 : zsT Proofs.Tryz.prog 49 = some [.bool false, .int .i64 0, .int .i64 0] := by kernel_rfl
theorem sh51 : shp Proofs.Tryz.prog 51 = .slice 9 1 false := by kernel_rfl
theorem so51 : szOk Proofs.Tryz.prog 51 = True := eq_true (szOk_of (n := 1) sh51 (by kernel_rfl) (by decide) (by decide))
theorem sl51 : slT Proofs.Tryz.prog 51 = some (9, 1, 16, [.string ⟨([] : List UInt8).toArray⟩]) := by kernel_rfl
theorem zs51 : zsT Proofs.Tryz.prog 51 = some [.slice none 0 0] := by kernel_rfl
theorem sh57 : shp Proofs.Tryz.prog 57 = .slice 32 5 true := by kernel_rfl
theorem so57 : szOk Proofs.Tryz.prog 57 = True := eq_true (szOk_of (n := 1) sh57 (by kernel_rfl) (by decide) (by decide))
theorem sl57 : slT Proofs.Tryz.prog 57 = some (32, 5, 64, [.int .i64 0, .string ⟨([] : List UInt8).toArray⟩, .string ⟨([] : List UInt8).toArray⟩, .int .i64 0, .string ⟨([] : List UInt8).toArray⟩]) := by kernel_rfl
theorem zs57 : zsT Proofs.Tryz.prog 57 = some [.slice none 0 0] := by kernel_rfl
theorem sh62 : shp Proofs.Tryz.prog 62 = .struct [(0, 1, false), (1, 1, false)] 2 := by kernel_rfl
theorem zt62 : zeroT Proofs.Tryz.prog 62 = some [.int .i64 0, .string ⟨([] : List UInt8).toArray⟩] := by kernel_rfl
theorem so62 : szOk Proofs.Tryz.prog 62 = True := eq_true (szOk_of (n := 2) sh62 (by kernel_rfl) (by decide) (by decide))
theorem zs62 : zsT Proofs.Tryz.prog 62 = some [.int .i64 0, .string ⟨([] : List UInt8).toArray⟩] := by kernel_rfl
theorem sh63 : shp Proofs.Tryz.prog 63 = .struct [(0, 1, false), (1, 1, false)] 2 := by kernel_rfl
theorem zt63 : zeroT Proofs.Tryz.prog 63 = some [.int .i64 0, .string ⟨([] : List UInt8).toArray⟩] := by kernel_rfl
theorem so63 : szOk Proofs.Tryz.prog 63 = True := eq_true (szOk_of (n := 2) sh63 (by kernel_rfl) (by decide) (by decide))
theorem zs63 : zsT Proofs.Tryz.prog 63 = some [.int .i64 0, .string ⟨([] : List UInt8).toArray⟩] := by kernel_rfl
theorem sh68 : shp Proofs.Tryz.prog 68 = .slice 38 1 false := by kernel_rfl
theorem so68 : szOk Proofs.Tryz.prog 68 = True := eq_true (szOk_of (n := 1) sh68 (by kernel_rfl) (by decide) (by decide))
theorem sl68 : slT Proofs.Tryz.prog 68 = some (38, 1, 24, [.slice none 0 0]) := by kernel_rfl
theorem zs68 : zsT Proofs.Tryz.prog 68 = some [.slice none 0 0] := by kernel_rfl
theorem sh73 : shp Proofs.Tryz.prog 73 = .slice 144 2 true := by kernel_rfl
theorem so73 : szOk Proofs.Tryz.prog 73 = True := eq_true (szOk_of (n := 1) sh73 (by kernel_rfl) (by decide) (by decide))
theorem sl73 : slT Proofs.Tryz.prog 73 = some (144, 2, 16, [.int .i64 0, .int .i64 0]) := by kernel_rfl
theorem zs73 : zsT Proofs.Tryz.prog 73 = some [.slice none 0 0] := by kernel_rfl
theorem sh74 : shp Proofs.Tryz.prog 74 = .struct [(0, 1, false), (1, 1, false), (2, 1, false), (3, 1, false)] 4 := by kernel_rfl
theorem zt74 : zeroT Proofs.Tryz.prog 74 = some [.int .i64 0, .slice none 0 0, .int .i64 0, .int .i64 0] := by kernel_rfl
theorem so74 : szOk Proofs.Tryz.prog 74 = True := eq_true (szOk_of (n := 4) sh74 (by kernel_rfl) (by decide) (by decide))
theorem zs74 : zsT Proofs.Tryz.prog 74 = some [.int .i64 0, .slice none 0 0, .int .i64 0, .int .i64 0] := by kernel_rfl
theorem sh75 : shp Proofs.Tryz.prog 75 = .struct [(0, 1, false), (1, 1, false), (2, 1, false), (3, 1, false)] 4 := by kernel_rfl
theorem zt75 : zeroT Proofs.Tryz.prog 75 = some [.int .i64 0, .slice none 0 0, .int .i64 0, .int .i64 0] := by kernel_rfl
theorem so75 : szOk Proofs.Tryz.prog 75 = True := eq_true (szOk_of (n := 4) sh75 (by kernel_rfl) (by decide) (by decide))
theorem zs75 : zsT Proofs.Tryz.prog 75 = some [.int .i64 0, .slice none 0 0, .int .i64 0, .int .i64 0] := by kernel_rfl
theorem sh76 : shp Proofs.Tryz.prog 76 = .struct [(0, 2, true), (2, 4, true), (6, 1, false), (7, 1, false)] 8 := by kernel_rfl
theorem zt76 : zeroT Proofs.Tryz.prog 76 = some [.slice none 0 0, .slice none 0 0, .int .i64 0, .slice none 0 0, .int .i64 0, .int .i64 0, .string ⟨([] : List UInt8).toArray⟩, .int .i64 0] := by kernel_rfl
theorem so76 : szOk Proofs.Tryz.prog 76 = True := eq_true (szOk_of (n := 8) sh76 (by kernel_rfl) (by decide) (by decide))
theorem zs76 : zsT Proofs.Tryz.prog 76 = some [.slice none 0 0, .slice none 0 0, .int .i64 0, .slice none 0 0, .int .i64 0, .int .i64 0, .string ⟨([] : List UInt8).toArray⟩, .int .i64 0] := by kernel_rfl
theorem sh77 : shp Proofs.Tryz.prog 77 = .struct [(0, 2, true), (2, 4, true), (6, 1, false), (7, 1, false)] 8 := by kernel_rfl
theorem zt77 : zeroT Proofs.Tryz.prog 77 = some [.slice none 0 0, .slice none 0 0, .int .i64 0, .slice none 0 0, .int .i64 0, .int .i64 0, .string ⟨([] : List UInt8).toArray⟩, .int .i64 0] := by kernel_rfl
theorem so77 : szOk Proofs.Tryz.prog 77 = True := eq_true (szOk_of (n := 8) sh77 (by kernel_rfl) (by decide) (by decide))
theorem zs77 : zsT Proofs.Tryz.prog 77 = some [.slice none 0 0, .slice none 0 0, .int .i64 0, .slice none 0 0, .int .i64 0, .int .i64 0, .string ⟨([] : List UInt8).toArray⟩, .int .i64 0] := by kernel_rfl
theorem sh106 : shp Proofs.Tryz.prog 106 = .struct [(0, 1, false), (1, 1, false), (2, 1, false), (3, 1, false)] 4 := by kernel_rfl
theorem zt106 : zeroT Proofs.Tryz.prog 106 = some [.int .i64 0, .int .i64 0, .string ⟨([] : List UInt8).toArray⟩, .int .i64 0] := by kernel_rfl
theorem so106 : szOk Proofs.Tryz.prog 106 = True := eq_true (szOk_of (n := 4) sh106 (by kernel_rfl) (by decide) (by decide))
theorem zs106 : zsT Proofs.Tryz.prog 106 = some [.int .i64 0, .int .i64 0, .string ⟨([] : List UInt8).toArray⟩, .int .i64 0] := by kernel_rfl
theorem sh107 : shp Proofs.Tryz.prog 107 = .struct [(0, 1, false), (1, 1, false), (2, 1, false), (3, 1, false)] 4 := by kernel_rfl
theorem zt107 : zeroT Proofs.Tryz.prog 107 = some [.int .i64 0, .int .i64 0, .string ⟨([] : List UInt8).toArray⟩, .int .i64 0] := by kernel_rfl
theorem so107 : szOk Proofs.Tryz.prog 107 = True := eq_true (szOk_of (n := 4) sh107 (by kernel_rfl) (by decide) (by decide))
theorem zs107 : zsT Proofs.Tryz.prog 107 = some [.int .i64 0, .int .i64 0, .string ⟨([] : List UInt8).toArray⟩, .int .i64 0] := by kernel_rfl
theorem sh121 : shp Proofs.Tryz.prog 121 = .slice 5 1 false := by kernel_rfl
theorem so121 : szOk Proofs.Tryz.prog 121 = True := eq_true (szOk_of (n := 1) sh121 (by kernel_rfl) (by decide) (by decide))
theorem sl121 : slT Proofs.Tryz.prog 121 = some (5, 1, 1, [.int .u8 0]) := by kernel_rfl
theorem zs121 : zsT Proofs.Tryz.prog 121 = some [.slice none 0 0] := by kernel_rfl
theorem sh128 : shp Proofs.Tryz.prog 128 = .struct [(0, 2, true), (2, 4, true), (6, 1, false), (7, 1, false)] 8 := by kernel_rfl
theorem zt128 : zeroT Proofs.Tryz.prog 128 = some [.slice none 0 0, .slice none 0 0, .int .i64 0, .slice none 0 0, .int .i64 0, .int .i64 0, .string ⟨([] : List UInt8).toArray⟩, .int .i64 0] := by kernel_rfl
theorem so128 : szOk Proofs.Tryz.prog 128 = True := eq_true (szOk_of (n := 8) sh128 (by kernel_rfl) (by decide) (by decide))
theorem zs128 : zsT Proofs.Tryz.prog 128 = some [.slice none 0 0, .slice none 0 0, .int .i64 0, .slice none 0 0, .int .i64 0, .int .i64 0, .string ⟨([] : List UInt8).toArray⟩, .int .i64 0] := by kernel_rfl
theorem sh129 : shp Proofs.Tryz.prog 129 = .struct [(0, 2, true), (2, 4, true), (6, 1, false), (7, 1, false)] 8 := by kernel_rfl
theorem zt129 : zeroT Proofs.Tryz.prog 129 = some [.slice none 0 0, .slice none 0 0, .int .i64 0, .slice none 0 0, .int .i64 0, .int .i64 0, .string ⟨([] : List UInt8).toArray⟩, .int .i64 0] := by kernel_rfl
theorem so129 : szOk Proofs.Tryz.prog 129 = True := eq_true (szOk_of (n := 8) sh129 (by kernel_rfl) (by decide) (by decide))
theorem zs129 : zsT Proofs.Tryz.prog 129 = some [.slice none 0 0, .slice none 0 0, .int .i64 0, .slice none 0 0, .int .i64 0, .int .i64 0, .string ⟨([] : List UInt8).toArray⟩, .int .i64 0] := by kernel_rfl
theorem sh143 : shp Proofs.Tryz.prog 143 = .struct [(0, 1, false), (1, 1, false)] 2 := by kernel_rfl
theorem zt143 : zeroT Proofs.Tryz.prog 143 = some [.int .i64 0, .int .i64 0] := by kernel_rfl
theorem so143 : szOk Proofs.Tryz.prog 143 = True := eq_true (szOk_of (n := 2) sh143 (by kernel_rfl) (by decide) (by decide))
theorem zs143 : zsT Proofs.Tryz.prog 143 = some [.int .i64 0, .int .i64 0] := by kernel_rfl
theorem sh144 : shp Proofs.Tryz.prog 144 = .struct [(0, 1, false), (1, 1, false)] 2 := by kernel_rfl
theorem zt144 : zeroT Proofs.Tryz.prog 144 = some [.int .i64 0, .int .i64 0] := by kernel_rfl
theorem so144 : szOk Proofs.Tryz.prog 144 = True := eq_true (szOk_of (n := 2) sh144 (by kernel_rfl) (by decide) (by decide))
theorem zs144 : zsT Proofs.Tryz.prog 144 = some [.int .i64 0, .int .i64 0] := by kernel_rfl
theorem sh156 : shp Proofs.Tryz.prog 156 = .slice 23 1 false := by kernel_rfl
theorem so156 : szOk Proofs.Tryz.prog 156 = True := eq_true (szOk_of (n := 1) sh156 (by kernel_rfl) (by decide) (by decide))
theorem sl156 : slT Proofs.Tryz.prog 156 = some (23, 1, 24, [.slice none 0 0]) := by kernel_rfl
theorem zs156 : zsT Proofs.Tryz.prog 156 = some [.slice none 0 0] := by kernel_rfl
theorem sh170 : shp Proofs.Tryz.prog 170 = .int .u64 := by kernel_rfl
theorem so170 : szOk Proofs.Tryz.prog 170 = True := eq_true (szOk_of (n := 1) sh170 (by kernel_rfl) (by decide) (by decide))
theorem zs170 : zsT Proofs.Tryz.prog 170 = some [.int .u64 0] := by kernel_rfl
theorem sh173 : shp Proofs.Tryz.prog 173 = .slice 172 1 false := by kernel_rfl
theorem so173 : szOk Proofs.Tryz.prog 173 = True := eq_true (szOk_of (n := 1) sh173 (by kernel_rfl) (by decide) (by decide))
theorem sl173 : slT Proofs.Tryz.prog 173 = some (172, 1, 8, [.pointer none]) := by kernel_rfl
theorem zs173 : zsT Proofs.Tryz.prog 173 = some [.slice none 0 0] := by kernel_rfl
theorem sh176 : shp Proofs.Tryz.prog 176 = .arr 3 1 3 := by kernel_rfl
theorem so176 : szOk Proofs.Tryz.prog 176 = True := eq_true (szOk_of (n := 3) sh176 (by kernel_rfl) (by decide) (by decide))
theorem zs176 : zsT Proofs.Tryz.prog 176 = some [.string ⟨([] : List UInt8).toArray⟩, .string ⟨([] : List UInt8).toArray⟩, .string ⟨([] : List UInt8).toArray⟩] := by kernel_rfl
theorem sh189 : shp Proofs.Tryz.prog 189 = .int .u64 := by kernel_rfl
theorem so189 : szOk Proofs.Tryz.prog 189 = True := eq_true (szOk_of (n := 1) sh189 (by kernel_rfl) (by decide) (by decide))
theorem zs189 : zsT Proofs.Tryz.prog 189 = some [.int .u64 0] := by kernel_rfl
theorem sh195 : shp Proofs.Tryz.prog 195 = .int .u64 := by kernel_rfl
theorem so195 : szOk Proofs.Tryz.prog 195 = True := eq_true (szOk_of (n := 1) sh195 (by kernel_rfl) (by decide) (by decide))
theorem zs195 : zsT Proofs.Tryz.prog 195 = some [.int .u64 0] := by kernel_rfl
theorem sh196 : shp Proofs.Tryz.prog 196 = .struct [(0, 1, false), (1, 1, false), (2, 1, false)] 3 := by kernel_rfl
theorem zt196 : zeroT Proofs.Tryz.prog 196 = some [.pointer none, .pointer none, .int .u64 0] := by kernel_rfl
theorem so196 : szOk Proofs.Tryz.prog 196 = True := eq_true (szOk_of (n := 3) sh196 (by kernel_rfl) (by decide) (by decide))
theorem zs196 : zsT Proofs.Tryz.prog 196 = some [.pointer none, .pointer none, .int .u64 0] := by kernel_rfl
theorem sh197 : shp Proofs.Tryz.prog 197 = .struct [(0, 1, false), (1, 1, false), (2, 1, false)] 3 := by kernel_rfl
theorem zt197 : zeroT Proofs.Tryz.prog 197 = some [.pointer none, .pointer none, .int .u64 0] := by kernel_rfl
theorem so197 : szOk Proofs.Tryz.prog 197 = True := eq_true (szOk_of (n := 3) sh197 (by kernel_rfl) (by decide) (by decide))
theorem zs197 : zsT Proofs.Tryz.prog 197 = some [.pointer none, .pointer none, .int .u64 0] := by kernel_rfl
theorem sh204 : shp Proofs.Tryz.prog 204 = .struct [(0, 1, false), (1, 1, false)] 2 := by kernel_rfl
theorem zt204 : zeroT Proofs.Tryz.prog 204 = some [.nilFunc, .nilFunc] := by kernel_rfl
theorem so204 : szOk Proofs.Tryz.prog 204 = True := eq_true (szOk_of (n := 2) sh204 (by kernel_rfl) (by decide) (by decide))
theorem sh205 : shp Proofs.Tryz.prog 205 = .struct [(0, 1, false), (1, 1, false)] 2 := by kernel_rfl
theorem zt205 : zeroT Proofs.Tryz.prog 205 = some [.nilFunc, .nilFunc] := by kernel_rfl
theorem so205 : szOk Proofs.Tryz.prog 205 = True := eq_true (szOk_of (n := 2) sh205 (by kernel_rfl) (by decide) (by decide))
theorem sh222 : shp Proofs.Tryz.prog 222 = .struct [(0, 1, false)] 1 := by kernel_rfl
theorem zt222 : zeroT Proofs.Tryz.prog 222 = some [.pointer none] := by kernel_rfl
theorem so222 : szOk Proofs.Tryz.prog 222 = True := eq_true (szOk_of (n := 1) sh222 (by kernel_rfl) (by decide) (by decide))
theorem zs222 : zsT Proofs.Tryz.prog 222 = some [.pointer none] := by kernel_rfl
theorem sh223 : shp Proofs.Tryz.prog 223 = .struct [(0, 1, false)] 1 := by kernel_rfl
theorem zt223 : zeroT Proofs.Tryz.prog 223 = some [.pointer none] := by kernel_rfl
theorem so223 : szOk Proofs.Tryz.prog 223 = True := eq_true (szOk_of (n := 1) sh223 (by kernel_rfl) (by decide) (by decide))
theorem zs223 : zsT Proofs.Tryz.prog 223 = some [.pointer none] := by kernel_rfl
theorem sh226 : shp Proofs.Tryz.prog 226 = .int .u32 := by kernel_rfl
theorem so226 : szOk Proofs.Tryz.prog 226 = True := eq_true (szOk_of (n := 1) sh226 (by kernel_rfl) (by decide) (by decide))
theorem zs226 : zsT Proofs.Tryz.prog 226 = some [.int .u32 0] := by kernel_rfl
theorem sh228 : shp Proofs.Tryz.prog 228 = .int .i64 := by kernel_rfl
theorem so228 : szOk Proofs.Tryz.prog 228 = True := eq_true (szOk_of (n := 1) sh228 (by kernel_rfl) (by decide) (by decide))
theorem zs228 : zsT Proofs.Tryz.prog 228 = some [.int .i64 0] := by kernel_rfl
theorem sh240 : shp Proofs.Tryz.prog 240 = .int .u64 := by kernel_rfl
theorem so240 : szOk Proofs.Tryz.prog 240 = True := eq_true (szOk_of (n := 1) sh240 (by kernel_rfl) (by decide) (by decide))
theorem zs240 : zsT Proofs.Tryz.prog 240 = some [.int .u64 0] := by kernel_rfl
theorem sh253 : shp Proofs.Tryz.prog 253 = .struct [(0, 1, false), (1, 1, false)] 2 := by kernel_rfl
theorem zt253 : zeroT Proofs.Tryz.prog 253 = some [.int .u8 0, .int .u8 0] := by kernel_rfl
theorem so253 : szOk Proofs.Tryz.prog 253 = True := eq_true (szOk_of (n := 2) sh253 (by kernel_rfl) (by decide) (by decide))
theorem zs253 : zsT Proofs.Tryz.prog 253 = some [.int .u8 0, .int .u8 0] := by kernel_rfl
theorem sh254 : shp Proofs.Tryz.prog 254 = .struct [(0, 1, false), (1, 1, false)] 2 := by kernel_rfl
theorem zt254 : zeroT Proofs.Tryz.prog 254 = some [.int .u8 0, .int .u8 0] := by kernel_rfl
theorem so254 : szOk Proofs.Tryz.prog 254 = True := eq_true (szOk_of (n := 2) sh254 (by kernel_rfl) (by decide) (by decide))
theorem zs254 : zsT Proofs.Tryz.prog 254 = some [.int .u8 0, .int .u8 0] := by kernel_rfl
theorem sh257 : shp Proofs.Tryz.prog 257 = .struct [(0, 1, false), (1, 1, false), (2, 1, false), (3, 1, false)] 4 := by kernel_rfl
theorem zt257 : zeroT Proofs.Tryz.prog 257 = some [.pointer none, .pointer none, .pointer none, .string ⟨([] : List UInt8).toArray⟩] := by kernel_rfl
theorem so257 : szOk Proofs.Tryz.prog 257 = True := eq_true (szOk_of (n := 4) sh257 (by kernel_rfl) (by decide) (by decide))
theorem zs257 : zsT Proofs.Tryz.prog 257 = some [.pointer none, .pointer none, .pointer none, .string ⟨([] : List UInt8).toArray⟩] := by kernel_rfl
theorem sh258 : shp Proofs.Tryz.prog 258 = .struct [(0, 1, false), (1, 1, false), (2, 1, false), (3, 1, false)] 4 := by kernel_rfl
theorem zt258 : zeroT Proofs.Tryz.prog 258 = some [.pointer none, .pointer none, .pointer none, .string ⟨([] : List UInt8).toArray⟩] := by kernel_rfl
theorem so258 : szOk Proofs.Tryz.prog 258 = True := eq_true (szOk_of (n := 4) sh258 (by kernel_rfl) (by decide) (by decide))
theorem zs258 : zsT Proofs.Tryz.prog 258 = some [.pointer none, .pointer none, .pointer none, .string ⟨([] : List UInt8).toArray⟩] := by kernel_rfl
theorem sh260 : shp Proofs.Tryz.prog 260 = .struct [(0, 0, true)] 0 := by kernel_rfl
theorem zt260 : zeroT Proofs.Tryz.prog 260 = some [] := by kernel_rfl
theorem zs260 : zsT Proofs.Tryz.prog 260 = some [] := by kernel_rfl
theorem sh261 : shp Proofs.Tryz.prog 261 = .struct [(0, 0, true)] 0 := by kernel_rfl
theorem zt261 : zeroT Proofs.Tryz.prog 261 = some [] := by kernel_rfl
theorem zs261 : zsT Proofs.Tryz.prog 261 = some [] := by kernel_rfl
theorem sh262 : shp Proofs.Tryz.prog 262 = .int .u8 := by kernel_rfl
theorem so262 : szOk Proofs.Tryz.prog 262 = True := eq_true (szOk_of (n := 1) sh262 (by kernel_rfl) (by decide) (by decide))
theorem zs262 : zsT Proofs.Tryz.prog 262 = some [.int .u8 0] := by kernel_rfl
theorem sh263 : shp Proofs.Tryz.prog 263 = .int .u8 := by kernel_rfl
theorem so263 : szOk Proofs.Tryz.prog 263 = True := eq_true (szOk_of (n := 1) sh263 (by kernel_rfl) (by decide) (by decide))
theorem zs263 : zsT Proofs.Tryz.prog 263 = some [.int .u8 0] := by kernel_rfl
theorem sh266 : shp Proofs.Tryz.prog 266 = .int .i32 := by kernel_rfl
theorem so266 : szOk Proofs.Tryz.prog 266 = True := eq_true (szOk_of (n := 1) sh266 (by kernel_rfl) (by decide) (by decide))
theorem zs266 : zsT Proofs.Tryz.prog 266 = some [.int .i32 0] := by kernel_rfl
theorem sh267 : shp Proofs.Tryz.prog 267 = .int .i32 := by kernel_rfl
theorem so267 : szOk Proofs.Tryz.prog 267 = True := eq_true (szOk_of (n := 1) sh267 (by kernel_rfl) (by decide) (by decide))
theorem zs267 : zsT Proofs.Tryz.prog 267 = some [.int .i32 0] := by kernel_rfl
theorem sh268 : shp Proofs.Tryz.prog 268 = .struct [(0, 1, false), (1, 1, false), (2, 1, false), (3, 1, false), (4, 1, false), (5, 1, false), (6, 1, false), (7, 1, false), (8, 1, false), (9, 1, false), (10, 1, false)] 11 := by kernel_rfl
theorem zt268 : zeroT Proofs.Tryz.prog 268 = some [.int .u64 0, .int .u64 0, .int .u32 0, .int .u8 0, .int .u8 0, .int .u8 0, .int .u8 0, .nilFunc, .pointer none, .int .i32 0, .int .i32 0] := by kernel_rfl
theorem so268 : szOk Proofs.Tryz.prog 268 = True := eq_true (szOk_of (n := 11) sh268 (by kernel_rfl) (by decide) (by decide))
theorem sh269 : shp Proofs.Tryz.prog 269 = .struct [(0, 1, false), (1, 1, false), (2, 1, false), (3, 1, false), (4, 1, false), (5, 1, false), (6, 1, false), (7, 1, false), (8, 1, false), (9, 1, false), (10, 1, false)] 11 := by kernel_rfl
theorem zt269 : zeroT Proofs.Tryz.prog 269 = some [.int .u64 0, .int .u64 0, .int .u32 0, .int .u8 0, .int .u8 0, .int .u8 0, .int .u8 0, .nilFunc, .pointer none, .int .i32 0, .int .i32 0] := by kernel_rfl
theorem so269 : szOk Proofs.Tryz.prog 269 = True := eq_true (szOk_of (n := 11) sh269 (by kernel_rfl) (by decide) (by decide))
theorem sh270 : shp Proofs.Tryz.prog 270 = .struct [(0, 1, false), (1, 1, false)] 2 := by kernel_rfl
theorem zt270 : zeroT Proofs.Tryz.prog 270 = some [.string ⟨([] : List UInt8).toArray⟩, .int .u8 0] := by kernel_rfl
theorem so270 : szOk Proofs.Tryz.prog 270 = True := eq_true (szOk_of (n := 2) sh270 (by kernel_rfl) (by decide) (by decide))
theorem zs270 : zsT Proofs.Tryz.prog 270 = some [.string ⟨([] : List UInt8).toArray⟩, .int .u8 0] := by kernel_rfl
theorem sh271 : shp Proofs.Tryz.prog 271 = .struct [(0, 1, false), (1, 1, false)] 2 := by kernel_rfl
theorem zt271 : zeroT Proofs.Tryz.prog 271 = some [.string ⟨([] : List UInt8).toArray⟩, .int .u8 0] := by kernel_rfl
theorem so271 : szOk Proofs.Tryz.prog 271 = True := eq_true (szOk_of (n := 2) sh271 (by kernel_rfl) (by decide) (by decide))
theorem zs271 : zsT Proofs.Tryz.prog 271 = some [.string ⟨([] : List UInt8).toArray⟩, .int .u8 0] := by kernel_rfl
theorem eq32 : eqT Proofs.Tryz.prog 32 = some [.int .i64, .str, .str, .int .i64, .str] := by kernel_rfl
theorem eq49 : eqT Proofs.Tryz.prog 49 = some [.bool, .int .i64, .int .i64] := by kernel_rfl
theorem eq63 : eqT Proofs.Tryz.prog 63 = some [.int .i64, .str] := by kernel_rfl
theorem eq107 : eqT Proofs.Tryz.prog 107 = some [.int .i64, .int .i64, .str, .int .i64] := by kernel_rfl
theorem eq144 : eqT Proofs.Tryz.prog 144 = some [.int .i64, .int .i64] := by kernel_rfl
theorem shs : (((((((shp Proofs.Tryz.prog 2 = .int .i64) ∧ (shp Proofs.Tryz.prog 3 = .int .i64)) ∧ ((shp Proofs.Tryz.prog 4 = .bool) ∧ (shp Proofs.Tryz.prog 5 = .int .u8))) ∧ (((shp Proofs.Tryz.prog 6 = .int .u8) ∧ (shp Proofs.Tryz.prog 7 = .struct [(0, 1, false), (1, 1, false), (2, 1, false), (3, 1, false)] 4)) ∧ ((shp Proofs.Tryz.prog 8 = .struct [(0, 1, false), (1, 1, false), (2, 1, false), (3, 1, false)] 4) ∧ ((shp Proofs.Tryz.prog 9 = .str) ∧ (shp Proofs.Tryz.prog 10 = .str))))) ∧ ((((shp Proofs.Tryz.prog 11 = .str) ∧ (shp Proofs.Tryz.prog 12 = .int .u64)) ∧ ((shp Proofs.Tryz.prog 13 = .struct [(0, 1, false), (1, 1, false)] 2) ∧ (shp Proofs.Tryz.prog 14 = .struct [(0, 1, false), (1, 1, false)] 2))) ∧ (((shp Proofs.Tryz.prog 18 = .struct [(0, 1, false)] 1) ∧ (shp Proofs.Tryz.prog 19 = .struct [(0, 1, false)] 1)) ∧ ((shp Proofs.Tryz.prog 21 = .int .i32) ∧ ((shp Proofs.Tryz.prog 22 = .slice 107 4 true) ∧ (shp Proofs.Tryz.prog 23 = .slice 47 2 true)))))) ∧ (((((shp Proofs.Tryz.prog 24 = .struct [(0, 1, false), (1, 1, false)] 2) ∧ (shp Proofs.Tryz.prog 25 = .struct [(0, 1, false), (1, 1, false)] 2)) ∧ ((shp Proofs.Tryz.prog 26 = .int .i64) ∧ (shp Proofs.Tryz.prog 31 = .struct [(0, 1, false), (1, 1, false), (2, 1, false), (3, 1, false), (4, 1, false)] 5))) ∧ (((shp Proofs.Tryz.prog 32 = .struct [(0, 1, false), (1, 1, false), (2, 1, false), (3, 1, false), (4, 1, false)] 5) ∧ (shp Proofs.Tryz.prog 38 = .slice 3 1 false)) ∧ ((shp Proofs.Tryz.prog 45 = .slice 49 3 true) ∧ ((shp Proofs.Tryz.prog 46 = .struct [(0, 1, false), (1, 1, false)] 2) ∧ (shp Proofs.Tryz.prog 47 = .struct [(0, 1, false), (1, 1, false)] 2))))) ∧ ((((shp Proofs.Tryz.prog 48 = .struct [(0, 1, false), (1, 1, false), (2, 1, false)] 3) ∧ (shp Proofs.Tryz.prog 49 = .struct [(0, 1, false), (1, 1, false), (2, 1, false)] 3)) ∧ ((shp Proofs.Tryz.prog 51 = .slice 9 1 false) ∧ ((shp Proofs.Tryz.prog 57 = .slice 32 5 true) ∧ (shp Proofs.Tryz.prog 62 = .struct [(0, 1, false), (1, 1, false)] 2)))) ∧ (((shp Proofs.Tryz.prog 63 = .struct [(0, 1, false), (1, 1, false)] 2) ∧ (shp Proofs.Tryz.prog 68 = .slice 38 1 false)) ∧ ((shp Proofs.Tryz.prog 73 = .slice 144 2 true) ∧ ((shp Proofs.Tryz.prog 74 = .struct [(0, 1, false), (1, 1, false), (2, 1, false), (3, 1, false)] 4) ∧ (shp Proofs.Tryz.prog 75 = .struct [(0, 1, false), (1, 1, false), (2, 1, false), (3, 1, false)] 4))))))) ∧ ((((((shp Proofs.Tryz.prog 76 = .struct [(0, 2, true), (2, 4, true), (6, 1, false), (7, 1, false)] 8) ∧ (shp Proofs.Tryz.prog 77 = .struct [(0, 2, true), (2, 4, true), (6, 1, false), (7, 1, false)] 8)) ∧ ((shp Proofs.Tryz.prog 106 = .struct [(0, 1, false), (1, 1, false), (2, 1, false), (3, 1, false)] 4) ∧ (shp Proofs.Tryz.prog 107 = .struct [(0, 1, false), (1, 1, false), (2, 1, false), (3, 1, false)] 4))) ∧ (((shp Proofs.Tryz.prog 121 = .slice 5 1 false) ∧ (shp Proofs.Tryz.prog 128 = .struct [(0, 2, true), (2, 4, true), (6, 1, false), (7, 1, false)] 8)) ∧ ((shp Proofs.Tryz.prog 129 = .struct [(0, 2, true), (2, 4, true), (6, 1, false), (7, 1, false)] 8) ∧ ((shp Proofs.Tryz.prog 143 = .struct [(0, 1, false), (1, 1, false)] 2) ∧ (shp Proofs.Tryz.prog 144 = .struct [(0, 1, false), (1, 1, false)] 2))))) ∧ ((((shp Proofs.Tryz.prog 156 = .slice 23 1 false) ∧ (shp Proofs.Tryz.prog 170 = .int .u64)) ∧ ((shp Proofs.Tryz.prog 173 = .slice 172 1 false) ∧ ((shp Proofs.Tryz.prog 176 = .arr 3 1 3) ∧ (shp Proofs.Tryz.prog 189 = .int .u64)))) ∧ (((shp Proofs.Tryz.prog 195 = .int .u64) ∧ (shp Proofs.Tryz.prog 196 = .struct [(0, 1, false), (1, 1, false), (2, 1, false)] 3)) ∧ ((shp Proofs.Tryz.prog 197 = .struct [(0, 1, false), (1, 1, false), (2, 1, false)] 3) ∧ ((shp Proofs.Tryz.prog 204 = .struct [(0, 1, false), (1, 1, false)] 2) ∧ (shp Proofs.Tryz.prog 205 = .struct [(0, 1, false), (1, 1, false)] 2)))))) ∧ (((((shp Proofs.Tryz.prog 222 = .struct [(0, 1, false)] 1) ∧ (shp Proofs.Tryz.prog 223 = .struct [(0, 1, false)] 1)) ∧ ((shp Proofs.Tryz.prog 226 = .int .u32) ∧ (shp Proofs.Tryz.prog 228 = .int .i64))) ∧ (((shp Proofs.Tryz.prog 240 = .int .u64) ∧ (shp Proofs.Tryz.prog 253 = .struct [(0, 1, false), (1, 1, false)] 2)) ∧ ((shp Proofs.Tryz.prog 254 = .struct [(0, 1, false), (1, 1, false)] 2) ∧ ((shp Proofs.Tryz.prog 257 = .struct [(0, 1, false), (1, 1, false), (2, 1, false), (3, 1, false)] 4) ∧ (shp Proofs.Tryz.prog 258 = .struct [(0, 1, false), (1, 1, false), (2, 1, false), (3, 1, false)] 4))))) ∧ ((((shp Proofs.Tryz.prog 260 = .struct [(0, 0, true)] 0) ∧ (shp Proofs.Tryz.prog 261 = .struct [(0, 0, true)] 0)) ∧ ((shp Proofs.Tryz.prog 262 = .int .u8) ∧ ((shp Proofs.Tryz.prog 263 = .int .u8) ∧ (shp Proofs.Tryz.prog 266 = .int .i32)))) ∧ (((shp Proofs.Tryz.prog 267 = .int .i32) ∧ (shp Proofs.Tryz.prog 268 = .struct [(0, 1, false), (1, 1, false), (2, 1, false), (3, 1, false), (4, 1, false), (5, 1, false), (6, 1, false), (7, 1, false), (8, 1, false), (9, 1, false), (10, 1, false)] 11)) ∧ ((shp Proofs.Tryz.prog 269 = .struct [(0, 1, false), (1, 1, false), (2, 1, false), (3, 1, false), (4, 1, false), (5, 1, false), (6, 1, false), (7, 1, false), (8, 1, false), (9, 1, false), (10, 1, false)] 11) ∧ ((shp Proofs.Tryz.prog 270 = .struct [(0, 1, false), (1, 1, false)] 2) ∧ (shp Proofs.Tryz.prog 271 = .struct [(0, 1, false), (1, 1, false)] 2)))))))) :=
  ⟨⟨⟨⟨⟨⟨sh2, sh3⟩, ⟨sh4, sh5⟩⟩, ⟨⟨sh6, sh7⟩, ⟨sh8, ⟨sh9, sh10⟩⟩⟩⟩, ⟨⟨⟨sh11, sh12⟩, ⟨sh13, sh14⟩⟩, ⟨⟨sh18, sh19⟩, ⟨sh21, ⟨sh22, sh23⟩⟩⟩⟩⟩, ⟨⟨⟨⟨sh24, sh25⟩, ⟨sh26, sh31⟩⟩, ⟨⟨sh32, sh38⟩, ⟨sh45, ⟨sh46, sh47⟩⟩⟩⟩, ⟨⟨⟨sh48, sh49⟩, ⟨sh51, ⟨sh57, sh62⟩⟩⟩, ⟨⟨sh63, sh68⟩, ⟨sh73, ⟨sh74, sh75⟩⟩⟩⟩⟩⟩, ⟨⟨⟨⟨⟨sh76, sh77⟩, ⟨sh106, sh107⟩⟩, ⟨⟨sh121, sh128⟩, ⟨sh129, ⟨sh143, sh144⟩⟩⟩⟩, ⟨⟨⟨sh156, sh170⟩, ⟨sh173, ⟨sh176, sh189⟩⟩⟩, ⟨⟨sh195, sh196⟩, ⟨sh197, ⟨sh204, sh205⟩⟩⟩⟩⟩, ⟨⟨⟨⟨sh222, sh223⟩, ⟨sh226, sh228⟩⟩, ⟨⟨sh240, sh253⟩, ⟨sh254, ⟨sh257, sh258⟩⟩⟩⟩, ⟨⟨⟨sh260, sh261⟩, ⟨sh262, ⟨sh263, sh266⟩⟩⟩, ⟨⟨sh267, sh268⟩, ⟨sh269, ⟨sh270, sh271⟩⟩⟩⟩⟩⟩⟩
theorem zts : ((((((zeroT Proofs.Tryz.prog 7 = some [.int .i64 0, .int .i64 0, .bool false, .int .u8 0]) ∧ (zeroT Proofs.Tryz.prog 8 = some [.int .i64 0, .int .i64 0, .bool false, .int .u8 0])) ∧ ((zeroT Proofs.Tryz.prog 13 = some [.string ⟨([] : List UInt8).toArray⟩, .int .u64 0]) ∧ ((zeroT Proofs.Tryz.prog 14 = some [.string ⟨([] : List UInt8).toArray⟩, .int .u64 0]) ∧ (zeroT Proofs.Tryz.prog 18 = some [.pointer none])))) ∧ (((zeroT Proofs.Tryz.prog 19 = some [.pointer none]) ∧ (zeroT Proofs.Tryz.prog 24 = some [.slice none 0 0, .slice none 0 0])) ∧ ((zeroT Proofs.Tryz.prog 25 = some [.slice none 0 0, .slice none 0 0]) ∧ ((zeroT Proofs.Tryz.prog 31 = some [.int .i64 0, .string ⟨([] : List UInt8).toArray⟩, .string ⟨([] : List UInt8).toArray⟩, .int .i64 0, .string ⟨([] : List UInt8).toArray⟩]) ∧ (zeroT Proofs.Tryz.prog 32 = some [.int .i64 0, .string ⟨([] : List UInt8).toArray⟩, .string ⟨([] : List UInt8).toArray⟩, .int .i64 0, .string ⟨([] : List UInt8).toArray⟩]))))) ∧ ((((zeroT Proofs.Tryz.prog 46 = some [.string ⟨([] : List UInt8).toArray⟩, .slice none 0 0]) ∧ (zeroT Proofs.Tryz.prog 47 = some [.string ⟨([] : List UInt8).toArray⟩, .slice none 0 0])) ∧ ((zeroT Proofs.Tryz.prog 48 = some [.bool false, .int .i64 0, .int .i64 0]) ∧ ((zeroT Proofs.Tryz.prog 49 = some [.bool false, .int .i64 0, .int .i64 0]) ∧ (zeroT Proofs.Tryz.prog 62 = some [.int .i64 0, .string ⟨([] : List UInt8).toArray⟩])))) ∧ (((zeroT Proofs.Tryz.prog 63 = some [.int .i64 0, .string ⟨([] : List UInt8).toArray⟩]) ∧ ((zeroT Proofs.Tryz.prog 74 = some [.int .i64 0, .slice none 0 0, .int .i64 0, .int .i64 0]) ∧ (zeroT Proofs.Tryz.prog 75 = some [.int .i64 0, .slice none 0 0, .int .i64 0, .int .i64 0]))) ∧ ((zeroT Proofs.Tryz.prog 76 = some [.slice none 0 0, .slice none 0 0, .int .i64 0, .slice none 0 0, .int .i64 0, .int .i64 0, .string ⟨([] : List UInt8).toArray⟩, .int .i64 0]) ∧ ((zeroT Proofs.Tryz.prog 77 = some [.slice none 0 0, .slice none 0 0, .int .i64 0, .slice none 0 0, .int .i64 0, .int .i64 0, .string ⟨([] : List UInt8).toArray⟩, .int .i64 0]) ∧ (zeroT Proofs.Tryz.prog 106 = some [.int .i64 0, .int .i64 0, .string ⟨([] : List UInt8).toArray⟩, .int .i64 0])))))) ∧ (((((zeroT Proofs.Tryz.prog 107 = some [.int .i64 0, .int .i64 0, .string ⟨([] : List UInt8).toArray⟩, .int .i64 0]) ∧ (zeroT Proofs.Tryz.prog 128 = some [.slice none 0 0, .slice none 0 0, .int .i64 0, .slice none 0 0, .int .i64 0, .int .i64 0, .string ⟨([] : List UInt8).toArray⟩, .int .i64 0])) ∧ ((zeroT Proofs.Tryz.prog 129 = some [.slice none 0 0, .slice none 0 0, .int .i64 0, .slice none 0 0, .int .i64 0, .int .i64 0, .string ⟨([] : List UInt8).toArray⟩, .int .i64 0]) ∧ ((zeroT Proofs.Tryz.prog 143 = some [.int .i64 0, .int .i64 0]) ∧ (zeroT Proofs.Tryz.prog 144 = some [.int .i64 0, .int .i64 0])))) ∧ (((zeroT Proofs.Tryz.prog 196 = some [.pointer none, .pointer none, .int .u64 0]) ∧ (zeroT Proofs.Tryz.prog 197 = some [.pointer none, .pointer none, .int .u64 0])) ∧ ((zeroT Proofs.Tryz.prog 204 = some [.nilFunc, .nilFunc]) ∧ ((zeroT Proofs.Tryz.prog 205 = some [.nilFunc, .nilFunc]) ∧ (zeroT Proofs.Tryz.prog 222 = some [.pointer none]))))) ∧ ((((zeroT Proofs.Tryz.prog 223 = some [.pointer none]) ∧ (zeroT Proofs.Tryz.prog 253 = some [.int .u8 0, .int .u8 0])) ∧ ((zeroT Proofs.Tryz.prog 254 = some [.int .u8 0, .int .u8 0]) ∧ ((zeroT Proofs.Tryz.prog 257 = some [.pointer none, .pointer none, .pointer none, .string ⟨([] : List UInt8).toArray⟩]) ∧ (zeroT Proofs.Tryz.prog 258 = some [.pointer none, .pointer none, .pointer none, .string ⟨([] : List UInt8).toArray⟩])))) ∧ (((zeroT Proofs.Tryz.prog 260 = some []) ∧ ((zeroT Proofs.Tryz.prog 261 = some []) ∧ (zeroT Proofs.Tryz.prog 268 = some [.int .u64 0, .int .u64 0, .int .u32 0, .int .u8 0, .int .u8 0, .int .u8 0, .int .u8 0, .nilFunc, .pointer none, .int .i32 0, .int .i32 0]))) ∧ ((zeroT Proofs.Tryz.prog 269 = some [.int .u64 0, .int .u64 0, .int .u32 0, .int .u8 0, .int .u8 0, .int .u8 0, .int .u8 0, .nilFunc, .pointer none, .int .i32 0, .int .i32 0]) ∧ ((zeroT Proofs.Tryz.prog 270 = some [.string ⟨([] : List UInt8).toArray⟩, .int .u8 0]) ∧ (zeroT Proofs.Tryz.prog 271 = some [.string ⟨([] : List UInt8).toArray⟩, .int .u8 0]))))))) :=
  ⟨⟨⟨⟨⟨zt7, zt8⟩, ⟨zt13, ⟨zt14, zt18⟩⟩⟩, ⟨⟨zt19, zt24⟩, ⟨zt25, ⟨zt31, zt32⟩⟩⟩⟩, ⟨⟨⟨zt46, zt47⟩, ⟨zt48, ⟨zt49, zt62⟩⟩⟩, ⟨⟨zt63, ⟨zt74, zt75⟩⟩, ⟨zt76, ⟨zt77, zt106⟩⟩⟩⟩⟩, ⟨⟨⟨⟨zt107, zt128⟩, ⟨zt129, ⟨zt143, zt144⟩⟩⟩, ⟨⟨zt196, zt197⟩, ⟨zt204, ⟨zt205, zt222⟩⟩⟩⟩, ⟨⟨⟨zt223, zt253⟩, ⟨zt254, ⟨zt257, zt258⟩⟩⟩, ⟨⟨zt260, ⟨zt261, zt268⟩⟩, ⟨zt269, ⟨zt270, zt271⟩⟩⟩⟩⟩⟩
theorem sos : (((((((szOk Proofs.Tryz.prog 2 = True) ∧ (szOk Proofs.Tryz.prog 3 = True)) ∧ ((szOk Proofs.Tryz.prog 4 = True) ∧ (szOk Proofs.Tryz.prog 5 = True))) ∧ (((szOk Proofs.Tryz.prog 6 = True) ∧ (szOk Proofs.Tryz.prog 7 = True)) ∧ ((szOk Proofs.Tryz.prog 8 = True) ∧ ((szOk Proofs.Tryz.prog 9 = True) ∧ (szOk Proofs.Tryz.prog 10 = True))))) ∧ ((((szOk Proofs.Tryz.prog 11 = True) ∧ (szOk Proofs.Tryz.prog 12 = True)) ∧ ((szOk Proofs.Tryz.prog 13 = True) ∧ (szOk Proofs.Tryz.prog 14 = True))) ∧ (((szOk Proofs.Tryz.prog 18 = True) ∧ (szOk Proofs.Tryz.prog 19 = True)) ∧ ((szOk Proofs.Tryz.prog 21 = True) ∧ ((szOk Proofs.Tryz.prog 22 = True) ∧ (szOk Proofs.Tryz.prog 23 = True)))))) ∧ (((((szOk Proofs.Tryz.prog 24 = True) ∧ (szOk Proofs.Tryz.prog 25 = True)) ∧ ((szOk Proofs.Tryz.prog 26 = True) ∧ (szOk Proofs.Tryz.prog 31 = True))) ∧ (((szOk Proofs.Tryz.prog 32 = True) ∧ (szOk Proofs.Tryz.prog 38 = True)) ∧ ((szOk Proofs.Tryz.prog 45 = True) ∧ ((szOk Proofs.Tryz.prog 46 = True) ∧ (szOk Proofs.Tryz.prog 47 = True))))) ∧ ((((szOk Proofs.Tryz.prog 48 = True) ∧ (szOk Proofs.Tryz.prog 49 = True)) ∧ ((szOk Proofs.Tryz.prog 51 = True) ∧ (szOk Proofs.Tryz.prog 57 = True))) ∧ (((szOk Proofs.Tryz.prog 62 = True) ∧ (szOk Proofs.Tryz.prog 63 = True)) ∧ ((szOk Proofs.Tryz.prog 68 = True) ∧ ((szOk Proofs.Tryz.prog 73 = True) ∧ (szOk Proofs.Tryz.prog 74 = True))))))) ∧ ((((((szOk Proofs.Tryz.prog 75 = True) ∧ (szOk Proofs.Tryz.prog 76 = True)) ∧ ((szOk Proofs.Tryz.prog 77 = True) ∧ (szOk Proofs.Tryz.prog 106 = True))) ∧ (((szOk Proofs.Tryz.prog 107 = True) ∧ (szOk Proofs.Tryz.prog 121 = True)) ∧ ((szOk Proofs.Tryz.prog 128 = True) ∧ ((szOk Proofs.Tryz.prog 129 = True) ∧ (szOk Proofs.Tryz.prog 143 = True))))) ∧ ((((szOk Proofs.Tryz.prog 144 = True) ∧ (szOk Proofs.Tryz.prog 156 = True)) ∧ ((szOk Proofs.Tryz.prog 170 = True) ∧ (szOk Proofs.Tryz.prog 173 = True))) ∧ (((szOk Proofs.Tryz.prog 176 = True) ∧ (szOk Proofs.Tryz.prog 189 = True)) ∧ ((szOk Proofs.Tryz.prog 195 = True) ∧ ((szOk Proofs.Tryz.prog 196 = True) ∧ (szOk Proofs.Tryz.prog 197 = True)))))) ∧ (((((szOk Proofs.Tryz.prog 204 = True) ∧ (szOk Proofs.Tryz.prog 205 = True)) ∧ ((szOk Proofs.Tryz.prog 222 = True) ∧ (szOk Proofs.Tryz.prog 223 = True))) ∧ (((szOk Proofs.Tryz.prog 226 = True) ∧ (szOk Proofs.Tryz.prog 228 = True)) ∧ ((szOk Proofs.Tryz.prog 240 = True) ∧ ((szOk Proofs.Tryz.prog 253 = True) ∧ (szOk Proofs.Tryz.prog 254 = True))))) ∧ ((((szOk Proofs.Tryz.prog 257 = True) ∧ (szOk Proofs.Tryz.prog 258 = True)) ∧ ((szOk Proofs.Tryz.prog 262 = True) ∧ ((szOk Proofs.Tryz.prog 263 = True) ∧ (szOk Proofs.Tryz.prog 266 = True)))) ∧ (((szOk Proofs.Tryz.prog 267 = True) ∧ (szOk Proofs.Tryz.prog 268 = True)) ∧ ((szOk Proofs.Tryz.prog 269 = True) ∧ ((szOk Proofs.Tryz.prog 270 = True) ∧ (szOk Proofs.Tryz.prog 271 = True)))))))) :=
  ⟨⟨⟨⟨⟨⟨so2, so3⟩, ⟨so4, so5⟩⟩, ⟨⟨so6, so7⟩, ⟨so8, ⟨so9, so10⟩⟩⟩⟩, ⟨⟨⟨so11, so12⟩, ⟨so13, so14⟩⟩, ⟨⟨so18, so19⟩, ⟨so21, ⟨so22, so23⟩⟩⟩⟩⟩, ⟨⟨⟨⟨so24, so25⟩, ⟨so26, so31⟩⟩, ⟨⟨so32, so38⟩, ⟨so45, ⟨so46, so47⟩⟩⟩⟩, ⟨⟨⟨so48, so49⟩, ⟨so51, so57⟩⟩, ⟨⟨so62, so63⟩, ⟨so68, ⟨so73, so74⟩⟩⟩⟩⟩⟩, ⟨⟨⟨⟨⟨so75, so76⟩, ⟨so77, so106⟩⟩, ⟨⟨so107, so121⟩, ⟨so128, ⟨so129, so143⟩⟩⟩⟩, ⟨⟨⟨so144, so156⟩, ⟨so170, so173⟩⟩, ⟨⟨so176, so189⟩, ⟨so195, ⟨so196, so197⟩⟩⟩⟩⟩, ⟨⟨⟨⟨so204, so205⟩, ⟨so222, so223⟩⟩, ⟨⟨so226, so228⟩, ⟨so240, ⟨so253, so254⟩⟩⟩⟩, ⟨⟨⟨so257, so258⟩, ⟨so262, ⟨so263, so266⟩⟩⟩, ⟨⟨so267, so268⟩, ⟨so269, ⟨so270, so271⟩⟩⟩⟩⟩⟩⟩
theorem sls : ((((slT Proofs.Tryz.prog 22 = some (107, 4, 40, [.int .i64 0, .int .i64 0, .string ⟨([] : List UInt8).toArray⟩, .int .i64 0])) ∧ (slT Proofs.Tryz.prog 23 = some (47, 2, 40, [.string ⟨([] : List UInt8).toArray⟩, .slice none 0 0]))) ∧ ((slT Proofs.Tryz.prog 38 = some (3, 1, 8, [.int .i64 0])) ∧ ((slT Proofs.Tryz.prog 45 = some (49, 3, 24, [.bool false, .int .i64 0, .int .i64 0])) ∧ (slT Proofs.Tryz.prog 51 = some (9, 1, 16, [.string ⟨([] : List UInt8).toArray⟩]))))) ∧ (((slT Proofs.Tryz.prog 57 = some (32, 5, 64, [.int .i64 0, .string ⟨([] : List UInt8).toArray⟩, .string ⟨([] : List UInt8).toArray⟩, .int .i64 0, .string ⟨([] : List UInt8).toArray⟩])) ∧ ((slT Proofs.Tryz.prog 68 = some (38, 1, 24, [.slice none 0 0])) ∧ (slT Proofs.Tryz.prog 73 = some (144, 2, 16, [.int .i64 0, .int .i64 0])))) ∧ ((slT Proofs.Tryz.prog 121 = some (5, 1, 1, [.int .u8 0])) ∧ ((slT Proofs.Tryz.prog 156 = some (23, 1, 24, [.slice none 0 0])) ∧ (slT Proofs.Tryz.prog 173 = some (172, 1, 8, [.pointer none])))))) :=
  ⟨⟨⟨sl22, sl23⟩, ⟨sl38, ⟨sl45, sl51⟩⟩⟩, ⟨⟨sl57, ⟨sl68, sl73⟩⟩, ⟨sl121, ⟨sl156, sl173⟩⟩⟩⟩
theorem zss : (((((((zsT Proofs.Tryz.prog 2 = some [.int .i64 0]) ∧ (zsT Proofs.Tryz.prog 3 = some [.int .i64 0])) ∧ ((zsT Proofs.Tryz.prog 4 = some [.bool false]) ∧ (zsT Proofs.Tryz.prog 5 = some [.int .u8 0]))) ∧ (((zsT Proofs.Tryz.prog 6 = some [.int .u8 0]) ∧ (zsT Proofs.Tryz.prog 7 = some [.int .i64 0, .int .i64 0, .bool false, .int .u8 0])) ∧ ((zsT Proofs.Tryz.prog 8 = some [.int .i64 0, .int .i64 0, .bool false, .int .u8 0]) ∧ (zsT Proofs.Tryz.prog 9 = some [.string ⟨([] : List UInt8).toArray⟩])))) ∧ ((((zsT Proofs.Tryz.prog 10 = some [.string ⟨([] : List UInt8).toArray⟩]) ∧ (zsT Proofs.Tryz.prog 11 = some [.string ⟨([] : List UInt8).toArray⟩])) ∧ ((zsT Proofs.Tryz.prog 12 = some [.int .u64 0]) ∧ (zsT Proofs.Tryz.prog 13 = some [.string ⟨([] : List UInt8).toArray⟩, .int .u64 0]))) ∧ (((zsT Proofs.Tryz.prog 14 = some [.string ⟨([] : List UInt8).toArray⟩, .int .u64 0]) ∧ (zsT Proofs.Tryz.prog 18 = some [.pointer none])) ∧ ((zsT Proofs.Tryz.prog 19 = some [.pointer none]) ∧ ((zsT Proofs.Tryz.prog 21 = some [.int .i32 0]) ∧ (zsT Proofs.Tryz.prog 22 = some [.slice none 0 0])))))) ∧ (((((zsT Proofs.Tryz.prog 23 = some [.slice none 0 0]) ∧ (zsT Proofs.Tryz.prog 24 = some [.slice none 0 0, .slice none 0 0])) ∧ ((zsT Proofs.Tryz.prog 25 = some [.slice none 0 0, .slice none 0 0]) ∧ (zsT Proofs.Tryz.prog 26 = some [.int .i64 0]))) ∧ (((zsT Proofs.Tryz.prog 31 = some [.int .i64 0, .string ⟨([] : List UInt8).toArray⟩, .string ⟨([] : List UInt8).toArray⟩, .int .i64 0, .string ⟨([] : List UInt8).toArray⟩]) ∧ (zsT Proofs.Tryz.prog 32 = some [.int .i64 0, .string ⟨([] : List UInt8).toArray⟩, .string ⟨([] : List UInt8).toArray⟩, .int .i64 0, .string ⟨([] : List UInt8).toArray⟩])) ∧ ((zsT Proofs.Tryz.prog 38 = some [.slice none 0 0]) ∧ ((zsT Proofs.Tryz.prog 45 = some [.slice none 0 0]) ∧ (zsT Proofs.Tryz.prog 46 = some [.string ⟨([] : List UInt8).toArray⟩, .slice none 0 0]))))) ∧ ((((zsT Proofs.Tryz.prog 47 = some [.string ⟨([] : List UInt8).toArray⟩, .slice none 0 0]) ∧ (zsT Proofs.Tryz.prog 48 = some [.bool false, .int .i64 0, .int .i64 0])) ∧ ((zsT Proofs.Tryz.prog 49 = some [.bool false, .int .i64 0, .int .i64 0]) ∧ (zsT Proofs.Tryz.prog 51 = some [.slice none 0 0]))) ∧ (((zsT Proofs.Tryz.prog 57 = some [.slice none 0 0]) ∧ (zsT Proofs.Tryz.prog 62 = some [.int .i64 0, .string ⟨([] : List UInt8).toArray⟩])) ∧ ((zsT Proofs.Tryz.prog 63 = some [.int .i64 0, .string ⟨([] : List UInt8).toArray⟩]) ∧ ((zsT Proofs.Tryz.prog 68 = some [.slice none 0 0]) ∧ (zsT Proofs.Tryz.prog 73 = some [.slice none 0 0]))))))) ∧ ((((((zsT Proofs.Tryz.prog 74 = some [.int .i64 0, .slice none 0 0, .int .i64 0, .int .i64 0]) ∧ (zsT Proofs.Tryz.prog 75 = some [.int .i64 0, .slice none 0 0, .int .i64 0, .int .i64 0])) ∧ ((zsT Proofs.Tryz.prog 76 = some [.slice none 0 0, .slice none 0 0, .int .i64 0, .slice none 0 0, .int .i64 0, .int .i64 0, .string ⟨([] : List UInt8).toArray⟩, .int .i64 0]) ∧ (zsT Proofs.Tryz.prog 77 = some [.slice none 0 0, .slice none 0 0, .int .i64 0, .slice none 0 0, .int .i64 0, .int .i64 0, .string ⟨([] : List UInt8).toArray⟩, .int .i64 0]))) ∧ (((zsT Proofs.Tryz.prog 106 = some [.int .i64 0, .int .i64 0, .string ⟨([] : List UInt8).toArray⟩, .int .i64 0]) ∧ (zsT Proofs.Tryz.prog 107 = some [.int .i64 0, .int .i64 0, .string ⟨([] : List UInt8).toArray⟩, .int .i64 0])) ∧ ((zsT Proofs.Tryz.prog 121 = some [.slice none 0 0]) ∧ ((zsT Proofs.Tryz.prog 128 = some [.slice none 0 0, .slice none 0 0, .int .i64 0, .slice none 0 0, .int .i64 0, .int .i64 0, .string ⟨([] : List UInt8).toArray⟩, .int .i64 0]) ∧ (zsT Proofs.Tryz.prog 129 = some [.slice none 0 0, .slice none 0 0, .int .i64 0, .slice none 0 0, .int .i64 0, .int .i64 0, .string ⟨([] : List UInt8).toArray⟩, .int .i64 0]))))) ∧ ((((zsT Proofs.Tryz.prog 143 = some [.int .i64 0, .int .i64 0]) ∧ (zsT Proofs.Tryz.prog 144 = some [.int .i64 0, .int .i64 0])) ∧ ((zsT Proofs.Tryz.prog 156 = some [.slice none 0 0]) ∧ (zsT Proofs.Tryz.prog 170 = some [.int .u64 0]))) ∧ (((zsT Proofs.Tryz.prog 173 = some [.slice none 0 0]) ∧ (zsT Proofs.Tryz.prog 176 = some [.string ⟨([] : List UInt8).toArray⟩, .string ⟨([] : List UInt8).toArray⟩, .string ⟨([] : List UInt8).toArray⟩])) ∧ ((zsT Proofs.Tryz.prog 189 = some [.int .u64 0]) ∧ ((zsT Proofs.Tryz.prog 195 = some [.int .u64 0]) ∧ (zsT Proofs.Tryz.prog 196 = some [.pointer none, .pointer none, .int .u64 0])))))) ∧ (((((zsT Proofs.Tryz.prog 197 = some [.pointer none, .pointer none, .int .u64 0]) ∧ (zsT Proofs.Tryz.prog 222 = some [.pointer none])) ∧ ((zsT Proofs.Tryz.prog 223 = some [.pointer none]) ∧ (zsT Proofs.Tryz.prog 226 = some [.int .u32 0]))) ∧ (((zsT Proofs.Tryz.prog 228 = some [.int .i64 0]) ∧ (zsT Proofs.Tryz.prog 240 = some [.int .u64 0])) ∧ ((zsT Proofs.Tryz.prog 253 = some [.int .u8 0, .int .u8 0]) ∧ ((zsT Proofs.Tryz.prog 254 = some [.int .u8 0, .int .u8 0]) ∧ (zsT Proofs.Tryz.prog 257 = some [.pointer none, .pointer none, .pointer none, .string ⟨([] : List UInt8).toArray⟩]))))) ∧ ((((zsT Proofs.Tryz.prog 258 = some [.pointer none, .pointer none, .pointer none, .string ⟨([] : List UInt8).toArray⟩]) ∧ (zsT Proofs.Tryz.prog 260 = some [])) ∧ ((zsT Proofs.Tryz.prog 261 = some []) ∧ (zsT Proofs.Tryz.prog 262 = some [.int .u8 0]))) ∧ (((zsT Proofs.Tryz.prog 263 = some [.int .u8 0]) ∧ (zsT Proofs.Tryz.prog 266 = some [.int .i32 0])) ∧ ((zsT Proofs.Tryz.prog 267 = some [.int .i32 0]) ∧ ((zsT Proofs.Tryz.prog 270 = some [.string ⟨([] : List UInt8).toArray⟩, .int .u8 0]) ∧ (zsT Proofs.Tryz.prog 271 = some [.string ⟨([] : List UInt8).toArray⟩, .int .u8 0])))))))) :=
  ⟨⟨⟨⟨⟨⟨zs2, zs3⟩, ⟨zs4, zs5⟩⟩, ⟨⟨zs6, zs7⟩, ⟨zs8, zs9⟩⟩⟩, ⟨⟨⟨zs10, zs11⟩, ⟨zs12, zs13⟩⟩, ⟨⟨zs14, zs18⟩, ⟨zs19, ⟨zs21, zs22⟩⟩⟩⟩⟩, ⟨⟨⟨⟨zs23, zs24⟩, ⟨zs25, zs26⟩⟩, ⟨⟨zs31, zs32⟩, ⟨zs38, ⟨zs45, zs46⟩⟩⟩⟩, ⟨⟨⟨zs47, zs48⟩, ⟨zs49, zs51⟩⟩, ⟨⟨zs57, zs62⟩, ⟨zs63, ⟨zs68, zs73⟩⟩⟩⟩⟩⟩, ⟨⟨⟨⟨⟨zs74, zs75⟩, ⟨zs76, zs77⟩⟩, ⟨⟨zs106, zs107⟩, ⟨zs121, ⟨zs128, zs129⟩⟩⟩⟩, ⟨⟨⟨zs143, zs144⟩, ⟨zs156, zs170⟩⟩, ⟨⟨zs173, zs176⟩, ⟨zs189, ⟨zs195, zs196⟩⟩⟩⟩⟩, ⟨⟨⟨⟨zs197, zs222⟩, ⟨zs223, zs226⟩⟩, ⟨⟨zs228, zs240⟩, ⟨zs253, ⟨zs254, zs257⟩⟩⟩⟩, ⟨⟨⟨zs258, zs260⟩, ⟨zs261, zs262⟩⟩, ⟨⟨zs263, zs266⟩, ⟨zs267, ⟨zs270, zs271⟩⟩⟩⟩⟩⟩⟩
theorem eqs : (((eqT Proofs.Tryz.prog 32 = some [.int .i64, .str, .str, .int .i64, .str]) ∧ (eqT Proofs.Tryz.prog 49 = some [.bool, .int .i64, .int .i64])) ∧ ((eqT Proofs.Tryz.prog 63 = some [.int .i64, .str]) ∧ ((eqT Proofs.Tryz.prog 107 = some [.int .i64, .int .i64, .str, .int .i64]) ∧ (eqT Proofs.Tryz.prog 144 = some [.int .i64, .int .i64])))) :=
  ⟨⟨eq32, eq49⟩, ⟨eq63, ⟨eq107, eq144⟩⟩⟩
end Go.X

