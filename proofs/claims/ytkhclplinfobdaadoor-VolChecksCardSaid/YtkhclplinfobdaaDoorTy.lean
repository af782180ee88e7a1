/- The shapes of the types of this translation. Conditions: none. -/
import Derived.Test.YtkhclplinfobdaaDoorProg
import Derived.Test.YtkhclplinfobdaaDoorFwB
import Derived.KernelRfl
set_option linter.unusedVariables false
namespace Go.X
open Go
theorem sh2 : shp Proofs.Tryd.prog 2 = .int .i64 := by kernel_rfl
theorem so2 : szOk Proofs.Tryd.prog 2 = True := eq_true (szOk_of (n := 1) sh2 (by kernel_rfl) (by decide) (by decide))
theorem zs2 : zsT Proofs.Tryd.prog 2 = some [.int .i64 0] := by kernel_rfl
theorem sh3 : shp Proofs.Tryd.prog 3 = .int .i64 := by kernel_rfl
theorem so3 : szOk Proofs.Tryd.prog 3 = True := eq_true (szOk_of (n := 1) sh3 (by kernel_rfl) (by decide) (by decide))
theorem zs3 : zsT Proofs.Tryd.prog 3 = some [.int .i64 0] := by kernel_rfl
theorem sh4 : shp Proofs.Tryd.prog 4 = .bool := by kernel_rfl
theorem so4 : szOk Proofs.Tryd.prog 4 = True := eq_true (szOk_of (n := 1) sh4 (by kernel_rfl) (by decide) (by decide))
theorem zs4 : zsT Proofs.Tryd.prog 4 = some [.bool false] := by kernel_rfl
theorem sh5 : shp Proofs.Tryd.prog 5 = .int .u8 := by kernel_rfl
theorem so5 : szOk Proofs.Tryd.prog 5 = True := eq_true (szOk_of (n := 1) sh5 (by kernel_rfl) (by decide) (by decide))
theorem zs5 : zsT Proofs.Tryd.prog 5 = some [.int .u8 0] := by kernel_rfl
theorem sh6 : shp Proofs.Tryd.prog 6 = .int .u8 := by kernel_rfl
theorem so6 : szOk Proofs.Tryd.prog 6 = True := eq_true (szOk_of (n := 1) sh6 (by kernel_rfl) (by decide) (by decide))
theorem zs6 : zsT Proofs.Tryd.prog 6 = some [.int .u8 0] := by kernel_rfl
theorem sh7 : shp Proofs.Tryd.prog 7 = .struct [(0, 1, false), (1, 1, false), (2, 1, false), (3, 1, false)] 4 := by kernel_rfl
theorem zt7 : zeroT Proofs.Tryd.prog 7 = some [.int .i64 0, .int .i64 0, .bool false, .int .u8 0] := by kernel_rfl
theorem so7 : szOk Proofs.Tryd.prog 7 = True := eq_true (szOk_of (n := 4) sh7 (by kernel_rfl) (by decide) (by decide))
theorem zs7 : zsT Proofs.Tryd.prog 7 = some [.int .i64 0, .int .i64 0, .bool false, .int .u8 0] := by kernel_rfl
theorem sh8 : shp Proofs.Tryd.prog 8 = .struct [(0, 1, false), (1, 1, false), (2, 1, false), (3, 1, false)] 4 := by kernel_rfl
theorem zt8 : zeroT Proofs.Tryd.prog 8 = some [.int .i64 0, .int .i64 0, .bool false, .int .u8 0] := by kernel_rfl
theorem so8 : szOk Proofs.Tryd.prog 8 = True := eq_true (szOk_of (n := 4) sh8 (by kernel_rfl) (by decide) (by decide))
theorem zs8 : zsT Proofs.Tryd.prog 8 = some [.int .i64 0, .int .i64 0, .bool false, .int .u8 0] := by kernel_rfl
theorem sh9 : shp Proofs.Tryd.prog 9 = .str := by kernel_rfl
theorem so9 : szOk Proofs.Tryd.prog 9 = True := eq_true (szOk_of (n := 1) sh9 (by kernel_rfl) (by decide) (by decide))
theorem zs9 : zsT Proofs.Tryd.prog 9 = some [.string ⟨([] : List UInt8).toArray⟩] := by kernel_rfl
theorem sh10 : shp Proofs.Tryd.prog 10 = .str := by kernel_rfl
theorem so10 : szOk Proofs.Tryd.prog 10 = True := eq_true (szOk_of (n := 1) sh10 (by kernel_rfl) (by decide) (by decide))
theorem zs10 : zsT Proofs.Tryd.prog 10 = some [.string ⟨([] : List UInt8).toArray⟩] := by kernel_rfl
theorem sh11 : shp Proofs.Tryd.prog 11 = .str := by kernel_rfl
theorem so11 : szOk Proofs.Tryd.prog 11 = True := eq_true (szOk_of (n := 1) sh11 (by kernel_rfl) (by decide) (by decide))
theorem zs11 : zsT Proofs.Tryd.prog 11 = some [.string ⟨([] : List UInt8).toArray⟩] := by kernel_rfl
theorem sh12 : shp Proofs.Tryd.prog 12 = .int .u64 := by kernel_rfl
theorem so12 : szOk Proofs.Tryd.prog 12 = True := eq_true (szOk_of (n := 1) sh12 (by kernel_rfl) (by decide) (by decide))
theorem zs12 : zsT Proofs.Tryd.prog 12 = some [.int .u64 0] := by kernel_rfl
theorem sh13 : shp Proofs.Tryd.prog 13 = .struct [(0, 1, false), (1, 1, false)] 2 := by kernel_rfl
theorem zt13 : zeroT Proofs.Tryd.prog 13 = some [.string ⟨([] : List UInt8).toArray⟩, .int .u64 0] := by kernel_rfl
theorem so13 : szOk Proofs.Tryd.prog 13 = True := eq_true (szOk_of (n := 2) sh13 (by kernel_rfl) (by decide) (by decide))
theorem zs13 : zsT Proofs.Tryd.prog 13 = some [.string ⟨([] : List UInt8).toArray⟩, .int .u64 0] := by kernel_rfl
theorem sh14 : shp Proofs.Tryd.prog 14 = .struct [(0, 1, false), (1, 1, false)] 2 := by kernel_rfl
theorem zt14 : zeroT Proofs.Tryd.prog 14 = some [.string ⟨([] : List UInt8).toArray⟩, .int .u64 0] := by kernel_rfl
theorem so14 : szOk Proofs.Tryd.prog 14 = True := eq_true (szOk_of (n := 2) sh14 (by kernel_rfl) (by decide) (by decide))
theorem zs14 : zsT Proofs.Tryd.prog 14 = some [.string ⟨([] : List UInt8).toArray⟩, .int .u64 0] := by kernel_rfl
theorem sh18 : shp Proofs.Tryd.prog 18 = .struct [(0, 1, false)] 1 := by kernel_rfl
theorem zt18 : zeroT Proofs.Tryd.prog 18 = some [.pointer none] := by kernel_rfl
theorem so18 : szOk Proofs.Tryd.prog 18 = True := eq_true (szOk_of (n := 1) sh18 (by kernel_rfl) (by decide) (by decide))
theorem zs18 : zsT Proofs.Tryd.prog 18 = some [.pointer none] := by kernel_rfl
theorem sh19 : shp Proofs.Tryd.prog 19 = .struct [(0, 1, false)] 1 := by kernel_rfl
theorem zt19 : zeroT Proofs.Tryd.prog 19 = some [.pointer none] := by kernel_rfl
theorem so19 : szOk Proofs.Tryd.prog 19 = True := eq_true (szOk_of (n := 1) sh19 (by kernel_rfl) (by decide) (by decide))
theorem zs19 : zsT Proofs.Tryd.prog 19 = some [.pointer none] := by kernel_rfl
theorem sh21 : shp Proofs.Tryd.prog 21 = .int .i32 := by kernel_rfl
theorem so21 : szOk Proofs.Tryd.prog 21 = True := eq_true (szOk_of (n := 1) sh21 (by kernel_rfl) (by decide) (by decide))
theorem zs21 : zsT Proofs.Tryd.prog 21 = some [.int .i32 0] := by kernel_rfl
theorem sh22 : shp Proofs.Tryd.prog 22 = .struct [(0, 1, false), (1, 1, false), (2, 1, false), (3, 1, false), (4, 1, false)] 5 := by kernel_rfl
theorem zt22 : zeroT Proofs.Tryd.prog 22 = some [.int .i64 0, .string ⟨([] : List UInt8).toArray⟩, .string ⟨([] : List UInt8).toArray⟩, .int .i64 0, .string ⟨([] : List UInt8).toArray⟩] := by kernel_rfl
theorem so22 : szOk Proofs.Tryd.prog 22 = True := eq_true (szOk_of (n := 5) sh22 (by kernel_rfl) (by decide) (by decide))
theorem zs22 : zsT Proofs.Tryd.prog 22 = some [.int .i64 0, .string ⟨([] : List UInt8).toArray⟩, .string ⟨([] : List UInt8).toArray⟩, .int .i64 0, .string ⟨([] : List UInt8).toArray⟩] := by kernel_rfl
theorem sh23 : shp Proofs.Tryd.prog 23 = .struct [(0, 1, false), (1, 1, false), (2, 1, false), (3, 1, false), (4, 1, false)] 5 := by kernel_rfl
theorem zt23 : zeroT Proofs.Tryd.prog 23 = some [.int .i64 0, .string ⟨([] : List UInt8).toArray⟩, .string ⟨([] : List UInt8).toArray⟩, .int .i64 0, .string ⟨([] : List UInt8).toArray⟩] := by kernel_rfl
theorem so23 : szOk Proofs.Tryd.prog 23 = True := eq_true (szOk_of (n := 5) sh23 (by kernel_rfl) (by decide) (by decide))
theorem zs23 : zsT Proofs.Tryd.prog 23 = some [.int .i64 0, .string ⟨([] : List UInt8).toArray⟩, .string ⟨([] : List UInt8).toArray⟩, .int .i64 0, .string ⟨([] : List UInt8).toArray⟩] := by kernel_rfl
theorem sh24 : shp Proofs.Tryd.prog 24 = .int .i64 := by kernel_rfl
theorem so24 : szOk Proofs.Tryd.prog 24 = True := eq_true (szOk_of (n := 1) sh24 (by kernel_rfl) (by decide) (by decide))
theorem zs24 : zsT Proofs.Tryd.prog 24 = some [.int .i64 0] := by kernel_rfl
theorem sh36 : shp Proofs.Tryd.prog 36 = .slice 95 4 true := by kernel_rfl
theorem so36 : szOk Proofs.Tryd.prog 36 = True := eq_true (szOk_of (n := 1) sh36 (by kernel_rfl) (by decide) (by decide))
theorem sl36 : slT Proofs.Tryd.prog 36 = some (95, 4, 40, [.int .i64 0, .int .i64 0, .string ⟨([] : List UInt8).toArray⟩, .int .i64 0]) := by kernel_rfl
theorem zs36 : zsT Proofs.Tryd.prog 36 = some [.slice none 0 0] := by kernel_rfl
theorem sh37 : shp Proofs.Tryd.prog 37 = .slice 50 2 true := by kernel_rfl
theorem so37 : szOk Proofs.Tryd.prog 37 = True := eq_true (szOk_of (n := 1) sh37 (by kernel_rfl) (by decide) (by decide))
theorem sl37 : slT Proofs.Tryd.prog 37 = some (50, 2, 40, [.string ⟨([] : List UInt8).toArray⟩, .slice none 0 0]) := by kernel_rfl
theorem zs37 : zsT Proofs.Tryd.prog 37 = some [.slice none 0 0] := by kernel_rfl
theorem sh38 : shp Proofs.Tryd.prog 38 = .struct [(0, 1, false), (1, 1, false)] 2 := by kernel_rfl
theorem zt38 : zeroT Proofs.Tryd.prog 38 = some [.slice none 0 0, .slice none 0 0] := by kernel_rfl
theorem so38 : szOk Proofs.Tryd.prog 38 = True := eq_true (szOk_of (n := 2) sh38 (by kernel_rfl) (by decide) (by decide))
theorem zs38 : zsT Proofs.Tryd.prog 38 = some [.slice none 0 0, .slice none 0 0] := by kernel_rfl
theorem sh39 : shp Proofs.Tryd.prog 39 = .struct [(0, 1, false), (1, 1, false)] 2 := by kernel_rfl
theorem zt39 : zeroT Proofs.Tryd.prog 39 = some [.slice none 0 0, .slice none 0 0] := by kernel_rfl
theorem so39 : szOk Proofs.Tryd.prog 39 = True := eq_true (szOk_of (n := 2) sh39 (by kernel_rfl) (by decide) (by decide))
theorem zs39 : zsT Proofs.Tryd.prog 39 = some [.slice none 0 0, .slice none 0 0] := by kernel_rfl
theorem sh40 : shp Proofs.Tryd.prog 40 = .slice 48 3 true := by kernel_rfl
theorem so40 : szOk Proofs.Tryd.prog 40 = True := eq_true (szOk_of (n := 1) sh40 (by kernel_rfl) (by decide) (by decide))
theorem sl40 : slT Proofs.Tryd.prog 40 = some (48, 3, 24, [.bool false, .int .i64 0, .int .i64 0]) := by kernel_rfl
theorem zs40 : zsT Proofs.Tryd.prog 40 = some [.slice none 0 0] := by kernel_rfl
theorem sh47 : shp Proofs.Tryd.prog 47 = .struct [(0, 1, false), (1, 1, false), (2, 1, false)] 3 := by kernel_rfl
theorem zt47 : zeroT Proofs.Tryd.prog 47 = some [.bool false, .int .i64 0, .int .i64 0] := by kernel_rfl
theorem so47 : szOk Proofs.Tryd.prog 47 = True := eq_true (szOk_of (n := 3) sh47 (by kernel_rfl) (by decide) (by decide))
theorem zs47 : zsT Proofs.Tryd.prog 47 = some [.bool false, .int .i64 0, .int .i64 0] := by kernel_rfl
theorem sh48 : shp Proofs.Tryd.prog 48 = .struct [(0, 1, false), (1, 1, false), (2, 1, false)] 3 := by kernel_rfl
theorem zt48 : zeroT Proofs.Tryd.prog 48 = some [.bool false, .int .i64 0, .int .i64 0] := by kernel_rfl
theorem so48 : szOk Proofs.Tryd.prog 48 = True := eq_true (szOk_of (n := 3) sh48 (by kernel_rfl) (by decide) (by decide))
theorem zs48 : zsT Proofs.Tryd.prog 48 = some [.bool false, .int .i64 0, .int .i64 0] := by kernel_rfl
theorem sh49 : shp Proofs.Tryd.prog 49 = .struct [(0, 1, false), (1, 1, false)] 2 := by kernel_rfl
theorem zt49 : zeroT Proofs.Tryd.prog 49 = some [.string ⟨([] : List UInt8).toArray⟩, .slice none 0 0] := by kernel_rfl
theorem so49 : szOk Proofs.Tryd.prog 49 = True := eq_true (szOk_of (n := 2) sh49 (by kernel_rfl) (by decide) (by decide))
theorem zs49 : zsT Proofs.Tryd.prog 49 = some [.string ⟨([] : List UInt8).toArray⟩, .slice none 0 0] := by kernel_rfl
theorem sh50 : shp Proofs.Tryd.prog 50 = .struct [(0, 1, false), (1, 1, false)] 2 := by kernel_rfl
theorem zt50 : zeroT Proofs.Tryd.prog 50 = some [.string ⟨([] : List UInt8).toArray⟩, .slice none 0 0] := by kernel_rfl
theorem so50 : szOk Proofs.Tryd.prog 50 = True := eq_true (szOk_of (n := 2) sh50 (by kernel_rfl) (by decide) (by decide))
theorem zs50 : zsT Proofs.Tryd.prog 50 = some [.string ⟨([] : List UInt8).toArray⟩, .slice none 0 0] := by kernel_rfl
theorem sh51 : shp Proofs.Tryd.prog 51 = .slice 9 1 false := by kernel_rfl
theorem so51 : szOk Proofs.Tryd.prog 51 = True := eq_true (szOk_of (n := 1) sh51 (by kernel_rfl) (by decide) (by decide))
theorem sl51 : slT Proofs.Tryd.prog 51 = some (9, 1, 16, [.string ⟨([] : List UInt8).toArray⟩]) := by kernel_rfl
theorem zs51 : zsT Proofs.Tryd.prog 51 = some [.slice none 0 0] := by kernel_rfl
theorem sh60 : shp Proofs.Tryd.prog 60 = .slice 67 3 true := by kernel_rfl
theorem so60 : szOk Proofs.Tryd.prog 60 = True := eq_true (szOk_of (n := 1) sh60 (by kernel_rfl) (by decide) (by decide))
theorem sl60 : slT Proofs.Tryd.prog 60 = some (67, 3, 24, [.int .i64 0, .int .i64 0, .int .i64 0]) := by kernel_rfl
theorem zs60 : zsT Proofs.Tryd.prog 60 = some [.slice none 0 0] := by kernel_rfl
theorem sh66 : shp Proofs.Tryd.prog 66 = .struct [(0, 1, false), (1, 1, false), (2, 1, false)] 3 := by kernel_rfl
theorem zt66 : zeroT Proofs.Tryd.prog 66 = some [.int .i64 0, .int .i64 0, .int .i64 0] := by kernel_rfl
theorem so66 : szOk Proofs.Tryd.prog 66 = True := eq_true (szOk_of (n := 3) sh66 (by kernel_rfl) (by decide) (by decide))
theorem zs66 : zsT Proofs.Tryd.prog 66 = some [.int .i64 0, .int .i64 0, .int .i64 0] := by kernel_rfl
theorem sh67 : shp Proofs.Tryd.prog 67 = .struct [(0, 1, false), (1, 1, false), (2, 1, false)] 3 := by kernel_rfl
theorem zt67 : zeroT Proofs.Tryd.prog 67 = some [.int .i64 0, .int .i64 0, .int .i64 0] := by kernel_rfl
theorem so67 : szOk Proofs.Tryd.prog 67 = True := eq_true (szOk_of (n := 3) sh67 (by kernel_rfl) (by decide) (by decide))
theorem zs67 : zsT Proofs.Tryd.prog 67 = some [.int .i64 0, .int .i64 0, .int .i64 0] := by kernel_rfl
theorem sh69 : shp Proofs.Tryd.prog 69 = .slice 5 1 false := by kernel_rfl
theorem so69 : szOk Proofs.Tryd.prog 69 = True := eq_true (szOk_of (n := 1) sh69 (by kernel_rfl) (by decide) (by decide))
theorem sl69 : slT Proofs.Tryd.prog 69 = some (5, 1, 1, [.int .u8 0]) := by kernel_rfl
theorem zs69 : zsT Proofs.Tryd.prog 69 = some [.slice none 0 0] := by kernel_rfl
theorem sh72 : shp Proofs.Tryd.prog 72 = .slice 71 1 false := by kernel_rfl
theorem so72 : szOk Proofs.Tryd.prog 72 = True := eq_true (szOk_of (n := 1) sh72 (by kernel_rfl) (by decide) (by decide))
theorem sl72 : slT Proofs.Tryd.prog 72 = some (71, 1, 8, [.pointer none]) := by kernel_rfl
theorem zs72 : zsT Proofs.Tryd.prog 72 = some [.slice none 0 0] := by kernel_rfl
theorem sh75 : shp Proofs.Tryd.prog 75 = .arr 3 1 3 := by kernel_rfl
theorem so75 : szOk Proofs.Tryd.prog 75 = True := eq_true (szOk_of (n := 3) sh75 (by kernel_rfl) (by decide) (by decide))
theorem zs75 : zsT Proofs.Tryd.prog 75 = some [.string ⟨([] : List UInt8).toArray⟩, .string ⟨([] : List UInt8).toArray⟩, .string ⟨([] : List UInt8).toArray⟩] := by kernel_rfl
theorem sh78 : shp Proofs.Tryd.prog 78 = .struct [(0, 1, false), (1, 1, false)] 2 := by kernel_rfl
theorem zt78 : zeroT Proofs.Tryd.prog 78 = some [.pointer none, .slice none 0 0] := by kernel_rfl
theorem so78 : szOk Proofs.Tryd.prog 78 = True := eq_true (szOk_of (n := 2) sh78 (by kernel_rfl) (by decide) (by decide))
theorem zs78 : zsT Proofs.Tryd.prog 78 = some [.pointer none, .slice none 0 0] := by kernel_rfl
theorem sh79 : shp Proofs.Tryd.prog 79 = .struct [(0, 1, false), (1, 1, false)] 2 := by kernel_rfl
theorem zt79 : zeroT Proofs.Tryd.prog 79 = some [.pointer none, .slice none 0 0] := by kernel_rfl
theorem so79 : szOk Proofs.Tryd.prog 79 = True := eq_true (szOk_of (n := 2) sh79 (by kernel_rfl) (by decide) (by decide))
theorem zs79 : zsT Proofs.Tryd.prog 79 = none := by kernel_rfl
theorem sh94 : shp Proofs.Tryd.prog 94 = .struct [(0, 1, false), (1, 1, false), (2, 1, false), (3, 1, false)] 4 := by kernel_rfl
theorem zt94 : zeroT Proofs.Tryd.prog 94 = some [.int .i64 0, .int .i64 0, .string ⟨([] : List UInt8).toArray⟩, .int .i64 0] := by kernel_rfl
theorem so94 : szOk Proofs.Tryd.prog 94 = True := eq_true (szOk_of (n := 4) sh94 (by kernel_rfl) (by decide) (by decide))
theorem zs94 : zsT Proofs.Tryd.prog 94 = some [.int .i64 0, .int .i64 0, .string ⟨([] : List UInt8).toArray⟩, .int .i64 0] := by kernel_rfl
theorem sh95 : shp Proofs.Tryd.prog 95 = .struct [(0, 1, false), (1, 1, false), (2, 1, false), (3, 1, false)] 4 := by kernel_rfl
theorem zt95 : zeroT Proofs.Tryd.prog 95 = some [.int .i64 0, .int .i64 0, .string ⟨([] : List UInt8).toArray⟩, .int .i64 0] := by kernel_rfl
theorem so95 : szOk Proofs.Tryd.prog 95 = True := eq_true (szOk_of (n := 4) sh95 (by kernel_rfl) (by decide) (by decide))
theorem zs95 : zsT Proofs.Tryd.prog 95 = some [.int .i64 0, .int .i64 0, .string ⟨([] : List UInt8).toArray⟩, .int .i64 0] := by kernel_rfl
theorem sh100 : shp Proofs.Tryd.prog 100 = .int .u64 := by kernel_rfl
theorem so100 : szOk Proofs.Tryd.prog 100 = True := eq_true (szOk_of (n := 1) sh100 (by kernel_rfl) (by decide) (by decide))
theorem zs100 : zsT Proofs.Tryd.prog 100 = some [.int .u64 0] := by kernel_rfl
theorem sh126 : shp Proofs.Tryd.prog 126 = .int .u32 := by kernel_rfl
theorem so126 : szOk Proofs.Tryd.prog 126 = True := eq_true (szOk_of (n := 1) sh126 (by kernel_rfl) (by decide) (by decide))
theorem zs126 : zsT Proofs.Tryd.prog 126 = some [.int .u32 0] := by kernel_rfl
theorem sh128 : shp Proofs.Tryd.prog 128 = .int .u64 := by kernel_rfl
theorem so128 : szOk Proofs.Tryd.prog 128 = True := eq_true (szOk_of (n := 1) sh128 (by kernel_rfl) (by decide) (by decide))
theorem zs128 : zsT Proofs.Tryd.prog 128 = some [.int .u64 0] := by kernel_rfl
theorem sh148 : shp Proofs.Tryd.prog 148 = .struct [(0, 1, false), (1, 1, false)] 2 := by kernel_rfl
theorem zt148 : zeroT Proofs.Tryd.prog 148 = some [.int .u8 0, .int .u8 0] := by kernel_rfl
theorem so148 : szOk Proofs.Tryd.prog 148 = True := eq_true (szOk_of (n := 2) sh148 (by kernel_rfl) (by decide) (by decide))
theorem zs148 : zsT Proofs.Tryd.prog 148 = some [.int .u8 0, .int .u8 0] := by kernel_rfl
theorem sh149 : shp Proofs.Tryd.prog 149 = .struct [(0, 1, false), (1, 1, false)] 2 := by kernel_rfl
theorem zt149 : zeroT Proofs.Tryd.prog 149 = some [.int .u8 0, .int .u8 0] := by kernel_rfl
theorem so149 : szOk Proofs.Tryd.prog 149 = True := eq_true (szOk_of (n := 2) sh149 (by kernel_rfl) (by decide) (by decide))
theorem zs149 : zsT Proofs.Tryd.prog 149 = some [.int .u8 0, .int .u8 0] := by kernel_rfl
theorem sh151 : shp Proofs.Tryd.prog 151 = .struct [(0, 1, false), (1, 1, false), (2, 1, false), (3, 1, false)] 4 := by kernel_rfl
theorem zt151 : zeroT Proofs.Tryd.prog 151 = some [.pointer none, .pointer none, .pointer none, .string ⟨([] : List UInt8).toArray⟩] := by kernel_rfl
theorem so151 : szOk Proofs.Tryd.prog 151 = True := eq_true (szOk_of (n := 4) sh151 (by kernel_rfl) (by decide) (by decide))
theorem zs151 : zsT Proofs.Tryd.prog 151 = some [.pointer none, .pointer none, .pointer none, .string ⟨([] : List UInt8).toArray⟩] := by kernel_rfl
theorem sh152 : shp Proofs.Tryd.prog 152 = .struct [(0, 1, false), (1, 1, false), (2, 1, false), (3, 1, false)] 4 := by kernel_rfl
theorem zt152 : zeroT Proofs.Tryd.prog 152 = some [.pointer none, .pointer none, .pointer none, .string ⟨([] : List UInt8).toArray⟩] := by kernel_rfl
theorem so152 : szOk Proofs.Tryd.prog 152 = True := eq_true (szOk_of (n := 4) sh152 (by kernel_rfl) (by decide) (by decide))
theorem zs152 : zsT Proofs.Tryd.prog 152 = some [.pointer none, .pointer none, .pointer none, .string ⟨([] : List UInt8).toArray⟩] := by kernel_rfl
theorem sh154 : shp Proofs.Tryd.prog 154 = .struct [(0, 0, true)] 0 := by kernel_rfl
theorem zt154 : zeroT Proofs.Tryd.prog 154 = some [] := by kernel_rfl
theorem zs154 : zsT Proofs.Tryd.prog 154 = some [] := by kernel_rfl
theorem sh155 : shp Proofs.Tryd.prog 155 = .struct [(0, 0, true)] 0 := by kernel_rfl
theorem zt155 : zeroT Proofs.Tryd.prog 155 = some [] := by kernel_rfl
theorem zs155 : zsT Proofs.Tryd.prog 155 = some [] := by kernel_rfl
theorem sh156 : shp Proofs.Tryd.prog 156 = .int .u8 := by kernel_rfl
theorem so156 : szOk Proofs.Tryd.prog 156 = True := eq_true (szOk_of (n := 1) sh156 (by kernel_rfl) (by decide) (by decide))
theorem zs156 : zsT Proofs.Tryd.prog 156 = some [.int .u8 0] := by kernel_rfl
theorem sh157 : shp Proofs.Tryd.prog 157 = .int .u8 := by kernel_rfl
theorem so157 : szOk Proofs.Tryd.prog 157 = True := eq_true (szOk_of (n := 1) sh157 (by kernel_rfl) (by decide) (by decide))
theorem zs157 : zsT Proofs.Tryd.prog 157 = some [.int .u8 0] := by kernel_rfl
theorem sh159 : shp Proofs.Tryd.prog 159 = .int .i32 := by kernel_rfl
theorem so159 : szOk Proofs.Tryd.prog 159 = True := eq_true (szOk_of (n := 1) sh159 (by kernel_rfl) (by decide) (by decide))
theorem zs159 : zsT Proofs.Tryd.prog 159 = some [.int .i32 0] := by kernel_rfl
theorem sh160 : shp Proofs.Tryd.prog 160 = .int .i32 := by kernel_rfl
theorem so160 : szOk Proofs.Tryd.prog 160 = True := eq_true (szOk_of (n := 1) sh160 (by kernel_rfl) (by decide) (by decide))
theorem zs160 : zsT Proofs.Tryd.prog 160 = some [.int .i32 0] := by kernel_rfl
theorem sh161 : shp Proofs.Tryd.prog 161 = .struct [(0, 1, false), (1, 1, false), (2, 1, false), (3, 1, false), (4, 1, false), (5, 1, false), (6, 1, false), (7, 1, false), (8, 1, false), (9, 1, false), (10, 1, false)] 11 := by kernel_rfl
theorem zt161 : zeroT Proofs.Tryd.prog 161 = some [.int .u64 0, .int .u64 0, .int .u32 0, .int .u8 0, .int .u8 0, .int .u8 0, .int .u8 0, .nilFunc, .pointer none, .int .i32 0, .int .i32 0] := by kernel_rfl
theorem so161 : szOk Proofs.Tryd.prog 161 = True := eq_true (szOk_of (n := 11) sh161 (by kernel_rfl) (by decide) (by decide))
theorem sh162 : shp Proofs.Tryd.prog 162 = .struct [(0, 1, false), (1, 1, false), (2, 1, false), (3, 1, false), (4, 1, false), (5, 1, false), (6, 1, false), (7, 1, false), (8, 1, false), (9, 1, false), (10, 1, false)] 11 := by kernel_rfl
theorem zt162 : zeroT Proofs.Tryd.prog 162 = some [.int .u64 0, .int .u64 0, .int .u32 0, .int .u8 0, .int .u8 0, .int .u8 0, .int .u8 0, .nilFunc, .pointer none, .int .i32 0, .int .i32 0] := by kernel_rfl
theorem so162 : szOk Proofs.Tryd.prog 162 = True := eq_true (szOk_of (n := 11) sh162 (by kernel_rfl) (by decide) (by decide))
theorem eq7 : eqT Proofs.Tryd.prog 7 = some [.int .i64, .int .i64, .bool, .int .u8] := by kernel_rfl
theorem eq8 : eqT Proofs.Tryd.prog 8 = some [.int .i64, .int .i64, .bool, .int .u8] := by kernel_rfl
theorem eq22 : eqT Proofs.Tryd.prog 22 = some [.int .i64, .str, .str, .int .i64, .str] := by kernel_rfl
theorem eq23 : eqT Proofs.Tryd.prog 23 = some [.int .i64, .str, .str, .int .i64, .str] := by kernel_rfl
theorem eq47 : eqT Proofs.Tryd.prog 47 = some [.bool, .int .i64, .int .i64] := by kernel_rfl
theorem eq48 : eqT Proofs.Tryd.prog 48 = some [.bool, .int .i64, .int .i64] := by kernel_rfl
theorem eq66 : eqT Proofs.Tryd.prog 66 = some [.int .i64, .int .i64, .int .i64] := by kernel_rfl
theorem eq67 : eqT Proofs.Tryd.prog 67 = some [.int .i64, .int .i64, .int .i64] := by kernel_rfl
theorem eq94 : eqT Proofs.Tryd.prog 94 = some [.int .i64, .int .i64, .str, .int .i64] := by kernel_rfl
theorem eq95 : eqT Proofs.Tryd.prog 95 = some [.int .i64, .int .i64, .str, .int .i64] := by kernel_rfl
theorem eq148 : eqT Proofs.Tryd.prog 148 = some [.int .u8, .int .u8] := by kernel_rfl
theorem eq149 : eqT Proofs.Tryd.prog 149 = some [.int .u8, .int .u8] := by kernel_rfl
theorem shs : ((((((shp Proofs.Tryd.prog 2 = .int .i64) ∧ ((shp Proofs.Tryd.prog 3 = .int .i64) ∧ (shp Proofs.Tryd.prog 4 = .bool))) ∧ ((shp Proofs.Tryd.prog 5 = .int .u8) ∧ ((shp Proofs.Tryd.prog 6 = .int .u8) ∧ (shp Proofs.Tryd.prog 7 = .struct [(0, 1, false), (1, 1, false), (2, 1, false), (3, 1, false)] 4)))) ∧ (((shp Proofs.Tryd.prog 8 = .struct [(0, 1, false), (1, 1, false), (2, 1, false), (3, 1, false)] 4) ∧ ((shp Proofs.Tryd.prog 9 = .str) ∧ (shp Proofs.Tryd.prog 10 = .str))) ∧ (((shp Proofs.Tryd.prog 11 = .str) ∧ (shp Proofs.Tryd.prog 12 = .int .u64)) ∧ ((shp Proofs.Tryd.prog 13 = .struct [(0, 1, false), (1, 1, false)] 2) ∧ (shp Proofs.Tryd.prog 14 = .struct [(0, 1, false), (1, 1, false)] 2))))) ∧ ((((shp Proofs.Tryd.prog 18 = .struct [(0, 1, false)] 1) ∧ ((shp Proofs.Tryd.prog 19 = .struct [(0, 1, false)] 1) ∧ (shp Proofs.Tryd.prog 21 = .int .i32))) ∧ (((shp Proofs.Tryd.prog 22 = .struct [(0, 1, false), (1, 1, false), (2, 1, false), (3, 1, false), (4, 1, false)] 5) ∧ (shp Proofs.Tryd.prog 23 = .struct [(0, 1, false), (1, 1, false), (2, 1, false), (3, 1, false), (4, 1, false)] 5)) ∧ ((shp Proofs.Tryd.prog 24 = .int .i64) ∧ (shp Proofs.Tryd.prog 36 = .slice 95 4 true)))) ∧ (((shp Proofs.Tryd.prog 37 = .slice 50 2 true) ∧ ((shp Proofs.Tryd.prog 38 = .struct [(0, 1, false), (1, 1, false)] 2) ∧ (shp Proofs.Tryd.prog 39 = .struct [(0, 1, false), (1, 1, false)] 2))) ∧ (((shp Proofs.Tryd.prog 40 = .slice 48 3 true) ∧ (shp Proofs.Tryd.prog 47 = .struct [(0, 1, false), (1, 1, false), (2, 1, false)] 3)) ∧ ((shp Proofs.Tryd.prog 48 = .struct [(0, 1, false), (1, 1, false), (2, 1, false)] 3) ∧ (shp Proofs.Tryd.prog 49 = .struct [(0, 1, false), (1, 1, false)] 2)))))) ∧ (((((shp Proofs.Tryd.prog 50 = .struct [(0, 1, false), (1, 1, false)] 2) ∧ ((shp Proofs.Tryd.prog 51 = .slice 9 1 false) ∧ (shp Proofs.Tryd.prog 60 = .slice 67 3 true))) ∧ ((shp Proofs.Tryd.prog 66 = .struct [(0, 1, false), (1, 1, false), (2, 1, false)] 3) ∧ ((shp Proofs.Tryd.prog 67 = .struct [(0, 1, false), (1, 1, false), (2, 1, false)] 3) ∧ (shp Proofs.Tryd.prog 69 = .slice 5 1 false)))) ∧ (((shp Proofs.Tryd.prog 72 = .slice 71 1 false) ∧ ((shp Proofs.Tryd.prog 75 = .arr 3 1 3) ∧ (shp Proofs.Tryd.prog 78 = .struct [(0, 1, false), (1, 1, false)] 2))) ∧ (((shp Proofs.Tryd.prog 79 = .struct [(0, 1, false), (1, 1, false)] 2) ∧ (shp Proofs.Tryd.prog 94 = .struct [(0, 1, false), (1, 1, false), (2, 1, false), (3, 1, false)] 4)) ∧ ((shp Proofs.Tryd.prog 95 = .struct [(0, 1, false), (1, 1, false), (2, 1, false), (3, 1, false)] 4) ∧ (shp Proofs.Tryd.prog 100 = .int .u64))))) ∧ ((((shp Proofs.Tryd.prog 126 = .int .u32) ∧ ((shp Proofs.Tryd.prog 128 = .int .u64) ∧ (shp Proofs.Tryd.prog 148 = .struct [(0, 1, false), (1, 1, false)] 2))) ∧ (((shp Proofs.Tryd.prog 149 = .struct [(0, 1, false), (1, 1, false)] 2) ∧ (shp Proofs.Tryd.prog 151 = .struct [(0, 1, false), (1, 1, false), (2, 1, false), (3, 1, false)] 4)) ∧ ((shp Proofs.Tryd.prog 152 = .struct [(0, 1, false), (1, 1, false), (2, 1, false), (3, 1, false)] 4) ∧ (shp Proofs.Tryd.prog 154 = .struct [(0, 0, true)] 0)))) ∧ (((shp Proofs.Tryd.prog 155 = .struct [(0, 0, true)] 0) ∧ ((shp Proofs.Tryd.prog 156 = .int .u8) ∧ (shp Proofs.Tryd.prog 157 = .int .u8))) ∧ (((shp Proofs.Tryd.prog 159 = .int .i32) ∧ (shp Proofs.Tryd.prog 160 = .int .i32)) ∧ ((shp Proofs.Tryd.prog 161 = .struct [(0, 1, false), (1, 1, false), (2, 1, false), (3, 1, false), (4, 1, false), (5, 1, false), (6, 1, false), (7, 1, false), (8, 1, false), (9, 1, false), (10, 1, false)] 11) ∧ (shp Proofs.Tryd.prog 162 = .struct [(0, 1, false), (1, 1, false), (2, 1, false), (3, 1, false), (4, 1, false), (5, 1, false), (6, 1, false), (7, 1, false), (8, 1, false), (9, 1, false), (10, 1, false)] 11))))))) :=
  ⟨⟨⟨⟨⟨sh2, ⟨sh3, sh4⟩⟩, ⟨sh5, ⟨sh6, sh7⟩⟩⟩, ⟨⟨sh8, ⟨sh9, sh10⟩⟩, ⟨⟨sh11, sh12⟩, ⟨sh13, sh14⟩⟩⟩⟩, ⟨⟨⟨sh18, ⟨sh19, sh21⟩⟩, ⟨⟨sh22, sh23⟩, ⟨sh24, sh36⟩⟩⟩, ⟨⟨sh37, ⟨sh38, sh39⟩⟩, ⟨⟨sh40, sh47⟩, ⟨sh48, sh49⟩⟩⟩⟩⟩, ⟨⟨⟨⟨sh50, ⟨sh51, sh60⟩⟩, ⟨sh66, ⟨sh67, sh69⟩⟩⟩, ⟨⟨sh72, ⟨sh75, sh78⟩⟩, ⟨⟨sh79, sh94⟩, ⟨sh95, sh100⟩⟩⟩⟩, ⟨⟨⟨sh126, ⟨sh128, sh148⟩⟩, ⟨⟨sh149, sh151⟩, ⟨sh152, sh154⟩⟩⟩, ⟨⟨sh155, ⟨sh156, sh157⟩⟩, ⟨⟨sh159, sh160⟩, ⟨sh161, sh162⟩⟩⟩⟩⟩⟩
theorem zts : (((((zeroT Proofs.Tryd.prog 7 = some [.int .i64 0, .int .i64 0, .bool false, .int .u8 0]) ∧ ((zeroT Proofs.Tryd.prog 8 = some [.int .i64 0, .int .i64 0, .bool false, .int .u8 0]) ∧ (zeroT Proofs.Tryd.prog 13 = some [.string ⟨([] : List UInt8).toArray⟩, .int .u64 0]))) ∧ (((zeroT Proofs.Tryd.prog 14 = some [.string ⟨([] : List UInt8).toArray⟩, .int .u64 0]) ∧ (zeroT Proofs.Tryd.prog 18 = some [.pointer none])) ∧ ((zeroT Proofs.Tryd.prog 19 = some [.pointer none]) ∧ (zeroT Proofs.Tryd.prog 22 = some [.int .i64 0, .string ⟨([] : List UInt8).toArray⟩, .string ⟨([] : List UInt8).toArray⟩, .int .i64 0, .string ⟨([] : List UInt8).toArray⟩])))) ∧ (((zeroT Proofs.Tryd.prog 23 = some [.int .i64 0, .string ⟨([] : List UInt8).toArray⟩, .string ⟨([] : List UInt8).toArray⟩, .int .i64 0, .string ⟨([] : List UInt8).toArray⟩]) ∧ ((zeroT Proofs.Tryd.prog 38 = some [.slice none 0 0, .slice none 0 0]) ∧ (zeroT Proofs.Tryd.prog 39 = some [.slice none 0 0, .slice none 0 0]))) ∧ (((zeroT Proofs.Tryd.prog 47 = some [.bool false, .int .i64 0, .int .i64 0]) ∧ (zeroT Proofs.Tryd.prog 48 = some [.bool false, .int .i64 0, .int .i64 0])) ∧ ((zeroT Proofs.Tryd.prog 49 = some [.string ⟨([] : List UInt8).toArray⟩, .slice none 0 0]) ∧ (zeroT Proofs.Tryd.prog 50 = some [.string ⟨([] : List UInt8).toArray⟩, .slice none 0 0]))))) ∧ ((((zeroT Proofs.Tryd.prog 66 = some [.int .i64 0, .int .i64 0, .int .i64 0]) ∧ ((zeroT Proofs.Tryd.prog 67 = some [.int .i64 0, .int .i64 0, .int .i64 0]) ∧ (zeroT Proofs.Tryd.prog 78 = some [.pointer none, .slice none 0 0]))) ∧ (((zeroT Proofs.Tryd.prog 79 = some [.pointer none, .slice none 0 0]) ∧ (zeroT Proofs.Tryd.prog 94 = some [.int .i64 0, .int .i64 0, .string ⟨([] : List UInt8).toArray⟩, .int .i64 0])) ∧ ((zeroT Proofs.Tryd.prog 95 = some [.int .i64 0, .int .i64 0, .string ⟨([] : List UInt8).toArray⟩, .int .i64 0]) ∧ (zeroT Proofs.Tryd.prog 148 = some [.int .u8 0, .int .u8 0])))) ∧ (((zeroT Proofs.Tryd.prog 149 = some [.int .u8 0, .int .u8 0]) ∧ ((zeroT Proofs.Tryd.prog 151 = some [.pointer none, .pointer none, .pointer none, .string ⟨([] : List UInt8).toArray⟩]) ∧ (zeroT Proofs.Tryd.prog 152 = some [.pointer none, .pointer none, .pointer none, .string ⟨([] : List UInt8).toArray⟩]))) ∧ (((zeroT Proofs.Tryd.prog 154 = some []) ∧ (zeroT Proofs.Tryd.prog 155 = some [])) ∧ ((zeroT Proofs.Tryd.prog 161 = some [.int .u64 0, .int .u64 0, .int .u32 0, .int .u8 0, .int .u8 0, .int .u8 0, .int .u8 0, .nilFunc, .pointer none, .int .i32 0, .int .i32 0]) ∧ (zeroT Proofs.Tryd.prog 162 = some [.int .u64 0, .int .u64 0, .int .u32 0, .int .u8 0, .int .u8 0, .int .u8 0, .int .u8 0, .nilFunc, .pointer none, .int .i32 0, .int .i32 0])))))) :=
  ⟨⟨⟨⟨zt7, ⟨zt8, zt13⟩⟩, ⟨⟨zt14, zt18⟩, ⟨zt19, zt22⟩⟩⟩, ⟨⟨zt23, ⟨zt38, zt39⟩⟩, ⟨⟨zt47, zt48⟩, ⟨zt49, zt50⟩⟩⟩⟩, ⟨⟨⟨zt66, ⟨zt67, zt78⟩⟩, ⟨⟨zt79, zt94⟩, ⟨zt95, zt148⟩⟩⟩, ⟨⟨zt149, ⟨zt151, zt152⟩⟩, ⟨⟨zt154, zt155⟩, ⟨zt161, zt162⟩⟩⟩⟩⟩
theorem sos : ((((((szOk Proofs.Tryd.prog 2 = True) ∧ ((szOk Proofs.Tryd.prog 3 = True) ∧ (szOk Proofs.Tryd.prog 4 = True))) ∧ ((szOk Proofs.Tryd.prog 5 = True) ∧ ((szOk Proofs.Tryd.prog 6 = True) ∧ (szOk Proofs.Tryd.prog 7 = True)))) ∧ (((szOk Proofs.Tryd.prog 8 = True) ∧ ((szOk Proofs.Tryd.prog 9 = True) ∧ (szOk Proofs.Tryd.prog 10 = True))) ∧ (((szOk Proofs.Tryd.prog 11 = True) ∧ (szOk Proofs.Tryd.prog 12 = True)) ∧ ((szOk Proofs.Tryd.prog 13 = True) ∧ (szOk Proofs.Tryd.prog 14 = True))))) ∧ ((((szOk Proofs.Tryd.prog 18 = True) ∧ ((szOk Proofs.Tryd.prog 19 = True) ∧ (szOk Proofs.Tryd.prog 21 = True))) ∧ ((szOk Proofs.Tryd.prog 22 = True) ∧ ((szOk Proofs.Tryd.prog 23 = True) ∧ (szOk Proofs.Tryd.prog 24 = True)))) ∧ (((szOk Proofs.Tryd.prog 36 = True) ∧ ((szOk Proofs.Tryd.prog 37 = True) ∧ (szOk Proofs.Tryd.prog 38 = True))) ∧ (((szOk Proofs.Tryd.prog 39 = True) ∧ (szOk Proofs.Tryd.prog 40 = True)) ∧ ((szOk Proofs.Tryd.prog 47 = True) ∧ (szOk Proofs.Tryd.prog 48 = True)))))) ∧ (((((szOk Proofs.Tryd.prog 49 = True) ∧ ((szOk Proofs.Tryd.prog 50 = True) ∧ (szOk Proofs.Tryd.prog 51 = True))) ∧ ((szOk Proofs.Tryd.prog 60 = True) ∧ ((szOk Proofs.Tryd.prog 66 = True) ∧ (szOk Proofs.Tryd.prog 67 = True)))) ∧ (((szOk Proofs.Tryd.prog 69 = True) ∧ ((szOk Proofs.Tryd.prog 72 = True) ∧ (szOk Proofs.Tryd.prog 75 = True))) ∧ (((szOk Proofs.Tryd.prog 78 = True) ∧ (szOk Proofs.Tryd.prog 79 = True)) ∧ ((szOk Proofs.Tryd.prog 94 = True) ∧ (szOk Proofs.Tryd.prog 95 = True))))) ∧ ((((szOk Proofs.Tryd.prog 100 = True) ∧ ((szOk Proofs.Tryd.prog 126 = True) ∧ (szOk Proofs.Tryd.prog 128 = True))) ∧ ((szOk Proofs.Tryd.prog 148 = True) ∧ ((szOk Proofs.Tryd.prog 149 = True) ∧ (szOk Proofs.Tryd.prog 151 = True)))) ∧ (((szOk Proofs.Tryd.prog 152 = True) ∧ ((szOk Proofs.Tryd.prog 156 = True) ∧ (szOk Proofs.Tryd.prog 157 = True))) ∧ (((szOk Proofs.Tryd.prog 159 = True) ∧ (szOk Proofs.Tryd.prog 160 = True)) ∧ ((szOk Proofs.Tryd.prog 161 = True) ∧ (szOk Proofs.Tryd.prog 162 = True))))))) :=
  ⟨⟨⟨⟨⟨so2, ⟨so3, so4⟩⟩, ⟨so5, ⟨so6, so7⟩⟩⟩, ⟨⟨so8, ⟨so9, so10⟩⟩, ⟨⟨so11, so12⟩, ⟨so13, so14⟩⟩⟩⟩, ⟨⟨⟨so18, ⟨so19, so21⟩⟩, ⟨so22, ⟨so23, so24⟩⟩⟩, ⟨⟨so36, ⟨so37, so38⟩⟩, ⟨⟨so39, so40⟩, ⟨so47, so48⟩⟩⟩⟩⟩, ⟨⟨⟨⟨so49, ⟨so50, so51⟩⟩, ⟨so60, ⟨so66, so67⟩⟩⟩, ⟨⟨so69, ⟨so72, so75⟩⟩, ⟨⟨so78, so79⟩, ⟨so94, so95⟩⟩⟩⟩, ⟨⟨⟨so100, ⟨so126, so128⟩⟩, ⟨so148, ⟨so149, so151⟩⟩⟩, ⟨⟨so152, ⟨so156, so157⟩⟩, ⟨⟨so159, so160⟩, ⟨so161, so162⟩⟩⟩⟩⟩⟩
theorem sls : (((slT Proofs.Tryd.prog 36 = some (95, 4, 40, [.int .i64 0, .int .i64 0, .string ⟨([] : List UInt8).toArray⟩, .int .i64 0])) ∧ ((slT Proofs.Tryd.prog 37 = some (50, 2, 40, [.string ⟨([] : List UInt8).toArray⟩, .slice none 0 0])) ∧ (slT Proofs.Tryd.prog 40 = some (48, 3, 24, [.bool false, .int .i64 0, .int .i64 0])))) ∧ (((slT Proofs.Tryd.prog 51 = some (9, 1, 16, [.string ⟨([] : List UInt8).toArray⟩])) ∧ (slT Proofs.Tryd.prog 60 = some (67, 3, 24, [.int .i64 0, .int .i64 0, .int .i64 0]))) ∧ ((slT Proofs.Tryd.prog 69 = some (5, 1, 1, [.int .u8 0])) ∧ (slT Proofs.Tryd.prog 72 = some (71, 1, 8, [.pointer none]))))) :=
  ⟨⟨sl36, ⟨sl37, sl40⟩⟩, ⟨⟨sl51, sl60⟩, ⟨sl69, sl72⟩⟩⟩
theorem zss : ((((((zsT Proofs.Tryd.prog 2 = some [.int .i64 0]) ∧ ((zsT Proofs.Tryd.prog 3 = some [.int .i64 0]) ∧ (zsT Proofs.Tryd.prog 4 = some [.bool false]))) ∧ ((zsT Proofs.Tryd.prog 5 = some [.int .u8 0]) ∧ ((zsT Proofs.Tryd.prog 6 = some [.int .u8 0]) ∧ (zsT Proofs.Tryd.prog 7 = some [.int .i64 0, .int .i64 0, .bool false, .int .u8 0])))) ∧ (((zsT Proofs.Tryd.prog 8 = some [.int .i64 0, .int .i64 0, .bool false, .int .u8 0]) ∧ ((zsT Proofs.Tryd.prog 9 = some [.string ⟨([] : List UInt8).toArray⟩]) ∧ (zsT Proofs.Tryd.prog 10 = some [.string ⟨([] : List UInt8).toArray⟩]))) ∧ (((zsT Proofs.Tryd.prog 11 = some [.string ⟨([] : List UInt8).toArray⟩]) ∧ (zsT Proofs.Tryd.prog 12 = some [.int .u64 0])) ∧ ((zsT Proofs.Tryd.prog 13 = some [.string ⟨([] : List UInt8).toArray⟩, .int .u64 0]) ∧ (zsT Proofs.Tryd.prog 14 = some [.string ⟨([] : List UInt8).toArray⟩, .int .u64 0]))))) ∧ ((((zsT Proofs.Tryd.prog 18 = some [.pointer none]) ∧ ((zsT Proofs.Tryd.prog 19 = some [.pointer none]) ∧ (zsT Proofs.Tryd.prog 21 = some [.int .i32 0]))) ∧ ((zsT Proofs.Tryd.prog 22 = some [.int .i64 0, .string ⟨([] : List UInt8).toArray⟩, .string ⟨([] : List UInt8).toArray⟩, .int .i64 0, .string ⟨([] : List UInt8).toArray⟩]) ∧ ((zsT Proofs.Tryd.prog 23 = some [.int .i64 0, .string ⟨([] : List UInt8).toArray⟩, .string ⟨([] : List UInt8).toArray⟩, .int .i64 0, .string ⟨([] : List UInt8).toArray⟩]) ∧ (zsT Proofs.Tryd.prog 24 = some [.int .i64 0])))) ∧ (((zsT Proofs.Tryd.prog 36 = some [.slice none 0 0]) ∧ ((zsT Proofs.Tryd.prog 37 = some [.slice none 0 0]) ∧ (zsT Proofs.Tryd.prog 38 = some [.slice none 0 0, .slice none 0 0]))) ∧ (((zsT Proofs.Tryd.prog 39 = some [.slice none 0 0, .slice none 0 0]) ∧ (zsT Proofs.Tryd.prog 40 = some [.slice none 0 0])) ∧ ((zsT Proofs.Tryd.prog 47 = some [.bool false, .int .i64 0, .int .i64 0]) ∧ (zsT Proofs.Tryd.prog 48 = some [.bool false, .int .i64 0, .int .i64 0])))))) ∧ (((((zsT Proofs.Tryd.prog 49 = some [.string ⟨([] : List UInt8).toArray⟩, .slice none 0 0]) ∧ ((zsT Proofs.Tryd.prog 50 = some [.string ⟨([] : List UInt8).toArray⟩, .slice none 0 0]) ∧ (zsT Proofs.Tryd.prog 51 = some [.slice none 0 0]))) ∧ ((zsT Proofs.Tryd.prog 60 = some [.slice none 0 0]) ∧ ((zsT Proofs.Tryd.prog 66 = some [.int .i64 0, .int .i64 0, .int .i64 0]) ∧ (zsT Proofs.Tryd.prog 67 = some [.int .i64 0, .int .i64 0, .int .i64 0])))) ∧ (((zsT Proofs.Tryd.prog 69 = some [.slice none 0 0]) ∧ ((zsT Proofs.Tryd.prog 72 = some [.slice none 0 0]) ∧ (zsT Proofs.Tryd.prog 75 = some [.string ⟨([] : List UInt8).toArray⟩, .string ⟨([] : List UInt8).toArray⟩, .string ⟨([] : List UInt8).toArray⟩]))) ∧ (((zsT Proofs.Tryd.prog 78 = some [.pointer none, .slice none 0 0]) ∧ (zsT Proofs.Tryd.prog 79 = none)) ∧ ((zsT Proofs.Tryd.prog 94 = some [.int .i64 0, .int .i64 0, .string ⟨([] : List UInt8).toArray⟩, .int .i64 0]) ∧ (zsT Proofs.Tryd.prog 95 = some [.int .i64 0, .int .i64 0, .string ⟨([] : List UInt8).toArray⟩, .int .i64 0]))))) ∧ ((((zsT Proofs.Tryd.prog 100 = some [.int .u64 0]) ∧ ((zsT Proofs.Tryd.prog 126 = some [.int .u32 0]) ∧ (zsT Proofs.Tryd.prog 128 = some [.int .u64 0]))) ∧ ((zsT Proofs.Tryd.prog 148 = some [.int .u8 0, .int .u8 0]) ∧ ((zsT Proofs.Tryd.prog 149 = some [.int .u8 0, .int .u8 0]) ∧ (zsT Proofs.Tryd.prog 151 = some [.pointer none, .pointer none, .pointer none, .string ⟨([] : List UInt8).toArray⟩])))) ∧ (((zsT Proofs.Tryd.prog 152 = some [.pointer none, .pointer none, .pointer none, .string ⟨([] : List UInt8).toArray⟩]) ∧ ((zsT Proofs.Tryd.prog 154 = some []) ∧ (zsT Proofs.Tryd.prog 155 = some []))) ∧ (((zsT Proofs.Tryd.prog 156 = some [.int .u8 0]) ∧ (zsT Proofs.Tryd.prog 157 = some [.int .u8 0])) ∧ ((zsT Proofs.Tryd.prog 159 = some [.int .i32 0]) ∧ (zsT Proofs.Tryd.prog 160 = some [.int .i32 0]))))))) :=
  ⟨⟨⟨⟨⟨zs2, ⟨zs3, zs4⟩⟩, ⟨zs5, ⟨zs6, zs7⟩⟩⟩, ⟨⟨zs8, ⟨zs9, zs10⟩⟩, ⟨⟨zs11, zs12⟩, ⟨zs13, zs14⟩⟩⟩⟩, ⟨⟨⟨zs18, ⟨zs19, zs21⟩⟩, ⟨zs22, ⟨zs23, zs24⟩⟩⟩, ⟨⟨zs36, ⟨zs37, zs38⟩⟩, ⟨⟨zs39, zs40⟩, ⟨zs47, zs48⟩⟩⟩⟩⟩, ⟨⟨⟨⟨zs49, ⟨zs50, zs51⟩⟩, ⟨zs60, ⟨zs66, zs67⟩⟩⟩, ⟨⟨zs69, ⟨zs72, zs75⟩⟩, ⟨⟨zs78, zs79⟩, ⟨zs94, zs95⟩⟩⟩⟩, ⟨⟨⟨zs100, ⟨zs126, zs128⟩⟩, ⟨zs148, ⟨zs149, zs151⟩⟩⟩, ⟨⟨zs152, ⟨zs154, zs155⟩⟩, ⟨⟨zs156, zs157⟩, ⟨zs159, zs160⟩⟩⟩⟩⟩⟩
theorem eqs : ((((eqT Proofs.Tryd.prog 7 = some [.int .i64, .int .i64, .bool, .int .u8]) ∧ ((eqT Proofs.Tryd.prog 8 = some [.int .i64, .int .i64, .bool, .int .u8]) ∧ (eqT Proofs.Tryd.prog 22 = some [.int .i64, .str, .str, .int .i64, .str]))) ∧ ((eqT Proofs.Tryd.prog 23 = some [.int .i64, .str, .str, .int .i64, .str]) ∧ ((eqT Proofs.Tryd.prog 47 = some [.bool, .int .i64, .int .i64]) ∧ (eqT Proofs.Tryd.prog 48 = some [.bool, .int .i64, .int .i64])))) ∧ (((eqT Proofs.Tryd.prog 66 = some [.int .i64, .int .i64, .int .i64]) ∧ ((eqT Proofs.Tryd.prog 67 = some [.int .i64, .int .i64, .int .i64]) ∧ (eqT Proofs.Tryd.prog 94 = some [.int .i64, .int .i64, .str, .int .i64]))) ∧ ((eqT Proofs.Tryd.prog 95 = some [.int .i64, .int .i64, .str, .int .i64]) ∧ ((eqT Proofs.Tryd.prog 148 = some [.int .u8, .int .u8]) ∧ (eqT Proofs.Tryd.prog 149 = some [.int .u8, .int .u8]))))) :=
  ⟨⟨⟨eq7, ⟨eq8, eq22⟩⟩, ⟨eq23, ⟨eq47, eq48⟩⟩⟩, ⟨⟨eq66, ⟨eq67, eq94⟩⟩, ⟨eq95, ⟨eq148, eq149⟩⟩⟩⟩
end Go.X
