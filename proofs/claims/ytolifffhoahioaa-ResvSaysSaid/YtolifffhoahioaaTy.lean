/- The shapes of the types of this translation. Conditions: none. -/
import Derived.Test.YtolifffhoahioaaProg
import Derived.Test.YtolifffhoahioaaFwB
import Derived.KernelRfl
set_option linter.unusedVariables false
namespace Go.X
open Go
theorem sh2 : shp Proofs.Try.prog 2 = .int .i64 := by kernel_rfl
theorem so2 : szOk Proofs.Try.prog 2 = True := eq_true (szOk_of (n := 1) sh2 (by kernel_rfl) (by decide) (by decide))
theorem zs2 : zsT Proofs.Try.prog 2 = some [.int .i64 0] := by kernel_rfl
theorem sh3 : shp Proofs.Try.prog 3 = .int .i64 := by kernel_rfl
theorem so3 : szOk Proofs.Try.prog 3 = True := eq_true (szOk_of (n := 1) sh3 (by kernel_rfl) (by decide) (by decide))
theorem zs3 : zsT Proofs.Try.prog 3 = some [.int .i64 0] := by kernel_rfl
theorem sh4 : shp Proofs.Try.prog 4 = .bool := by kernel_rfl
theorem so4 : szOk Proofs.Try.prog 4 = True := eq_true (szOk_of (n := 1) sh4 (by kernel_rfl) (by decide) (by decide))
theorem zs4 : zsT Proofs.Try.prog 4 = some [.bool false] := by kernel_rfl
theorem sh5 : shp Proofs.Try.prog 5 = .int .u8 := by kernel_rfl
theorem so5 : szOk Proofs.Try.prog 5 = True := eq_true (szOk_of (n := 1) sh5 (by kernel_rfl) (by decide) (by decide))
theorem zs5 : zsT Proofs.Try.prog 5 = some [.int .u8 0] := by kernel_rfl
theorem sh6 : shp Proofs.Try.prog 6 = .int .u8 := by kernel_rfl
theorem so6 : szOk Proofs.Try.prog 6 = True := eq_true (szOk_of (n := 1) sh6 (by kernel_rfl) (by decide) (by decide))
theorem zs6 : zsT Proofs.Try.prog 6 = some [.int .u8 0] := by kernel_rfl
theorem sh7 : shp Proofs.Try.prog 7 = .struct [(0, 1, false), (1, 1, false), (2, 1, false), (3, 1, false)] 4 := by kernel_rfl
theorem zt7 : zeroT Proofs.Try.prog 7 = some [.int .i64 0, .int .i64 0, .bool false, .int .u8 0] := by kernel_rfl
theorem so7 : szOk Proofs.Try.prog 7 = True := eq_true (szOk_of (n := 4) sh7 (by kernel_rfl) (by decide) (by decide))
theorem zs7 : zsT Proofs.Try.prog 7 = some [.int .i64 0, .int .i64 0, .bool false, .int .u8 0] := by kernel_rfl
theorem sh8 : shp Proofs.Try.prog 8 = .struct [(0, 1, false), (1, 1, false), (2, 1, false), (3, 1, false)] 4 := by kernel_rfl
theorem zt8 : zeroT Proofs.Try.prog 8 = some [.int .i64 0, .int .i64 0, .bool false, .int .u8 0] := by kernel_rfl
theorem so8 : szOk Proofs.Try.prog 8 = True := eq_true (szOk_of (n := 4) sh8 (by kernel_rfl) (by decide) (by decide))
theorem zs8 : zsT Proofs.Try.prog 8 = some [.int .i64 0, .int .i64 0, .bool false, .int .u8 0] := by kernel_rfl
theorem sh9 : shp Proofs.Try.prog 9 = .str := by kernel_rfl
theorem so9 : szOk Proofs.Try.prog 9 = True := eq_true (szOk_of (n := 1) sh9 (by kernel_rfl) (by decide) (by decide))
theorem zs9 : zsT Proofs.Try.prog 9 = some [.string ⟨([] : List UInt8).toArray⟩] := by kernel_rfl
theorem sh10 : shp Proofs.Try.prog 10 = .str := by kernel_rfl
theorem so10 : szOk Proofs.Try.prog 10 = True := eq_true (szOk_of (n := 1) sh10 (by kernel_rfl) (by decide) (by decide))
theorem zs10 : zsT Proofs.Try.prog 10 = some [.string ⟨([] : List UInt8).toArray⟩] := by kernel_rfl
theorem sh11 : shp Proofs.Try.prog 11 = .str := by kernel_rfl
theorem so11 : szOk Proofs.Try.prog 11 = True := eq_true (szOk_of (n := 1) sh11 (by kernel_rfl) (by decide) (by decide))
theorem zs11 : zsT Proofs.Try.prog 11 = some [.string ⟨([] : List UInt8).toArray⟩] := by kernel_rfl
theorem sh12 : shp Proofs.Try.prog 12 = .int .u64 := by kernel_rfl
theorem so12 : szOk Proofs.Try.prog 12 = True := eq_true (szOk_of (n := 1) sh12 (by kernel_rfl) (by decide) (by decide))
theorem zs12 : zsT Proofs.Try.prog 12 = some [.int .u64 0] := by kernel_rfl
theorem sh13 : shp Proofs.Try.prog 13 = .struct [(0, 1, false), (1, 1, false)] 2 := by kernel_rfl
theorem zt13 : zeroT Proofs.Try.prog 13 = some [.string ⟨([] : List UInt8).toArray⟩, .int .u64 0] := by kernel_rfl
theorem so13 : szOk Proofs.Try.prog 13 = True := eq_true (szOk_of (n := 2) sh13 (by kernel_rfl) (by decide) (by decide))
theorem zs13 : zsT Proofs.Try.prog 13 = some [.string ⟨([] : List UInt8).toArray⟩, .int .u64 0] := by kernel_rfl
theorem sh14 : shp Proofs.Try.prog 14 = .struct [(0, 1, false), (1, 1, false)] 2 := by kernel_rfl
theorem zt14 : zeroT Proofs.Try.prog 14 = some [.string ⟨([] : List UInt8).toArray⟩, .int .u64 0] := by kernel_rfl
theorem so14 : szOk Proofs.Try.prog 14 = True := eq_true (szOk_of (n := 2) sh14 (by kernel_rfl) (by decide) (by decide))
theorem zs14 : zsT Proofs.Try.prog 14 = some [.string ⟨([] : List UInt8).toArray⟩, .int .u64 0] := by kernel_rfl
theorem sh18 : shp Proofs.Try.prog 18 = .struct [(0, 1, false)] 1 := by kernel_rfl
theorem zt18 : zeroT Proofs.Try.prog 18 = some [.pointer none] := by kernel_rfl
theorem so18 : szOk Proofs.Try.prog 18 = True := eq_true (szOk_of (n := 1) sh18 (by kernel_rfl) (by decide) (by decide))
theorem zs18 : zsT Proofs.Try.prog 18 = some [.pointer none] := by kernel_rfl
theorem sh19 : shp Proofs.Try.prog 19 = .struct [(0, 1, false)] 1 := by kernel_rfl
theorem zt19 : zeroT Proofs.Try.prog 19 = some [.pointer none] := by kernel_rfl
theorem so19 : szOk Proofs.Try.prog 19 = True := eq_true (szOk_of (n := 1) sh19 (by kernel_rfl) (by decide) (by decide))
theorem zs19 : zsT Proofs.Try.prog 19 = some [.pointer none] := by kernel_rfl
theorem sh21 : shp Proofs.Try.prog 21 = .int .i32 := by kernel_rfl
theorem so21 : szOk Proofs.Try.prog 21 = True := eq_true (szOk_of (n := 1) sh21 (by kernel_rfl) (by decide) (by decide))
theorem zs21 : zsT Proofs.Try.prog 21 = some [.int .i32 0] := by kernel_rfl
theorem sh22 : shp Proofs.Try.prog 22 = .slice 24 2 true := by kernel_rfl
theorem so22 : szOk Proofs.Try.prog 22 = True := eq_true (szOk_of (n := 1) sh22 (by kernel_rfl) (by decide) (by decide))
theorem sl22 : slT Proofs.Try.prog 22 = some (24, 2, 16, [.int .i64 0, .int .i64 0]) := by kernel_rfl
theorem zs22 : zsT Proofs.Try.prog 22 = some [.slice none 0 0] := by kernel_rfl
theorem sh23 : shp Proofs.Try.prog 23 = .struct [(0, 1, false), (1, 1, false)] 2 := by kernel_rfl
theorem zt23 : zeroT Proofs.Try.prog 23 = some [.int .i64 0, .int .i64 0] := by kernel_rfl
theorem so23 : szOk Proofs.Try.prog 23 = True := eq_true (szOk_of (n := 2) sh23 (by kernel_rfl) (by decide) (by decide))
theorem zs23 : zsT Proofs.Try.prog 23 = some [.int .i64 0, .int .i64 0] := by kernel_rfl
theorem sh24 : shp Proofs.Try.prog 24 = .struct [(0, 1, false), (1, 1, false)] 2 := by kernel_rfl
theorem zt24 : zeroT Proofs.Try.prog 24 = some [.int .i64 0, .int .i64 0] := by kernel_rfl
theorem so24 : szOk Proofs.Try.prog 24 = True := eq_true (szOk_of (n := 2) sh24 (by kernel_rfl) (by decide) (by decide))
theorem zs24 : zsT Proofs.Try.prog 24 = some [.int .i64 0, .int .i64 0] := by kernel_rfl
theorem sh25 : shp Proofs.Try.prog 25 = .int .i64 := by kernel_rfl
theorem so25 : szOk Proofs.Try.prog 25 = True := eq_true (szOk_of (n := 1) sh25 (by kernel_rfl) (by decide) (by decide))
theorem zs25 : zsT Proofs.Try.prog 25 = some [.int .i64 0] := by kernel_rfl
theorem sh28 : shp Proofs.Try.prog 28 = .slice 3 1 false := by kernel_rfl
theorem so28 : szOk Proofs.Try.prog 28 = True := eq_true (szOk_of (n := 1) sh28 (by kernel_rfl) (by decide) (by decide))
theorem sl28 : slT Proofs.Try.prog 28 = some (3, 1, 8, [.int .i64 0]) := by kernel_rfl
theorem zs28 : zsT Proofs.Try.prog 28 = some [.slice none 0 0] := by kernel_rfl
theorem sh40 : shp Proofs.Try.prog 40 = .slice 45 3 true := by kernel_rfl
theorem so40 : szOk Proofs.Try.prog 40 = True := eq_true (szOk_of (n := 1) sh40 (by kernel_rfl) (by decide) (by decide))
theorem sl40 : slT Proofs.Try.prog 40 = some (45, 3, 24, [.int .i64 0, .int .i64 0, .int .i64 0]) := by kernel_rfl
theorem zs40 : zsT Proofs.Try.prog 40 = some [.slice none 0 0] := by kernel_rfl
theorem sh44 : shp Proofs.Try.prog 44 = .struct [(0, 1, false), (1, 1, false), (2, 1, false)] 3 := by kernel_rfl
theorem zt44 : zeroT Proofs.Try.prog 44 = some [.int .i64 0, .int .i64 0, .int .i64 0] := by kernel_rfl
theorem so44 : szOk Proofs.Try.prog 44 = True := eq_true (szOk_of (n := 3) sh44 (by kernel_rfl) (by decide) (by decide))
theorem zs44 : zsT Proofs.Try.prog 44 = some [.int .i64 0, .int .i64 0, .int .i64 0] := by kernel_rfl
theorem sh45 : shp Proofs.Try.prog 45 = .struct [(0, 1, false), (1, 1, false), (2, 1, false)] 3 := by kernel_rfl
theorem zt45 : zeroT Proofs.Try.prog 45 = some [.int .i64 0, .int .i64 0, .int .i64 0] := by kernel_rfl
theorem so45 : szOk Proofs.Try.prog 45 = True := eq_true (szOk_of (n := 3) sh45 (by kernel_rfl) (by decide) (by decide))
theorem zs45 : zsT Proofs.Try.prog 45 = some [.int .i64 0, .int .i64 0, .int .i64 0] := by kernel_rfl
theorem sh50 : shp Proofs.Try.prog 50 = .slice 58 1 false := by kernel_rfl
theorem so50 : szOk Proofs.Try.prog 50 = True := eq_true (szOk_of (n := 1) sh50 (by kernel_rfl) (by decide) (by decide))
theorem sl50 : slT Proofs.Try.prog 50 = some (58, 1, 24, [.slice none 0 0]) := by kernel_rfl
theorem zs50 : zsT Proofs.Try.prog 50 = some [.slice none 0 0] := by kernel_rfl
theorem sh51 : shp Proofs.Try.prog 51 = .slice 106 4 true := by kernel_rfl
theorem so51 : szOk Proofs.Try.prog 51 = True := eq_true (szOk_of (n := 1) sh51 (by kernel_rfl) (by decide) (by decide))
theorem sl51 : slT Proofs.Try.prog 51 = some (106, 4, 40, [.int .i64 0, .int .i64 0, .string ⟨([] : List UInt8).toArray⟩, .int .i64 0]) := by kernel_rfl
theorem zs51 : zsT Proofs.Try.prog 51 = some [.slice none 0 0] := by kernel_rfl
theorem sh58 : shp Proofs.Try.prog 58 = .slice 101 4 true := by kernel_rfl
theorem so58 : szOk Proofs.Try.prog 58 = True := eq_true (szOk_of (n := 1) sh58 (by kernel_rfl) (by decide) (by decide))
theorem sl58 : slT Proofs.Try.prog 58 = some (101, 4, 40, [.bool false, .int .i64 0, .int .i64 0, .string ⟨([] : List UInt8).toArray⟩]) := by kernel_rfl
theorem zs58 : zsT Proofs.Try.prog 58 = some [.slice none 0 0] := by kernel_rfl
theorem sh64 : shp Proofs.Try.prog 64 = .slice 118 2 true := by kernel_rfl
theorem so64 : szOk Proofs.Try.prog 64 = True := eq_true (szOk_of (n := 1) sh64 (by kernel_rfl) (by decide) (by decide))
theorem sl64 : slT Proofs.Try.prog 64 = some (118, 2, 16, [.int .i64 0, .int .i64 0]) := by kernel_rfl
theorem zs64 : zsT Proofs.Try.prog 64 = some [.slice none 0 0] := by kernel_rfl
theorem sh65 : shp Proofs.Try.prog 65 = .struct [(0, 1, false), (1, 1, false), (2, 1, false), (3, 1, false)] 4 := by kernel_rfl
theorem zt65 : zeroT Proofs.Try.prog 65 = some [.int .i64 0, .slice none 0 0, .int .i64 0, .int .i64 0] := by kernel_rfl
theorem so65 : szOk Proofs.Try.prog 65 = True := eq_true (szOk_of (n := 4) sh65 (by kernel_rfl) (by decide) (by decide))
theorem zs65 : zsT Proofs.Try.prog 65 = some [.int .i64 0, .slice none 0 0, .int .i64 0, .int .i64 0] := by kernel_rfl
theorem sh66 : shp Proofs.Try.prog 66 = .struct [(0, 1, false), (1, 1, false), (2, 1, false), (3, 1, false)] 4 := by kernel_rfl
theorem zt66 : zeroT Proofs.Try.prog 66 = some [.int .i64 0, .slice none 0 0, .int .i64 0, .int .i64 0] := by kernel_rfl
theorem so66 : szOk Proofs.Try.prog 66 = True := eq_true (szOk_of (n := 4) sh66 (by kernel_rfl) (by decide) (by decide))
theorem zs66 : zsT Proofs.Try.prog 66 = some [.int .i64 0, .slice none 0 0, .int .i64 0, .int .i64 0] := by kernel_rfl
theorem sh78 : shp Proofs.Try.prog 78 = .slice 22 1 false := by kernel_rfl
theorem so78 : szOk Proofs.Try.prog 78 = True := eq_true (szOk_of (n := 1) sh78 (by kernel_rfl) (by decide) (by decide))
theorem sl78 : slT Proofs.Try.prog 78 = some (22, 1, 24, [.slice none 0 0]) := by kernel_rfl
theorem zs78 : zsT Proofs.Try.prog 78 = some [.slice none 0 0] := by kernel_rfl
theorem sh88 : shp Proofs.Try.prog 88 = .slice 5 1 false := by kernel_rfl
theorem so88 : szOk Proofs.Try.prog 88 = True := eq_true (szOk_of (n := 1) sh88 (by kernel_rfl) (by decide) (by decide))
theorem sl88 : slT Proofs.Try.prog 88 = some (5, 1, 1, [.int .u8 0]) := by kernel_rfl
theorem zs88 : zsT Proofs.Try.prog 88 = some [.slice none 0 0] := by kernel_rfl
theorem sh93 : shp Proofs.Try.prog 93 = .slice 102 1 false := by kernel_rfl
theorem so93 : szOk Proofs.Try.prog 93 = True := eq_true (szOk_of (n := 1) sh93 (by kernel_rfl) (by decide) (by decide))
theorem sl93 : slT Proofs.Try.prog 93 = some (102, 1, 24, [.slice none 0 0]) := by kernel_rfl
theorem zs93 : zsT Proofs.Try.prog 93 = some [.slice none 0 0] := by kernel_rfl
theorem sh98 : shp Proofs.Try.prog 98 = .struct [(0, 1, false), (1, 1, false), (2, 1, false)] 3 := by kernel_rfl
theorem zt98 : zeroT Proofs.Try.prog 98 = some [.bool false, .int .i64 0, .int .i64 0] := by kernel_rfl
theorem so98 : szOk Proofs.Try.prog 98 = True := eq_true (szOk_of (n := 3) sh98 (by kernel_rfl) (by decide) (by decide))
theorem zs98 : zsT Proofs.Try.prog 98 = some [.bool false, .int .i64 0, .int .i64 0] := by kernel_rfl
theorem sh99 : shp Proofs.Try.prog 99 = .struct [(0, 1, false), (1, 1, false), (2, 1, false)] 3 := by kernel_rfl
theorem zt99 : zeroT Proofs.Try.prog 99 = some [.bool false, .int .i64 0, .int .i64 0] := by kernel_rfl
theorem so99 : szOk Proofs.Try.prog 99 = True := eq_true (szOk_of (n := 3) sh99 (by kernel_rfl) (by decide) (by decide))
theorem zs99 : zsT Proofs.Try.prog 99 = some [.bool false, .int .i64 0, .int .i64 0] := by kernel_rfl
theorem sh100 : shp Proofs.Try.prog 100 = .struct [(0, 3, true), (3, 1, false)] 4 := by kernel_rfl
theorem zt100 : zeroT Proofs.Try.prog 100 = some [.bool false, .int .i64 0, .int .i64 0, .string ⟨([] : List UInt8).toArray⟩] := by kernel_rfl
theorem so100 : szOk Proofs.Try.prog 100 = True := eq_true (szOk_of (n := 4) sh100 (by kernel_rfl) (by decide) (by decide))
theorem zs100 : zsT Proofs.Try.prog 100 = some [.bool false, .int .i64 0, .int .i64 0, .string ⟨([] : List UInt8).toArray⟩] := by kernel_rfl
theorem sh101 : shp Proofs.Try.prog 101 = .struct [(0, 3, true), (3, 1, false)] 4 := by kernel_rfl
theorem zt101 : zeroT Proofs.Try.prog 101 = some [.bool false, .int .i64 0, .int .i64 0, .string ⟨([] : List UInt8).toArray⟩] := by kernel_rfl
theorem so101 : szOk Proofs.Try.prog 101 = True := eq_true (szOk_of (n := 4) sh101 (by kernel_rfl) (by decide) (by decide))
theorem zs101 : zsT Proofs.Try.prog 101 = some [.bool false, .int .i64 0, .int .i64 0, .string ⟨([] : List UInt8).toArray⟩] := by kernel_rfl
theorem sh102 : shp Proofs.Try.prog 102 = .slice 4 1 false := by kernel_rfl
theorem so102 : szOk Proofs.Try.prog 102 = True := eq_true (szOk_of (n := 1) sh102 (by kernel_rfl) (by decide) (by decide))
theorem sl102 : slT Proofs.Try.prog 102 = some (4, 1, 1, [.bool false]) := by kernel_rfl
theorem zs102 : zsT Proofs.Try.prog 102 = some [.slice none 0 0] := by kernel_rfl
theorem sh105 : shp Proofs.Try.prog 105 = .struct [(0, 1, false), (1, 1, false), (2, 1, false), (3, 1, false)] 4 := by kernel_rfl
theorem zt105 : zeroT Proofs.Try.prog 105 = some [.int .i64 0, .int .i64 0, .string ⟨([] : List UInt8).toArray⟩, .int .i64 0] := by kernel_rfl
theorem so105 : szOk Proofs.Try.prog 105 = True := eq_true (szOk_of (n := 4) sh105 (by kernel_rfl) (by decide) (by decide))
theorem zs105 : zsT Proofs.Try.prog 105 = some [.int .i64 0, .int .i64 0, .string ⟨([] : List UInt8).toArray⟩, .int .i64 0] := by kernel_rfl
theorem sh106 : shp Proofs.Try.prog 106 = .struct [(0, 1, false), (1, 1, false), (2, 1, false), (3, 1, false)] 4 := by kernel_rfl
theorem zt106 : zeroT Proofs.Try.prog 106 = some [.int .i64 0, .int .i64 0, .string ⟨([] : List UInt8).toArray⟩, .int .i64 0] := by kernel_rfl
theorem so106 : szOk Proofs.Try.prog 106 = True := eq_true (szOk_of (n := 4) sh106 (by kernel_rfl) (by decide) (by decide))
theorem zs106 : zsT Proofs.Try.prog 106 = some [.int .i64 0, .int .i64 0, .string ⟨([] : List UInt8).toArray⟩, .int .i64 0] := by kernel_rfl
theorem sh113 : shp Proofs.Try.prog 113 = .slice 50 1 false := by kernel_rfl
theorem so113 : szOk Proofs.Try.prog 113 = True := eq_true (szOk_of (n := 1) sh113 (by kernel_rfl) (by decide) (by decide))
theorem sl113 : slT Proofs.Try.prog 113 = some (50, 1, 24, [.slice none 0 0]) := by kernel_rfl
theorem zs113 : zsT Proofs.Try.prog 113 = some [.slice none 0 0] := by kernel_rfl
theorem sh117 : shp Proofs.Try.prog 117 = .struct [(0, 1, false), (1, 1, false)] 2 := by kernel_rfl
theorem zt117 : zeroT Proofs.Try.prog 117 = some [.int .i64 0, .int .i64 0] := by kernel_rfl
theorem so117 : szOk Proofs.Try.prog 117 = True := eq_true (szOk_of (n := 2) sh117 (by kernel_rfl) (by decide) (by decide))
theorem zs117 : zsT Proofs.Try.prog 117 = some [.int .i64 0, .int .i64 0] := by kernel_rfl
theorem sh118 : shp Proofs.Try.prog 118 = .struct [(0, 1, false), (1, 1, false)] 2 := by kernel_rfl
theorem zt118 : zeroT Proofs.Try.prog 118 = some [.int .i64 0, .int .i64 0] := by kernel_rfl
theorem so118 : szOk Proofs.Try.prog 118 = True := eq_true (szOk_of (n := 2) sh118 (by kernel_rfl) (by decide) (by decide))
theorem zs118 : zsT Proofs.Try.prog 118 = some [.int .i64 0, .int .i64 0] := by kernel_rfl
theorem sh131 : shp Proofs.Try.prog 131 = .int .u64 := by kernel_rfl
theorem so131 : szOk Proofs.Try.prog 131 = True := eq_true (szOk_of (n := 1) sh131 (by kernel_rfl) (by decide) (by decide))
theorem zs131 : zsT Proofs.Try.prog 131 = some [.int .u64 0] := by kernel_rfl
theorem sh136 : shp Proofs.Try.prog 136 = .struct [(0, 1, false), (1, 1, false)] 2 := by kernel_rfl
theorem zt136 : zeroT Proofs.Try.prog 136 = some [.pointer none, .slice none 0 0] := by kernel_rfl
theorem so136 : szOk Proofs.Try.prog 136 = True := eq_true (szOk_of (n := 2) sh136 (by kernel_rfl) (by decide) (by decide))
theorem zs136 : zsT Proofs.Try.prog 136 = some [.pointer none, .slice none 0 0] := by kernel_rfl
theorem sh137 : shp Proofs.Try.prog 137 = .struct [(0, 1, false), (1, 1, false)] 2 := by kernel_rfl
theorem zt137 : zeroT Proofs.Try.prog 137 = some [.pointer none, .slice none 0 0] := by kernel_rfl
theorem so137 : szOk Proofs.Try.prog 137 = True := eq_true (szOk_of (n := 2) sh137 (by kernel_rfl) (by decide) (by decide))
theorem zs137 : zsT Proofs.Try.prog 137 = some [.pointer none, .slice none 0 0] := by kernel_rfl
theorem sh155 : shp Proofs.Try.prog 155 = .int .u32 := by kernel_rfl
theorem so155 : szOk Proofs.Try.prog 155 = True := eq_true (szOk_of (n := 1) sh155 (by kernel_rfl) (by decide) (by decide))
theorem zs155 : zsT Proofs.Try.prog 155 = some [.int .u32 0] := by kernel_rfl
theorem sh158 : shp Proofs.Try.prog 158 = .int .u64 := by kernel_rfl
theorem so158 : szOk Proofs.Try.prog 158 = True := eq_true (szOk_of (n := 1) sh158 (by kernel_rfl) (by decide) (by decide))
theorem zs158 : zsT Proofs.Try.prog 158 = some [.int .u64 0] := by kernel_rfl
theorem sh174 : shp Proofs.Try.prog 174 = .struct [(0, 1, false), (1, 1, false), (2, 1, false), (3, 1, false)] 4 := by kernel_rfl
theorem zt174 : zeroT Proofs.Try.prog 174 = some [.pointer none, .pointer none, .pointer none, .string ⟨([] : List UInt8).toArray⟩] := by kernel_rfl
theorem so174 : szOk Proofs.Try.prog 174 = True := eq_true (szOk_of (n := 4) sh174 (by kernel_rfl) (by decide) (by decide))
theorem zs174 : zsT Proofs.Try.prog 174 = some [.pointer none, .pointer none, .pointer none, .string ⟨([] : List UInt8).toArray⟩] := by kernel_rfl
theorem sh175 : shp Proofs.Try.prog 175 = .struct [(0, 1, false), (1, 1, false), (2, 1, false), (3, 1, false)] 4 := by kernel_rfl
theorem zt175 : zeroT Proofs.Try.prog 175 = some [.pointer none, .pointer none, .pointer none, .string ⟨([] : List UInt8).toArray⟩] := by kernel_rfl
theorem so175 : szOk Proofs.Try.prog 175 = True := eq_true (szOk_of (n := 4) sh175 (by kernel_rfl) (by decide) (by decide))
theorem zs175 : zsT Proofs.Try.prog 175 = some [.pointer none, .pointer none, .pointer none, .string ⟨([] : List UInt8).toArray⟩] := by kernel_rfl
theorem sh177 : shp Proofs.Try.prog 177 = .struct [(0, 0, true)] 0 := by kernel_rfl
theorem zt177 : zeroT Proofs.Try.prog 177 = some [] := by kernel_rfl
theorem zs177 : zsT Proofs.Try.prog 177 = some [] := by kernel_rfl
theorem sh178 : shp Proofs.Try.prog 178 = .struct [(0, 0, true)] 0 := by kernel_rfl
theorem zt178 : zeroT Proofs.Try.prog 178 = some [] := by kernel_rfl
theorem zs178 : zsT Proofs.Try.prog 178 = some [] := by kernel_rfl
theorem sh179 : shp Proofs.Try.prog 179 = .int .u8 := by kernel_rfl
theorem so179 : szOk Proofs.Try.prog 179 = True := eq_true (szOk_of (n := 1) sh179 (by kernel_rfl) (by decide) (by decide))
theorem zs179 : zsT Proofs.Try.prog 179 = some [.int .u8 0] := by kernel_rfl
theorem sh180 : shp Proofs.Try.prog 180 = .int .u8 := by kernel_rfl
theorem so180 : szOk Proofs.Try.prog 180 = True := eq_true (szOk_of (n := 1) sh180 (by kernel_rfl) (by decide) (by decide))
theorem zs180 : zsT Proofs.Try.prog 180 = some [.int .u8 0] := by kernel_rfl
theorem sh182 : shp Proofs.Try.prog 182 = .int .i32 := by kernel_rfl
theorem so182 : szOk Proofs.Try.prog 182 = True := eq_true (szOk_of (n := 1) sh182 (by kernel_rfl) (by decide) (by decide))
theorem zs182 : zsT Proofs.Try.prog 182 = some [.int .i32 0] := by kernel_rfl
theorem sh183 : shp Proofs.Try.prog 183 = .int .i32 := by kernel_rfl
theorem so183 : szOk Proofs.Try.prog 183 = True := eq_true (szOk_of (n := 1) sh183 (by kernel_rfl) (by decide) (by decide))
theorem zs183 : zsT Proofs.Try.prog 183 = some [.int .i32 0] := by kernel_rfl
theorem sh184 : shp Proofs.Try.prog 184 = .struct [(0, 1, false), (1, 1, false), (2, 1, false), (3, 1, false), (4, 1, false), (5, 1, false), (6, 1, false), (7, 1, false), (8, 1, false), (9, 1, false), (10, 1, false)] 11 := by kernel_rfl
theorem zt184 : zeroT Proofs.Try.prog 184 = some [.int .u64 0, .int .u64 0, .int .u32 0, .int .u8 0, .int .u8 0, .int .u8 0, .int .u8 0, .nilFunc, .pointer none, .int .i32 0, .int .i32 0] := by kernel_rfl
theorem so184 : szOk Proofs.Try.prog 184 = True := eq_true (szOk_of (n := 11) sh184 (by kernel_rfl) (by decide) (by decide))
theorem sh185 : shp Proofs.Try.prog 185 = .struct [(0, 1, false), (1, 1, false), (2, 1, false), (3, 1, false), (4, 1, false), (5, 1, false), (6, 1, false), (7, 1, false), (8, 1, false), (9, 1, false), (10, 1, false)] 11 := by kernel_rfl
theorem zt185 : zeroT Proofs.Try.prog 185 = some [.int .u64 0, .int .u64 0, .int .u32 0, .int .u8 0, .int .u8 0, .int .u8 0, .int .u8 0, .nilFunc, .pointer none, .int .i32 0, .int .i32 0] := by kernel_rfl
theorem so185 : szOk Proofs.Try.prog 185 = True := eq_true (szOk_of (n := 11) sh185 (by kernel_rfl) (by decide) (by decide))
theorem eq7 : eqT Proofs.Try.prog 7 = some [.int .i64, .int .i64, .bool, .int .u8] := by kernel_rfl
theorem eq8 : eqT Proofs.Try.prog 8 = some [.int .i64, .int .i64, .bool, .int .u8] := by kernel_rfl
theorem eq23 : eqT Proofs.Try.prog 23 = some [.int .i64, .int .i64] := by kernel_rfl
theorem eq24 : eqT Proofs.Try.prog 24 = some [.int .i64, .int .i64] := by kernel_rfl
theorem eq44 : eqT Proofs.Try.prog 44 = some [.int .i64, .int .i64, .int .i64] := by kernel_rfl
theorem eq45 : eqT Proofs.Try.prog 45 = some [.int .i64, .int .i64, .int .i64] := by kernel_rfl
theorem eq98 : eqT Proofs.Try.prog 98 = some [.bool, .int .i64, .int .i64] := by kernel_rfl
theorem eq99 : eqT Proofs.Try.prog 99 = some [.bool, .int .i64, .int .i64] := by kernel_rfl
theorem eq100 : eqT Proofs.Try.prog 100 = some [.bool, .int .i64, .int .i64, .str] := by kernel_rfl
theorem eq101 : eqT Proofs.Try.prog 101 = some [.bool, .int .i64, .int .i64, .str] := by kernel_rfl
theorem eq105 : eqT Proofs.Try.prog 105 = some [.int .i64, .int .i64, .str, .int .i64] := by kernel_rfl
theorem eq106 : eqT Proofs.Try.prog 106 = some [.int .i64, .int .i64, .str, .int .i64] := by kernel_rfl
theorem eq117 : eqT Proofs.Try.prog 117 = some [.int .i64, .int .i64] := by kernel_rfl
theorem eq118 : eqT Proofs.Try.prog 118 = some [.int .i64, .int .i64] := by kernel_rfl
theorem shs : ((((((shp Proofs.Try.prog 2 = .int .i64) ∧ ((shp Proofs.Try.prog 3 = .int .i64) ∧ (shp Proofs.Try.prog 4 = .bool))) ∧ (((shp Proofs.Try.prog 5 = .int .u8) ∧ (shp Proofs.Try.prog 6 = .int .u8)) ∧ ((shp Proofs.Try.prog 7 = .struct [(0, 1, false), (1, 1, false), (2, 1, false), (3, 1, false)] 4) ∧ (shp Proofs.Try.prog 8 = .struct [(0, 1, false), (1, 1, false), (2, 1, false), (3, 1, false)] 4)))) ∧ (((shp Proofs.Try.prog 9 = .str) ∧ ((shp Proofs.Try.prog 10 = .str) ∧ (shp Proofs.Try.prog 11 = .str))) ∧ (((shp Proofs.Try.prog 12 = .int .u64) ∧ (shp Proofs.Try.prog 13 = .struct [(0, 1, false), (1, 1, false)] 2)) ∧ ((shp Proofs.Try.prog 14 = .struct [(0, 1, false), (1, 1, false)] 2) ∧ (shp Proofs.Try.prog 18 = .struct [(0, 1, false)] 1))))) ∧ ((((shp Proofs.Try.prog 19 = .struct [(0, 1, false)] 1) ∧ ((shp Proofs.Try.prog 21 = .int .i32) ∧ (shp Proofs.Try.prog 22 = .slice 24 2 true))) ∧ (((shp Proofs.Try.prog 23 = .struct [(0, 1, false), (1, 1, false)] 2) ∧ (shp Proofs.Try.prog 24 = .struct [(0, 1, false), (1, 1, false)] 2)) ∧ ((shp Proofs.Try.prog 25 = .int .i64) ∧ (shp Proofs.Try.prog 28 = .slice 3 1 false)))) ∧ ((((shp Proofs.Try.prog 40 = .slice 45 3 true) ∧ (shp Proofs.Try.prog 44 = .struct [(0, 1, false), (1, 1, false), (2, 1, false)] 3)) ∧ ((shp Proofs.Try.prog 45 = .struct [(0, 1, false), (1, 1, false), (2, 1, false)] 3) ∧ (shp Proofs.Try.prog 50 = .slice 58 1 false))) ∧ (((shp Proofs.Try.prog 51 = .slice 106 4 true) ∧ (shp Proofs.Try.prog 58 = .slice 101 4 true)) ∧ ((shp Proofs.Try.prog 64 = .slice 118 2 true) ∧ (shp Proofs.Try.prog 65 = .struct [(0, 1, false), (1, 1, false), (2, 1, false), (3, 1, false)] 4)))))) ∧ (((((shp Proofs.Try.prog 66 = .struct [(0, 1, false), (1, 1, false), (2, 1, false), (3, 1, false)] 4) ∧ ((shp Proofs.Try.prog 78 = .slice 22 1 false) ∧ (shp Proofs.Try.prog 88 = .slice 5 1 false))) ∧ (((shp Proofs.Try.prog 93 = .slice 102 1 false) ∧ (shp Proofs.Try.prog 98 = .struct [(0, 1, false), (1, 1, false), (2, 1, false)] 3)) ∧ ((shp Proofs.Try.prog 99 = .struct [(0, 1, false), (1, 1, false), (2, 1, false)] 3) ∧ (shp Proofs.Try.prog 100 = .struct [(0, 3, true), (3, 1, false)] 4)))) ∧ (((shp Proofs.Try.prog 101 = .struct [(0, 3, true), (3, 1, false)] 4) ∧ ((shp Proofs.Try.prog 102 = .slice 4 1 false) ∧ (shp Proofs.Try.prog 105 = .struct [(0, 1, false), (1, 1, false), (2, 1, false), (3, 1, false)] 4))) ∧ (((shp Proofs.Try.prog 106 = .struct [(0, 1, false), (1, 1, false), (2, 1, false), (3, 1, false)] 4) ∧ (shp Proofs.Try.prog 113 = .slice 50 1 false)) ∧ ((shp Proofs.Try.prog 117 = .struct [(0, 1, false), (1, 1, false)] 2) ∧ (shp Proofs.Try.prog 118 = .struct [(0, 1, false), (1, 1, false)] 2))))) ∧ ((((shp Proofs.Try.prog 131 = .int .u64) ∧ ((shp Proofs.Try.prog 136 = .struct [(0, 1, false), (1, 1, false)] 2) ∧ (shp Proofs.Try.prog 137 = .struct [(0, 1, false), (1, 1, false)] 2))) ∧ (((shp Proofs.Try.prog 155 = .int .u32) ∧ (shp Proofs.Try.prog 158 = .int .u64)) ∧ ((shp Proofs.Try.prog 174 = .struct [(0, 1, false), (1, 1, false), (2, 1, false), (3, 1, false)] 4) ∧ (shp Proofs.Try.prog 175 = .struct [(0, 1, false), (1, 1, false), (2, 1, false), (3, 1, false)] 4)))) ∧ ((((shp Proofs.Try.prog 177 = .struct [(0, 0, true)] 0) ∧ (shp Proofs.Try.prog 178 = .struct [(0, 0, true)] 0)) ∧ ((shp Proofs.Try.prog 179 = .int .u8) ∧ (shp Proofs.Try.prog 180 = .int .u8))) ∧ (((shp Proofs.Try.prog 182 = .int .i32) ∧ (shp Proofs.Try.prog 183 = .int .i32)) ∧ ((shp Proofs.Try.prog 184 = .struct [(0, 1, false), (1, 1, false), (2, 1, false), (3, 1, false), (4, 1, false), (5, 1, false), (6, 1, false), (7, 1, false), (8, 1, false), (9, 1, false), (10, 1, false)] 11) ∧ (shp Proofs.Try.prog 185 = .struct [(0, 1, false), (1, 1, false), (2, 1, false), (3, 1, false), (4, 1, false), (5, 1, false), (6, 1, false), (7, 1, false), (8, 1, false), (9, 1, false), (10, 1, false)] 11))))))) :=
  ⟨⟨⟨⟨⟨sh2, ⟨sh3, sh4⟩⟩, ⟨⟨sh5, sh6⟩, ⟨sh7, sh8⟩⟩⟩, ⟨⟨sh9, ⟨sh10, sh11⟩⟩, ⟨⟨sh12, sh13⟩, ⟨sh14, sh18⟩⟩⟩⟩, ⟨⟨⟨sh19, ⟨sh21, sh22⟩⟩, ⟨⟨sh23, sh24⟩, ⟨sh25, sh28⟩⟩⟩, ⟨⟨⟨sh40, sh44⟩, ⟨sh45, sh50⟩⟩, ⟨⟨sh51, sh58⟩, ⟨sh64, sh65⟩⟩⟩⟩⟩, ⟨⟨⟨⟨sh66, ⟨sh78, sh88⟩⟩, ⟨⟨sh93, sh98⟩, ⟨sh99, sh100⟩⟩⟩, ⟨⟨sh101, ⟨sh102, sh105⟩⟩, ⟨⟨sh106, sh113⟩, ⟨sh117, sh118⟩⟩⟩⟩, ⟨⟨⟨sh131, ⟨sh136, sh137⟩⟩, ⟨⟨sh155, sh158⟩, ⟨sh174, sh175⟩⟩⟩, ⟨⟨⟨sh177, sh178⟩, ⟨sh179, sh180⟩⟩, ⟨⟨sh182, sh183⟩, ⟨sh184, sh185⟩⟩⟩⟩⟩⟩
theorem zts : (((((zeroT Proofs.Try.prog 7 = some [.int .i64 0, .int .i64 0, .bool false, .int .u8 0]) ∧ ((zeroT Proofs.Try.prog 8 = some [.int .i64 0, .int .i64 0, .bool false, .int .u8 0]) ∧ (zeroT Proofs.Try.prog 13 = some [.string ⟨([] : List UInt8).toArray⟩, .int .u64 0]))) ∧ (((zeroT Proofs.Try.prog 14 = some [.string ⟨([] : List UInt8).toArray⟩, .int .u64 0]) ∧ (zeroT Proofs.Try.prog 18 = some [.pointer none])) ∧ ((zeroT Proofs.Try.prog 19 = some [.pointer none]) ∧ (zeroT Proofs.Try.prog 23 = some [.int .i64 0, .int .i64 0])))) ∧ (((zeroT Proofs.Try.prog 24 = some [.int .i64 0, .int .i64 0]) ∧ ((zeroT Proofs.Try.prog 44 = some [.int .i64 0, .int .i64 0, .int .i64 0]) ∧ (zeroT Proofs.Try.prog 45 = some [.int .i64 0, .int .i64 0, .int .i64 0]))) ∧ (((zeroT Proofs.Try.prog 65 = some [.int .i64 0, .slice none 0 0, .int .i64 0, .int .i64 0]) ∧ (zeroT Proofs.Try.prog 66 = some [.int .i64 0, .slice none 0 0, .int .i64 0, .int .i64 0])) ∧ ((zeroT Proofs.Try.prog 98 = some [.bool false, .int .i64 0, .int .i64 0]) ∧ (zeroT Proofs.Try.prog 99 = some [.bool false, .int .i64 0, .int .i64 0]))))) ∧ ((((zeroT Proofs.Try.prog 100 = some [.bool false, .int .i64 0, .int .i64 0, .string ⟨([] : List UInt8).toArray⟩]) ∧ ((zeroT Proofs.Try.prog 101 = some [.bool false, .int .i64 0, .int .i64 0, .string ⟨([] : List UInt8).toArray⟩]) ∧ (zeroT Proofs.Try.prog 105 = some [.int .i64 0, .int .i64 0, .string ⟨([] : List UInt8).toArray⟩, .int .i64 0]))) ∧ (((zeroT Proofs.Try.prog 106 = some [.int .i64 0, .int .i64 0, .string ⟨([] : List UInt8).toArray⟩, .int .i64 0]) ∧ (zeroT Proofs.Try.prog 117 = some [.int .i64 0, .int .i64 0])) ∧ ((zeroT Proofs.Try.prog 118 = some [.int .i64 0, .int .i64 0]) ∧ (zeroT Proofs.Try.prog 136 = some [.pointer none, .slice none 0 0])))) ∧ (((zeroT Proofs.Try.prog 137 = some [.pointer none, .slice none 0 0]) ∧ ((zeroT Proofs.Try.prog 174 = some [.pointer none, .pointer none, .pointer none, .string ⟨([] : List UInt8).toArray⟩]) ∧ (zeroT Proofs.Try.prog 175 = some [.pointer none, .pointer none, .pointer none, .string ⟨([] : List UInt8).toArray⟩]))) ∧ (((zeroT Proofs.Try.prog 177 = some []) ∧ (zeroT Proofs.Try.prog 178 = some [])) ∧ ((zeroT Proofs.Try.prog 184 = some [.int .u64 0, .int .u64 0, .int .u32 0, .int .u8 0, .int .u8 0, .int .u8 0, .int .u8 0, .nilFunc, .pointer none, .int .i32 0, .int .i32 0]) ∧ (zeroT Proofs.Try.prog 185 = some [.int .u64 0, .int .u64 0, .int .u32 0, .int .u8 0, .int .u8 0, .int .u8 0, .int .u8 0, .nilFunc, .pointer none, .int .i32 0, .int .i32 0])))))) :=
  ⟨⟨⟨⟨zt7, ⟨zt8, zt13⟩⟩, ⟨⟨zt14, zt18⟩, ⟨zt19, zt23⟩⟩⟩, ⟨⟨zt24, ⟨zt44, zt45⟩⟩, ⟨⟨zt65, zt66⟩, ⟨zt98, zt99⟩⟩⟩⟩, ⟨⟨⟨zt100, ⟨zt101, zt105⟩⟩, ⟨⟨zt106, zt117⟩, ⟨zt118, zt136⟩⟩⟩, ⟨⟨zt137, ⟨zt174, zt175⟩⟩, ⟨⟨zt177, zt178⟩, ⟨zt184, zt185⟩⟩⟩⟩⟩
theorem sos : ((((((szOk Proofs.Try.prog 2 = True) ∧ ((szOk Proofs.Try.prog 3 = True) ∧ (szOk Proofs.Try.prog 4 = True))) ∧ (((szOk Proofs.Try.prog 5 = True) ∧ (szOk Proofs.Try.prog 6 = True)) ∧ ((szOk Proofs.Try.prog 7 = True) ∧ (szOk Proofs.Try.prog 8 = True)))) ∧ (((szOk Proofs.Try.prog 9 = True) ∧ ((szOk Proofs.Try.prog 10 = True) ∧ (szOk Proofs.Try.prog 11 = True))) ∧ (((szOk Proofs.Try.prog 12 = True) ∧ (szOk Proofs.Try.prog 13 = True)) ∧ ((szOk Proofs.Try.prog 14 = True) ∧ (szOk Proofs.Try.prog 18 = True))))) ∧ ((((szOk Proofs.Try.prog 19 = True) ∧ ((szOk Proofs.Try.prog 21 = True) ∧ (szOk Proofs.Try.prog 22 = True))) ∧ (((szOk Proofs.Try.prog 23 = True) ∧ (szOk Proofs.Try.prog 24 = True)) ∧ ((szOk Proofs.Try.prog 25 = True) ∧ (szOk Proofs.Try.prog 28 = True)))) ∧ (((szOk Proofs.Try.prog 40 = True) ∧ ((szOk Proofs.Try.prog 44 = True) ∧ (szOk Proofs.Try.prog 45 = True))) ∧ (((szOk Proofs.Try.prog 50 = True) ∧ (szOk Proofs.Try.prog 51 = True)) ∧ ((szOk Proofs.Try.prog 58 = True) ∧ (szOk Proofs.Try.prog 64 = True)))))) ∧ (((((szOk Proofs.Try.prog 65 = True) ∧ ((szOk Proofs.Try.prog 66 = True) ∧ (szOk Proofs.Try.prog 78 = True))) ∧ (((szOk Proofs.Try.prog 88 = True) ∧ (szOk Proofs.Try.prog 93 = True)) ∧ ((szOk Proofs.Try.prog 98 = True) ∧ (szOk Proofs.Try.prog 99 = True)))) ∧ (((szOk Proofs.Try.prog 100 = True) ∧ ((szOk Proofs.Try.prog 101 = True) ∧ (szOk Proofs.Try.prog 102 = True))) ∧ (((szOk Proofs.Try.prog 105 = True) ∧ (szOk Proofs.Try.prog 106 = True)) ∧ ((szOk Proofs.Try.prog 113 = True) ∧ (szOk Proofs.Try.prog 117 = True))))) ∧ ((((szOk Proofs.Try.prog 118 = True) ∧ ((szOk Proofs.Try.prog 131 = True) ∧ (szOk Proofs.Try.prog 136 = True))) ∧ (((szOk Proofs.Try.prog 137 = True) ∧ (szOk Proofs.Try.prog 155 = True)) ∧ ((szOk Proofs.Try.prog 158 = True) ∧ (szOk Proofs.Try.prog 174 = True)))) ∧ (((szOk Proofs.Try.prog 175 = True) ∧ ((szOk Proofs.Try.prog 179 = True) ∧ (szOk Proofs.Try.prog 180 = True))) ∧ (((szOk Proofs.Try.prog 182 = True) ∧ (szOk Proofs.Try.prog 183 = True)) ∧ ((szOk Proofs.Try.prog 184 = True) ∧ (szOk Proofs.Try.prog 185 = True))))))) :=
  ⟨⟨⟨⟨⟨so2, ⟨so3, so4⟩⟩, ⟨⟨so5, so6⟩, ⟨so7, so8⟩⟩⟩, ⟨⟨so9, ⟨so10, so11⟩⟩, ⟨⟨so12, so13⟩, ⟨so14, so18⟩⟩⟩⟩, ⟨⟨⟨so19, ⟨so21, so22⟩⟩, ⟨⟨so23, so24⟩, ⟨so25, so28⟩⟩⟩, ⟨⟨so40, ⟨so44, so45⟩⟩, ⟨⟨so50, so51⟩, ⟨so58, so64⟩⟩⟩⟩⟩, ⟨⟨⟨⟨so65, ⟨so66, so78⟩⟩, ⟨⟨so88, so93⟩, ⟨so98, so99⟩⟩⟩, ⟨⟨so100, ⟨so101, so102⟩⟩, ⟨⟨so105, so106⟩, ⟨so113, so117⟩⟩⟩⟩, ⟨⟨⟨so118, ⟨so131, so136⟩⟩, ⟨⟨so137, so155⟩, ⟨so158, so174⟩⟩⟩, ⟨⟨so175, ⟨so179, so180⟩⟩, ⟨⟨so182, so183⟩, ⟨so184, so185⟩⟩⟩⟩⟩⟩
theorem sls : ((((slT Proofs.Try.prog 22 = some (24, 2, 16, [.int .i64 0, .int .i64 0])) ∧ ((slT Proofs.Try.prog 28 = some (3, 1, 8, [.int .i64 0])) ∧ (slT Proofs.Try.prog 40 = some (45, 3, 24, [.int .i64 0, .int .i64 0, .int .i64 0])))) ∧ ((slT Proofs.Try.prog 50 = some (58, 1, 24, [.slice none 0 0])) ∧ ((slT Proofs.Try.prog 51 = some (106, 4, 40, [.int .i64 0, .int .i64 0, .string ⟨([] : List UInt8).toArray⟩, .int .i64 0])) ∧ (slT Proofs.Try.prog 58 = some (101, 4, 40, [.bool false, .int .i64 0, .int .i64 0, .string ⟨([] : List UInt8).toArray⟩]))))) ∧ (((slT Proofs.Try.prog 64 = some (118, 2, 16, [.int .i64 0, .int .i64 0])) ∧ ((slT Proofs.Try.prog 78 = some (22, 1, 24, [.slice none 0 0])) ∧ (slT Proofs.Try.prog 88 = some (5, 1, 1, [.int .u8 0])))) ∧ ((slT Proofs.Try.prog 93 = some (102, 1, 24, [.slice none 0 0])) ∧ ((slT Proofs.Try.prog 102 = some (4, 1, 1, [.bool false])) ∧ (slT Proofs.Try.prog 113 = some (50, 1, 24, [.slice none 0 0])))))) :=
  ⟨⟨⟨sl22, ⟨sl28, sl40⟩⟩, ⟨sl50, ⟨sl51, sl58⟩⟩⟩, ⟨⟨sl64, ⟨sl78, sl88⟩⟩, ⟨sl93, ⟨sl102, sl113⟩⟩⟩⟩
theorem zss : ((((((zsT Proofs.Try.prog 2 = some [.int .i64 0]) ∧ ((zsT Proofs.Try.prog 3 = some [.int .i64 0]) ∧ (zsT Proofs.Try.prog 4 = some [.bool false]))) ∧ (((zsT Proofs.Try.prog 5 = some [.int .u8 0]) ∧ (zsT Proofs.Try.prog 6 = some [.int .u8 0])) ∧ ((zsT Proofs.Try.prog 7 = some [.int .i64 0, .int .i64 0, .bool false, .int .u8 0]) ∧ (zsT Proofs.Try.prog 8 = some [.int .i64 0, .int .i64 0, .bool false, .int .u8 0])))) ∧ (((zsT Proofs.Try.prog 9 = some [.string ⟨([] : List UInt8).toArray⟩]) ∧ ((zsT Proofs.Try.prog 10 = some [.string ⟨([] : List UInt8).toArray⟩]) ∧ (zsT Proofs.Try.prog 11 = some [.string ⟨([] : List UInt8).toArray⟩]))) ∧ (((zsT Proofs.Try.prog 12 = some [.int .u64 0]) ∧ (zsT Proofs.Try.prog 13 = some [.string ⟨([] : List UInt8).toArray⟩, .int .u64 0])) ∧ ((zsT Proofs.Try.prog 14 = some [.string ⟨([] : List UInt8).toArray⟩, .int .u64 0]) ∧ (zsT Proofs.Try.prog 18 = some [.pointer none]))))) ∧ ((((zsT Proofs.Try.prog 19 = some [.pointer none]) ∧ ((zsT Proofs.Try.prog 21 = some [.int .i32 0]) ∧ (zsT Proofs.Try.prog 22 = some [.slice none 0 0]))) ∧ (((zsT Proofs.Try.prog 23 = some [.int .i64 0, .int .i64 0]) ∧ (zsT Proofs.Try.prog 24 = some [.int .i64 0, .int .i64 0])) ∧ ((zsT Proofs.Try.prog 25 = some [.int .i64 0]) ∧ (zsT Proofs.Try.prog 28 = some [.slice none 0 0])))) ∧ (((zsT Proofs.Try.prog 40 = some [.slice none 0 0]) ∧ ((zsT Proofs.Try.prog 44 = some [.int .i64 0, .int .i64 0, .int .i64 0]) ∧ (zsT Proofs.Try.prog 45 = some [.int .i64 0, .int .i64 0, .int .i64 0]))) ∧ (((zsT Proofs.Try.prog 50 = some [.slice none 0 0]) ∧ (zsT Proofs.Try.prog 51 = some [.slice none 0 0])) ∧ ((zsT Proofs.Try.prog 58 = some [.slice none 0 0]) ∧ (zsT Proofs.Try.prog 64 = some [.slice none 0 0])))))) ∧ (((((zsT Proofs.Try.prog 65 = some [.int .i64 0, .slice none 0 0, .int .i64 0, .int .i64 0]) ∧ ((zsT Proofs.Try.prog 66 = some [.int .i64 0, .slice none 0 0, .int .i64 0, .int .i64 0]) ∧ (zsT Proofs.Try.prog 78 = some [.slice none 0 0]))) ∧ (((zsT Proofs.Try.prog 88 = some [.slice none 0 0]) ∧ (zsT Proofs.Try.prog 93 = some [.slice none 0 0])) ∧ ((zsT Proofs.Try.prog 98 = some [.bool false, .int .i64 0, .int .i64 0]) ∧ (zsT Proofs.Try.prog 99 = some [.bool false, .int .i64 0, .int .i64 0])))) ∧ (((zsT Proofs.Try.prog 100 = some [.bool false, .int .i64 0, .int .i64 0, .string ⟨([] : List UInt8).toArray⟩]) ∧ ((zsT Proofs.Try.prog 101 = some [.bool false, .int .i64 0, .int .i64 0, .string ⟨([] : List UInt8).toArray⟩]) ∧ (zsT Proofs.Try.prog 102 = some [.slice none 0 0]))) ∧ (((zsT Proofs.Try.prog 105 = some [.int .i64 0, .int .i64 0, .string ⟨([] : List UInt8).toArray⟩, .int .i64 0]) ∧ (zsT Proofs.Try.prog 106 = some [.int .i64 0, .int .i64 0, .string ⟨([] : List UInt8).toArray⟩, .int .i64 0])) ∧ ((zsT Proofs.Try.prog 113 = some [.slice none 0 0]) ∧ (zsT Proofs.Try.prog 117 = some [.int .i64 0, .int .i64 0]))))) ∧ ((((zsT Proofs.Try.prog 118 = some [.int .i64 0, .int .i64 0]) ∧ ((zsT Proofs.Try.prog 131 = some [.int .u64 0]) ∧ (zsT Proofs.Try.prog 136 = some [.pointer none, .slice none 0 0]))) ∧ (((zsT Proofs.Try.prog 137 = some [.pointer none, .slice none 0 0]) ∧ (zsT Proofs.Try.prog 155 = some [.int .u32 0])) ∧ ((zsT Proofs.Try.prog 158 = some [.int .u64 0]) ∧ (zsT Proofs.Try.prog 174 = some [.pointer none, .pointer none, .pointer none, .string ⟨([] : List UInt8).toArray⟩])))) ∧ (((zsT Proofs.Try.prog 175 = some [.pointer none, .pointer none, .pointer none, .string ⟨([] : List UInt8).toArray⟩]) ∧ ((zsT Proofs.Try.prog 177 = some []) ∧ (zsT Proofs.Try.prog 178 = some []))) ∧ (((zsT Proofs.Try.prog 179 = some [.int .u8 0]) ∧ (zsT Proofs.Try.prog 180 = some [.int .u8 0])) ∧ ((zsT Proofs.Try.prog 182 = some [.int .i32 0]) ∧ (zsT Proofs.Try.prog 183 = some [.int .i32 0]))))))) :=
  ⟨⟨⟨⟨⟨zs2, ⟨zs3, zs4⟩⟩, ⟨⟨zs5, zs6⟩, ⟨zs7, zs8⟩⟩⟩, ⟨⟨zs9, ⟨zs10, zs11⟩⟩, ⟨⟨zs12, zs13⟩, ⟨zs14, zs18⟩⟩⟩⟩, ⟨⟨⟨zs19, ⟨zs21, zs22⟩⟩, ⟨⟨zs23, zs24⟩, ⟨zs25, zs28⟩⟩⟩, ⟨⟨zs40, ⟨zs44, zs45⟩⟩, ⟨⟨zs50, zs51⟩, ⟨zs58, zs64⟩⟩⟩⟩⟩, ⟨⟨⟨⟨zs65, ⟨zs66, zs78⟩⟩, ⟨⟨zs88, zs93⟩, ⟨zs98, zs99⟩⟩⟩, ⟨⟨zs100, ⟨zs101, zs102⟩⟩, ⟨⟨zs105, zs106⟩, ⟨zs113, zs117⟩⟩⟩⟩, ⟨⟨⟨zs118, ⟨zs131, zs136⟩⟩, ⟨⟨zs137, zs155⟩, ⟨zs158, zs174⟩⟩⟩, ⟨⟨zs175, ⟨zs177, zs178⟩⟩, ⟨⟨zs179, zs180⟩, ⟨zs182, zs183⟩⟩⟩⟩⟩⟩
theorem eqs : ((((eqT Proofs.Try.prog 7 = some [.int .i64, .int .i64, .bool, .int .u8]) ∧ ((eqT Proofs.Try.prog 8 = some [.int .i64, .int .i64, .bool, .int .u8]) ∧ (eqT Proofs.Try.prog 23 = some [.int .i64, .int .i64]))) ∧ (((eqT Proofs.Try.prog 24 = some [.int .i64, .int .i64]) ∧ (eqT Proofs.Try.prog 44 = some [.int .i64, .int .i64, .int .i64])) ∧ ((eqT Proofs.Try.prog 45 = some [.int .i64, .int .i64, .int .i64]) ∧ (eqT Proofs.Try.prog 98 = some [.bool, .int .i64, .int .i64])))) ∧ (((eqT Proofs.Try.prog 99 = some [.bool, .int .i64, .int .i64]) ∧ ((eqT Proofs.Try.prog 100 = some [.bool, .int .i64, .int .i64, .str]) ∧ (eqT Proofs.Try.prog 101 = some [.bool, .int .i64, .int .i64, .str]))) ∧ (((eqT Proofs.Try.prog 105 = some [.int .i64, .int .i64, .str, .int .i64]) ∧ (eqT Proofs.Try.prog 106 = some [.int .i64, .int .i64, .str, .int .i64])) ∧ ((eqT Proofs.Try.prog 117 = some [.int .i64, .int .i64]) ∧ (eqT Proofs.Try.prog 118 = some [.int .i64, .int .i64]))))) :=
  ⟨⟨⟨eq7, ⟨eq8, eq23⟩⟩, ⟨⟨eq24, eq44⟩, ⟨eq45, eq98⟩⟩⟩, ⟨⟨eq99, ⟨eq100, eq101⟩⟩, ⟨⟨eq105, eq106⟩, ⟨eq117, eq118⟩⟩⟩⟩
end Go.X
