/- The shapes of the types of this translation. Conditions: none. -/
import Derived.Test.YtbnbimncladflaaProg
import Derived.Test.YtbnbimncladflaaFwB
import Derived.KernelRfl
set_option linter.unusedVariables false
namespace Go.X
open Go
theorem sh2 : shp Proofs.Try.prog 2 = .int .i64 := by kernel_rfl
theorem so2 : szOk Proofs.Try.prog 2 = True := eq_true (szOk_of (n := 1) sh2 (by kernel_rfl) (by decide) (by decide))
theorem zs2 : zsT Proofs.Try.prog 2 = some [.int .i64 0] := by kernel_rfl
theorem sh3 : shp Proofs.Try.prog 3 = .int .i64 := by kernel_rfl
theorem so3 : szOk Proofs.Try.prog 3 = True := eq_true (szOk_of (n := 1) sh3 (by kernel_rfl) (by decide) (by decide))
theorem zs3 : zsT Proofs.Try.prog 3 = some [.int .i64 0] := by kernel_rfl
theorem sh4 : shp Proofs.Try.prog 4 = .bool := by kernel_rfl
theorem so4 : szOk Proofs.Try.prog 4 = True := eq_true (szOk_of (n := 1) sh4 (by kernel_rfl) (by decide) (by decide))
theorem zs4 : zsT Proofs.Try.prog 4 = some [.bool false] := by kernel_rfl
theorem sh5 : shp Proofs.Try.prog 5 = .int .u8 := by kernel_rfl
theorem so5 : szOk Proofs.Try.prog 5 = True := eq_true (szOk_of (n := 1) sh5 (by kernel_rfl) (by decide) (by decide))
theorem zs5 : zsT Proofs.Try.prog 5 = some [.int .u8 0] := by kernel_rfl
theorem sh6 : shp Proofs.Try.prog 6 = .int .u8 := by kernel_rfl
theorem so6 : szOk Proofs.Try.prog 6 = True := eq_true (szOk_of (n := 1) sh6 (by kernel_rfl) (by decide) (by decide))
theorem zs6 : zsT Proofs.Try.prog 6 = some [.int .u8 0] := by kernel_rfl
theorem sh7 : shp Proofs.Try.prog 7 = .struct [(0, 1, false), (1, 1, false), (2, 1, false), (3, 1, false)] 4 := by kernel_rfl
theorem zt7 : zeroT Proofs.Try.prog 7 = some [.int .i64 0, .int .i64 0, .bool false, .int .u8 0] := by kernel_rfl
theorem so7 : szOk Proofs.Try.prog 7 = True := eq_true (szOk_of (n := 4) sh7 (by kernel_rfl) (by decide) (by decide))
theorem zs7 : zsT Proofs.Try.prog 7 = some [.int .i64 0, .int .i64 0, .bool false, .int .u8 0] := by kernel_rfl
theorem sh8 : shp Proofs.Try.prog 8 = .struct [(0, 1, false), (1, 1, false), (2, 1, false), (3, 1, false)] 4 := by kernel_rfl
theorem zt8 : zeroT Proofs.Try.prog 8 = some [.int .i64 0, .int .i64 0, .bool false, .int .u8 0] := by kernel_rfl
theorem so8 : szOk Proofs.Try.prog 8 = True := eq_true (szOk_of (n := 4) sh8 (by kernel_rfl) (by decide) (by decide))
theorem zs8 : zsT Proofs.Try.prog 8 = some [.int .i64 0, .int .i64 0, .bool false, .int .u8 0] := by kernel_rfl
theorem sh9 : shp Proofs.Try.prog 9 = .str := by kernel_rfl
theorem so9 : szOk Proofs.Try.prog 9 = True := eq_true (szOk_of (n := 1) sh9 (by kernel_rfl) (by decide) (by decide))
theorem zs9 : zsT Proofs.Try.prog 9 = some [.string ⟨([] : List UInt8).toArray⟩] := by kernel_rfl
theorem sh10 : shp Proofs.Try.prog 10 = .str := by kernel_rfl
theorem so10 : szOk Proofs.Try.prog 10 = True := eq_true (szOk_of (n := 1) sh10 (by kernel_rfl) (by decide) (by decide))
theorem zs10 : zsT Proofs.Try.prog 10 = some [.string ⟨([] : List UInt8).toArray⟩] := by kernel_rfl
theorem sh11 : shp Proofs.Try.prog 11 = .str := by kernel_rfl
theorem so11 : szOk Proofs.Try.prog 11 = True := eq_true (szOk_of (n := 1) sh11 (by kernel_rfl) (by decide) (by decide))
theorem zs11 : zsT Proofs.Try.prog 11 = some [.string ⟨([] : List UInt8).toArray⟩] := by kernel_rfl
theorem sh12 : shp Proofs.Try.prog 12 = .int .u64 := by kernel_rfl
theorem so12 : szOk Proofs.Try.prog 12 = True := eq_true (szOk_of (n := 1) sh12 (by kernel_rfl) (by decide) (by decide))
theorem zs12 : zsT Proofs.Try.prog 12 = some [.int .u64 0] := by kernel_rfl
theorem sh13 : shp Proofs.Try.prog 13 = .struct [(0, 1, false), (1, 1, false)] 2 := by kernel_rfl
theorem zt13 : zeroT Proofs.Try.prog 13 = some [.string ⟨([] : List UInt8).toArray⟩, .int .u64 0] := by kernel_rfl
theorem so13 : szOk Proofs.Try.prog 13 = True := eq_true (szOk_of (n := 2) sh13 (by kernel_rfl) (by decide) (by decide))
theorem zs13 : zsT Proofs.Try.prog 13 = some [.string ⟨([] : List UInt8).toArray⟩, .int .u64 0] := by kernel_rfl
theorem sh14 : shp Proofs.Try.prog 14 = .struct [(0, 1, false), (1, 1, false)] 2 := by kernel_rfl
theorem zt14 : zeroT Proofs.Try.prog 14 = some [.string ⟨([] : List UInt8).toArray⟩, .int .u64 0] := by kernel_rfl
theorem so14 : szOk Proofs.Try.prog 14 = True := eq_true (szOk_of (n := 2) sh14 (by kernel_rfl) (by decide) (by decide))
theorem zs14 : zsT Proofs.Try.prog 14 = some [.string ⟨([] : List UInt8).toArray⟩, .int .u64 0] := by kernel_rfl
theorem sh18 : shp Proofs.Try.prog 18 = .struct [(0, 1, false)] 1 := by kernel_rfl
theorem zt18 : zeroT Proofs.Try.prog 18 = some [.pointer none] := by kernel_rfl
theorem so18 : szOk Proofs.Try.prog 18 = True := eq_true (szOk_of (n := 1) sh18 (by kernel_rfl) (by decide) (by decide))
theorem zs18 : zsT Proofs.Try.prog 18 = some [.pointer none] := by kernel_rfl
theorem sh19 : shp Proofs.Try.prog 19 = .struct [(0, 1, false)] 1 := by kernel_rfl
theorem zt19 : zeroT Proofs.Try.prog 19 = some [.pointer none] := by kernel_rfl
theorem so19 : szOk Proofs.Try.prog 19 = True := eq_true (szOk_of (n := 1) sh19 (by kernel_rfl) (by decide) (by decide))
theorem zs19 : zsT Proofs.Try.prog 19 = some [.pointer none] := by kernel_rfl
theorem sh21 : shp Proofs.Try.prog 21 = .int .i32 := by kernel_rfl
theorem so21 : szOk Proofs.Try.prog 21 = True := eq_true (szOk_of (n := 1) sh21 (by kernel_rfl) (by decide) (by decide))
theorem zs21 : zsT Proofs.Try.prog 21 = some [.int .i32 0] := by kernel_rfl
theorem sh23 : shp Proofs.Try.prog 23 = .slice 66 4 true := by kernel_rfl
theorem so23 : szOk Proofs.Try.prog 23 = True := eq_true (szOk_of (n := 1) sh23 (by kernel_rfl) (by decide) (by decide))
theorem sl23 : slT Proofs.Try.prog 23 = some (66, 4, 40, [.int .i64 0, .int .i64 0, .string ⟨([] : List UInt8).toArray⟩, .int .i64 0]) := by kernel_rfl
theorem zs23 : zsT Proofs.Try.prog 23 = some [.slice none 0 0] := by kernel_rfl
theorem sh24 : shp Proofs.Try.prog 24 = .slice 79 2 true := by kernel_rfl
theorem so24 : szOk Proofs.Try.prog 24 = True := eq_true (szOk_of (n := 1) sh24 (by kernel_rfl) (by decide) (by decide))
theorem sl24 : slT Proofs.Try.prog 24 = some (79, 2, 40, [.string ⟨([] : List UInt8).toArray⟩, .slice none 0 0]) := by kernel_rfl
theorem zs24 : zsT Proofs.Try.prog 24 = some [.slice none 0 0] := by kernel_rfl
theorem sh25 : shp Proofs.Try.prog 25 = .struct [(0, 1, false), (1, 1, false)] 2 := by kernel_rfl
theorem zt25 : zeroT Proofs.Try.prog 25 = some [.slice none 0 0, .slice none 0 0] := by kernel_rfl
theorem so25 : szOk Proofs.Try.prog 25 = True := eq_true (szOk_of (n := 2) sh25 (by kernel_rfl) (by decide) (by decide))
theorem zs25 : zsT Proofs.Try.prog 25 = some [.slice none 0 0, .slice none 0 0] := by kernel_rfl
theorem sh26 : shp Proofs.Try.prog 26 = .struct [(0, 1, false), (1, 1, false)] 2 := by kernel_rfl
theorem zt26 : zeroT Proofs.Try.prog 26 = some [.slice none 0 0, .slice none 0 0] := by kernel_rfl
theorem so26 : szOk Proofs.Try.prog 26 = True := eq_true (szOk_of (n := 2) sh26 (by kernel_rfl) (by decide) (by decide))
theorem zs26 : zsT Proofs.Try.prog 26 = some [.slice none 0 0, .slice none 0 0] := by kernel_rfl
theorem sh30 : shp Proofs.Try.prog 30 = .int .i64 := by kernel_rfl
theorem so30 : szOk Proofs.Try.prog 30 = True := eq_true (szOk_of (n := 1) sh30 (by kernel_rfl) (by decide) (by decide))
theorem zs30 : zsT Proofs.Try.prog 30 = some [.int .i64 0] := by kernel_rfl
theorem sh33 : shp Proofs.Try.prog 33 = .slice 3 1 false := by kernel_rfl
theorem so33 : szOk Proofs.Try.prog 33 = True := eq_true (szOk_of (n := 1) sh33 (by kernel_rfl) (by decide) (by decide))
theorem sl33 : slT Proofs.Try.prog 33 = some (3, 1, 8, [.int .i64 0]) := by kernel_rfl
theorem zs33 : zsT Proofs.Try.prog 33 = some [.slice none 0 0] := by kernel_rfl
theorem sh40 : shp Proofs.Try.prog 40 = .slice 9 1 false := by kernel_rfl
theorem so40 : szOk Proofs.Try.prog 40 = True := eq_true (szOk_of (n := 1) sh40 (by kernel_rfl) (by decide) (by decide))
theorem sl40 : slT Proofs.Try.prog 40 = some (9, 1, 16, [.string ⟨([] : List UInt8).toArray⟩]) := by kernel_rfl
theorem zs40 : zsT Proofs.Try.prog 40 = some [.slice none 0 0] := by kernel_rfl
theorem sh48 : shp Proofs.Try.prog 48 = .slice 53 3 true := by kernel_rfl
theorem so48 : szOk Proofs.Try.prog 48 = True := eq_true (szOk_of (n := 1) sh48 (by kernel_rfl) (by decide) (by decide))
theorem sl48 : slT Proofs.Try.prog 48 = some (53, 3, 24, [.int .i64 0, .int .i64 0, .int .i64 0]) := by kernel_rfl
theorem zs48 : zsT Proofs.Try.prog 48 = some [.slice none 0 0] := by kernel_rfl
theorem sh52 : shp Proofs.Try.prog 52 = .struct [(0, 1, false), (1, 1, false), (2, 1, false)] 3 := by kernel_rfl
theorem zt52 : zeroT Proofs.Try.prog 52 = some [.int .i64 0, .int .i64 0, .int .i64 0] := by kernel_rfl
theorem so52 : szOk Proofs.Try.prog 52 = True := eq_true (szOk_of (n := 3) sh52 (by kernel_rfl) (by decide) (by decide))
theorem zs52 : zsT Proofs.Try.prog 52 = some [.int .i64 0, .int .i64 0, .int .i64 0] := by kernel_rfl
theorem sh53 : shp Proofs.Try.prog 53 = .struct [(0, 1, false), (1, 1, false), (2, 1, false)] 3 := by kernel_rfl
theorem zt53 : zeroT Proofs.Try.prog 53 = some [.int .i64 0, .int .i64 0, .int .i64 0] := by kernel_rfl
theorem so53 : szOk Proofs.Try.prog 53 = True := eq_true (szOk_of (n := 3) sh53 (by kernel_rfl) (by decide) (by decide))
theorem zs53 : zsT Proofs.Try.prog 53 = some [.int .i64 0, .int .i64 0, .int .i64 0] := by kernel_rfl
theorem sh57 : shp Proofs.Try.prog 57 = .struct [(0, 1, false), (1, 1, false), (2, 1, false)] 3 := by kernel_rfl
theorem zt57 : zeroT Proofs.Try.prog 57 = some [.bool false, .int .i64 0, .int .i64 0] := by kernel_rfl
theorem so57 : szOk Proofs.Try.prog 57 = True := eq_true (szOk_of (n := 3) sh57 (by kernel_rfl) (by decide) (by decide))
theorem zs57 : zsT Proofs.Try.prog 57 = some [.bool false, .int .i64 0, .int .i64 0] := by kernel_rfl
theorem sh58 : shp Proofs.Try.prog 58 = .struct [(0, 1, false), (1, 1, false), (2, 1, false)] 3 := by kernel_rfl
theorem zt58 : zeroT Proofs.Try.prog 58 = some [.bool false, .int .i64 0, .int .i64 0] := by kernel_rfl
theorem so58 : szOk Proofs.Try.prog 58 = True := eq_true (szOk_of (n := 3) sh58 (by kernel_rfl) (by decide) (by decide))
theorem zs58 : zsT Proofs.Try.prog 58 = some [.bool false, .int .i64 0, .int .i64 0] := by kernel_rfl
theorem sh65 : shp Proofs.Try.prog 65 = .struct [(0, 1, false), (1, 1, false), (2, 1, false), (3, 1, false)] 4 := by kernel_rfl
theorem zt65 : zeroT Proofs.Try.prog 65 = some [.int .i64 0, .int .i64 0, .string ⟨([] : List UInt8).toArray⟩, .int .i64 0] := by kernel_rfl
theorem so65 : szOk Proofs.Try.prog 65 = True := eq_true (szOk_of (n := 4) sh65 (by kernel_rfl) (by decide) (by decide))
theorem zs65 : zsT Proofs.Try.prog 65 = some [.int .i64 0, .int .i64 0, .string ⟨([] : List UInt8).toArray⟩, .int .i64 0] := by kernel_rfl
theorem sh66 : shp Proofs.Try.prog 66 = .struct [(0, 1, false), (1, 1, false), (2, 1, false), (3, 1, false)] 4 := by kernel_rfl
theorem zt66 : zeroT Proofs.Try.prog 66 = some [.int .i64 0, .int .i64 0, .string ⟨([] : List UInt8).toArray⟩, .int .i64 0] := by kernel_rfl
theorem so66 : szOk Proofs.Try.prog 66 = True := eq_true (szOk_of (n := 4) sh66 (by kernel_rfl) (by decide) (by decide))
theorem zs66 : zsT Proofs.Try.prog 66 = some [.int .i64 0, .int .i64 0, .string ⟨([] : List UInt8).toArray⟩, .int .i64 0] := by kernel_rfl
theorem sh77 : shp Proofs.Try.prog 77 = .slice 58 3 true := by kernel_rfl
theorem so77 : szOk Proofs.Try.prog 77 = True := eq_true (szOk_of (n := 1) sh77 (by kernel_rfl) (by decide) (by decide))
theorem sl77 : slT Proofs.Try.prog 77 = some (58, 3, 24, [.bool false, .int .i64 0, .int .i64 0]) := by kernel_rfl
theorem zs77 : zsT Proofs.Try.prog 77 = some [.slice none 0 0] := by kernel_rfl
theorem sh78 : shp Proofs.Try.prog 78 = .struct [(0, 1, false), (1, 1, false)] 2 := by kernel_rfl
theorem zt78 : zeroT Proofs.Try.prog 78 = some [.string ⟨([] : List UInt8).toArray⟩, .slice none 0 0] := by kernel_rfl
theorem so78 : szOk Proofs.Try.prog 78 = True := eq_true (szOk_of (n := 2) sh78 (by kernel_rfl) (by decide) (by decide))
theorem zs78 : zsT Proofs.Try.prog 78 = some [.string ⟨([] : List UInt8).toArray⟩, .slice none 0 0] := by kernel_rfl
theorem sh79 : shp Proofs.Try.prog 79 = .struct [(0, 1, false), (1, 1, false)] 2 := by kernel_rfl
theorem zt79 : zeroT Proofs.Try.prog 79 = some [.string ⟨([] : List UInt8).toArray⟩, .slice none 0 0] := by kernel_rfl
theorem so79 : szOk Proofs.Try.prog 79 = True := eq_true (szOk_of (n := 2) sh79 (by kernel_rfl) (by decide) (by decide))
theorem zs79 : zsT Proofs.Try.prog 79 = some [.string ⟨([] : List UInt8).toArray⟩, .slice none 0 0] := by kernel_rfl
theorem sh86 : shp Proofs.Try.prog 86 = .int .u64 := by kernel_rfl
theorem so86 : szOk Proofs.Try.prog 86 = True := eq_true (szOk_of (n := 1) sh86 (by kernel_rfl) (by decide) (by decide))
theorem zs86 : zsT Proofs.Try.prog 86 = some [.int .u64 0] := by kernel_rfl
theorem sh91 : shp Proofs.Try.prog 91 = .slice 33 1 false := by kernel_rfl
theorem so91 : szOk Proofs.Try.prog 91 = True := eq_true (szOk_of (n := 1) sh91 (by kernel_rfl) (by decide) (by decide))
theorem sl91 : slT Proofs.Try.prog 91 = some (33, 1, 24, [.slice none 0 0]) := by kernel_rfl
theorem zs91 : zsT Proofs.Try.prog 91 = some [.slice none 0 0] := by kernel_rfl
theorem sh93 : shp Proofs.Try.prog 93 = .struct [(0, 1, false), (1, 1, false), (2, 1, false), (3, 1, false)] 4 := by kernel_rfl
theorem zt93 : zeroT Proofs.Try.prog 93 = some [.slice none 0 0, .slice none 0 0, .slice none 0 0, .int .i64 0] := by kernel_rfl
theorem so93 : szOk Proofs.Try.prog 93 = True := eq_true (szOk_of (n := 4) sh93 (by kernel_rfl) (by decide) (by decide))
theorem zs93 : zsT Proofs.Try.prog 93 = some [.slice none 0 0, .slice none 0 0, .slice none 0 0, .int .i64 0] := by kernel_rfl
theorem sh94 : shp Proofs.Try.prog 94 = .struct [(0, 1, false), (1, 1, false), (2, 1, false), (3, 1, false)] 4 := by kernel_rfl
theorem zt94 : zeroT Proofs.Try.prog 94 = some [.slice none 0 0, .slice none 0 0, .slice none 0 0, .int .i64 0] := by kernel_rfl
theorem so94 : szOk Proofs.Try.prog 94 = True := eq_true (szOk_of (n := 4) sh94 (by kernel_rfl) (by decide) (by decide))
theorem zs94 : zsT Proofs.Try.prog 94 = some [.slice none 0 0, .slice none 0 0, .slice none 0 0, .int .i64 0] := by kernel_rfl
theorem sh104 : shp Proofs.Try.prog 104 = .slice 5 1 false := by kernel_rfl
theorem so104 : szOk Proofs.Try.prog 104 = True := eq_true (szOk_of (n := 1) sh104 (by kernel_rfl) (by decide) (by decide))
theorem sl104 : slT Proofs.Try.prog 104 = some (5, 1, 1, [.int .u8 0]) := by kernel_rfl
theorem zs104 : zsT Proofs.Try.prog 104 = some [.slice none 0 0] := by kernel_rfl
theorem sh135 : shp Proofs.Try.prog 135 = .int .u64 := by kernel_rfl
theorem so135 : szOk Proofs.Try.prog 135 = True := eq_true (szOk_of (n := 1) sh135 (by kernel_rfl) (by decide) (by decide))
theorem zs135 : zsT Proofs.Try.prog 135 = some [.int .u64 0] := by kernel_rfl
theorem sh139 : shp Proofs.Try.prog 139 = .struct [(0, 1, false), (1, 1, false)] 2 := by kernel_rfl
theorem zt139 : zeroT Proofs.Try.prog 139 = some [.pointer none, .slice none 0 0] := by kernel_rfl
theorem so139 : szOk Proofs.Try.prog 139 = True := eq_true (szOk_of (n := 2) sh139 (by kernel_rfl) (by decide) (by decide))
theorem zs139 : zsT Proofs.Try.prog 139 = some [.pointer none, .slice none 0 0] := by kernel_rfl
theorem sh140 : shp Proofs.Try.prog 140 = .struct [(0, 1, false), (1, 1, false)] 2 := by kernel_rfl
theorem zt140 : zeroT Proofs.Try.prog 140 = some [.pointer none, .slice none 0 0] := by kernel_rfl
theorem so140 : szOk Proofs.Try.prog 140 = True := eq_true (szOk_of (n := 2) sh140 (by kernel_rfl) (by decide) (by decide))
theorem zs140 : zsT Proofs.Try.prog 140 = none := by kernel_rfl
theorem sh153 : shp Proofs.Try.prog 153 = .int .u64 := by kernel_rfl
theorem so153 : szOk Proofs.Try.prog 153 = True := eq_true (szOk_of (n := 1) sh153 (by kernel_rfl) (by decide) (by decide))
theorem zs153 : zsT Proofs.Try.prog 153 = some [.int .u64 0] := by kernel_rfl
theorem sh154 : shp Proofs.Try.prog 154 = .struct [(0, 1, false), (1, 1, false), (2, 1, false)] 3 := by kernel_rfl
theorem zt154 : zeroT Proofs.Try.prog 154 = some [.pointer none, .pointer none, .int .u64 0] := by kernel_rfl
theorem so154 : szOk Proofs.Try.prog 154 = True := eq_true (szOk_of (n := 3) sh154 (by kernel_rfl) (by decide) (by decide))
theorem zs154 : zsT Proofs.Try.prog 154 = some [.pointer none, .pointer none, .int .u64 0] := by kernel_rfl
theorem sh155 : shp Proofs.Try.prog 155 = .struct [(0, 1, false), (1, 1, false), (2, 1, false)] 3 := by kernel_rfl
theorem zt155 : zeroT Proofs.Try.prog 155 = some [.pointer none, .pointer none, .int .u64 0] := by kernel_rfl
theorem so155 : szOk Proofs.Try.prog 155 = True := eq_true (szOk_of (n := 3) sh155 (by kernel_rfl) (by decide) (by decide))
theorem zs155 : zsT Proofs.Try.prog 155 = some [.pointer none, .pointer none, .int .u64 0] := by kernel_rfl
theorem sh160 : shp Proofs.Try.prog 160 = .struct [(0, 1, false), (1, 1, false)] 2 := by kernel_rfl
theorem zt160 : zeroT Proofs.Try.prog 160 = some [.nilFunc, .nilFunc] := by kernel_rfl
theorem so160 : szOk Proofs.Try.prog 160 = True := eq_true (szOk_of (n := 2) sh160 (by kernel_rfl) (by decide) (by decide))
theorem sh161 : shp Proofs.Try.prog 161 = .struct [(0, 1, false), (1, 1, false)] 2 := by kernel_rfl
theorem zt161 : zeroT Proofs.Try.prog 161 = some [.nilFunc, .nilFunc] := by kernel_rfl
theorem so161 : szOk Proofs.Try.prog 161 = True := eq_true (szOk_of (n := 2) sh161 (by kernel_rfl) (by decide) (by decide))
theorem sh167 : shp Proofs.Try.prog 167 = .int .u32 := by kernel_rfl
theorem so167 : szOk Proofs.Try.prog 167 = True := eq_true (szOk_of (n := 1) sh167 (by kernel_rfl) (by decide) (by decide))
theorem zs167 : zsT Proofs.Try.prog 167 = some [.int .u32 0] := by kernel_rfl
theorem sh173 : shp Proofs.Try.prog 173 = .struct [(0, 1, false)] 1 := by kernel_rfl
theorem zt173 : zeroT Proofs.Try.prog 173 = some [.pointer none] := by kernel_rfl
theorem so173 : szOk Proofs.Try.prog 173 = True := eq_true (szOk_of (n := 1) sh173 (by kernel_rfl) (by decide) (by decide))
theorem zs173 : zsT Proofs.Try.prog 173 = some [.pointer none] := by kernel_rfl
theorem sh174 : shp Proofs.Try.prog 174 = .struct [(0, 1, false)] 1 := by kernel_rfl
theorem zt174 : zeroT Proofs.Try.prog 174 = some [.pointer none] := by kernel_rfl
theorem so174 : szOk Proofs.Try.prog 174 = True := eq_true (szOk_of (n := 1) sh174 (by kernel_rfl) (by decide) (by decide))
theorem zs174 : zsT Proofs.Try.prog 174 = some [.pointer none] := by kernel_rfl
theorem sh178 : shp Proofs.Try.prog 178 = .int .i64 := by kernel_rfl
theorem so178 : szOk Proofs.Try.prog 178 = True := eq_true (szOk_of (n := 1) sh178 (by kernel_rfl) (by decide) (by decide))
theorem zs178 : zsT Proofs.Try.prog 178 = some [.int .i64 0] := by kernel_rfl
theorem sh188 : shp Proofs.Try.prog 188 = .int .u64 := by kernel_rfl
theorem so188 : szOk Proofs.Try.prog 188 = True := eq_true (szOk_of (n := 1) sh188 (by kernel_rfl) (by decide) (by decide))
theorem zs188 : zsT Proofs.Try.prog 188 = some [.int .u64 0] := by kernel_rfl
theorem sh197 : shp Proofs.Try.prog 197 = .struct [(0, 1, false), (1, 1, false), (2, 1, false), (3, 1, false)] 4 := by kernel_rfl
theorem zt197 : zeroT Proofs.Try.prog 197 = some [.pointer none, .pointer none, .pointer none, .string ⟨([] : List UInt8).toArray⟩] := by kernel_rfl
theorem so197 : szOk Proofs.Try.prog 197 = True := eq_true (szOk_of (n := 4) sh197 (by kernel_rfl) (by decide) (by decide))
theorem zs197 : zsT Proofs.Try.prog 197 = some [.pointer none, .pointer none, .pointer none, .string ⟨([] : List UInt8).toArray⟩] := by kernel_rfl
theorem sh198 : shp Proofs.Try.prog 198 = .struct [(0, 1, false), (1, 1, false), (2, 1, false), (3, 1, false)] 4 := by kernel_rfl
theorem zt198 : zeroT Proofs.Try.prog 198 = some [.pointer none, .pointer none, .pointer none, .string ⟨([] : List UInt8).toArray⟩] := by kernel_rfl
theorem so198 : szOk Proofs.Try.prog 198 = True := eq_true (szOk_of (n := 4) sh198 (by kernel_rfl) (by decide) (by decide))
theorem zs198 : zsT Proofs.Try.prog 198 = some [.pointer none, .pointer none, .pointer none, .string ⟨([] : List UInt8).toArray⟩] := by kernel_rfl
theorem sh200 : shp Proofs.Try.prog 200 = .struct [(0, 0, true)] 0 := by kernel_rfl
theorem zt200 : zeroT Proofs.Try.prog 200 = some [] := by kernel_rfl
theorem zs200 : zsT Proofs.Try.prog 200 = some [] := by kernel_rfl
theorem sh201 : shp Proofs.Try.prog 201 = .struct [(0, 0, true)] 0 := by kernel_rfl
theorem zt201 : zeroT Proofs.Try.prog 201 = some [] := by kernel_rfl
theorem zs201 : zsT Proofs.Try.prog 201 = some [] := by kernel_rfl
theorem sh202 : shp Proofs.Try.prog 202 = .int .u8 := by kernel_rfl
theorem so202 : szOk Proofs.Try.prog 202 = True := eq_true (szOk_of (n := 1) sh202 (by kernel_rfl) (by decide) (by decide))
theorem zs202 : zsT Proofs.Try.prog 202 = some [.int .u8 0] := by kernel_rfl
theorem sh203 : shp Proofs.Try.prog 203 = .int .u8 := by kernel_rfl
theorem so203 : szOk Proofs.Try.prog 203 = True := eq_true (szOk_of (n := 1) sh203 (by kernel_rfl) (by decide) (by decide))
theorem zs203 : zsT Proofs.Try.prog 203 = some [.int .u8 0] := by kernel_rfl
theorem sh205 : shp Proofs.Try.prog 205 = .int .i32 := by kernel_rfl
theorem so205 : szOk Proofs.Try.prog 205 = True := eq_true (szOk_of (n := 1) sh205 (by kernel_rfl) (by decide) (by decide))
theorem zs205 : zsT Proofs.Try.prog 205 = some [.int .i32 0] := by kernel_rfl
theorem sh206 : shp Proofs.Try.prog 206 = .int .i32 := by kernel_rfl
theorem so206 : szOk Proofs.Try.prog 206 = True := eq_true (szOk_of (n := 1) sh206 (by kernel_rfl) (by decide) (by decide))
theorem zs206 : zsT Proofs.Try.prog 206 = some [.int .i32 0] := by kernel_rfl
theorem sh207 : shp Proofs.Try.prog 207 = .struct [(0, 1, false), (1, 1, false), (2, 1, false), (3, 1, false), (4, 1, false), (5, 1, false), (6, 1, false), (7, 1, false), (8, 1, false), (9, 1, false), (10, 1, false)] 11 := by kernel_rfl
theorem zt207 : zeroT Proofs.Try.prog 207 = some [.int .u64 0, .int .u64 0, .int .u32 0, .int .u8 0, .int .u8 0, .int .u8 0, .int .u8 0, .nilFunc, .pointer none, .int .i32 0, .int .i32 0] := by kernel_rfl
theorem so207 : szOk Proofs.Try.prog 207 = True := eq_true (szOk_of (n := 11) sh207 (by kernel_rfl) (by decide) (by decide))
theorem sh208 : shp Proofs.Try.prog 208 = .struct [(0, 1, false), (1, 1, false), (2, 1, false), (3, 1, false), (4, 1, false), (5, 1, false), (6, 1, false), (7, 1, false), (8, 1, false), (9, 1, false), (10, 1, false)] 11 := by kernel_rfl
theorem zt208 : zeroT Proofs.Try.prog 208 = some [.int .u64 0, .int .u64 0, .int .u32 0, .int .u8 0, .int .u8 0, .int .u8 0, .int .u8 0, .nilFunc, .pointer none, .int .i32 0, .int .i32 0] := by kernel_rfl
theorem so208 : szOk Proofs.Try.prog 208 = True := eq_true (szOk_of (n := 11) sh208 (by kernel_rfl) (by decide) (by decide))
theorem sh209 : shp Proofs.Try.prog 209 = .struct [(0, 1, false), (1, 1, false)] 2 := by kernel_rfl
theorem zt209 : zeroT Proofs.Try.prog 209 = some [.string ⟨([] : List UInt8).toArray⟩, .int .u8 0] := by kernel_rfl
theorem so209 : szOk Proofs.Try.prog 209 = True := eq_true (szOk_of (n := 2) sh209 (by kernel_rfl) (by decide) (by decide))
theorem zs209 : zsT Proofs.Try.prog 209 = some [.string ⟨([] : List UInt8).toArray⟩, .int .u8 0] := by kernel_rfl
theorem sh210 : shp Proofs.Try.prog 210 = .struct [(0, 1, false), (1, 1, false)] 2 := by kernel_rfl
theorem zt210 : zeroT Proofs.Try.prog 210 = some [.string ⟨([] : List UInt8).toArray⟩, .int .u8 0] := by kernel_rfl
theorem so210 : szOk Proofs.Try.prog 210 = True := eq_true (szOk_of (n := 2) sh210 (by kernel_rfl) (by decide) (by decide))
theorem zs210 : zsT Proofs.Try.prog 210 = some [.string ⟨([] : List UInt8).toArray⟩, .int .u8 0] := by kernel_rfl
theorem eq53 : eqT Proofs.Try.prog 53 = some [.int .i64, .int .i64, .int .i64] := by kernel_rfl
theorem eq58 : eqT Proofs.Try.prog 58 = some [.bool, .int .i64, .int .i64] := by kernel_rfl
theorem eq66 : eqT Proofs.Try.prog 66 = some [.int .i64, .int .i64, .str, .int .i64] := by kernel_rfl
theorem shs : ((((((shp Proofs.Try.prog 2 = .int .i64) ∧ ((shp Proofs.Try.prog 3 = .int .i64) ∧ (shp Proofs.Try.prog 4 = .bool))) ∧ (((shp Proofs.Try.prog 5 = .int .u8) ∧ (shp Proofs.Try.prog 6 = .int .u8)) ∧ ((shp Proofs.Try.prog 7 = .struct [(0, 1, false), (1, 1, false), (2, 1, false), (3, 1, false)] 4) ∧ (shp Proofs.Try.prog 8 = .struct [(0, 1, false), (1, 1, false), (2, 1, false), (3, 1, false)] 4)))) ∧ ((((shp Proofs.Try.prog 9 = .str) ∧ (shp Proofs.Try.prog 10 = .str)) ∧ ((shp Proofs.Try.prog 11 = .str) ∧ (shp Proofs.Try.prog 12 = .int .u64))) ∧ (((shp Proofs.Try.prog 13 = .struct [(0, 1, false), (1, 1, false)] 2) ∧ (shp Proofs.Try.prog 14 = .struct [(0, 1, false), (1, 1, false)] 2)) ∧ ((shp Proofs.Try.prog 18 = .struct [(0, 1, false)] 1) ∧ (shp Proofs.Try.prog 19 = .struct [(0, 1, false)] 1))))) ∧ (((((shp Proofs.Try.prog 21 = .int .i32) ∧ (shp Proofs.Try.prog 23 = .slice 66 4 true)) ∧ ((shp Proofs.Try.prog 24 = .slice 79 2 true) ∧ (shp Proofs.Try.prog 25 = .struct [(0, 1, false), (1, 1, false)] 2))) ∧ (((shp Proofs.Try.prog 26 = .struct [(0, 1, false), (1, 1, false)] 2) ∧ (shp Proofs.Try.prog 30 = .int .i64)) ∧ ((shp Proofs.Try.prog 33 = .slice 3 1 false) ∧ (shp Proofs.Try.prog 40 = .slice 9 1 false)))) ∧ ((((shp Proofs.Try.prog 48 = .slice 53 3 true) ∧ (shp Proofs.Try.prog 52 = .struct [(0, 1, false), (1, 1, false), (2, 1, false)] 3)) ∧ ((shp Proofs.Try.prog 53 = .struct [(0, 1, false), (1, 1, false), (2, 1, false)] 3) ∧ (shp Proofs.Try.prog 57 = .struct [(0, 1, false), (1, 1, false), (2, 1, false)] 3))) ∧ (((shp Proofs.Try.prog 58 = .struct [(0, 1, false), (1, 1, false), (2, 1, false)] 3) ∧ (shp Proofs.Try.prog 65 = .struct [(0, 1, false), (1, 1, false), (2, 1, false), (3, 1, false)] 4)) ∧ ((shp Proofs.Try.prog 66 = .struct [(0, 1, false), (1, 1, false), (2, 1, false), (3, 1, false)] 4) ∧ (shp Proofs.Try.prog 77 = .slice 58 3 true)))))) ∧ ((((((shp Proofs.Try.prog 78 = .struct [(0, 1, false), (1, 1, false)] 2) ∧ (shp Proofs.Try.prog 79 = .struct [(0, 1, false), (1, 1, false)] 2)) ∧ ((shp Proofs.Try.prog 86 = .int .u64) ∧ (shp Proofs.Try.prog 91 = .slice 33 1 false))) ∧ (((shp Proofs.Try.prog 93 = .struct [(0, 1, false), (1, 1, false), (2, 1, false), (3, 1, false)] 4) ∧ (shp Proofs.Try.prog 94 = .struct [(0, 1, false), (1, 1, false), (2, 1, false), (3, 1, false)] 4)) ∧ ((shp Proofs.Try.prog 104 = .slice 5 1 false) ∧ (shp Proofs.Try.prog 135 = .int .u64)))) ∧ ((((shp Proofs.Try.prog 139 = .struct [(0, 1, false), (1, 1, false)] 2) ∧ (shp Proofs.Try.prog 140 = .struct [(0, 1, false), (1, 1, false)] 2)) ∧ ((shp Proofs.Try.prog 153 = .int .u64) ∧ (shp Proofs.Try.prog 154 = .struct [(0, 1, false), (1, 1, false), (2, 1, false)] 3))) ∧ (((shp Proofs.Try.prog 155 = .struct [(0, 1, false), (1, 1, false), (2, 1, false)] 3) ∧ (shp Proofs.Try.prog 160 = .struct [(0, 1, false), (1, 1, false)] 2)) ∧ ((shp Proofs.Try.prog 161 = .struct [(0, 1, false), (1, 1, false)] 2) ∧ (shp Proofs.Try.prog 167 = .int .u32))))) ∧ (((((shp Proofs.Try.prog 173 = .struct [(0, 1, false)] 1) ∧ (shp Proofs.Try.prog 174 = .struct [(0, 1, false)] 1)) ∧ ((shp Proofs.Try.prog 178 = .int .i64) ∧ (shp Proofs.Try.prog 188 = .int .u64))) ∧ (((shp Proofs.Try.prog 197 = .struct [(0, 1, false), (1, 1, false), (2, 1, false), (3, 1, false)] 4) ∧ (shp Proofs.Try.prog 198 = .struct [(0, 1, false), (1, 1, false), (2, 1, false), (3, 1, false)] 4)) ∧ ((shp Proofs.Try.prog 200 = .struct [(0, 0, true)] 0) ∧ (shp Proofs.Try.prog 201 = .struct [(0, 0, true)] 0)))) ∧ ((((shp Proofs.Try.prog 202 = .int .u8) ∧ (shp Proofs.Try.prog 203 = .int .u8)) ∧ ((shp Proofs.Try.prog 205 = .int .i32) ∧ (shp Proofs.Try.prog 206 = .int .i32))) ∧ (((shp Proofs.Try.prog 207 = .struct [(0, 1, false), (1, 1, false), (2, 1, false), (3, 1, false), (4, 1, false), (5, 1, false), (6, 1, false), (7, 1, false), (8, 1, false), (9, 1, false), (10, 1, false)] 11) ∧ (shp Proofs.Try.prog 208 = .struct [(0, 1, false), (1, 1, false), (2, 1, false), (3, 1, false), (4, 1, false), (5, 1, false), (6, 1, false), (7, 1, false), (8, 1, false), (9, 1, false), (10, 1, false)] 11)) ∧ ((shp Proofs.Try.prog 209 = .struct [(0, 1, false), (1, 1, false)] 2) ∧ (shp Proofs.Try.prog 210 = .struct [(0, 1, false), (1, 1, false)] 2))))))) :=
  ⟨⟨⟨⟨⟨sh2, ⟨sh3, sh4⟩⟩, ⟨⟨sh5, sh6⟩, ⟨sh7, sh8⟩⟩⟩, ⟨⟨⟨sh9, sh10⟩, ⟨sh11, sh12⟩⟩, ⟨⟨sh13, sh14⟩, ⟨sh18, sh19⟩⟩⟩⟩, ⟨⟨⟨⟨sh21, sh23⟩, ⟨sh24, sh25⟩⟩, ⟨⟨sh26, sh30⟩, ⟨sh33, sh40⟩⟩⟩, ⟨⟨⟨sh48, sh52⟩, ⟨sh53, sh57⟩⟩, ⟨⟨sh58, sh65⟩, ⟨sh66, sh77⟩⟩⟩⟩⟩, ⟨⟨⟨⟨⟨sh78, sh79⟩, ⟨sh86, sh91⟩⟩, ⟨⟨sh93, sh94⟩, ⟨sh104, sh135⟩⟩⟩, ⟨⟨⟨sh139, sh140⟩, ⟨sh153, sh154⟩⟩, ⟨⟨sh155, sh160⟩, ⟨sh161, sh167⟩⟩⟩⟩, ⟨⟨⟨⟨sh173, sh174⟩, ⟨sh178, sh188⟩⟩, ⟨⟨sh197, sh198⟩, ⟨sh200, sh201⟩⟩⟩, ⟨⟨⟨sh202, sh203⟩, ⟨sh205, sh206⟩⟩, ⟨⟨sh207, sh208⟩, ⟨sh209, sh210⟩⟩⟩⟩⟩⟩
theorem zts : ((((((zeroT Proofs.Try.prog 7 = some [.int .i64 0, .int .i64 0, .bool false, .int .u8 0]) ∧ (zeroT Proofs.Try.prog 8 = some [.int .i64 0, .int .i64 0, .bool false, .int .u8 0])) ∧ ((zeroT Proofs.Try.prog 13 = some [.string ⟨([] : List UInt8).toArray⟩, .int .u64 0]) ∧ (zeroT Proofs.Try.prog 14 = some [.string ⟨([] : List UInt8).toArray⟩, .int .u64 0]))) ∧ (((zeroT Proofs.Try.prog 18 = some [.pointer none]) ∧ (zeroT Proofs.Try.prog 19 = some [.pointer none])) ∧ ((zeroT Proofs.Try.prog 25 = some [.slice none 0 0, .slice none 0 0]) ∧ (zeroT Proofs.Try.prog 26 = some [.slice none 0 0, .slice none 0 0])))) ∧ ((((zeroT Proofs.Try.prog 52 = some [.int .i64 0, .int .i64 0, .int .i64 0]) ∧ (zeroT Proofs.Try.prog 53 = some [.int .i64 0, .int .i64 0, .int .i64 0])) ∧ ((zeroT Proofs.Try.prog 57 = some [.bool false, .int .i64 0, .int .i64 0]) ∧ (zeroT Proofs.Try.prog 58 = some [.bool false, .int .i64 0, .int .i64 0]))) ∧ (((zeroT Proofs.Try.prog 65 = some [.int .i64 0, .int .i64 0, .string ⟨([] : List UInt8).toArray⟩, .int .i64 0]) ∧ (zeroT Proofs.Try.prog 66 = some [.int .i64 0, .int .i64 0, .string ⟨([] : List UInt8).toArray⟩, .int .i64 0])) ∧ ((zeroT Proofs.Try.prog 78 = some [.string ⟨([] : List UInt8).toArray⟩, .slice none 0 0]) ∧ ((zeroT Proofs.Try.prog 79 = some [.string ⟨([] : List UInt8).toArray⟩, .slice none 0 0]) ∧ (zeroT Proofs.Try.prog 93 = some [.slice none 0 0, .slice none 0 0, .slice none 0 0, .int .i64 0])))))) ∧ (((((zeroT Proofs.Try.prog 94 = some [.slice none 0 0, .slice none 0 0, .slice none 0 0, .int .i64 0]) ∧ (zeroT Proofs.Try.prog 139 = some [.pointer none, .slice none 0 0])) ∧ ((zeroT Proofs.Try.prog 140 = some [.pointer none, .slice none 0 0]) ∧ (zeroT Proofs.Try.prog 154 = some [.pointer none, .pointer none, .int .u64 0]))) ∧ (((zeroT Proofs.Try.prog 155 = some [.pointer none, .pointer none, .int .u64 0]) ∧ (zeroT Proofs.Try.prog 160 = some [.nilFunc, .nilFunc])) ∧ ((zeroT Proofs.Try.prog 161 = some [.nilFunc, .nilFunc]) ∧ (zeroT Proofs.Try.prog 173 = some [.pointer none])))) ∧ ((((zeroT Proofs.Try.prog 174 = some [.pointer none]) ∧ (zeroT Proofs.Try.prog 197 = some [.pointer none, .pointer none, .pointer none, .string ⟨([] : List UInt8).toArray⟩])) ∧ ((zeroT Proofs.Try.prog 198 = some [.pointer none, .pointer none, .pointer none, .string ⟨([] : List UInt8).toArray⟩]) ∧ (zeroT Proofs.Try.prog 200 = some []))) ∧ (((zeroT Proofs.Try.prog 201 = some []) ∧ (zeroT Proofs.Try.prog 207 = some [.int .u64 0, .int .u64 0, .int .u32 0, .int .u8 0, .int .u8 0, .int .u8 0, .int .u8 0, .nilFunc, .pointer none, .int .i32 0, .int .i32 0])) ∧ ((zeroT Proofs.Try.prog 208 = some [.int .u64 0, .int .u64 0, .int .u32 0, .int .u8 0, .int .u8 0, .int .u8 0, .int .u8 0, .nilFunc, .pointer none, .int .i32 0, .int .i32 0]) ∧ ((zeroT Proofs.Try.prog 209 = some [.string ⟨([] : List UInt8).toArray⟩, .int .u8 0]) ∧ (zeroT Proofs.Try.prog 210 = some [.string ⟨([] : List UInt8).toArray⟩, .int .u8 0]))))))) :=
  ⟨⟨⟨⟨⟨zt7, zt8⟩, ⟨zt13, zt14⟩⟩, ⟨⟨zt18, zt19⟩, ⟨zt25, zt26⟩⟩⟩, ⟨⟨⟨zt52, zt53⟩, ⟨zt57, zt58⟩⟩, ⟨⟨zt65, zt66⟩, ⟨zt78, ⟨zt79, zt93⟩⟩⟩⟩⟩, ⟨⟨⟨⟨zt94, zt139⟩, ⟨zt140, zt154⟩⟩, ⟨⟨zt155, zt160⟩, ⟨zt161, zt173⟩⟩⟩, ⟨⟨⟨zt174, zt197⟩, ⟨zt198, zt200⟩⟩, ⟨⟨zt201, zt207⟩, ⟨zt208, ⟨zt209, zt210⟩⟩⟩⟩⟩⟩
theorem sos : ((((((szOk Proofs.Try.prog 2 = True) ∧ ((szOk Proofs.Try.prog 3 = True) ∧ (szOk Proofs.Try.prog 4 = True))) ∧ (((szOk Proofs.Try.prog 5 = True) ∧ (szOk Proofs.Try.prog 6 = True)) ∧ ((szOk Proofs.Try.prog 7 = True) ∧ (szOk Proofs.Try.prog 8 = True)))) ∧ ((((szOk Proofs.Try.prog 9 = True) ∧ (szOk Proofs.Try.prog 10 = True)) ∧ ((szOk Proofs.Try.prog 11 = True) ∧ (szOk Proofs.Try.prog 12 = True))) ∧ (((szOk Proofs.Try.prog 13 = True) ∧ (szOk Proofs.Try.prog 14 = True)) ∧ ((szOk Proofs.Try.prog 18 = True) ∧ (szOk Proofs.Try.prog 19 = True))))) ∧ ((((szOk Proofs.Try.prog 21 = True) ∧ ((szOk Proofs.Try.prog 23 = True) ∧ (szOk Proofs.Try.prog 24 = True))) ∧ (((szOk Proofs.Try.prog 25 = True) ∧ (szOk Proofs.Try.prog 26 = True)) ∧ ((szOk Proofs.Try.prog 30 = True) ∧ (szOk Proofs.Try.prog 33 = True)))) ∧ ((((szOk Proofs.Try.prog 40 = True) ∧ (szOk Proofs.Try.prog 48 = True)) ∧ ((szOk Proofs.Try.prog 52 = True) ∧ (szOk Proofs.Try.prog 53 = True))) ∧ (((szOk Proofs.Try.prog 57 = True) ∧ (szOk Proofs.Try.prog 58 = True)) ∧ ((szOk Proofs.Try.prog 65 = True) ∧ (szOk Proofs.Try.prog 66 = True)))))) ∧ (((((szOk Proofs.Try.prog 77 = True) ∧ ((szOk Proofs.Try.prog 78 = True) ∧ (szOk Proofs.Try.prog 79 = True))) ∧ (((szOk Proofs.Try.prog 86 = True) ∧ (szOk Proofs.Try.prog 91 = True)) ∧ ((szOk Proofs.Try.prog 93 = True) ∧ (szOk Proofs.Try.prog 94 = True)))) ∧ ((((szOk Proofs.Try.prog 104 = True) ∧ (szOk Proofs.Try.prog 135 = True)) ∧ ((szOk Proofs.Try.prog 139 = True) ∧ (szOk Proofs.Try.prog 140 = True))) ∧ (((szOk Proofs.Try.prog 153 = True) ∧ (szOk Proofs.Try.prog 154 = True)) ∧ ((szOk Proofs.Try.prog 155 = True) ∧ (szOk Proofs.Try.prog 160 = True))))) ∧ (((((szOk Proofs.Try.prog 161 = True) ∧ (szOk Proofs.Try.prog 167 = True)) ∧ ((szOk Proofs.Try.prog 173 = True) ∧ (szOk Proofs.Try.prog 174 = True))) ∧ (((szOk Proofs.Try.prog 178 = True) ∧ (szOk Proofs.Try.prog 188 = True)) ∧ ((szOk Proofs.Try.prog 197 = True) ∧ (szOk Proofs.Try.prog 198 = True)))) ∧ ((((szOk Proofs.Try.prog 202 = True) ∧ (szOk Proofs.Try.prog 203 = True)) ∧ ((szOk Proofs.Try.prog 205 = True) ∧ (szOk Proofs.Try.prog 206 = True))) ∧ (((szOk Proofs.Try.prog 207 = True) ∧ (szOk Proofs.Try.prog 208 = True)) ∧ ((szOk Proofs.Try.prog 209 = True) ∧ (szOk Proofs.Try.prog 210 = True))))))) :=
  ⟨⟨⟨⟨⟨so2, ⟨so3, so4⟩⟩, ⟨⟨so5, so6⟩, ⟨so7, so8⟩⟩⟩, ⟨⟨⟨so9, so10⟩, ⟨so11, so12⟩⟩, ⟨⟨so13, so14⟩, ⟨so18, so19⟩⟩⟩⟩, ⟨⟨⟨so21, ⟨so23, so24⟩⟩, ⟨⟨so25, so26⟩, ⟨so30, so33⟩⟩⟩, ⟨⟨⟨so40, so48⟩, ⟨so52, so53⟩⟩, ⟨⟨so57, so58⟩, ⟨so65, so66⟩⟩⟩⟩⟩, ⟨⟨⟨⟨so77, ⟨so78, so79⟩⟩, ⟨⟨so86, so91⟩, ⟨so93, so94⟩⟩⟩, ⟨⟨⟨so104, so135⟩, ⟨so139, so140⟩⟩, ⟨⟨so153, so154⟩, ⟨so155, so160⟩⟩⟩⟩, ⟨⟨⟨⟨so161, so167⟩, ⟨so173, so174⟩⟩, ⟨⟨so178, so188⟩, ⟨so197, so198⟩⟩⟩, ⟨⟨⟨so202, so203⟩, ⟨so205, so206⟩⟩, ⟨⟨so207, so208⟩, ⟨so209, so210⟩⟩⟩⟩⟩⟩
theorem sls : ((((slT Proofs.Try.prog 23 = some (66, 4, 40, [.int .i64 0, .int .i64 0, .string ⟨([] : List UInt8).toArray⟩, .int .i64 0])) ∧ (slT Proofs.Try.prog 24 = some (79, 2, 40, [.string ⟨([] : List UInt8).toArray⟩, .slice none 0 0]))) ∧ ((slT Proofs.Try.prog 33 = some (3, 1, 8, [.int .i64 0])) ∧ (slT Proofs.Try.prog 40 = some (9, 1, 16, [.string ⟨([] : List UInt8).toArray⟩])))) ∧ (((slT Proofs.Try.prog 48 = some (53, 3, 24, [.int .i64 0, .int .i64 0, .int .i64 0])) ∧ (slT Proofs.Try.prog 77 = some (58, 3, 24, [.bool false, .int .i64 0, .int .i64 0]))) ∧ ((slT Proofs.Try.prog 91 = some (33, 1, 24, [.slice none 0 0])) ∧ (slT Proofs.Try.prog 104 = some (5, 1, 1, [.int .u8 0]))))) :=
  ⟨⟨⟨sl23, sl24⟩, ⟨sl33, sl40⟩⟩, ⟨⟨sl48, sl77⟩, ⟨sl91, sl104⟩⟩⟩
theorem zss : ((((((zsT Proofs.Try.prog 2 = some [.int .i64 0]) ∧ ((zsT Proofs.Try.prog 3 = some [.int .i64 0]) ∧ (zsT Proofs.Try.prog 4 = some [.bool false]))) ∧ (((zsT Proofs.Try.prog 5 = some [.int .u8 0]) ∧ (zsT Proofs.Try.prog 6 = some [.int .u8 0])) ∧ ((zsT Proofs.Try.prog 7 = some [.int .i64 0, .int .i64 0, .bool false, .int .u8 0]) ∧ (zsT Proofs.Try.prog 8 = some [.int .i64 0, .int .i64 0, .bool false, .int .u8 0])))) ∧ (((zsT Proofs.Try.prog 9 = some [.string ⟨([] : List UInt8).toArray⟩]) ∧ ((zsT Proofs.Try.prog 10 = some [.string ⟨([] : List UInt8).toArray⟩]) ∧ (zsT Proofs.Try.prog 11 = some [.string ⟨([] : List UInt8).toArray⟩]))) ∧ (((zsT Proofs.Try.prog 12 = some [.int .u64 0]) ∧ (zsT Proofs.Try.prog 13 = some [.string ⟨([] : List UInt8).toArray⟩, .int .u64 0])) ∧ ((zsT Proofs.Try.prog 14 = some [.string ⟨([] : List UInt8).toArray⟩, .int .u64 0]) ∧ (zsT Proofs.Try.prog 18 = some [.pointer none]))))) ∧ ((((zsT Proofs.Try.prog 19 = some [.pointer none]) ∧ ((zsT Proofs.Try.prog 21 = some [.int .i32 0]) ∧ (zsT Proofs.Try.prog 23 = some [.slice none 0 0]))) ∧ (((zsT Proofs.Try.prog 24 = some [.slice none 0 0]) ∧ (zsT Proofs.Try.prog 25 = some [.slice none 0 0, .slice none 0 0])) ∧ ((zsT Proofs.Try.prog 26 = some [.slice none 0 0, .slice none 0 0]) ∧ (zsT Proofs.Try.prog 30 = some [.int .i64 0])))) ∧ ((((zsT Proofs.Try.prog 33 = some [.slice none 0 0]) ∧ (zsT Proofs.Try.prog 40 = some [.slice none 0 0])) ∧ ((zsT Proofs.Try.prog 48 = some [.slice none 0 0]) ∧ (zsT Proofs.Try.prog 52 = some [.int .i64 0, .int .i64 0, .int .i64 0]))) ∧ (((zsT Proofs.Try.prog 53 = some [.int .i64 0, .int .i64 0, .int .i64 0]) ∧ (zsT Proofs.Try.prog 57 = some [.bool false, .int .i64 0, .int .i64 0])) ∧ ((zsT Proofs.Try.prog 58 = some [.bool false, .int .i64 0, .int .i64 0]) ∧ (zsT Proofs.Try.prog 65 = some [.int .i64 0, .int .i64 0, .string ⟨([] : List UInt8).toArray⟩, .int .i64 0])))))) ∧ (((((zsT Proofs.Try.prog 66 = some [.int .i64 0, .int .i64 0, .string ⟨([] : List UInt8).toArray⟩, .int .i64 0]) ∧ ((zsT Proofs.Try.prog 77 = some [.slice none 0 0]) ∧ (zsT Proofs.Try.prog 78 = some [.string ⟨([] : List UInt8).toArray⟩, .slice none 0 0]))) ∧ (((zsT Proofs.Try.prog 79 = some [.string ⟨([] : List UInt8).toArray⟩, .slice none 0 0]) ∧ (zsT Proofs.Try.prog 86 = some [.int .u64 0])) ∧ ((zsT Proofs.Try.prog 91 = some [.slice none 0 0]) ∧ (zsT Proofs.Try.prog 93 = some [.slice none 0 0, .slice none 0 0, .slice none 0 0, .int .i64 0])))) ∧ ((((zsT Proofs.Try.prog 94 = some [.slice none 0 0, .slice none 0 0, .slice none 0 0, .int .i64 0]) ∧ (zsT Proofs.Try.prog 104 = some [.slice none 0 0])) ∧ ((zsT Proofs.Try.prog 135 = some [.int .u64 0]) ∧ (zsT Proofs.Try.prog 139 = some [.pointer none, .slice none 0 0]))) ∧ (((zsT Proofs.Try.prog 140 = none) ∧ (zsT Proofs.Try.prog 153 = some [.int .u64 0])) ∧ ((zsT Proofs.Try.prog 154 = some [.pointer none, .pointer none, .int .u64 0]) ∧ (zsT Proofs.Try.prog 155 = some [.pointer none, .pointer none, .int .u64 0]))))) ∧ ((((zsT Proofs.Try.prog 167 = some [.int .u32 0]) ∧ ((zsT Proofs.Try.prog 173 = some [.pointer none]) ∧ (zsT Proofs.Try.prog 174 = some [.pointer none]))) ∧ (((zsT Proofs.Try.prog 178 = some [.int .i64 0]) ∧ (zsT Proofs.Try.prog 188 = some [.int .u64 0])) ∧ ((zsT Proofs.Try.prog 197 = some [.pointer none, .pointer none, .pointer none, .string ⟨([] : List UInt8).toArray⟩]) ∧ (zsT Proofs.Try.prog 198 = some [.pointer none, .pointer none, .pointer none, .string ⟨([] : List UInt8).toArray⟩])))) ∧ ((((zsT Proofs.Try.prog 200 = some []) ∧ (zsT Proofs.Try.prog 201 = some [])) ∧ ((zsT Proofs.Try.prog 202 = some [.int .u8 0]) ∧ (zsT Proofs.Try.prog 203 = some [.int .u8 0]))) ∧ (((zsT Proofs.Try.prog 205 = some [.int .i32 0]) ∧ (zsT Proofs.Try.prog 206 = some [.int .i32 0])) ∧ ((zsT Proofs.Try.prog 209 = some [.string ⟨([] : List UInt8).toArray⟩, .int .u8 0]) ∧ (zsT Proofs.Try.prog 210 = some [.string ⟨([] : List UInt8).toArray⟩, .int .u8 0]))))))) :=
  ⟨⟨⟨⟨⟨zs2, ⟨zs3, zs4⟩⟩, ⟨⟨zs5, zs6⟩, ⟨zs7, zs8⟩⟩⟩, ⟨⟨zs9, ⟨zs10, zs11⟩⟩, ⟨⟨zs12, zs13⟩, ⟨zs14, zs18⟩⟩⟩⟩, ⟨⟨⟨zs19, ⟨zs21, zs23⟩⟩, ⟨⟨zs24, zs25⟩, ⟨zs26, zs30⟩⟩⟩, ⟨⟨⟨zs33, zs40⟩, ⟨zs48, zs52⟩⟩, ⟨⟨zs53, zs57⟩, ⟨zs58, zs65⟩⟩⟩⟩⟩, ⟨⟨⟨⟨zs66, ⟨zs77, zs78⟩⟩, ⟨⟨zs79, zs86⟩, ⟨zs91, zs93⟩⟩⟩, ⟨⟨⟨zs94, zs104⟩, ⟨zs135, zs139⟩⟩, ⟨⟨zs140, zs153⟩, ⟨zs154, zs155⟩⟩⟩⟩, ⟨⟨⟨zs167, ⟨zs173, zs174⟩⟩, ⟨⟨zs178, zs188⟩, ⟨zs197, zs198⟩⟩⟩, ⟨⟨⟨zs200, zs201⟩, ⟨zs202, zs203⟩⟩, ⟨⟨zs205, zs206⟩, ⟨zs209, zs210⟩⟩⟩⟩⟩⟩
theorem eqs : ((eqT Proofs.Try.prog 53 = some [.int .i64, .int .i64, .int .i64]) ∧ ((eqT Proofs.Try.prog 58 = some [.bool, .int .i64, .int .i64]) ∧ (eqT Proofs.Try.prog 66 = some [.int .i64, .int .i64, .str, .int .i64]))) :=
  ⟨eq53, ⟨eq58, eq66⟩⟩
end Go.X
