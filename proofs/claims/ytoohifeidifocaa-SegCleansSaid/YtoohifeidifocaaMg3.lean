/- Contracts of functions and the logic that they are proved in (3 texts in one). Conditions: none. -/
import Derived.Test.YtoohifeidifocaaProg
import Derived.KernelRfl
import Derived.Test.YtoohifeidifocaaFwB
import Derived.ChangeSlices
import Derived.OpenShut
set_option linter.unusedVariables false
namespace Go.X
open Go
theorem sh2 : shp Proofs.Try.prog 2 = .int .i64 := by kernel_rfl
theorem so2 : szOk Proofs.Try.prog 2 = True := eq_true (szOk_of (n := 1) sh2 (by kernel_rfl) (by decide) (by decide))
theorem zs2 : zsT Proofs.Try.prog 2 = some [.int .i64 0] := by kernel_rfl
theorem sh3 : shp Proofs.Try.prog 3 = .int .i64 := by kernel_rfl
theorem so3 : szOk Proofs.Try.prog 3 = True := eq_true (szOk_of (n := 1) sh3 (by kernel_rfl) (by decide) (by decide))
theorem zs3 : zsT Proofs.Try.prog 3 = some [.int .i64 0] := by kernel_rfl
theorem sh4 : shp Proofs.Try.prog 4 = .bool := by kernel_rfl
theorem so4 : szOk Proofs.Try.prog 4 = True := eq_true (szOk_of (n := 1) sh4 (by kernel_rfl) (by decide) (by decide))
theorem zs4 : zsT Proofs.Try.prog 4 = some [.bool false] := by kernel_rfl
theorem sh5 : shp Proofs.Try.prog 5 = .int .u8 := by kernel_rfl
theorem so5 : szOk Proofs.Try.prog 5 = True := eq_true (szOk_of (n := 1) sh5 (by kernel_rfl) (by decide) (by decide))
theorem zs5 : zsT Proofs.Try.prog 5 = some [.int .u8 0] := by kernel_rfl
theorem sh6 : shp Proofs.Try.prog 6 = .int .u8 := by kernel_rfl
theorem so6 : szOk Proofs.Try.prog 6 = True := eq_true (szOk_of (n := 1) sh6 (by kernel_rfl) (by decide) (by decide))
theorem zs6 : zsT Proofs.Try.prog 6 = some [.int .u8 0] := by kernel_rfl
theorem sh7 : shp Proofs.Try.prog 7 = .struct [(0, 1, false), (1, 1, false), (2, 1, false), (3, 1, false)] 4 := by kernel_rfl
theorem zt7 : zeroT Proofs.Try.prog 7 = some [.int .i64 0, .int .i64 0, .bool false, .int .u8 0] := by kernel_rfl
theorem so7 : szOk Proofs.Try.prog 7 = True := eq_true (szOk_of (n := 4) sh7 (by kernel_rfl) (by decide) (by decide))
theorem zs7 : zsT Proofs.Try.prog 7 = some [.int .i64 0, .int .i64 0, .bool false, .int .u8 0] := by kernel_rfl
theorem sh8 : shp Proofs.Try.prog 8 = .struct [(0, 1, false), (1, 1, false), (2, 1, false), (3, 1, false)] 4 := by kernel_rfl
theorem zt8 : zeroT Proofs.Try.prog 8 = some [.int .i64 0, .int .i64 0, .bool false, .int .u8 0] := by kernel_rfl
theorem so8 : szOk Proofs.Try.prog 8 = True := eq_true (szOk_of (n := 4) sh8 (by kernel_rfl) (by decide) (by decide))
theorem zs8 : zsT Proofs.Try.prog 8 = some [.int .i64 0, .int .i64 0, .bool false, .int .u8 0] := by kernel_rfl
theorem sh9 : shp Proofs.Try.prog 9 = .str := by kernel_rfl
theorem so9 : szOk Proofs.Try.prog 9 = True := eq_true (szOk_of (n := 1) sh9 (by kernel_rfl) (by decide) (by decide))
theorem zs9 : zsT Proofs.Try.prog 9 = some [.string ⟨([] : List UInt8).toArray⟩] := by kernel_rfl
theorem sh10 : shp Proofs.Try.prog 10 = .str := by kernel_rfl
theorem so10 : szOk Proofs.Try.prog 10 = True := eq_true (szOk_of (n := 1) sh10 (by kernel_rfl) (by decide) (by decide))
theorem zs10 : zsT Proofs.Try.prog 10 = some [.string ⟨([] : List UInt8).toArray⟩] := by kernel_rfl
theorem sh11 : shp Proofs.Try.prog 11 = .str := by kernel_rfl
theorem so11 : szOk Proofs.Try.prog 11 = True := eq_true (szOk_of (n := 1) sh11 (by kernel_rfl) (by decide) (by decide))
theorem zs11 : zsT Proofs.Try.prog 11 = some [.string ⟨([] : List UInt8).toArray⟩] := by kernel_rfl
theorem sh12 : shp Proofs.Try.prog 12 = .int .u64 := by kernel_rfl
theorem so12 : szOk Proofs.Try.prog 12 = True := eq_true (szOk_of (n := 1) sh12 (by kernel_rfl) (by decide) (by decide))
theorem zs12 : zsT Proofs.Try.prog 12 = some [.int .u64 0] := by kernel_rfl
theorem sh13 : shp Proofs.Try.prog 13 = .struct [(0, 1, false), (1, 1, false)] 2 := by kernel_rfl
theorem zt13 : zeroT Proofs.Try.prog 13 = some [.string ⟨([] : List UInt8).toArray⟩, .int .u64 0] := by kernel_rfl
theorem so13 : szOk Proofs.Try.prog 13 = True := eq_true (szOk_of (n := 2) sh13 (by kernel_rfl) (by decide) (by decide))
theorem zs13 : zsT Proofs.Try.prog 13 = some [.string ⟨([] : List UInt8).toArray⟩, .int .u64 0] := by kernel_rfl
theorem sh14 : shp Proofs.Try.prog 14 = .struct [(0, 1, false), (1, 1, false)] 2 := by kernel_rfl
theorem zt14 : zeroT Proofs.Try.prog 14 = some [.string ⟨([] : List UInt8).toArray⟩, .int .u64 0] := by kernel_rfl
theorem so14 : szOk Proofs.Try.prog 14 = True := eq_true (szOk_of (n := 2) sh14 (by kernel_rfl) (by decide) (by decide))
theorem zs14 : zsT Proofs.Try.prog 14 = some [.string ⟨([] : List UInt8).toArray⟩, .int .u64 0] := by kernel_rfl
theorem sh18 : shp Proofs.Try.prog 18 = .struct [(0, 1, false)] 1 := by kernel_rfl
theorem zt18 : zeroT Proofs.Try.prog 18 = some [.pointer none] := by kernel_rfl
theorem so18 : szOk Proofs.Try.prog 18 = True := eq_true (szOk_of (n := 1) sh18 (by kernel_rfl) (by decide) (by decide))
theorem zs18 : zsT Proofs.Try.prog 18 = some [.pointer none] := by kernel_rfl
theorem sh19 : shp Proofs.Try.prog 19 = .struct [(0, 1, false)] 1 := by kernel_rfl
theorem zt19 : zeroT Proofs.Try.prog 19 = some [.pointer none] := by kernel_rfl
theorem so19 : szOk Proofs.Try.prog 19 = True := eq_true (szOk_of (n := 1) sh19 (by kernel_rfl) (by decide) (by decide))
theorem zs19 : zsT Proofs.Try.prog 19 = some [.pointer none] := by kernel_rfl
theorem sh21 : shp Proofs.Try.prog 21 = .int .i32 := by kernel_rfl
theorem so21 : szOk Proofs.Try.prog 21 = True := eq_true (szOk_of (n := 1) sh21 (by kernel_rfl) (by decide) (by decide))
theorem zs21 : zsT Proofs.Try.prog 21 = some [.int .i32 0] := by kernel_rfl
theorem sh22 : shp Proofs.Try.prog 22 = .slice 33 1 false := by kernel_rfl
theorem so22 : szOk Proofs.Try.prog 22 = True := eq_true (szOk_of (n := 1) sh22 (by kernel_rfl) (by decide) (by decide))
theorem sl22 : slT Proofs.Try.prog 22 = some (33, 1, 24, [.slice none 0 0]) := by kernel_rfl
theorem zs22 : zsT Proofs.Try.prog 22 = some [.slice none 0 0] := by kernel_rfl
theorem sh23 : shp Proofs.Try.prog 23 = .slice 55 4 true := by kernel_rfl
theorem so23 : szOk Proofs.Try.prog 23 = True := eq_true (szOk_of (n := 1) sh23 (by kernel_rfl) (by decide) (by decide))
theorem sl23 : slT Proofs.Try.prog 23 = some (55, 4, 40, [.int .i64 0, .int .i64 0, .string ⟨([] : List UInt8).toArray⟩, .int .i64 0]) := by kernel_rfl
theorem zs23 : zsT Proofs.Try.prog 23 = some [.slice none 0 0] := by kernel_rfl
theorem sh24 : shp Proofs.Try.prog 24 = .slice 3 1 false := by kernel_rfl
theorem so24 : szOk Proofs.Try.prog 24 = True := eq_true (szOk_of (n := 1) sh24 (by kernel_rfl) (by decide) (by decide))
theorem sl24 : slT Proofs.Try.prog 24 = some (3, 1, 8, [.int .i64 0]) := by kernel_rfl
theorem zs24 : zsT Proofs.Try.prog 24 = some [.slice none 0 0] := by kernel_rfl
theorem sh25 : shp Proofs.Try.prog 25 = .int .i64 := by kernel_rfl
theorem so25 : szOk Proofs.Try.prog 25 = True := eq_true (szOk_of (n := 1) sh25 (by kernel_rfl) (by decide) (by decide))
theorem zs25 : zsT Proofs.Try.prog 25 = some [.int .i64 0] := by kernel_rfl
theorem sh33 : shp Proofs.Try.prog 33 = .slice 50 4 true := by kernel_rfl
theorem so33 : szOk Proofs.Try.prog 33 = True := eq_true (szOk_of (n := 1) sh33 (by kernel_rfl) (by decide) (by decide))
theorem sl33 : slT Proofs.Try.prog 33 = some (50, 4, 40, [.bool false, .int .i64 0, .int .i64 0, .string ⟨([] : List UInt8).toArray⟩]) := by kernel_rfl
theorem zs33 : zsT Proofs.Try.prog 33 = some [.slice none 0 0] := by kernel_rfl
theorem sh42 : shp Proofs.Try.prog 42 = .slice 51 1 false := by kernel_rfl
theorem so42 : szOk Proofs.Try.prog 42 = True := eq_true (szOk_of (n := 1) sh42 (by kernel_rfl) (by decide) (by decide))
theorem sl42 : slT Proofs.Try.prog 42 = some (51, 1, 24, [.slice none 0 0]) := by kernel_rfl
theorem zs42 : zsT Proofs.Try.prog 42 = some [.slice none 0 0] := by kernel_rfl
theorem sh47 : shp Proofs.Try.prog 47 = .struct [(0, 1, false), (1, 1, false), (2, 1, false)] 3 := by kernel_rfl
theorem zt47 : zeroT Proofs.Try.prog 47 = some [.bool false, .int .i64 0, .int .i64 0] := by kernel_rfl
theorem so47 : szOk Proofs.Try.prog 47 = True := eq_true (szOk_of (n := 3) sh47 (by kernel_rfl) (by decide) (by decide))
theorem zs47 : zsT Proofs.Try.prog 47 = some [.bool false, .int .i64 0, .int .i64 0] := by kernel_rfl
theorem sh48 : shp Proofs.Try.prog 48 = .struct [(0, 1, false), (1, 1, false), (2, 1, false)] 3 := by kernel_rfl
theorem zt48 : zeroT Proofs.Try.prog 48 = some [.bool false, .int .i64 0, .int .i64 0] := by kernel_rfl
theorem so48 : szOk Proofs.Try.prog 48 = True := eq_true (szOk_of (n := 3) sh48 (by kernel_rfl) (by decide) (by decide))
theorem zs48 : zsT Proofs.Try.prog 48 = some [.bool false, .int .i64 0, .int .i64 0] := by kernel_rfl
theorem sh49 : shp Proofs.Try.prog 49 = .struct [(0, 3, true), (3, 1, false)] 4 := by kernel_rfl
theorem zt49 : zeroT Proofs.Try.prog 49 = some [.bool false, .int .i64 0, .int .i64 0, .string ⟨([] : List UInt8).toArray⟩] := by kernel_rfl
theorem so49 : szOk Proofs.Try.prog 49 = True := eq_true (szOk_of (n := 4) sh49 (by kernel_rfl) (by decide) (by decide))
theorem zs49 : zsT Proofs.Try.prog 49 = some [.bool false, .int .i64 0, .int .i64 0, .string ⟨([] : List UInt8).toArray⟩] := by kernel_rfl
theorem sh50 : shp Proofs.Try.prog 50 = .struct [(0, 3, true), (3, 1, false)] 4 := by kernel_rfl
theorem zt50 : zeroT Proofs.Try.prog 50 = some [.bool false, .int .i64 0, .int .i64 0, .string ⟨([] : List UInt8).toArray⟩] := by kernel_rfl
theorem so50 : szOk Proofs.Try.prog 50 = True := eq_true (szOk_of (n := 4) sh50 (by kernel_rfl) (by decide) (by decide))
theorem zs50 : zsT Proofs.Try.prog 50 = some [.bool false, .int .i64 0, .int .i64 0, .string ⟨([] : List UInt8).toArray⟩] := by kernel_rfl
theorem sh51 : shp Proofs.Try.prog 51 = .slice 4 1 false := by kernel_rfl
theorem so51 : szOk Proofs.Try.prog 51 = True := eq_true (szOk_of (n := 1) sh51 (by kernel_rfl) (by decide) (by decide))
theorem sl51 : slT Proofs.Try.prog 51 = some (4, 1, 1, [.bool false]) := by kernel_rfl
theorem zs51 : zsT Proofs.Try.prog 51 = some [.slice none 0 0] := by kernel_rfl
theorem sh54 : shp Proofs.Try.prog 54 = .struct [(0, 1, false), (1, 1, false), (2, 1, false), (3, 1, false)] 4 := by kernel_rfl
theorem zt54 : zeroT Proofs.Try.prog 54 = some [.int .i64 0, .int .i64 0, .string ⟨([] : List UInt8).toArray⟩, .int .i64 0] := by kernel_rfl
theorem so54 : szOk Proofs.Try.prog 54 = True := eq_true (szOk_of (n := 4) sh54 (by kernel_rfl) (by decide) (by decide))
theorem zs54 : zsT Proofs.Try.prog 54 = some [.int .i64 0, .int .i64 0, .string ⟨([] : List UInt8).toArray⟩, .int .i64 0] := by kernel_rfl
theorem sh55 : shp Proofs.Try.prog 55 = .struct [(0, 1, false), (1, 1, false), (2, 1, false), (3, 1, false)] 4 := by kernel_rfl
theorem zt55 : zeroT Proofs.Try.prog 55 = some [.int .i64 0, .int .i64 0, .string ⟨([] : List UInt8).toArray⟩, .int .i64 0] := by kernel_rfl
theorem so55 : szOk Proofs.Try.prog 55 = True := eq_true (szOk_of (n := 4) sh55 (by kernel_rfl) (by decide) (by decide))
theorem zs55 : zsT Proofs.Try.prog 55 = some [.int .i64 0, .int .i64 0, .string ⟨([] : List UInt8).toArray⟩, .int .i64 0] := by kernel_rfl
theorem sh63 : shp Proofs.Try.prog 63 = .slice 22 1 false := by kernel_rfl
theorem so63 : szOk Proofs.Try.prog 63 = True := eq_true (szOk_of (n := 1) sh63 (by kernel_rfl) (by decide) (by decide))
theorem sl63 : slT Proofs.Try.prog 63 = some (22, 1, 24, [.slice none 0 0]) := by kernel_rfl
theorem zs63 : zsT Proofs.Try.prog 63 = some [.slice none 0 0] := by kernel_rfl
theorem sh74 : shp Proofs.Try.prog 74 = .int .u64 := by kernel_rfl
theorem so74 : szOk Proofs.Try.prog 74 = True := eq_true (szOk_of (n := 1) sh74 (by kernel_rfl) (by decide) (by decide))
theorem zs74 : zsT Proofs.Try.prog 74 = some [.int .u64 0] := by kernel_rfl
theorem sh79 : shp Proofs.Try.prog 79 = .int .u64 := by kernel_rfl
theorem so79 : szOk Proofs.Try.prog 79 = True := eq_true (szOk_of (n := 1) sh79 (by kernel_rfl) (by decide) (by decide))
theorem zs79 : zsT Proofs.Try.prog 79 = some [.int .u64 0] := by kernel_rfl
theorem sh81 : shp Proofs.Try.prog 81 = .struct [(0, 1, false), (1, 1, false), (2, 1, false), (3, 1, false)] 4 := by kernel_rfl
theorem zt81 : zeroT Proofs.Try.prog 81 = some [.pointer none, .pointer none, .pointer none, .string ⟨([] : List UInt8).toArray⟩] := by kernel_rfl
theorem so81 : szOk Proofs.Try.prog 81 = True := eq_true (szOk_of (n := 4) sh81 (by kernel_rfl) (by decide) (by decide))
theorem zs81 : zsT Proofs.Try.prog 81 = some [.pointer none, .pointer none, .pointer none, .string ⟨([] : List UInt8).toArray⟩] := by kernel_rfl
theorem sh82 : shp Proofs.Try.prog 82 = .struct [(0, 1, false), (1, 1, false), (2, 1, false), (3, 1, false)] 4 := by kernel_rfl
theorem zt82 : zeroT Proofs.Try.prog 82 = some [.pointer none, .pointer none, .pointer none, .string ⟨([] : List UInt8).toArray⟩] := by kernel_rfl
theorem so82 : szOk Proofs.Try.prog 82 = True := eq_true (szOk_of (n := 4) sh82 (by kernel_rfl) (by decide) (by decide))
theorem zs82 : zsT Proofs.Try.prog 82 = some [.pointer none, .pointer none, .pointer none, .string ⟨([] : List UInt8).toArray⟩] := by kernel_rfl
theorem sh84 : shp Proofs.Try.prog 84 = .struct [(0, 0, true)] 0 := by kernel_rfl
theorem zt84 : zeroT Proofs.Try.prog 84 = some [] := by kernel_rfl
theorem zs84 : zsT Proofs.Try.prog 84 = some [] := by kernel_rfl
theorem sh85 : shp Proofs.Try.prog 85 = .struct [(0, 0, true)] 0 := by kernel_rfl
theorem zt85 : zeroT Proofs.Try.prog 85 = some [] := by kernel_rfl
theorem zs85 : zsT Proofs.Try.prog 85 = some [] := by kernel_rfl
theorem sh87 : shp Proofs.Try.prog 87 = .int .u32 := by kernel_rfl
theorem so87 : szOk Proofs.Try.prog 87 = True := eq_true (szOk_of (n := 1) sh87 (by kernel_rfl) (by decide) (by decide))
theorem zs87 : zsT Proofs.Try.prog 87 = some [.int .u32 0] := by kernel_rfl
theorem sh88 : shp Proofs.Try.prog 88 = .int .u8 := by kernel_rfl
theorem so88 : szOk Proofs.Try.prog 88 = True := eq_true (szOk_of (n := 1) sh88 (by kernel_rfl) (by decide) (by decide))
theorem zs88 : zsT Proofs.Try.prog 88 = some [.int .u8 0] := by kernel_rfl
theorem sh89 : shp Proofs.Try.prog 89 = .int .u8 := by kernel_rfl
theorem so89 : szOk Proofs.Try.prog 89 = True := eq_true (szOk_of (n := 1) sh89 (by kernel_rfl) (by decide) (by decide))
theorem zs89 : zsT Proofs.Try.prog 89 = some [.int .u8 0] := by kernel_rfl
theorem sh92 : shp Proofs.Try.prog 92 = .int .i32 := by kernel_rfl
theorem so92 : szOk Proofs.Try.prog 92 = True := eq_true (szOk_of (n := 1) sh92 (by kernel_rfl) (by decide) (by decide))
theorem zs92 : zsT Proofs.Try.prog 92 = some [.int .i32 0] := by kernel_rfl
theorem sh93 : shp Proofs.Try.prog 93 = .int .i32 := by kernel_rfl
theorem so93 : szOk Proofs.Try.prog 93 = True := eq_true (szOk_of (n := 1) sh93 (by kernel_rfl) (by decide) (by decide))
theorem zs93 : zsT Proofs.Try.prog 93 = some [.int .i32 0] := by kernel_rfl
theorem sh94 : shp Proofs.Try.prog 94 = .struct [(0, 1, false), (1, 1, false), (2, 1, false), (3, 1, false), (4, 1, false), (5, 1, false), (6, 1, false), (7, 1, false), (8, 1, false), (9, 1, false), (10, 1, false)] 11 := by kernel_rfl
theorem zt94 : zeroT Proofs.Try.prog 94 = some [.int .u64 0, .int .u64 0, .int .u32 0, .int .u8 0, .int .u8 0, .int .u8 0, .int .u8 0, .nilFunc, .pointer none, .int .i32 0, .int .i32 0] := by kernel_rfl
theorem so94 : szOk Proofs.Try.prog 94 = True := eq_true (szOk_of (n := 11) sh94 (by kernel_rfl) (by decide) (by decide))
theorem sh95 : shp Proofs.Try.prog 95 = .struct [(0, 1, false), (1, 1, false), (2, 1, false), (3, 1, false), (4, 1, false), (5, 1, false), (6, 1, false), (7, 1, false), (8, 1, false), (9, 1, false), (10, 1, false)] 11 := by kernel_rfl
theorem zt95 : zeroT Proofs.Try.prog 95 = some [.int .u64 0, .int .u64 0, .int .u32 0, .int .u8 0, .int .u8 0, .int .u8 0, .int .u8 0, .nilFunc, .pointer none, .int .i32 0, .int .i32 0] := by kernel_rfl
theorem so95 : szOk Proofs.Try.prog 95 = True := eq_true (szOk_of (n := 11) sh95 (by kernel_rfl) (by decide) (by decide))
theorem eq48 : eqT Proofs.Try.prog 48 = some [.bool, .int .i64, .int .i64] := by kernel_rfl
theorem eq50 : eqT Proofs.Try.prog 50 = some [.bool, .int .i64, .int .i64, .str] := by kernel_rfl
theorem eq55 : eqT Proofs.Try.prog 55 = some [.int .i64, .int .i64, .str, .int .i64] := by kernel_rfl
theorem shs : ((((((shp Proofs.Try.prog 2 = .int .i64) ∧ (shp Proofs.Try.prog 3 = .int .i64)) ∧ ((shp Proofs.Try.prog 4 = .bool) ∧ ((shp Proofs.Try.prog 5 = .int .u8) ∧ (shp Proofs.Try.prog 6 = .int .u8)))) ∧ (((shp Proofs.Try.prog 7 = .struct [(0, 1, false), (1, 1, false), (2, 1, false), (3, 1, false)] 4) ∧ (shp Proofs.Try.prog 8 = .struct [(0, 1, false), (1, 1, false), (2, 1, false), (3, 1, false)] 4)) ∧ ((shp Proofs.Try.prog 9 = .str) ∧ ((shp Proofs.Try.prog 10 = .str) ∧ (shp Proofs.Try.prog 11 = .str))))) ∧ ((((shp Proofs.Try.prog 12 = .int .u64) ∧ (shp Proofs.Try.prog 13 = .struct [(0, 1, false), (1, 1, false)] 2)) ∧ ((shp Proofs.Try.prog 14 = .struct [(0, 1, false), (1, 1, false)] 2) ∧ ((shp Proofs.Try.prog 18 = .struct [(0, 1, false)] 1) ∧ (shp Proofs.Try.prog 19 = .struct [(0, 1, false)] 1)))) ∧ (((shp Proofs.Try.prog 21 = .int .i32) ∧ ((shp Proofs.Try.prog 22 = .slice 33 1 false) ∧ (shp Proofs.Try.prog 23 = .slice 55 4 true))) ∧ ((shp Proofs.Try.prog 24 = .slice 3 1 false) ∧ ((shp Proofs.Try.prog 25 = .int .i64) ∧ (shp Proofs.Try.prog 33 = .slice 50 4 true)))))) ∧ (((((shp Proofs.Try.prog 42 = .slice 51 1 false) ∧ (shp Proofs.Try.prog 47 = .struct [(0, 1, false), (1, 1, false), (2, 1, false)] 3)) ∧ ((shp Proofs.Try.prog 48 = .struct [(0, 1, false), (1, 1, false), (2, 1, false)] 3) ∧ ((shp Proofs.Try.prog 49 = .struct [(0, 3, true), (3, 1, false)] 4) ∧ (shp Proofs.Try.prog 50 = .struct [(0, 3, true), (3, 1, false)] 4)))) ∧ (((shp Proofs.Try.prog 51 = .slice 4 1 false) ∧ ((shp Proofs.Try.prog 54 = .struct [(0, 1, false), (1, 1, false), (2, 1, false), (3, 1, false)] 4) ∧ (shp Proofs.Try.prog 55 = .struct [(0, 1, false), (1, 1, false), (2, 1, false), (3, 1, false)] 4))) ∧ ((shp Proofs.Try.prog 63 = .slice 22 1 false) ∧ ((shp Proofs.Try.prog 74 = .int .u64) ∧ (shp Proofs.Try.prog 79 = .int .u64))))) ∧ ((((shp Proofs.Try.prog 81 = .struct [(0, 1, false), (1, 1, false), (2, 1, false), (3, 1, false)] 4) ∧ (shp Proofs.Try.prog 82 = .struct [(0, 1, false), (1, 1, false), (2, 1, false), (3, 1, false)] 4)) ∧ ((shp Proofs.Try.prog 84 = .struct [(0, 0, true)] 0) ∧ ((shp Proofs.Try.prog 85 = .struct [(0, 0, true)] 0) ∧ (shp Proofs.Try.prog 87 = .int .u32)))) ∧ (((shp Proofs.Try.prog 88 = .int .u8) ∧ ((shp Proofs.Try.prog 89 = .int .u8) ∧ (shp Proofs.Try.prog 92 = .int .i32))) ∧ ((shp Proofs.Try.prog 93 = .int .i32) ∧ ((shp Proofs.Try.prog 94 = .struct [(0, 1, false), (1, 1, false), (2, 1, false), (3, 1, false), (4, 1, false), (5, 1, false), (6, 1, false), (7, 1, false), (8, 1, false), (9, 1, false), (10, 1, false)] 11) ∧ (shp Proofs.Try.prog 95 = .struct [(0, 1, false), (1, 1, false), (2, 1, false), (3, 1, false), (4, 1, false), (5, 1, false), (6, 1, false), (7, 1, false), (8, 1, false), (9, 1, false), (10, 1, false)] 11))))))) :=
  ⟨⟨⟨⟨⟨sh2, sh3⟩, ⟨sh4, ⟨sh5, sh6⟩⟩⟩, ⟨⟨sh7, sh8⟩, ⟨sh9, ⟨sh10, sh11⟩⟩⟩⟩, ⟨⟨⟨sh12, sh13⟩, ⟨sh14, ⟨sh18, sh19⟩⟩⟩, ⟨⟨sh21, ⟨sh22, sh23⟩⟩, ⟨sh24, ⟨sh25, sh33⟩⟩⟩⟩⟩, ⟨⟨⟨⟨sh42, sh47⟩, ⟨sh48, ⟨sh49, sh50⟩⟩⟩, ⟨⟨sh51, ⟨sh54, sh55⟩⟩, ⟨sh63, ⟨sh74, sh79⟩⟩⟩⟩, ⟨⟨⟨sh81, sh82⟩, ⟨sh84, ⟨sh85, sh87⟩⟩⟩, ⟨⟨sh88, ⟨sh89, sh92⟩⟩, ⟨sh93, ⟨sh94, sh95⟩⟩⟩⟩⟩⟩
theorem zts : (((((zeroT Proofs.Try.prog 7 = some [.int .i64 0, .int .i64 0, .bool false, .int .u8 0]) ∧ (zeroT Proofs.Try.prog 8 = some [.int .i64 0, .int .i64 0, .bool false, .int .u8 0])) ∧ ((zeroT Proofs.Try.prog 13 = some [.string ⟨([] : List UInt8).toArray⟩, .int .u64 0]) ∧ (zeroT Proofs.Try.prog 14 = some [.string ⟨([] : List UInt8).toArray⟩, .int .u64 0]))) ∧ (((zeroT Proofs.Try.prog 18 = some [.pointer none]) ∧ (zeroT Proofs.Try.prog 19 = some [.pointer none])) ∧ ((zeroT Proofs.Try.prog 47 = some [.bool false, .int .i64 0, .int .i64 0]) ∧ ((zeroT Proofs.Try.prog 48 = some [.bool false, .int .i64 0, .int .i64 0]) ∧ (zeroT Proofs.Try.prog 49 = some [.bool false, .int .i64 0, .int .i64 0, .string ⟨([] : List UInt8).toArray⟩]))))) ∧ ((((zeroT Proofs.Try.prog 50 = some [.bool false, .int .i64 0, .int .i64 0, .string ⟨([] : List UInt8).toArray⟩]) ∧ (zeroT Proofs.Try.prog 54 = some [.int .i64 0, .int .i64 0, .string ⟨([] : List UInt8).toArray⟩, .int .i64 0])) ∧ ((zeroT Proofs.Try.prog 55 = some [.int .i64 0, .int .i64 0, .string ⟨([] : List UInt8).toArray⟩, .int .i64 0]) ∧ (zeroT Proofs.Try.prog 81 = some [.pointer none, .pointer none, .pointer none, .string ⟨([] : List UInt8).toArray⟩]))) ∧ (((zeroT Proofs.Try.prog 82 = some [.pointer none, .pointer none, .pointer none, .string ⟨([] : List UInt8).toArray⟩]) ∧ (zeroT Proofs.Try.prog 84 = some [])) ∧ ((zeroT Proofs.Try.prog 85 = some []) ∧ ((zeroT Proofs.Try.prog 94 = some [.int .u64 0, .int .u64 0, .int .u32 0, .int .u8 0, .int .u8 0, .int .u8 0, .int .u8 0, .nilFunc, .pointer none, .int .i32 0, .int .i32 0]) ∧ (zeroT Proofs.Try.prog 95 = some [.int .u64 0, .int .u64 0, .int .u32 0, .int .u8 0, .int .u8 0, .int .u8 0, .int .u8 0, .nilFunc, .pointer none, .int .i32 0, .int .i32 0])))))) :=
  ⟨⟨⟨⟨zt7, zt8⟩, ⟨zt13, zt14⟩⟩, ⟨⟨zt18, zt19⟩, ⟨zt47, ⟨zt48, zt49⟩⟩⟩⟩, ⟨⟨⟨zt50, zt54⟩, ⟨zt55, zt81⟩⟩, ⟨⟨zt82, zt84⟩, ⟨zt85, ⟨zt94, zt95⟩⟩⟩⟩⟩
theorem sos : ((((((szOk Proofs.Try.prog 2 = True) ∧ (szOk Proofs.Try.prog 3 = True)) ∧ ((szOk Proofs.Try.prog 4 = True) ∧ ((szOk Proofs.Try.prog 5 = True) ∧ (szOk Proofs.Try.prog 6 = True)))) ∧ (((szOk Proofs.Try.prog 7 = True) ∧ (szOk Proofs.Try.prog 8 = True)) ∧ ((szOk Proofs.Try.prog 9 = True) ∧ ((szOk Proofs.Try.prog 10 = True) ∧ (szOk Proofs.Try.prog 11 = True))))) ∧ ((((szOk Proofs.Try.prog 12 = True) ∧ (szOk Proofs.Try.prog 13 = True)) ∧ ((szOk Proofs.Try.prog 14 = True) ∧ ((szOk Proofs.Try.prog 18 = True) ∧ (szOk Proofs.Try.prog 19 = True)))) ∧ (((szOk Proofs.Try.prog 21 = True) ∧ (szOk Proofs.Try.prog 22 = True)) ∧ ((szOk Proofs.Try.prog 23 = True) ∧ ((szOk Proofs.Try.prog 24 = True) ∧ (szOk Proofs.Try.prog 25 = True)))))) ∧ (((((szOk Proofs.Try.prog 33 = True) ∧ (szOk Proofs.Try.prog 42 = True)) ∧ ((szOk Proofs.Try.prog 47 = True) ∧ ((szOk Proofs.Try.prog 48 = True) ∧ (szOk Proofs.Try.prog 49 = True)))) ∧ (((szOk Proofs.Try.prog 50 = True) ∧ (szOk Proofs.Try.prog 51 = True)) ∧ ((szOk Proofs.Try.prog 54 = True) ∧ ((szOk Proofs.Try.prog 55 = True) ∧ (szOk Proofs.Try.prog 63 = True))))) ∧ ((((szOk Proofs.Try.prog 74 = True) ∧ (szOk Proofs.Try.prog 79 = True)) ∧ ((szOk Proofs.Try.prog 81 = True) ∧ ((szOk Proofs.Try.prog 82 = True) ∧ (szOk Proofs.Try.prog 87 = True)))) ∧ (((szOk Proofs.Try.prog 88 = True) ∧ ((szOk Proofs.Try.prog 89 = True) ∧ (szOk Proofs.Try.prog 92 = True))) ∧ ((szOk Proofs.Try.prog 93 = True) ∧ ((szOk Proofs.Try.prog 94 = True) ∧ (szOk Proofs.Try.prog 95 = True))))))) :=
  ⟨⟨⟨⟨⟨so2, so3⟩, ⟨so4, ⟨so5, so6⟩⟩⟩, ⟨⟨so7, so8⟩, ⟨so9, ⟨so10, so11⟩⟩⟩⟩, ⟨⟨⟨so12, so13⟩, ⟨so14, ⟨so18, so19⟩⟩⟩, ⟨⟨so21, so22⟩, ⟨so23, ⟨so24, so25⟩⟩⟩⟩⟩, ⟨⟨⟨⟨so33, so42⟩, ⟨so47, ⟨so48, so49⟩⟩⟩, ⟨⟨so50, so51⟩, ⟨so54, ⟨so55, so63⟩⟩⟩⟩, ⟨⟨⟨so74, so79⟩, ⟨so81, ⟨so82, so87⟩⟩⟩, ⟨⟨so88, ⟨so89, so92⟩⟩, ⟨so93, ⟨so94, so95⟩⟩⟩⟩⟩⟩
theorem sls : (((slT Proofs.Try.prog 22 = some (33, 1, 24, [.slice none 0 0])) ∧ ((slT Proofs.Try.prog 23 = some (55, 4, 40, [.int .i64 0, .int .i64 0, .string ⟨([] : List UInt8).toArray⟩, .int .i64 0])) ∧ (slT Proofs.Try.prog 24 = some (3, 1, 8, [.int .i64 0])))) ∧ (((slT Proofs.Try.prog 33 = some (50, 4, 40, [.bool false, .int .i64 0, .int .i64 0, .string ⟨([] : List UInt8).toArray⟩])) ∧ (slT Proofs.Try.prog 42 = some (51, 1, 24, [.slice none 0 0]))) ∧ ((slT Proofs.Try.prog 51 = some (4, 1, 1, [.bool false])) ∧ (slT Proofs.Try.prog 63 = some (22, 1, 24, [.slice none 0 0]))))) :=
  ⟨⟨sl22, ⟨sl23, sl24⟩⟩, ⟨⟨sl33, sl42⟩, ⟨sl51, sl63⟩⟩⟩
theorem zss : ((((((zsT Proofs.Try.prog 2 = some [.int .i64 0]) ∧ (zsT Proofs.Try.prog 3 = some [.int .i64 0])) ∧ ((zsT Proofs.Try.prog 4 = some [.bool false]) ∧ ((zsT Proofs.Try.prog 5 = some [.int .u8 0]) ∧ (zsT Proofs.Try.prog 6 = some [.int .u8 0])))) ∧ (((zsT Proofs.Try.prog 7 = some [.int .i64 0, .int .i64 0, .bool false, .int .u8 0]) ∧ (zsT Proofs.Try.prog 8 = some [.int .i64 0, .int .i64 0, .bool false, .int .u8 0])) ∧ ((zsT Proofs.Try.prog 9 = some [.string ⟨([] : List UInt8).toArray⟩]) ∧ ((zsT Proofs.Try.prog 10 = some [.string ⟨([] : List UInt8).toArray⟩]) ∧ (zsT Proofs.Try.prog 11 = some [.string ⟨([] : List UInt8).toArray⟩]))))) ∧ ((((zsT Proofs.Try.prog 12 = some [.int .u64 0]) ∧ (zsT Proofs.Try.prog 13 = some [.string ⟨([] : List UInt8).toArray⟩, .int .u64 0])) ∧ ((zsT Proofs.Try.prog 14 = some [.string ⟨([] : List UInt8).toArray⟩, .int .u64 0]) ∧ ((zsT Proofs.Try.prog 18 = some [.pointer none]) ∧ (zsT Proofs.Try.prog 19 = some [.pointer none])))) ∧ (((zsT Proofs.Try.prog 21 = some [.int .i32 0]) ∧ (zsT Proofs.Try.prog 22 = some [.slice none 0 0])) ∧ ((zsT Proofs.Try.prog 23 = some [.slice none 0 0]) ∧ ((zsT Proofs.Try.prog 24 = some [.slice none 0 0]) ∧ (zsT Proofs.Try.prog 25 = some [.int .i64 0])))))) ∧ (((((zsT Proofs.Try.prog 33 = some [.slice none 0 0]) ∧ (zsT Proofs.Try.prog 42 = some [.slice none 0 0])) ∧ ((zsT Proofs.Try.prog 47 = some [.bool false, .int .i64 0, .int .i64 0]) ∧ ((zsT Proofs.Try.prog 48 = some [.bool false, .int .i64 0, .int .i64 0]) ∧ (zsT Proofs.Try.prog 49 = some [.bool false, .int .i64 0, .int .i64 0, .string ⟨([] : List UInt8).toArray⟩])))) ∧ (((zsT Proofs.Try.prog 50 = some [.bool false, .int .i64 0, .int .i64 0, .string ⟨([] : List UInt8).toArray⟩]) ∧ (zsT Proofs.Try.prog 51 = some [.slice none 0 0])) ∧ ((zsT Proofs.Try.prog 54 = some [.int .i64 0, .int .i64 0, .string ⟨([] : List UInt8).toArray⟩, .int .i64 0]) ∧ ((zsT Proofs.Try.prog 55 = some [.int .i64 0, .int .i64 0, .string ⟨([] : List UInt8).toArray⟩, .int .i64 0]) ∧ (zsT Proofs.Try.prog 63 = some [.slice none 0 0]))))) ∧ ((((zsT Proofs.Try.prog 74 = some [.int .u64 0]) ∧ (zsT Proofs.Try.prog 79 = some [.int .u64 0])) ∧ ((zsT Proofs.Try.prog 81 = some [.pointer none, .pointer none, .pointer none, .string ⟨([] : List UInt8).toArray⟩]) ∧ ((zsT Proofs.Try.prog 82 = some [.pointer none, .pointer none, .pointer none, .string ⟨([] : List UInt8).toArray⟩]) ∧ (zsT Proofs.Try.prog 84 = some [])))) ∧ (((zsT Proofs.Try.prog 85 = some []) ∧ ((zsT Proofs.Try.prog 87 = some [.int .u32 0]) ∧ (zsT Proofs.Try.prog 88 = some [.int .u8 0]))) ∧ ((zsT Proofs.Try.prog 89 = some [.int .u8 0]) ∧ ((zsT Proofs.Try.prog 92 = some [.int .i32 0]) ∧ (zsT Proofs.Try.prog 93 = some [.int .i32 0]))))))) :=
  ⟨⟨⟨⟨⟨zs2, zs3⟩, ⟨zs4, ⟨zs5, zs6⟩⟩⟩, ⟨⟨zs7, zs8⟩, ⟨zs9, ⟨zs10, zs11⟩⟩⟩⟩, ⟨⟨⟨zs12, zs13⟩, ⟨zs14, ⟨zs18, zs19⟩⟩⟩, ⟨⟨zs21, zs22⟩, ⟨zs23, ⟨zs24, zs25⟩⟩⟩⟩⟩, ⟨⟨⟨⟨zs33, zs42⟩, ⟨zs47, ⟨zs48, zs49⟩⟩⟩, ⟨⟨zs50, zs51⟩, ⟨zs54, ⟨zs55, zs63⟩⟩⟩⟩, ⟨⟨⟨zs74, zs79⟩, ⟨zs81, ⟨zs82, zs84⟩⟩⟩, ⟨⟨zs85, ⟨zs87, zs88⟩⟩, ⟨zs89, ⟨zs92, zs93⟩⟩⟩⟩⟩⟩
theorem eqs : ((eqT Proofs.Try.prog 48 = some [.bool, .int .i64, .int .i64]) ∧ ((eqT Proofs.Try.prog 50 = some [.bool, .int .i64, .int .i64, .str]) ∧ (eqT Proofs.Try.prog 55 = some [.int .i64, .int .i64, .str, .int .i64]))) :=
  ⟨eq48, ⟨eq50, eq55⟩⟩
end Go.X

set_option linter.unusedSimpArgs false
set_option maxHeartbeats 4000000
set_option maxRecDepth 20000
namespace Go.X
open Go Go.RowKit

/-- what is known of the elements of a slice value -/
def RowM (M : Mem) (v : Value) (sz : Nat) (es : List (List Value)) : Prop :=
  (isSl v = true ∧ lenV v = es.length ∧ lenV v ≤ capV v ∧ capV v ≤ maxLen) ∧ (es ≠ [] → someV v = true) ∧ ∀ i e, es[i]? = some e → (e.length = sz ∧ ∀ j c, e[j]? = some c → cellE M v (i * sz + j) = some c ∧ c.oneCell' = true)

theorem cellE_le {M M' : Mem} (h : M.le M') {v : Value} {j : Nat} {c : Value} (hc : cellE M v j = some c) : cellE M' v j = some c := by
  cases v with
  | slice ad n k =>
    cases ad with
    | some ad => exact cellM_le h hc
    | none => simp [cellE] at hc
  | _ => simp [cellE] at hc

theorem RowM.le {M M' : Mem} {v : Value} {sz : Nat} {es : List (List Value)} (h : RowM M v sz es) (hle : M.le M') : RowM M' v sz es :=
  ⟨h.1, h.2.1, fun i e he => ⟨(h.2.2 i e he).1, fun j c hc => ⟨cellE_le hle ((h.2.2 i e he).2 j c hc).1, ((h.2.2 i e he).2 j c hc).2⟩⟩⟩

theorem RowM.nil (M : Mem) (sz : Nat) : RowM M (.slice none 0 0) sz [] := ⟨⟨rfl, rfl, Nat.le_refl _, Nat.zero_le _⟩, fun h => (h rfl).elim, fun i e h => by simp at h⟩

section
variable {M : Mem} {v : Value} {sz : Nat} {es : List (List Value)}

theorem RowM.len (h : RowM M v sz es) : lenV v = es.length := h.1.2.1
theorem RowM.len_le (h : RowM M v sz es) : (es.length : Int) ≤ 9223372036854775807 := by
  have h1 := h.1.2.2.1
  have h2 := h.1.2.2.2
  rw [h.len] at h1
  simp only [maxLen] at h2
  omega
theorem RowM.sl (h : RowM M v sz es) : isSl v = true := h.1.1

theorem RowM.cell (h : RowM M v sz es) {i : Nat} {e : List Value} (he : es[i]? = some e) {off : Nat} (ho : off < sz) : elE M v sz i off = e.getD off undef ∧ okE M v sz i off ∧ (elE M v sz i off).oneCell' = true := by
  obtain ⟨h1, h2⟩ := h.2.2 i e he
  have h3 : e[off]? = some (e[off]'(by omega)) := List.getElem?_eq_getElem _
  obtain ⟨h4, h5⟩ := h2 off _ h3
  refine ⟨?_, ?_, ?_⟩
  · simp only [elE, h4, Option.getD_some, List.getD, h3]
  · simp only [okE, h4, Option.isSome_some]
  · simp only [elE, h4, Option.getD_some, h5]

theorem RowM.el1 {α : Type} {enc : α → List Value} {l : List α} {c : Value} {x : α} {i : Nat} (h : RowM M v 1 (l.map enc)) (hx : l[i]? = some x) (hc : enc x = [c]) : elE M v 1 i 0 = c ∧ okE M v 1 i 0 := by
  have := h.cell (i := i) (e := [c]) (by rw [List.getElem?_map, hx, Option.map_some, hc]) (off := 0) (by omega)
  exact ⟨this.1, this.2.1⟩
theorem RowM.ix (h : RowM M v sz es) {i : Int} (h0 : 0 ≤ i) (h1 : i < es.length) : ixOk v i := by
  refine ⟨⟨h0, by rw [h.len]; exact h1⟩, h.2.1 fun e => ?_⟩
  subst e
  simp at h1
  omega

theorem RowM.rows (h : RowM M v sz es) (h0 : 0 < sz) : rowsM M v sz = es ∧ rowsOk M v sz := by
  have h2 : ∀ i, i < lenV v → ∃ e, es[i]? = some e := fun i hi => ⟨_, List.getElem?_eq_getElem (by rw [← h.len]; exact hi)⟩
  refine ⟨?_, ⟨⟨h.sl, h0⟩, fun i hi j hj => ?_⟩⟩
  · apply List.ext_getElem?
    intro i
    simp only [rowsM, List.getElem?_map]
    by_cases hi : i < lenV v
    · obtain ⟨e, he⟩ := h2 i hi
      rw [List.getElem?_range hi, he]
      simp only [Option.map_some, Option.some.injEq]
      apply List.ext_getElem?
      intro j
      simp only [List.getElem?_map]
      have hl := (h.2.2 i e he).1
      by_cases hj : j < sz
      · rw [List.getElem?_range hj]
        simp only [Option.map_some]
        rw [(h.cell he hj).1, List.getElem?_eq_getElem (by omega), List.getD, List.getElem?_eq_getElem (by omega)]
        rfl
      · rw [List.getElem?_eq_none (by simp; omega), List.getElem?_eq_none (by omega)]
        rfl
    · rw [List.getElem?_eq_none (by simp; omega), List.getElem?_eq_none (by rw [← h.len]; omega)]
      rfl
  · obtain ⟨e, he⟩ := h2 i hi
    exact (h.cell he hj).2

theorem RowM.sub (h : RowM M v sz es) {lo hi : Nat} (h1 : lo ≤ hi) (h2 : hi ≤ es.length) : RowM M (subV v sz lo hi) sz ((es.drop lo).take (hi - lo)) := by
  obtain ⟨⟨g1, g2, g3, g3'⟩, g4, g5⟩ := h
  cases v with
  | slice ad n c =>
    simp only [lenV, capV] at g2 g3 g3'
    refine ⟨⟨rfl, ?_, ?_, ?_⟩, fun hne => ?_, fun i e he => ?_⟩
    · simp only [subV, lenV, List.length_take, List.length_drop]; omega
    · simp only [subV, lenV, capV]; omega
    · simp only [subV, capV]; omega
    · have hes : es ≠ [] := by rintro rfl; simp at hne
      have := g4 hes
      cases ad with
      | none => simp [someV] at this
      | some ad =>
        simp only [subV, Option.map_some]
        split <;> rfl
    · have hlt : i < hi - lo := by
        have := (List.getElem?_eq_some_iff.1 he).1
        simp only [List.length_take] at this
        omega
      rw [List.getElem?_take, if_pos hlt, List.getElem?_drop] at he
      obtain ⟨h3, h4⟩ := g5 (lo + i) e he
      refine ⟨h3, fun j x hx => ?_⟩
      obtain ⟨h5, h6⟩ := h4 j x hx
      refine ⟨?_, h6⟩
      cases ad with
      | none => simp [cellE] at h5
      | some ad =>
        have hcl : ¬ c = lo := by omega
        simp only [subV, if_neg hcl, Option.map_some, cellE] at h5 ⊢
        rw [← h5, Addr.add_add]
        congr 2
        rw [Nat.add_mul]
        omega
  | _ => simp [isSl] at g1
end

/-! ### Publishing -/
mutual
def SV.pub (k : Nat) (v : Value) : SV → SV
  | .v x => .v x
  | .own j => if j = k then .v v else .own j
  | .ptr j a b c => .ptr j a b c
  | .ea x a b c => .ea x a b c
  | .agg l => .agg (SV.pubs k v l)
  | .tup l => .tup (SV.pubs k v l)
  | .fn f l => .fn f (SV.pubs k v l)
def SV.pubs (k : Nat) (v : Value) : List SV → List SV
  | [] => []
  | s :: l => SV.pub k v s :: SV.pubs k v l
end
mutual
theorem SV.pub_val {ν : Nat → Value} {k : Nat} : ∀ s : SV, (s.pub k (ν k)).val ν = s.val ν
  | .v _ => rfl
  | .own j => by
    simp only [SV.pub]
    split
    · rename_i e; subst e; rfl
    · rfl
  | .ptr _ _ _ _ => rfl
  | .ea _ _ _ _ => rfl
  | .agg l => by simp only [SV.pub, SV.val, SV.pubs_vals l]
  | .tup l => by simp only [SV.pub, SV.val, SV.pubs_vals l]
  | .fn f l => by simp only [SV.pub, SV.val, SV.pubs_vals l]
theorem SV.pubs_vals {ν : Nat → Value} {k : Nat} : ∀ l : List SV, SV.vals ν (SV.pubs k (ν k) l) = SV.vals ν l
  | [] => rfl
  | s :: l => by simp only [SV.pubs, SV.vals, SV.pub_val s, SV.pubs_vals l]
end
def sigPub (k : Nat) (v : Value) : Sig → Sig
  | [] => []
  | (j, g, s) :: σ => (j, g, s.pub k v) :: sigPub k v σ
def pubss (k : Nat) (v : Value) : List (List SV) → List (List SV)
  | [] => []
  | e :: r => SV.pubs k v e :: pubss k v r
theorem pubss_vals {ν : Nat → Value} {k : Nat} : ∀ es : List (List SV), (pubss k (ν k) es).map (SV.vals ν) = es.map (SV.vals ν)
  | [] => rfl
  | e :: r => by simp only [pubss, List.map_cons, SV.pubs_vals, pubss_vals r]
def poPub (k : Nat) (v : Value) : PO → PO
  | .box cs t => .box (SV.pubs k v cs) t
  | .row sz es => .row sz es
  | .tab sz es => .tab sz (pubss k v es)
  | .mp es => .mp es
def hpub (k : Nat) (v : Value) : HS → HS
  | [] => []
  | (j, p) :: H => if j = k then hpub k v H else (j, poPub k v p) :: hpub k v H

theorem lk_pub {k : Nat} {v : Value} : ∀ {σ : Sig} {j : Nat} {g : Bool} {s : SV}, lk (sigPub k v σ) j = some (g, s) → ∃ s', s = s'.pub k v ∧ lk σ j = some (g, s')
  | [], j, g, s, h => by simp [sigPub, lk] at h
  | (i, g', s') :: σ, j, g, s, h => by
    simp only [sigPub, lk] at h
    simp only [lk]
    split at h
    · rename_i e
      simp only [Option.some.injEq, Prod.mk.injEq] at h
      obtain ⟨rfl, rfl⟩ := h
      exact ⟨s', rfl, by rw [if_pos e]⟩
    · rename_i e
      rw [if_neg e]
      exact lk_pub h

theorem fp_pub (ν : Nat → Value) (k : Nat) (v : Value) : ∀ H : HS, fp ν (hpub k v H) = fp ν (hdelk k H)
  | [] => rfl
  | (j, p) :: H => by
    have ih := fp_pub ν k v H
    simp only [hpub, hdelk]
    split
    · exact ih
    · simp only [fp, List.filterMap_cons] at ih ⊢
      rw [ih]

theorem hpub_mem {k : Nat} {v : Value} : ∀ {H : HS} {q : Nat × PO}, q ∈ hpub k v H → ∃ p, (q.1, p) ∈ H ∧ q.2 = poPub k v p
  | [], q, h => by simp [hpub] at h
  | (j, p) :: H, q, h => by
    simp only [hpub] at h
    split at h
    · obtain ⟨p', h1, h2⟩ := hpub_mem h
      exact ⟨p', List.mem_cons_of_mem _ h1, h2⟩
    · rcases List.mem_cons.1 h with rfl | h
      · exact ⟨p, List.mem_cons_self, rfl⟩
      · obtain ⟨p', h1, h2⟩ := hpub_mem h
        exact ⟨p', List.mem_cons_of_mem _ h1, h2⟩

theorem flatten_get {sz : Nat} {sp : List Value} : ∀ {es : List (List Value)} {i : Nat} {e : List Value} {j : Nat}, (∀ e ∈ es, e.length = sz) → es[i]? = some e → j < sz → (es.flatten ++ sp)[i * sz + j]? = e[j]?
  | [], i, e, j, _, h, _ => by simp at h
  | e' :: es, 0, e, j, hl, h, hj => by
    simp only [List.getElem?_cons_zero, Option.some.injEq] at h
    subst h
    have := hl e' List.mem_cons_self
    simp only [Nat.zero_mul, Nat.zero_add, List.flatten_cons, List.append_assoc]
    rw [List.getElem?_append_left (by omega)]
  | e' :: es, i + 1, e, j, hl, h, hj => by
    have h1 := hl e' List.mem_cons_self
    simp only [List.getElem?_cons_succ] at h
    have ih := flatten_get (sp := sp) (fun e he => hl e (List.mem_cons_of_mem _ he)) h hj
    simp only [List.flatten_cons, List.append_assoc]
    rw [List.getElem?_append_right (by rw [h1, Nat.add_mul]; omega), ← ih]
    congr 1
    rw [h1, Nat.add_mul]
    omega

section
variable {E : Env} {σ : Sig} {H : HS} {M : Mem} {a : Act} {w : World} {ν : Nat → Value} {K : KP} {o : Oper}

theorem pub_heap {k sz : Nat} {es : List (List Value)} (hh : Heap E ν H M w) (hk : hget H k = some (.row sz es)) : ∃ M', M.le M' ∧ RowM M' (ν k) sz es ∧ Heap E ν (hpub k (ν k) H) M' w := by
  obtain ⟨g1, g2⟩ := hh.holds _ (hget_mem hk)
  have hholds : ∀ q ∈ hpub k (ν k) H, q.2.holds ν w (ν q.1) := by
    intro q hq
    obtain ⟨p, h1, h2⟩ := hpub_mem hq
    have := hh.holds _ h1
    rw [h2]
    cases p with
    | box cs t => obtain ⟨⟨b, T, e, h⟩, ht⟩ := this; exact ⟨⟨b, T, e, by rw [SV.pubs_vals]; exact h⟩, ht⟩
    | row sz es => exact this
    | tab sz es =>
      simp only [poPub]
      rw [PO.tab_row] at this ⊢
      rw [pubss_vals]
      exact this
    | mp es => exact this
  have hsub : (fp ν (hpub k (ν k) H)).Sublist (fp ν H) := by rw [fp_pub]; exact (hdelk_sub k H).filterMap _
  rcases g2 with ⟨hν, rfl⟩ | ⟨b, cap, T, sp, hν, g3, g4, g5, hb⟩
  · simp only at hν
    refine ⟨M, Mem.le.refl M, by rw [hν]; exact RowM.nil M sz, hholds, hh.nodup.sublist hsub, fun b hb => hh.apart b (hsub.subset hb), hh.mem, hh.below, hh.le0, hh.fresh, hh.one⟩
  · simp only at hν
    have hkb : blk? (ν k) = some b := by rw [hν]; rfl
    obtain ⟨hMb, hBb⟩ := hh.apart b (List.mem_filterMap.2 ⟨(k, _), hget_mem hk, hkb⟩)
    let M' : Mem := fun c => if c = b then some (.cells (es.flatten ++ sp).toArray T (0, 0)) else M c
    have hM'b : M' b = some (.cells (es.flatten ++ sp).toArray T (0, 0)) := by simp [M']
    have hle : M.le M' := fun c o hc => by
      simp only [M']
      rw [if_neg (fun e => by rw [e, hMb] at hc; cases hc)]
      exact hc
    refine ⟨M', hle, ?_, hholds, hh.nodup.sublist hsub, fun c hc => ?_, fun c o hc => ?_, hh.below, hh.le0.trans hle, fun c hc => ?_, hh.one⟩
    · rw [hν]
      refine ⟨⟨rfl, rfl, g3, g4⟩, fun _ => rfl, fun i e he => ?_⟩
      have hel := g1 e (List.mem_of_getElem? he)
      refine ⟨hel.1, fun j c hc => ?_⟩
      have hj : j < sz := by rw [← hel.1]; exact (List.getElem?_eq_some_iff.1 hc).1
      refine ⟨?_, hel.2 c (List.mem_of_getElem? hc)⟩
      have hadd : (⟨b, 0, none⟩ : Addr).add (i * sz + j) = ⟨b, i * sz + j, none⟩ := by unfold Addr.add; split <;> simp_all
      simp only [cellE, cellM, hadd, hM'b]
      simp only [Option.isSome_none, Bool.false_eq_true, if_false, List.getElem?_toArray]
      rw [flatten_get (fun e he => (g1 e he).1) he hj, hc]
    · have hcb : c ≠ b := by
        rintro rfl
        rw [fp_pub] at hc
        exact fp_hdelk hh hk hkb 0 _ (hdelk_sub k H) (hdelk_ne k H) hc
      simp only [M', if_neg hcb]
      exact hh.apart c (hsub.subset hc)
    · simp only [M'] at hc
      split at hc
      · rename_i e
        simp only [Option.some.injEq] at hc
        subst hc e
        exact hb
      · exact hh.mem c o hc
    · simp only [M'] at hc
      split at hc
      · rename_i e; subst e; exact .inr hBb
      · exact hh.fresh c hc

theorem pub_slots {N : Nat} {k : Nat} (hs : Slots N ν σ a) : Slots N ν (sigPub k (ν k) σ) a :=
  ⟨hs.1, hs.2.1, fun j g s h => by
    obtain ⟨s', rfl, h'⟩ := lk_pub h
    rw [SV.pub_val]
    exact hs.2.2 j g s' h'⟩

theorem CallK.pub {f d k sz : Nat} {l : List SV} {es : List (List Value)} (hk : hget H k = some (.row sz es))
    (h : ∀ v M', M.le M' → RowM M' v sz es → CallK E f (SV.pubs k v l) d K (sigPub k v σ) (hpub k v H) M') : CallK E f l d K σ H M := by
  intro ν a w hs hh
  obtain ⟨M', h1, h2, h3⟩ := pub_heap hh hk
  have := h _ M' h1 h2 ν a w (pub_slots hs) h3
  rw [SV.pubs_vals] at this
  exact this

theorem OpK.pub {k sz : Nat} {es : List (List Value)} (hk : hget H k = some (.row sz es))
    (h : ∀ v M', M.le M' → RowM M' v sz es → OpK E o K (sigPub k v σ) (hpub k v H) M') : OpK E o K σ H M := by
  rintro a w ⟨ν, hs, hh⟩
  obtain ⟨M', h1, h2, h3⟩ := pub_heap hh hk
  exact h _ M' h1 h2 a w ⟨ν, pub_slots hs, h3⟩

theorem LoopK.pub {live : List Nat} {body : Code} {Q : QP} {k sz : Nat} {es : List (List Value)} (hk : hget H k = some (.row sz es))
    (h : ∀ v M', M.le M' → RowM M' v sz es → LoopK E live body Q (sigPub k v σ) (hpub k v H) M') : LoopK E live body Q σ H M := by
  rintro a w ⟨ν, hs, hh⟩
  obtain ⟨M', h1, h2, h3⟩ := pub_heap hh hk
  exact h _ M' h1 h2 a w ⟨ν, pub_slots hs, h3⟩

theorem DrawK.pub {id : Nat} {ops : Array Oper} {k sz : Nat} {es : List (List Value)} (hk : hget H k = some (.row sz es))
    (h : ∀ v M', M.le M' → RowM M' v sz es → DrawK E id ops K (sigPub k v σ) (hpub k v H) M') : DrawK E id ops K σ H M := by
  rintro a w ⟨ν, hs, hh⟩
  obtain ⟨M', h1, h2, h3⟩ := pub_heap hh hk
  exact h _ M' h1 h2 a w ⟨ν, pub_slots hs, h3⟩

/-- an operation that stood still goes on by itself -/
theorem OpK.step (h : stepK E o true K σ H M) : OpK E o K σ H M := by
  rintro a w ⟨ν, hs, hh⟩
  have := stepK_sound (Nx := fun a' w' => ∃ σ' H' M', Rep E σ' H' M' a' w' ∧ K σ' H' M') (Qx := fun _ _ _ => False) (fun σ H M a w hr hk => ⟨σ, H, M, hr, hk⟩) hs hh h
  simpa using this

/-- a call that only reads a row of the call's own, and hands back a known value -/
theorem CallK.lend {f d k sz : Nat} {l : List SV} {s : SV} {es : List (List Value)} (hk : hget H k = some (.row sz es)) (hd : decide (d < E.N) = true) (hs' : s.conc = true)
    (hl : ∀ v, SV.concs (SV.pubs k v l) = true)
    (h : ∀ v M', M.le M' → RowM M' v sz es → Meets E.P f (SV.pubs k v l) M' (fun s' _ _ => s' = s)) (hK : K ((d, true, s) :: σ) H M) : CallK E f l d K σ H M := by
  intro ν a w hs hh
  obtain ⟨M', h1, h2, h3⟩ := pub_heap hh hk
  have hm := h _ M' h1 h2
  refine .inl ⟨hm.1, ?_⟩
  rw [← SV.pubs_vals (k := k), SV.concs_vals (ν := ν0) (ν' := ν) _ (hl _)]
  refine (hm.2 w h3.mem).mono ?_
  rintro e w' ⟨s', H', M'', ν', rfl, hh', rfl⟩
  refine ⟨_, rfl, _, _, _, ⟨ν, ?_, hh.grow hh'.below⟩, hK⟩
  exact hs.put (of_decide_eq_true hd) (by rw [SV.conc_val (ν := ν) (ν' := ν') s' hs']; rfl)

/-- the result is a row: known, or the callee's own -/
def IsRow (H : HS) (M : Mem) (s : SV) (sz : Nat) (es : List (List Value)) : Prop :=
  match s with
  | .v v => RowM M v sz es
  | .own k => hget H k = some (.row sz es)
  | _ => False
def RowR (T : SV → SV) (sz : Nat) (es : List (List Value)) : RP := fun r H M => ∃ s, r = T s ∧ IsRow H M s sz es
def OwnR (T : SV → SV) (sz : Nat) (es : List (List Value)) : RP := fun r H _ => ∃ k, r = T (.own k) ∧ hget H k = some (.row sz es)
def Ctx (T : SV → SV) : Prop := ∀ s s' ν ν', s.val ν = s'.val ν' → (T s).val ν = (T s').val ν'

theorem CallK.row {f d sz : Nat} {l : List SV} {T : SV → SV} {es : List (List Value)} (hT : Ctx T) (hl : SV.concs l = true) (hd : decide (d < E.N) = true) (h : Meets E.P f l M (RowR T sz es))
    (hk : ∀ v M', M.le M' → RowM M' v sz es → K ((d, true, T (.v v)) :: σ) H M') : CallK E f l d K σ H M := by
  intro ν a w hs hh
  refine .inl ⟨h.1, ?_⟩
  rw [SV.concs_vals (ν := ν0) (ν' := ν) l hl]
  refine (h.2 w hh.mem).mono ?_
  rintro e w' ⟨s, H', M', ν', rfl, hh', s', rfl, hR⟩
  cases s' with
  | v x =>
    exact ⟨_, rfl, _, _, _, ⟨ν, hs.put (of_decide_eq_true hd) (by rw [cond_true]; exact hT _ _ _ _ rfl), hh.call hh'⟩, hk x M' hh'.le0 hR⟩
  | own k =>
    obtain ⟨M'', h1, h2, h3⟩ := pub_heap hh' hR
    exact ⟨_, rfl, _, _, _, ⟨ν, hs.put (of_decide_eq_true hd) (by rw [cond_true]; exact hT _ (.v (ν' k)) _ _ rfl), hh.call h3⟩, hk (ν' k) M'' h3.le0 h2⟩
  | _ => exact hR.elim

theorem CallK.own {f d sz : Nat} {l : List SV} {T : SV → SV} {es : List (List Value)} (hT : Ctx T) (hl : SV.concs l = true) (hd : decide (d < E.N) = true) (h : Meets E.P f l M (OwnR T sz es)) (hn : hNoKey d (hdel d H) = true)
    (hk : ∀ M', M.le M' → K ((d, true, T (.own (8 * d))) :: sigDrop d σ) ((8 * d, .row sz es) :: hdel d H) M') : CallK E f l d K σ H M := by
  intro ν a w hs hh
  refine .inl ⟨h.1, ?_⟩
  rw [SV.concs_vals (ν := ν0) (ν' := ν) l hl]
  refine (h.2 w hh.mem).mono ?_
  rintro e w' ⟨s, H', M', ν', rfl, hh', k, rfl, hR⟩
  let ν2 : Nat → Value := fun j => if j / 8 = d then ν' k else ν j
  have hν : ∀ j, j / 8 ≠ d → ν2 j = ν j := fun j hj => by simp [ν2, hj]
  have hν8 : ν2 (8 * d) = ν' k := by simp [ν2, show (8 * d) / 8 = d by omega]
  refine ⟨_, rfl, _, _, _, ⟨ν2, (hs.drop hν).put (of_decide_eq_true hd) (by rw [cond_true]; exact hT _ _ _ _ (by simp only [SV.val, hν8])), ?_⟩, hk M' hh'.le0⟩
  refine ((hh.call hh').sublist (hdel_sub d H)).add hn hν (fun j => ?_) ?_ (fun b hb => ?_)
  · by_cases hj : j / 8 = d
    · simp only [ν2, hj, if_true]; exact hh'.one k
    · simp only [ν2, hj, if_false]; exact hh.one j
  · rw [hν8]
    exact hh'.holds _ (hget_mem hR)
  · rw [hν8] at hb
    have hbm : b ∈ fp ν' H' := List.mem_filterMap.2 ⟨(k, _), hget_mem hR, hb⟩
    obtain ⟨h1, h2⟩ := hh'.apart b hbm
    refine ⟨fun hm => ?_, h1, Nat.le_trans hh.below.size h2⟩
    have := hh.fp_lt (((hdel_sub d H).filterMap _).subset hm)
    simp only at h2
    omega

/-- a nil slice as a row of the call's own -/
theorem Rep.nilRow {j d sz : Nat} (hj : lk σ j = some (true, .v (.slice none 0 0))) (hjN : j < E.N) (hn : hNoKey d (hdel d H) = true) (hr : Rep E σ H M a w) : Rep E ((j, true, .own (8 * d)) :: sigDrop d σ) ((8 * d, .row sz []) :: hdel d H) M a w := by
  obtain ⟨ν, hs, hh⟩ := hr
  let ν2 : Nat → Value := fun j => if j / 8 = d then .slice none 0 0 else ν j
  have hν : ∀ j, j / 8 ≠ d → ν2 j = ν j := fun j hj => by simp [ν2, hj]
  have hν8 : ν2 (8 * d) = .slice none 0 0 := by simp [ν2, show (8 * d) / 8 = d by omega]
  have hs2 := hs.drop hν
  refine ⟨ν2, ⟨hs2.1, hs2.2.1, fun k g s hk => ?_⟩, (hh.sublist (hdel_sub d H)).add hn hν (fun j => ?_) ?_ (fun b hb => by rw [hν8] at hb; simp [blk?] at hb)⟩
  · simp only [lk] at hk
    split at hk
    · rename_i e
      subst e
      simp only [Option.some.injEq, Prod.mk.injEq] at hk
      obtain ⟨rfl, rfl⟩ := hk
      have := hs.2.2 k true _ hj
      rw [this]
      simp only [cond_true, SV.val, hν8]
    · exact hs2.2.2 k g s hk
  · by_cases hj : j / 8 = d
    · simp [ν2, hj, Value.oneCell']
    · simp only [ν2, hj, if_false]; exact hh.one j
  · rw [hν8]
    exact ⟨fun e he => by simp at he, .inl ⟨rfl, rfl⟩⟩

theorem LoopK.nilRow {live : List Nat} {body : Code} {Q : QP} (j d sz : Nat) (hj : lk σ j = some (true, .v (.slice none 0 0))) (hjN : decide (j < E.N) = true) (hn : hNoKey d (hdel d H) = true)
    (h : LoopK E live body Q ((j, true, .own (8 * d)) :: sigDrop d σ) ((8 * d, .row sz []) :: hdel d H) M) : LoopK E live body Q σ H M :=
  fun a w hr => h a w (Rep.nilRow hj (of_decide_eq_true hjN) hn hr)

/-- the key of a row is another one -/
theorem Ent.rekey {S : Sig × HS × Mem} (j d k sz : Nat) (es : List (List Value)) (hj : lk σ j = some (true, .own k)) (hjN : decide (j < E.N) = true) (hk : hget H k = some (.row sz es)) (hn : hNoKey d (hdelk k (hdel d H)) = true)
    (h : Ent E ((j, true, .own (8 * d)) :: sigDrop d σ) ((8 * d, .row sz es) :: hdelk k (hdel d H)) M S) : Ent E σ H M S := by
  rintro a w ⟨ν, hs, hh⟩
  refine h a w ?_
  let ν2 : Nat → Value := fun j => if j / 8 = d then ν k else ν j
  have hν : ∀ j, j / 8 ≠ d → ν2 j = ν j := fun j hj => by simp [ν2, hj]
  have hν8 : ν2 (8 * d) = ν k := by simp [ν2, show (8 * d) / 8 = d by omega]
  have hs2 := hs.drop hν
  have hsub : (hdelk k (hdel d H)).Sublist H := (hdelk_sub k _).trans (hdel_sub d H)
  refine ⟨ν2, ⟨hs2.1, hs2.2.1, fun i g s hi => ?_⟩, (hh.sublist hsub).add hn hν (fun j => ?_) ?_ (fun b hb => ?_)⟩
  · simp only [lk] at hi
    split at hi
    · rename_i e
      subst e
      simp only [Option.some.injEq, Prod.mk.injEq] at hi
      obtain ⟨rfl, rfl⟩ := hi
      rw [hs.2.2 i true _ hj]
      simp only [cond_true, SV.val, hν8]
    · exact hs2.2.2 i g s hi
  · by_cases hj : j / 8 = d
    · simp only [ν2, hj, if_true]; exact hh.one k
    · simp only [ν2, hj, if_false]; exact hh.one j
  · rw [hν8]
    exact hh.holds _ (hget_mem hk)
  · rw [hν8] at hb
    obtain ⟨h1, h2⟩ := hh.apart b (List.mem_filterMap.2 ⟨(k, _), hget_mem hk, hb⟩)
    exact ⟨fp_hdelk hh hk hb d _ hsub (hdelk_ne k _), h1, h2⟩

end

def encT (b : Bool) : List Value := [.bool b]
theorem Ctx.id : Ctx (fun s => s) := fun _ _ _ _ h => h
theorem Ctx.fst (x : Value) : Ctx (fun s => .tup [s, .v x]) := fun s s' ν ν' h => by simp only [SV.val, SV.vals, h]
theorem sp1 : type_of% (And.intro (And.intro (And.intro @SV.pub.eq_1 @SV.pub.eq_2) (And.intro @SV.pub.eq_3 @SV.pub.eq_4)) (And.intro (And.intro @SV.pub.eq_5 @SV.pub.eq_6) (And.intro @SV.pub.eq_7 @SV.pubs.eq_1))) := And.intro (And.intro (And.intro @SV.pub.eq_1 @SV.pub.eq_2) (And.intro @SV.pub.eq_3 @SV.pub.eq_4)) (And.intro (And.intro @SV.pub.eq_5 @SV.pub.eq_6) (And.intro @SV.pub.eq_7 @SV.pubs.eq_1))
theorem sp2 : type_of% (And.intro (And.intro (And.intro @SV.pubs.eq_2 @sigPub.eq_1) (And.intro @sigPub.eq_2 @poPub.eq_1)) (And.intro (And.intro @poPub.eq_2 @hpub.eq_1) (And.intro @hpub.eq_2 @IsRow.eq_1))) := And.intro (And.intro (And.intro @SV.pubs.eq_2 @sigPub.eq_1) (And.intro @sigPub.eq_2 @poPub.eq_1)) (And.intro (And.intro @poPub.eq_2 @hpub.eq_1) (And.intro @hpub.eq_2 @IsRow.eq_1))
theorem poPub_mp (k : Nat) (v : Value) (es : List (Value × Value)) : poPub k v (.mp es) = .mp es := rfl
theorem poPub_tab (k : Nat) (v : Value) (sz : Nat) (es : List (List SV)) : poPub k v (.tab sz es) = .tab sz (pubss k v es) := rfl
theorem sp3 : type_of% (And.intro @IsRow.eq_2 (And.intro (And.intro (@RowR.eq_1) @OwnR.eq_1) (And.intro @poPub_tab (And.intro @pubss.eq_1 (And.intro @poPub_mp @pubss.eq_2))))) := And.intro @IsRow.eq_2 (And.intro (And.intro (@RowR.eq_1) @OwnR.eq_1) (And.intro @poPub_tab (And.intro @pubss.eq_1 (And.intro @poPub_mp @pubss.eq_2))))
end Go.X

namespace Go.X
open Go Go.RowKit

theorem Meets.law {P : Program} {f : FuncId} {args : List SV} {W : World} {v : Value} (h : Meets P f args (fun b => W.heap[b]?) (fun r _ _ => r = .v v)) :
    Calls P f (SV.vals ν0 args).toArray W fun e w' => e = .returned v ∧ Below W.heap.size W w' := by
  refine (h.2 W fun _ _ e => e).mono fun e w' ⟨s, H', M', ν, he, hh, hR⟩ => ?_
  subst hR
  exact ⟨he, hh.below⟩

theorem wf_i64 {n : Int} (h : (Lit.int .i64 n).wf = true) : inK .i64 n := by
  have := bounds_i64 h
  exact this

theorem cellM_heap (W : World) (a : Addr) : cellM (fun b => W.heap[b]?) a = W.cell? a := by
  unfold cellM World.cell?
  rfl

end Go.X

