/- The shapes of the types of this translation. Conditions: none. -/
import Derived.Test.YtbnbimncladflaaDoorProg
import Derived.Test.YtbnbimncladflaaDoorFwB
import Derived.KernelRfl
set_option linter.unusedVariables false
namespace Go.X
open Go
theorem sh2 : shp Proofs.Tryd.prog 2 = .int .i64 := by kernel_rfl
theorem so2 : szOk Proofs.Tryd.prog 2 = True := eq_true (szOk_of (n := 1) sh2 (by kernel_rfl) (by decide) (by decide))
theorem zs2 : zsT Proofs.Tryd.prog 2 = some [.int .i64 0] := by kernel_rfl
theorem sh3 : shp Proofs.Tryd.prog 3 = .int .i64 := by kernel_rfl
theorem so3 : szOk Proofs.Tryd.prog 3 = True := eq_true (szOk_of (n := 1) sh3 (by kernel_rfl) (by decide) (by decide))
theorem zs3 : zsT Proofs.Tryd.prog 3 = some [.int .i64 0] := by kernel_rfl
theorem sh4 : shp Proofs.Tryd.prog 4 = .bool := by kernel_rfl
theorem so4 : szOk Proofs.Tryd.prog 4 = True := eq_true (szOk_of (n := 1) sh4 (by kernel_rfl) (by decide) (by decide))
theorem zs4 : zsT Proofs.Tryd.prog 4 = some [.bool false] := by kernel_rfl
theorem sh5 : shp Proofs.Tryd.prog 5 = .int .u8 := by kernel_rfl
theorem so5 : szOk Proofs.Tryd.prog 5 = True := eq_true (szOk_of (n := 1) sh5 (by kernel_rfl) (by decide) (by decide))
theorem zs5 : zsT Proofs.Tryd.prog 5 = some [.int .u8 0] := by kernel_rfl
theorem sh6 : shp Proofs.Tryd.prog 6 = .int .u8 := by kernel_rfl
theorem so6 : szOk Proofs.Tryd.prog 6 = True := eq_true (szOk_of (n := 1) sh6 (by kernel_rfl) (by decide) (by decide))
theorem zs6 : zsT Proofs.Tryd.prog 6 = some [.int .u8 0] := by kernel_rfl
theorem sh7 : shp Proofs.Tryd.prog 7 = .struct [(0, 1, false), (1, 1, false), (2, 1, false), (3, 1, false)] 4 := by kernel_rfl
theorem zt7 : zeroT Proofs.Tryd.prog 7 = some [.int .i64 0, .int .i64 0, .bool false, .int .u8 0] := by kernel_rfl
theorem so7 : szOk Proofs.Tryd.prog 7 = True := eq_true (szOk_of (n := 4) sh7 (by kernel_rfl) (by decide) (by decide))
theorem zs7 : zsT Proofs.Tryd.prog 7 = some [.int .i64 0, .int .i64 0, .bool false, .int .u8 0] := by kernel_rfl
theorem sh8 : shp Proofs.Tryd.prog 8 = .struct [(0, 1, false), (1, 1, false), (2, 1, false), (3, 1, false)] 4 := by kernel_rfl
theorem zt8 : zeroT Proofs.Tryd.prog 8 = some [.int .i64 0, .int .i64 0, .bool false, .int .u8 0] := by kernel_rfl
theorem so8 : szOk Proofs.Tryd.prog 8 = True := eq_true (szOk_of (n := 4) sh8 (by kernel_rfl) (by decide) (by decide))
theorem zs8 : zsT Proofs.Tryd.prog 8 = some [.int .i64 0, .int .i64 0, .bool false, .int .u8 0] := by kernel_rfl
theorem sh9 : shp Proofs.Tryd.prog 9 = .str := by kernel_rfl
theorem so9 : szOk Proofs.Tryd.prog 9 = True := eq_true (szOk_of (n := 1) sh9 (by kernel_rfl) (by decide) (by decide))
theorem zs9 : zsT Proofs.Tryd.prog 9 = some [.string ⟨([] : List UInt8).toArray⟩] := by kernel_rfl
theorem sh10 : shp Proofs.Tryd.prog 10 = .str := by kernel_rfl
theorem so10 : szOk Proofs.Tryd.prog 10 = True := eq_true (szOk_of (n := 1) sh10 (by kernel_rfl) (by decide) (by decide))
theorem zs10 : zsT Proofs.Tryd.prog 10 = some [.string ⟨([] : List UInt8).toArray⟩] := by kernel_rfl
theorem sh11 : shp Proofs.Tryd.prog 11 = .str := by kernel_rfl
theorem so11 : szOk Proofs.Tryd.prog 11 = True := eq_true (szOk_of (n := 1) sh11 (by kernel_rfl) (by decide) (by decide))
theorem zs11 : zsT Proofs.Tryd.prog 11 = some [.string ⟨([] : List UInt8).toArray⟩] := by kernel_rfl
theorem sh12 : shp Proofs.Tryd.prog 12 = .int .u64 := by kernel_rfl
theorem so12 : szOk Proofs.Tryd.prog 12 = True := eq_true (szOk_of (n := 1) sh12 (by kernel_rfl) (by decide) (by decide))
theorem zs12 : zsT Proofs.Tryd.prog 12 = some [.int .u64 0] := by kernel_rfl
theorem sh13 : shp Proofs.Tryd.prog 13 = .struct [(0, 1, false), (1, 1, false)] 2 := by kernel_rfl
theorem zt13 : zeroT Proofs.Tryd.prog 13 = some [.string ⟨([] : List UInt8).toArray⟩, .int .u64 0] := by kernel_rfl
theorem so13 : szOk Proofs.Tryd.prog 13 = True := eq_true (szOk_of (n := 2) sh13 (by kernel_rfl) (by decide) (by decide))
theorem zs13 : zsT Proofs.Tryd.prog 13 = some [.string ⟨([] : List UInt8).toArray⟩, .int .u64 0] := by kernel_rfl
theorem sh14 : shp Proofs.Tryd.prog 14 = .struct [(0, 1, false), (1, 1, false)] 2 := by kernel_rfl
theorem zt14 : zeroT Proofs.Tryd.prog 14 = some [.string ⟨([] : List UInt8).toArray⟩, .int .u64 0] := by kernel_rfl
theorem so14 : szOk Proofs.Tryd.prog 14 = True := eq_true (szOk_of (n := 2) sh14 (by kernel_rfl) (by decide) (by decide))
theorem zs14 : zsT Proofs.Tryd.prog 14 = some [.string ⟨([] : List UInt8).toArray⟩, .int .u64 0] := by kernel_rfl
theorem sh18 : shp Proofs.Tryd.prog 18 = .struct [(0, 1, false)] 1 := by kernel_rfl
theorem zt18 : zeroT Proofs.Tryd.prog 18 = some [.pointer none] := by kernel_rfl
theorem so18 : szOk Proofs.Tryd.prog 18 = True := eq_true (szOk_of (n := 1) sh18 (by kernel_rfl) (by decide) (by decide))
theorem zs18 : zsT Proofs.Tryd.prog 18 = some [.pointer none] := by kernel_rfl
theorem sh19 : shp Proofs.Tryd.prog 19 = .struct [(0, 1, false)] 1 := by kernel_rfl
theorem zt19 : zeroT Proofs.Tryd.prog 19 = some [.pointer none] := by kernel_rfl
theorem so19 : szOk Proofs.Tryd.prog 19 = True := eq_true (szOk_of (n := 1) sh19 (by kernel_rfl) (by decide) (by decide))
theorem zs19 : zsT Proofs.Tryd.prog 19 = some [.pointer none] := by kernel_rfl
theorem sh21 : shp Proofs.Tryd.prog 21 = .int .i32 := by kernel_rfl
theorem so21 : szOk Proofs.Tryd.prog 21 = True := eq_true (szOk_of (n := 1) sh21 (by kernel_rfl) (by decide) (by decide))
theorem zs21 : zsT Proofs.Tryd.prog 21 = some [.int .i32 0] := by kernel_rfl
theorem sh22 : shp Proofs.Tryd.prog 22 = .int .i64 := by kernel_rfl
theorem so22 : szOk Proofs.Tryd.prog 22 = True := eq_true (szOk_of (n := 1) sh22 (by kernel_rfl) (by decide) (by decide))
theorem zs22 : zsT Proofs.Tryd.prog 22 = some [.int .i64 0] := by kernel_rfl
theorem sh28 : shp Proofs.Tryd.prog 28 = .slice 38 3 true := by kernel_rfl
theorem so28 : szOk Proofs.Tryd.prog 28 = True := eq_true (szOk_of (n := 1) sh28 (by kernel_rfl) (by decide) (by decide))
theorem sl28 : slT Proofs.Tryd.prog 28 = some (38, 3, 24, [.int .i64 0, .int .i64 0, .int .i64 0]) := by kernel_rfl
theorem zs28 : zsT Proofs.Tryd.prog 28 = some [.slice none 0 0] := by kernel_rfl
theorem sh36 : shp Proofs.Tryd.prog 36 = .slice 5 1 false := by kernel_rfl
theorem so36 : szOk Proofs.Tryd.prog 36 = True := eq_true (szOk_of (n := 1) sh36 (by kernel_rfl) (by decide) (by decide))
theorem sl36 : slT Proofs.Tryd.prog 36 = some (5, 1, 1, [.int .u8 0]) := by kernel_rfl
theorem zs36 : zsT Proofs.Tryd.prog 36 = some [.slice none 0 0] := by kernel_rfl
theorem sh37 : shp Proofs.Tryd.prog 37 = .struct [(0, 1, false), (1, 1, false), (2, 1, false)] 3 := by kernel_rfl
theorem zt37 : zeroT Proofs.Tryd.prog 37 = some [.int .i64 0, .int .i64 0, .int .i64 0] := by kernel_rfl
theorem so37 : szOk Proofs.Tryd.prog 37 = True := eq_true (szOk_of (n := 3) sh37 (by kernel_rfl) (by decide) (by decide))
theorem zs37 : zsT Proofs.Tryd.prog 37 = some [.int .i64 0, .int .i64 0, .int .i64 0] := by kernel_rfl
theorem sh38 : shp Proofs.Tryd.prog 38 = .struct [(0, 1, false), (1, 1, false), (2, 1, false)] 3 := by kernel_rfl
theorem zt38 : zeroT Proofs.Tryd.prog 38 = some [.int .i64 0, .int .i64 0, .int .i64 0] := by kernel_rfl
theorem so38 : szOk Proofs.Tryd.prog 38 = True := eq_true (szOk_of (n := 3) sh38 (by kernel_rfl) (by decide) (by decide))
theorem zs38 : zsT Proofs.Tryd.prog 38 = some [.int .i64 0, .int .i64 0, .int .i64 0] := by kernel_rfl
theorem sh53 : shp Proofs.Tryd.prog 53 = .struct [(0, 1, false), (1, 1, false)] 2 := by kernel_rfl
theorem zt53 : zeroT Proofs.Tryd.prog 53 = some [.pointer none, .slice none 0 0] := by kernel_rfl
theorem so53 : szOk Proofs.Tryd.prog 53 = True := eq_true (szOk_of (n := 2) sh53 (by kernel_rfl) (by decide) (by decide))
theorem zs53 : zsT Proofs.Tryd.prog 53 = some [.pointer none, .slice none 0 0] := by kernel_rfl
theorem sh54 : shp Proofs.Tryd.prog 54 = .struct [(0, 1, false), (1, 1, false)] 2 := by kernel_rfl
theorem zt54 : zeroT Proofs.Tryd.prog 54 = some [.pointer none, .slice none 0 0] := by kernel_rfl
theorem so54 : szOk Proofs.Tryd.prog 54 = True := eq_true (szOk_of (n := 2) sh54 (by kernel_rfl) (by decide) (by decide))
theorem zs54 : zsT Proofs.Tryd.prog 54 = none := by kernel_rfl
theorem sh66 : shp Proofs.Tryd.prog 66 = .int .u64 := by kernel_rfl
theorem so66 : szOk Proofs.Tryd.prog 66 = True := eq_true (szOk_of (n := 1) sh66 (by kernel_rfl) (by decide) (by decide))
theorem zs66 : zsT Proofs.Tryd.prog 66 = some [.int .u64 0] := by kernel_rfl
theorem sh79 : shp Proofs.Tryd.prog 79 = .int .u32 := by kernel_rfl
theorem so79 : szOk Proofs.Tryd.prog 79 = True := eq_true (szOk_of (n := 1) sh79 (by kernel_rfl) (by decide) (by decide))
theorem zs79 : zsT Proofs.Tryd.prog 79 = some [.int .u32 0] := by kernel_rfl
theorem sh82 : shp Proofs.Tryd.prog 82 = .int .u64 := by kernel_rfl
theorem so82 : szOk Proofs.Tryd.prog 82 = True := eq_true (szOk_of (n := 1) sh82 (by kernel_rfl) (by decide) (by decide))
theorem zs82 : zsT Proofs.Tryd.prog 82 = some [.int .u64 0] := by kernel_rfl
theorem sh101 : shp Proofs.Tryd.prog 101 = .struct [(0, 1, false), (1, 1, false)] 2 := by kernel_rfl
theorem zt101 : zeroT Proofs.Tryd.prog 101 = some [.int .u8 0, .int .u8 0] := by kernel_rfl
theorem so101 : szOk Proofs.Tryd.prog 101 = True := eq_true (szOk_of (n := 2) sh101 (by kernel_rfl) (by decide) (by decide))
theorem zs101 : zsT Proofs.Tryd.prog 101 = some [.int .u8 0, .int .u8 0] := by kernel_rfl
theorem sh102 : shp Proofs.Tryd.prog 102 = .struct [(0, 1, false), (1, 1, false)] 2 := by kernel_rfl
theorem zt102 : zeroT Proofs.Tryd.prog 102 = some [.int .u8 0, .int .u8 0] := by kernel_rfl
theorem so102 : szOk Proofs.Tryd.prog 102 = True := eq_true (szOk_of (n := 2) sh102 (by kernel_rfl) (by decide) (by decide))
theorem zs102 : zsT Proofs.Tryd.prog 102 = some [.int .u8 0, .int .u8 0] := by kernel_rfl
theorem sh104 : shp Proofs.Tryd.prog 104 = .struct [(0, 1, false), (1, 1, false), (2, 1, false), (3, 1, false)] 4 := by kernel_rfl
theorem zt104 : zeroT Proofs.Tryd.prog 104 = some [.pointer none, .pointer none, .pointer none, .string ⟨([] : List UInt8).toArray⟩] := by kernel_rfl
theorem so104 : szOk Proofs.Tryd.prog 104 = True := eq_true (szOk_of (n := 4) sh104 (by kernel_rfl) (by decide) (by decide))
theorem zs104 : zsT Proofs.Tryd.prog 104 = some [.pointer none, .pointer none, .pointer none, .string ⟨([] : List UInt8).toArray⟩] := by kernel_rfl
theorem sh105 : shp Proofs.Tryd.prog 105 = .struct [(0, 1, false), (1, 1, false), (2, 1, false), (3, 1, false)] 4 := by kernel_rfl
theorem zt105 : zeroT Proofs.Tryd.prog 105 = some [.pointer none, .pointer none, .pointer none, .string ⟨([] : List UInt8).toArray⟩] := by kernel_rfl
theorem so105 : szOk Proofs.Tryd.prog 105 = True := eq_true (szOk_of (n := 4) sh105 (by kernel_rfl) (by decide) (by decide))
theorem zs105 : zsT Proofs.Tryd.prog 105 = some [.pointer none, .pointer none, .pointer none, .string ⟨([] : List UInt8).toArray⟩] := by kernel_rfl
theorem sh107 : shp Proofs.Tryd.prog 107 = .struct [(0, 0, true)] 0 := by kernel_rfl
theorem zt107 : zeroT Proofs.Tryd.prog 107 = some [] := by kernel_rfl
theorem zs107 : zsT Proofs.Tryd.prog 107 = some [] := by kernel_rfl
theorem sh108 : shp Proofs.Tryd.prog 108 = .struct [(0, 0, true)] 0 := by kernel_rfl
theorem zt108 : zeroT Proofs.Tryd.prog 108 = some [] := by kernel_rfl
theorem zs108 : zsT Proofs.Tryd.prog 108 = some [] := by kernel_rfl
theorem sh109 : shp Proofs.Tryd.prog 109 = .int .u8 := by kernel_rfl
theorem so109 : szOk Proofs.Tryd.prog 109 = True := eq_true (szOk_of (n := 1) sh109 (by kernel_rfl) (by decide) (by decide))
theorem zs109 : zsT Proofs.Tryd.prog 109 = some [.int .u8 0] := by kernel_rfl
theorem sh110 : shp Proofs.Tryd.prog 110 = .int .u8 := by kernel_rfl
theorem so110 : szOk Proofs.Tryd.prog 110 = True := eq_true (szOk_of (n := 1) sh110 (by kernel_rfl) (by decide) (by decide))
theorem zs110 : zsT Proofs.Tryd.prog 110 = some [.int .u8 0] := by kernel_rfl
theorem sh112 : shp Proofs.Tryd.prog 112 = .int .i32 := by kernel_rfl
theorem so112 : szOk Proofs.Tryd.prog 112 = True := eq_true (szOk_of (n := 1) sh112 (by kernel_rfl) (by decide) (by decide))
theorem zs112 : zsT Proofs.Tryd.prog 112 = some [.int .i32 0] := by kernel_rfl
theorem sh113 : shp Proofs.Tryd.prog 113 = .int .i32 := by kernel_rfl
theorem so113 : szOk Proofs.Tryd.prog 113 = True := eq_true (szOk_of (n := 1) sh113 (by kernel_rfl) (by decide) (by decide))
theorem zs113 : zsT Proofs.Tryd.prog 113 = some [.int .i32 0] := by kernel_rfl
theorem sh114 : shp Proofs.Tryd.prog 114 = .struct [(0, 1, false), (1, 1, false), (2, 1, false), (3, 1, false), (4, 1, false), (5, 1, false), (6, 1, false), (7, 1, false), (8, 1, false), (9, 1, false), (10, 1, false)] 11 := by kernel_rfl
theorem zt114 : zeroT Proofs.Tryd.prog 114 = some [.int .u64 0, .int .u64 0, .int .u32 0, .int .u8 0, .int .u8 0, .int .u8 0, .int .u8 0, .nilFunc, .pointer none, .int .i32 0, .int .i32 0] := by kernel_rfl
theorem so114 : szOk Proofs.Tryd.prog 114 = True := eq_true (szOk_of (n := 11) sh114 (by kernel_rfl) (by decide) (by decide))
theorem sh115 : shp Proofs.Tryd.prog 115 = .struct [(0, 1, false), (1, 1, false), (2, 1, false), (3, 1, false), (4, 1, false), (5, 1, false), (6, 1, false), (7, 1, false), (8, 1, false), (9, 1, false), (10, 1, false)] 11 := by kernel_rfl
theorem zt115 : zeroT Proofs.Tryd.prog 115 = some [.int .u64 0, .int .u64 0, .int .u32 0, .int .u8 0, .int .u8 0, .int .u8 0, .int .u8 0, .nilFunc, .pointer none, .int .i32 0, .int .i32 0] := by kernel_rfl
theorem so115 : szOk Proofs.Tryd.prog 115 = True := eq_true (szOk_of (n := 11) sh115 (by kernel_rfl) (by decide) (by decide))
theorem eq38 : eqT Proofs.Tryd.prog 38 = some [.int .i64, .int .i64, .int .i64] := by kernel_rfl
theorem shs : ((((((shp Proofs.Tryd.prog 2 = .int .i64) ∧ (shp Proofs.Tryd.prog 3 = .int .i64)) ∧ ((shp Proofs.Tryd.prog 4 = .bool) ∧ (shp Proofs.Tryd.prog 5 = .int .u8))) ∧ (((shp Proofs.Tryd.prog 6 = .int .u8) ∧ (shp Proofs.Tryd.prog 7 = .struct [(0, 1, false), (1, 1, false), (2, 1, false), (3, 1, false)] 4)) ∧ ((shp Proofs.Tryd.prog 8 = .struct [(0, 1, false), (1, 1, false), (2, 1, false), (3, 1, false)] 4) ∧ ((shp Proofs.Tryd.prog 9 = .str) ∧ (shp Proofs.Tryd.prog 10 = .str))))) ∧ ((((shp Proofs.Tryd.prog 11 = .str) ∧ (shp Proofs.Tryd.prog 12 = .int .u64)) ∧ ((shp Proofs.Tryd.prog 13 = .struct [(0, 1, false), (1, 1, false)] 2) ∧ ((shp Proofs.Tryd.prog 14 = .struct [(0, 1, false), (1, 1, false)] 2) ∧ (shp Proofs.Tryd.prog 18 = .struct [(0, 1, false)] 1)))) ∧ (((shp Proofs.Tryd.prog 19 = .struct [(0, 1, false)] 1) ∧ (shp Proofs.Tryd.prog 21 = .int .i32)) ∧ ((shp Proofs.Tryd.prog 22 = .int .i64) ∧ ((shp Proofs.Tryd.prog 28 = .slice 38 3 true) ∧ (shp Proofs.Tryd.prog 36 = .slice 5 1 false)))))) ∧ (((((shp Proofs.Tryd.prog 37 = .struct [(0, 1, false), (1, 1, false), (2, 1, false)] 3) ∧ (shp Proofs.Tryd.prog 38 = .struct [(0, 1, false), (1, 1, false), (2, 1, false)] 3)) ∧ ((shp Proofs.Tryd.prog 53 = .struct [(0, 1, false), (1, 1, false)] 2) ∧ (shp Proofs.Tryd.prog 54 = .struct [(0, 1, false), (1, 1, false)] 2))) ∧ (((shp Proofs.Tryd.prog 66 = .int .u64) ∧ (shp Proofs.Tryd.prog 79 = .int .u32)) ∧ ((shp Proofs.Tryd.prog 82 = .int .u64) ∧ ((shp Proofs.Tryd.prog 101 = .struct [(0, 1, false), (1, 1, false)] 2) ∧ (shp Proofs.Tryd.prog 102 = .struct [(0, 1, false), (1, 1, false)] 2))))) ∧ ((((shp Proofs.Tryd.prog 104 = .struct [(0, 1, false), (1, 1, false), (2, 1, false), (3, 1, false)] 4) ∧ (shp Proofs.Tryd.prog 105 = .struct [(0, 1, false), (1, 1, false), (2, 1, false), (3, 1, false)] 4)) ∧ ((shp Proofs.Tryd.prog 107 = .struct [(0, 0, true)] 0) ∧ ((shp Proofs.Tryd.prog 108 = .struct [(0, 0, true)] 0) ∧ (shp Proofs.Tryd.prog 109 = .int .u8)))) ∧ (((shp Proofs.Tryd.prog 110 = .int .u8) ∧ (shp Proofs.Tryd.prog 112 = .int .i32)) ∧ ((shp Proofs.Tryd.prog 113 = .int .i32) ∧ ((shp Proofs.Tryd.prog 114 = .struct [(0, 1, false), (1, 1, false), (2, 1, false), (3, 1, false), (4, 1, false), (5, 1, false), (6, 1, false), (7, 1, false), (8, 1, false), (9, 1, false), (10, 1, false)] 11) ∧ (shp Proofs.Tryd.prog 115 = .struct [(0, 1, false), (1, 1, false), (2, 1, false), (3, 1, false), (4, 1, false), (5, 1, false), (6, 1, false), (7, 1, false), (8, 1, false), (9, 1, false), (10, 1, false)] 11))))))) :=
  ⟨⟨⟨⟨⟨sh2, sh3⟩, ⟨sh4, sh5⟩⟩, ⟨⟨sh6, sh7⟩, ⟨sh8, ⟨sh9, sh10⟩⟩⟩⟩, ⟨⟨⟨sh11, sh12⟩, ⟨sh13, ⟨sh14, sh18⟩⟩⟩, ⟨⟨sh19, sh21⟩, ⟨sh22, ⟨sh28, sh36⟩⟩⟩⟩⟩, ⟨⟨⟨⟨sh37, sh38⟩, ⟨sh53, sh54⟩⟩, ⟨⟨sh66, sh79⟩, ⟨sh82, ⟨sh101, sh102⟩⟩⟩⟩, ⟨⟨⟨sh104, sh105⟩, ⟨sh107, ⟨sh108, sh109⟩⟩⟩, ⟨⟨sh110, sh112⟩, ⟨sh113, ⟨sh114, sh115⟩⟩⟩⟩⟩⟩
theorem zts : (((((zeroT Proofs.Tryd.prog 7 = some [.int .i64 0, .int .i64 0, .bool false, .int .u8 0]) ∧ (zeroT Proofs.Tryd.prog 8 = some [.int .i64 0, .int .i64 0, .bool false, .int .u8 0])) ∧ ((zeroT Proofs.Tryd.prog 13 = some [.string ⟨([] : List UInt8).toArray⟩, .int .u64 0]) ∧ (zeroT Proofs.Tryd.prog 14 = some [.string ⟨([] : List UInt8).toArray⟩, .int .u64 0]))) ∧ (((zeroT Proofs.Tryd.prog 18 = some [.pointer none]) ∧ (zeroT Proofs.Tryd.prog 19 = some [.pointer none])) ∧ ((zeroT Proofs.Tryd.prog 37 = some [.int .i64 0, .int .i64 0, .int .i64 0]) ∧ ((zeroT Proofs.Tryd.prog 38 = some [.int .i64 0, .int .i64 0, .int .i64 0]) ∧ (zeroT Proofs.Tryd.prog 53 = some [.pointer none, .slice none 0 0]))))) ∧ ((((zeroT Proofs.Tryd.prog 54 = some [.pointer none, .slice none 0 0]) ∧ (zeroT Proofs.Tryd.prog 101 = some [.int .u8 0, .int .u8 0])) ∧ ((zeroT Proofs.Tryd.prog 102 = some [.int .u8 0, .int .u8 0]) ∧ (zeroT Proofs.Tryd.prog 104 = some [.pointer none, .pointer none, .pointer none, .string ⟨([] : List UInt8).toArray⟩]))) ∧ (((zeroT Proofs.Tryd.prog 105 = some [.pointer none, .pointer none, .pointer none, .string ⟨([] : List UInt8).toArray⟩]) ∧ (zeroT Proofs.Tryd.prog 107 = some [])) ∧ ((zeroT Proofs.Tryd.prog 108 = some []) ∧ ((zeroT Proofs.Tryd.prog 114 = some [.int .u64 0, .int .u64 0, .int .u32 0, .int .u8 0, .int .u8 0, .int .u8 0, .int .u8 0, .nilFunc, .pointer none, .int .i32 0, .int .i32 0]) ∧ (zeroT Proofs.Tryd.prog 115 = some [.int .u64 0, .int .u64 0, .int .u32 0, .int .u8 0, .int .u8 0, .int .u8 0, .int .u8 0, .nilFunc, .pointer none, .int .i32 0, .int .i32 0])))))) :=
  ⟨⟨⟨⟨zt7, zt8⟩, ⟨zt13, zt14⟩⟩, ⟨⟨zt18, zt19⟩, ⟨zt37, ⟨zt38, zt53⟩⟩⟩⟩, ⟨⟨⟨zt54, zt101⟩, ⟨zt102, zt104⟩⟩, ⟨⟨zt105, zt107⟩, ⟨zt108, ⟨zt114, zt115⟩⟩⟩⟩⟩
theorem sos : ((((((szOk Proofs.Tryd.prog 2 = True) ∧ (szOk Proofs.Tryd.prog 3 = True)) ∧ ((szOk Proofs.Tryd.prog 4 = True) ∧ (szOk Proofs.Tryd.prog 5 = True))) ∧ (((szOk Proofs.Tryd.prog 6 = True) ∧ (szOk Proofs.Tryd.prog 7 = True)) ∧ ((szOk Proofs.Tryd.prog 8 = True) ∧ ((szOk Proofs.Tryd.prog 9 = True) ∧ (szOk Proofs.Tryd.prog 10 = True))))) ∧ ((((szOk Proofs.Tryd.prog 11 = True) ∧ (szOk Proofs.Tryd.prog 12 = True)) ∧ ((szOk Proofs.Tryd.prog 13 = True) ∧ (szOk Proofs.Tryd.prog 14 = True))) ∧ (((szOk Proofs.Tryd.prog 18 = True) ∧ (szOk Proofs.Tryd.prog 19 = True)) ∧ ((szOk Proofs.Tryd.prog 21 = True) ∧ ((szOk Proofs.Tryd.prog 22 = True) ∧ (szOk Proofs.Tryd.prog 28 = True)))))) ∧ (((((szOk Proofs.Tryd.prog 36 = True) ∧ (szOk Proofs.Tryd.prog 37 = True)) ∧ ((szOk Proofs.Tryd.prog 38 = True) ∧ (szOk Proofs.Tryd.prog 53 = True))) ∧ (((szOk Proofs.Tryd.prog 54 = True) ∧ (szOk Proofs.Tryd.prog 66 = True)) ∧ ((szOk Proofs.Tryd.prog 79 = True) ∧ ((szOk Proofs.Tryd.prog 82 = True) ∧ (szOk Proofs.Tryd.prog 101 = True))))) ∧ ((((szOk Proofs.Tryd.prog 102 = True) ∧ (szOk Proofs.Tryd.prog 104 = True)) ∧ ((szOk Proofs.Tryd.prog 105 = True) ∧ (szOk Proofs.Tryd.prog 109 = True))) ∧ (((szOk Proofs.Tryd.prog 110 = True) ∧ (szOk Proofs.Tryd.prog 112 = True)) ∧ ((szOk Proofs.Tryd.prog 113 = True) ∧ ((szOk Proofs.Tryd.prog 114 = True) ∧ (szOk Proofs.Tryd.prog 115 = True))))))) :=
  ⟨⟨⟨⟨⟨so2, so3⟩, ⟨so4, so5⟩⟩, ⟨⟨so6, so7⟩, ⟨so8, ⟨so9, so10⟩⟩⟩⟩, ⟨⟨⟨so11, so12⟩, ⟨so13, so14⟩⟩, ⟨⟨so18, so19⟩, ⟨so21, ⟨so22, so28⟩⟩⟩⟩⟩, ⟨⟨⟨⟨so36, so37⟩, ⟨so38, so53⟩⟩, ⟨⟨so54, so66⟩, ⟨so79, ⟨so82, so101⟩⟩⟩⟩, ⟨⟨⟨so102, so104⟩, ⟨so105, so109⟩⟩, ⟨⟨so110, so112⟩, ⟨so113, ⟨so114, so115⟩⟩⟩⟩⟩⟩
theorem sls : ((slT Proofs.Tryd.prog 28 = some (38, 3, 24, [.int .i64 0, .int .i64 0, .int .i64 0])) ∧ (slT Proofs.Tryd.prog 36 = some (5, 1, 1, [.int .u8 0]))) :=
  ⟨sl28, sl36⟩
theorem zss : ((((((zsT Proofs.Tryd.prog 2 = some [.int .i64 0]) ∧ (zsT Proofs.Tryd.prog 3 = some [.int .i64 0])) ∧ ((zsT Proofs.Tryd.prog 4 = some [.bool false]) ∧ (zsT Proofs.Tryd.prog 5 = some [.int .u8 0]))) ∧ (((zsT Proofs.Tryd.prog 6 = some [.int .u8 0]) ∧ (zsT Proofs.Tryd.prog 7 = some [.int .i64 0, .int .i64 0, .bool false, .int .u8 0])) ∧ ((zsT Proofs.Tryd.prog 8 = some [.int .i64 0, .int .i64 0, .bool false, .int .u8 0]) ∧ ((zsT Proofs.Tryd.prog 9 = some [.string ⟨([] : List UInt8).toArray⟩]) ∧ (zsT Proofs.Tryd.prog 10 = some [.string ⟨([] : List UInt8).toArray⟩]))))) ∧ ((((zsT Proofs.Tryd.prog 11 = some [.string ⟨([] : List UInt8).toArray⟩]) ∧ (zsT Proofs.Tryd.prog 12 = some [.int .u64 0])) ∧ ((zsT Proofs.Tryd.prog 13 = some [.string ⟨([] : List UInt8).toArray⟩, .int .u64 0]) ∧ (zsT Proofs.Tryd.prog 14 = some [.string ⟨([] : List UInt8).toArray⟩, .int .u64 0]))) ∧ (((zsT Proofs.Tryd.prog 18 = some [.pointer none]) ∧ (zsT Proofs.Tryd.prog 19 = some [.pointer none])) ∧ ((zsT Proofs.Tryd.prog 21 = some [.int .i32 0]) ∧ ((zsT Proofs.Tryd.prog 22 = some [.int .i64 0]) ∧ (zsT Proofs.Tryd.prog 28 = some [.slice none 0 0])))))) ∧ (((((zsT Proofs.Tryd.prog 36 = some [.slice none 0 0]) ∧ (zsT Proofs.Tryd.prog 37 = some [.int .i64 0, .int .i64 0, .int .i64 0])) ∧ ((zsT Proofs.Tryd.prog 38 = some [.int .i64 0, .int .i64 0, .int .i64 0]) ∧ (zsT Proofs.Tryd.prog 53 = some [.pointer none, .slice none 0 0]))) ∧ (((zsT Proofs.Tryd.prog 54 = none) ∧ (zsT Proofs.Tryd.prog 66 = some [.int .u64 0])) ∧ ((zsT Proofs.Tryd.prog 79 = some [.int .u32 0]) ∧ ((zsT Proofs.Tryd.prog 82 = some [.int .u64 0]) ∧ (zsT Proofs.Tryd.prog 101 = some [.int .u8 0, .int .u8 0]))))) ∧ ((((zsT Proofs.Tryd.prog 102 = some [.int .u8 0, .int .u8 0]) ∧ (zsT Proofs.Tryd.prog 104 = some [.pointer none, .pointer none, .pointer none, .string ⟨([] : List UInt8).toArray⟩])) ∧ ((zsT Proofs.Tryd.prog 105 = some [.pointer none, .pointer none, .pointer none, .string ⟨([] : List UInt8).toArray⟩]) ∧ (zsT Proofs.Tryd.prog 107 = some []))) ∧ (((zsT Proofs.Tryd.prog 108 = some []) ∧ (zsT Proofs.Tryd.prog 109 = some [.int .u8 0])) ∧ ((zsT Proofs.Tryd.prog 110 = some [.int .u8 0]) ∧ ((zsT Proofs.Tryd.prog 112 = some [.int .i32 0]) ∧ (zsT Proofs.Tryd.prog 113 = some [.int .i32 0]))))))) :=
  ⟨⟨⟨⟨⟨zs2, zs3⟩, ⟨zs4, zs5⟩⟩, ⟨⟨zs6, zs7⟩, ⟨zs8, ⟨zs9, zs10⟩⟩⟩⟩, ⟨⟨⟨zs11, zs12⟩, ⟨zs13, zs14⟩⟩, ⟨⟨zs18, zs19⟩, ⟨zs21, ⟨zs22, zs28⟩⟩⟩⟩⟩, ⟨⟨⟨⟨zs36, zs37⟩, ⟨zs38, zs53⟩⟩, ⟨⟨zs54, zs66⟩, ⟨zs79, ⟨zs82, zs101⟩⟩⟩⟩, ⟨⟨⟨zs102, zs104⟩, ⟨zs105, zs107⟩⟩, ⟨⟨zs108, zs109⟩, ⟨zs110, ⟨zs112, zs113⟩⟩⟩⟩⟩⟩
theorem eqs : (eqT Proofs.Tryd.prog 38 = some [.int .i64, .int .i64, .int .i64]) :=
  eq38
end Go.X
