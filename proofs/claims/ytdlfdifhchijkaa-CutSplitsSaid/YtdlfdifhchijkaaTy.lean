/- The shapes of the types of this translation. Conditions: none. -/
import Derived.Test.YtdlfdifhchijkaaProg
import Derived.Test.YtdlfdifhchijkaaFwB
import Derived.KernelRfl
set_option linter.unusedVariables false
namespace Go.X
open Go
theorem sh2 : shp Proofs.Try.prog 2 = .int .i64 := by kernel_rfl
theorem so2 : szOk Proofs.Try.prog 2 = True := eq_true (szOk_of (n := 1) sh2 (by kernel_rfl) (by decide) (by decide))
theorem zs2 : zsT Proofs.Try.prog 2 = some [.int .i64 0] := by kernel_rfl
theorem sh3 : shp Proofs.Try.prog 3 = .int .i64 := by kernel_rfl
theorem so3 : szOk Proofs.Try.prog 3 = True := eq_true (szOk_of (n := 1) sh3 (by kernel_rfl) (by decide) (by decide))
theorem zs3 : zsT Proofs.Try.prog 3 = some [.int .i64 0] := by kernel_rfl
theorem sh4 : shp Proofs.Try.prog 4 = .bool := by kernel_rfl
theorem so4 : szOk Proofs.Try.prog 4 = True := eq_true (szOk_of (n := 1) sh4 (by kernel_rfl) (by decide) (by decide))
theorem zs4 : zsT Proofs.Try.prog 4 = some [.bool false] := by kernel_rfl
theorem sh5 : shp Proofs.Try.prog 5 = .int .u8 := by kernel_rfl
theorem so5 : szOk Proofs.Try.prog 5 = True := eq_true (szOk_of (n := 1) sh5 (by kernel_rfl) (by decide) (by decide))
theorem zs5 : zsT Proofs.Try.prog 5 = some [.int .u8 0] := by kernel_rfl
theorem sh6 : shp Proofs.Try.prog 6 = .int .u8 := by kernel_rfl
theorem so6 : szOk Proofs.Try.prog 6 = True := eq_true (szOk_of (n := 1) sh6 (by kernel_rfl) (by decide) (by decide))
theorem zs6 : zsT Proofs.Try.prog 6 = some [.int .u8 0] := by kernel_rfl
theorem sh7 : shp Proofs.Try.prog 7 = .struct [(0, 1, false), (1, 1, false), (2, 1, false), (3, 1, false)] 4 := by kernel_rfl
theorem zt7 : zeroT Proofs.Try.prog 7 = some [.int .i64 0, .int .i64 0, .bool false, .int .u8 0] := by kernel_rfl
theorem so7 : szOk Proofs.Try.prog 7 = True := eq_true (szOk_of (n := 4) sh7 (by kernel_rfl) (by decide) (by decide))
theorem zs7 : zsT Proofs.Try.prog 7 = some [.int .i64 0, .int .i64 0, .bool false, .int .u8 0] := by kernel_rfl
theorem sh8 : shp Proofs.Try.prog 8 = .struct [(0, 1, false), (1, 1, false), (2, 1, false), (3, 1, false)] 4 := by kernel_rfl
theorem zt8 : zeroT Proofs.Try.prog 8 = some [.int .i64 0, .int .i64 0, .bool false, .int .u8 0] := by kernel_rfl
theorem so8 : szOk Proofs.Try.prog 8 = True := eq_true (szOk_of (n := 4) sh8 (by kernel_rfl) (by decide) (by decide))
theorem zs8 : zsT Proofs.Try.prog 8 = some [.int .i64 0, .int .i64 0, .bool false, .int .u8 0] := by kernel_rfl
theorem sh9 : shp Proofs.Try.prog 9 = .str := by kernel_rfl
theorem so9 : szOk Proofs.Try.prog 9 = True := eq_true (szOk_of (n := 1) sh9 (by kernel_rfl) (by decide) (by decide))
theorem zs9 : zsT Proofs.Try.prog 9 = some [.string ⟨([] : List UInt8).toArray⟩] := by kernel_rfl
theorem sh10 : shp Proofs.Try.prog 10 = .str := by kernel_rfl
theorem so10 : szOk Proofs.Try.prog 10 = True := eq_true (szOk_of (n := 1) sh10 (by kernel_rfl) (by decide) (by decide))
theorem zs10 : zsT Proofs.Try.prog 10 = some [.string ⟨([] : List UInt8).toArray⟩] := by kernel_rfl
theorem sh11 : shp Proofs.Try.prog 11 = .str := by kernel_rfl
theorem so11 : szOk Proofs.Try.prog 11 = True := eq_true (szOk_of (n := 1) sh11 (by kernel_rfl) (by decide) (by decide))
theorem zs11 : zsT Proofs.Try.prog 11 = some [.string ⟨([] : List UInt8).toArray⟩] := by kernel_rfl
theorem sh12 : shp Proofs.Try.prog 12 = .int .u64 := by kernel_rfl
theorem so12 : szOk Proofs.Try.prog 12 = True := eq_true (szOk_of (n := 1) sh12 (by kernel_rfl) (by decide) (by decide))
theorem zs12 : zsT Proofs.Try.prog 12 = some [.int .u64 0] := by kernel_rfl
theorem sh13 : shp Proofs.Try.prog 13 = .struct [(0, 1, false), (1, 1, false)] 2 := by kernel_rfl
theorem zt13 : zeroT Proofs.Try.prog 13 = some [.string ⟨([] : List UInt8).toArray⟩, .int .u64 0] := by kernel_rfl
theorem so13 : szOk Proofs.Try.prog 13 = True := eq_true (szOk_of (n := 2) sh13 (by kernel_rfl) (by decide) (by decide))
theorem zs13 : zsT Proofs.Try.prog 13 = some [.string ⟨([] : List UInt8).toArray⟩, .int .u64 0] := by kernel_rfl
theorem sh14 : shp Proofs.Try.prog 14 = .struct [(0, 1, false), (1, 1, false)] 2 := by kernel_rfl
theorem zt14 : zeroT Proofs.Try.prog 14 = some [.string ⟨([] : List UInt8).toArray⟩, .int .u64 0] := by kernel_rfl
theorem so14 : szOk Proofs.Try.prog 14 = True := eq_true (szOk_of (n := 2) sh14 (by kernel_rfl) (by decide) (by decide))
theorem zs14 : zsT Proofs.Try.prog 14 = some [.string ⟨([] : List UInt8).toArray⟩, .int .u64 0] := by kernel_rfl
theorem sh18 : shp Proofs.Try.prog 18 = .struct [(0, 1, false)] 1 := by kernel_rfl
theorem zt18 : zeroT Proofs.Try.prog 18 = some [.pointer none] := by kernel_rfl
theorem so18 : szOk Proofs.Try.prog 18 = True := eq_true (szOk_of (n := 1) sh18 (by kernel_rfl) (by decide) (by decide))
theorem zs18 : zsT Proofs.Try.prog 18 = some [.pointer none] := by kernel_rfl
theorem sh19 : shp Proofs.Try.prog 19 = .struct [(0, 1, false)] 1 := by kernel_rfl
theorem zt19 : zeroT Proofs.Try.prog 19 = some [.pointer none] := by kernel_rfl
theorem so19 : szOk Proofs.Try.prog 19 = True := eq_true (szOk_of (n := 1) sh19 (by kernel_rfl) (by decide) (by decide))
theorem zs19 : zsT Proofs.Try.prog 19 = some [.pointer none] := by kernel_rfl
theorem sh21 : shp Proofs.Try.prog 21 = .int .i32 := by kernel_rfl
theorem so21 : szOk Proofs.Try.prog 21 = True := eq_true (szOk_of (n := 1) sh21 (by kernel_rfl) (by decide) (by decide))
theorem zs21 : zsT Proofs.Try.prog 21 = some [.int .i32 0] := by kernel_rfl
theorem sh22 : shp Proofs.Try.prog 22 = .int .i64 := by kernel_rfl
theorem so22 : szOk Proofs.Try.prog 22 = True := eq_true (szOk_of (n := 1) sh22 (by kernel_rfl) (by decide) (by decide))
theorem zs22 : zsT Proofs.Try.prog 22 = some [.int .i64 0] := by kernel_rfl
theorem sh23 : shp Proofs.Try.prog 23 = .slice 22 1 false := by kernel_rfl
theorem so23 : szOk Proofs.Try.prog 23 = True := eq_true (szOk_of (n := 1) sh23 (by kernel_rfl) (by decide) (by decide))
theorem sl23 : slT Proofs.Try.prog 23 = some (22, 1, 8, [.int .i64 0]) := by kernel_rfl
theorem zs23 : zsT Proofs.Try.prog 23 = some [.slice none 0 0] := by kernel_rfl
theorem sh34 : shp Proofs.Try.prog 34 = .slice 3 1 false := by kernel_rfl
theorem so34 : szOk Proofs.Try.prog 34 = True := eq_true (szOk_of (n := 1) sh34 (by kernel_rfl) (by decide) (by decide))
theorem sl34 : slT Proofs.Try.prog 34 = some (3, 1, 8, [.int .i64 0]) := by kernel_rfl
theorem zs34 : zsT Proofs.Try.prog 34 = some [.slice none 0 0] := by kernel_rfl
theorem sh35 : shp Proofs.Try.prog 35 = .slice 9 1 false := by kernel_rfl
theorem so35 : szOk Proofs.Try.prog 35 = True := eq_true (szOk_of (n := 1) sh35 (by kernel_rfl) (by decide) (by decide))
theorem sl35 : slT Proofs.Try.prog 35 = some (9, 1, 16, [.string ⟨([] : List UInt8).toArray⟩]) := by kernel_rfl
theorem zs35 : zsT Proofs.Try.prog 35 = some [.slice none 0 0] := by kernel_rfl
theorem sh46 : shp Proofs.Try.prog 46 = .slice 4 1 false := by kernel_rfl
theorem so46 : szOk Proofs.Try.prog 46 = True := eq_true (szOk_of (n := 1) sh46 (by kernel_rfl) (by decide) (by decide))
theorem sl46 : slT Proofs.Try.prog 46 = some (4, 1, 1, [.bool false]) := by kernel_rfl
theorem zs46 : zsT Proofs.Try.prog 46 = some [.slice none 0 0] := by kernel_rfl
theorem sh51 : shp Proofs.Try.prog 51 = .slice 56 2 true := by kernel_rfl
theorem so51 : szOk Proofs.Try.prog 51 = True := eq_true (szOk_of (n := 1) sh51 (by kernel_rfl) (by decide) (by decide))
theorem sl51 : slT Proofs.Try.prog 51 = some (56, 2, 16, [.bool false, .int .i64 0]) := by kernel_rfl
theorem zs51 : zsT Proofs.Try.prog 51 = some [.slice none 0 0] := by kernel_rfl
theorem sh55 : shp Proofs.Try.prog 55 = .struct [(0, 1, false), (1, 1, false)] 2 := by kernel_rfl
theorem zt55 : zeroT Proofs.Try.prog 55 = some [.bool false, .int .i64 0] := by kernel_rfl
theorem so55 : szOk Proofs.Try.prog 55 = True := eq_true (szOk_of (n := 2) sh55 (by kernel_rfl) (by decide) (by decide))
theorem zs55 : zsT Proofs.Try.prog 55 = some [.bool false, .int .i64 0] := by kernel_rfl
theorem sh56 : shp Proofs.Try.prog 56 = .struct [(0, 1, false), (1, 1, false)] 2 := by kernel_rfl
theorem zt56 : zeroT Proofs.Try.prog 56 = some [.bool false, .int .i64 0] := by kernel_rfl
theorem so56 : szOk Proofs.Try.prog 56 = True := eq_true (szOk_of (n := 2) sh56 (by kernel_rfl) (by decide) (by decide))
theorem zs56 : zsT Proofs.Try.prog 56 = some [.bool false, .int .i64 0] := by kernel_rfl
theorem sh68 : shp Proofs.Try.prog 68 = .struct [(0, 1, false), (1, 1, false)] 2 := by kernel_rfl
theorem zt68 : zeroT Proofs.Try.prog 68 = some [.int .i64 0, .string ⟨([] : List UInt8).toArray⟩] := by kernel_rfl
theorem so68 : szOk Proofs.Try.prog 68 = True := eq_true (szOk_of (n := 2) sh68 (by kernel_rfl) (by decide) (by decide))
theorem zs68 : zsT Proofs.Try.prog 68 = some [.int .i64 0, .string ⟨([] : List UInt8).toArray⟩] := by kernel_rfl
theorem sh69 : shp Proofs.Try.prog 69 = .struct [(0, 1, false), (1, 1, false)] 2 := by kernel_rfl
theorem zt69 : zeroT Proofs.Try.prog 69 = some [.int .i64 0, .string ⟨([] : List UInt8).toArray⟩] := by kernel_rfl
theorem so69 : szOk Proofs.Try.prog 69 = True := eq_true (szOk_of (n := 2) sh69 (by kernel_rfl) (by decide) (by decide))
theorem zs69 : zsT Proofs.Try.prog 69 = some [.int .i64 0, .string ⟨([] : List UInt8).toArray⟩] := by kernel_rfl
theorem sh76 : shp Proofs.Try.prog 76 = .slice 199 2 true := by kernel_rfl
theorem so76 : szOk Proofs.Try.prog 76 = True := eq_true (szOk_of (n := 1) sh76 (by kernel_rfl) (by decide) (by decide))
theorem sl76 : slT Proofs.Try.prog 76 = some (199, 2, 16, [.int .i64 0, .int .i64 0]) := by kernel_rfl
theorem zs76 : zsT Proofs.Try.prog 76 = some [.slice none 0 0] := by kernel_rfl
theorem sh77 : shp Proofs.Try.prog 77 = .struct [(0, 1, false), (1, 1, false), (2, 1, false), (3, 1, false)] 4 := by kernel_rfl
theorem zt77 : zeroT Proofs.Try.prog 77 = some [.int .i64 0, .slice none 0 0, .int .i64 0, .int .i64 0] := by kernel_rfl
theorem so77 : szOk Proofs.Try.prog 77 = True := eq_true (szOk_of (n := 4) sh77 (by kernel_rfl) (by decide) (by decide))
theorem zs77 : zsT Proofs.Try.prog 77 = some [.int .i64 0, .slice none 0 0, .int .i64 0, .int .i64 0] := by kernel_rfl
theorem sh78 : shp Proofs.Try.prog 78 = .struct [(0, 1, false), (1, 1, false), (2, 1, false), (3, 1, false)] 4 := by kernel_rfl
theorem zt78 : zeroT Proofs.Try.prog 78 = some [.int .i64 0, .slice none 0 0, .int .i64 0, .int .i64 0] := by kernel_rfl
theorem so78 : szOk Proofs.Try.prog 78 = True := eq_true (szOk_of (n := 4) sh78 (by kernel_rfl) (by decide) (by decide))
theorem zs78 : zsT Proofs.Try.prog 78 = some [.int .i64 0, .slice none 0 0, .int .i64 0, .int .i64 0] := by kernel_rfl
theorem sh85 : shp Proofs.Try.prog 85 = .slice 93 1 false := by kernel_rfl
theorem so85 : szOk Proofs.Try.prog 85 = True := eq_true (szOk_of (n := 1) sh85 (by kernel_rfl) (by decide) (by decide))
theorem sl85 : slT Proofs.Try.prog 85 = some (93, 1, 24, [.slice none 0 0]) := by kernel_rfl
theorem zs85 : zsT Proofs.Try.prog 85 = some [.slice none 0 0] := by kernel_rfl
theorem sh86 : shp Proofs.Try.prog 86 = .struct [(0, 1, false), (1, 1, false), (2, 1, false)] 3 := by kernel_rfl
theorem zt86 : zeroT Proofs.Try.prog 86 = some [.bool false, .int .i64 0, .int .i64 0] := by kernel_rfl
theorem so86 : szOk Proofs.Try.prog 86 = True := eq_true (szOk_of (n := 3) sh86 (by kernel_rfl) (by decide) (by decide))
theorem zs86 : zsT Proofs.Try.prog 86 = some [.bool false, .int .i64 0, .int .i64 0] := by kernel_rfl
theorem sh87 : shp Proofs.Try.prog 87 = .struct [(0, 1, false), (1, 1, false), (2, 1, false)] 3 := by kernel_rfl
theorem zt87 : zeroT Proofs.Try.prog 87 = some [.bool false, .int .i64 0, .int .i64 0] := by kernel_rfl
theorem so87 : szOk Proofs.Try.prog 87 = True := eq_true (szOk_of (n := 3) sh87 (by kernel_rfl) (by decide) (by decide))
theorem zs87 : zsT Proofs.Try.prog 87 = some [.bool false, .int .i64 0, .int .i64 0] := by kernel_rfl
theorem sh88 : shp Proofs.Try.prog 88 = .struct [(0, 3, true), (3, 1, false)] 4 := by kernel_rfl
theorem zt88 : zeroT Proofs.Try.prog 88 = some [.bool false, .int .i64 0, .int .i64 0, .string ⟨([] : List UInt8).toArray⟩] := by kernel_rfl
theorem so88 : szOk Proofs.Try.prog 88 = True := eq_true (szOk_of (n := 4) sh88 (by kernel_rfl) (by decide) (by decide))
theorem zs88 : zsT Proofs.Try.prog 88 = some [.bool false, .int .i64 0, .int .i64 0, .string ⟨([] : List UInt8).toArray⟩] := by kernel_rfl
theorem sh89 : shp Proofs.Try.prog 89 = .struct [(0, 3, true), (3, 1, false)] 4 := by kernel_rfl
theorem zt89 : zeroT Proofs.Try.prog 89 = some [.bool false, .int .i64 0, .int .i64 0, .string ⟨([] : List UInt8).toArray⟩] := by kernel_rfl
theorem so89 : szOk Proofs.Try.prog 89 = True := eq_true (szOk_of (n := 4) sh89 (by kernel_rfl) (by decide) (by decide))
theorem zs89 : zsT Proofs.Try.prog 89 = some [.bool false, .int .i64 0, .int .i64 0, .string ⟨([] : List UInt8).toArray⟩] := by kernel_rfl
theorem sh93 : shp Proofs.Try.prog 93 = .slice 89 4 true := by kernel_rfl
theorem so93 : szOk Proofs.Try.prog 93 = True := eq_true (szOk_of (n := 1) sh93 (by kernel_rfl) (by decide) (by decide))
theorem sl93 : slT Proofs.Try.prog 93 = some (89, 4, 40, [.bool false, .int .i64 0, .int .i64 0, .string ⟨([] : List UInt8).toArray⟩]) := by kernel_rfl
theorem zs93 : zsT Proofs.Try.prog 93 = some [.slice none 0 0] := by kernel_rfl
theorem sh105 : shp Proofs.Try.prog 105 = .slice 178 4 true := by kernel_rfl
theorem so105 : szOk Proofs.Try.prog 105 = True := eq_true (szOk_of (n := 1) sh105 (by kernel_rfl) (by decide) (by decide))
theorem sl105 : slT Proofs.Try.prog 105 = some (178, 4, 40, [.int .i64 0, .int .i64 0, .string ⟨([] : List UInt8).toArray⟩, .int .i64 0]) := by kernel_rfl
theorem zs105 : zsT Proofs.Try.prog 105 = some [.slice none 0 0] := by kernel_rfl
theorem sh106 : shp Proofs.Try.prog 106 = .slice 214 2 true := by kernel_rfl
theorem so106 : szOk Proofs.Try.prog 106 = True := eq_true (szOk_of (n := 1) sh106 (by kernel_rfl) (by decide) (by decide))
theorem sl106 : slT Proofs.Try.prog 106 = some (214, 2, 40, [.string ⟨([] : List UInt8).toArray⟩, .slice none 0 0]) := by kernel_rfl
theorem zs106 : zsT Proofs.Try.prog 106 = some [.slice none 0 0] := by kernel_rfl
theorem sh107 : shp Proofs.Try.prog 107 = .struct [(0, 1, false), (1, 1, false)] 2 := by kernel_rfl
theorem zt107 : zeroT Proofs.Try.prog 107 = some [.slice none 0 0, .slice none 0 0] := by kernel_rfl
theorem so107 : szOk Proofs.Try.prog 107 = True := eq_true (szOk_of (n := 2) sh107 (by kernel_rfl) (by decide) (by decide))
theorem zs107 : zsT Proofs.Try.prog 107 = some [.slice none 0 0, .slice none 0 0] := by kernel_rfl
theorem sh108 : shp Proofs.Try.prog 108 = .struct [(0, 1, false), (1, 1, false)] 2 := by kernel_rfl
theorem zt108 : zeroT Proofs.Try.prog 108 = some [.slice none 0 0, .slice none 0 0] := by kernel_rfl
theorem so108 : szOk Proofs.Try.prog 108 = True := eq_true (szOk_of (n := 2) sh108 (by kernel_rfl) (by decide) (by decide))
theorem zs108 : zsT Proofs.Try.prog 108 = some [.slice none 0 0, .slice none 0 0] := by kernel_rfl
theorem sh117 : shp Proofs.Try.prog 117 = .slice 119 2 true := by kernel_rfl
theorem so117 : szOk Proofs.Try.prog 117 = True := eq_true (szOk_of (n := 1) sh117 (by kernel_rfl) (by decide) (by decide))
theorem sl117 : slT Proofs.Try.prog 117 = some (119, 2, 16, [.int .i64 0, .int .i64 0]) := by kernel_rfl
theorem zs117 : zsT Proofs.Try.prog 117 = some [.slice none 0 0] := by kernel_rfl
theorem sh118 : shp Proofs.Try.prog 118 = .struct [(0, 1, false), (1, 1, false)] 2 := by kernel_rfl
theorem zt118 : zeroT Proofs.Try.prog 118 = some [.int .i64 0, .int .i64 0] := by kernel_rfl
theorem so118 : szOk Proofs.Try.prog 118 = True := eq_true (szOk_of (n := 2) sh118 (by kernel_rfl) (by decide) (by decide))
theorem zs118 : zsT Proofs.Try.prog 118 = some [.int .i64 0, .int .i64 0] := by kernel_rfl
theorem sh119 : shp Proofs.Try.prog 119 = .struct [(0, 1, false), (1, 1, false)] 2 := by kernel_rfl
theorem zt119 : zeroT Proofs.Try.prog 119 = some [.int .i64 0, .int .i64 0] := by kernel_rfl
theorem so119 : szOk Proofs.Try.prog 119 = True := eq_true (szOk_of (n := 2) sh119 (by kernel_rfl) (by decide) (by decide))
theorem zs119 : zsT Proofs.Try.prog 119 = some [.int .i64 0, .int .i64 0] := by kernel_rfl
theorem sh150 : shp Proofs.Try.prog 150 = .slice 155 3 true := by kernel_rfl
theorem so150 : szOk Proofs.Try.prog 150 = True := eq_true (szOk_of (n := 1) sh150 (by kernel_rfl) (by decide) (by decide))
theorem sl150 : slT Proofs.Try.prog 150 = some (155, 3, 24, [.int .i64 0, .int .i64 0, .int .i64 0]) := by kernel_rfl
theorem zs150 : zsT Proofs.Try.prog 150 = some [.slice none 0 0] := by kernel_rfl
theorem sh154 : shp Proofs.Try.prog 154 = .struct [(0, 1, false), (1, 1, false), (2, 1, false)] 3 := by kernel_rfl
theorem zt154 : zeroT Proofs.Try.prog 154 = some [.int .i64 0, .int .i64 0, .int .i64 0] := by kernel_rfl
theorem so154 : szOk Proofs.Try.prog 154 = True := eq_true (szOk_of (n := 3) sh154 (by kernel_rfl) (by decide) (by decide))
theorem zs154 : zsT Proofs.Try.prog 154 = some [.int .i64 0, .int .i64 0, .int .i64 0] := by kernel_rfl
theorem sh155 : shp Proofs.Try.prog 155 = .struct [(0, 1, false), (1, 1, false), (2, 1, false)] 3 := by kernel_rfl
theorem zt155 : zeroT Proofs.Try.prog 155 = some [.int .i64 0, .int .i64 0, .int .i64 0] := by kernel_rfl
theorem so155 : szOk Proofs.Try.prog 155 = True := eq_true (szOk_of (n := 3) sh155 (by kernel_rfl) (by decide) (by decide))
theorem zs155 : zsT Proofs.Try.prog 155 = some [.int .i64 0, .int .i64 0, .int .i64 0] := by kernel_rfl
theorem sh177 : shp Proofs.Try.prog 177 = .struct [(0, 1, false), (1, 1, false), (2, 1, false), (3, 1, false)] 4 := by kernel_rfl
theorem zt177 : zeroT Proofs.Try.prog 177 = some [.int .i64 0, .int .i64 0, .string ⟨([] : List UInt8).toArray⟩, .int .i64 0] := by kernel_rfl
theorem so177 : szOk Proofs.Try.prog 177 = True := eq_true (szOk_of (n := 4) sh177 (by kernel_rfl) (by decide) (by decide))
theorem zs177 : zsT Proofs.Try.prog 177 = some [.int .i64 0, .int .i64 0, .string ⟨([] : List UInt8).toArray⟩, .int .i64 0] := by kernel_rfl
theorem sh178 : shp Proofs.Try.prog 178 = .struct [(0, 1, false), (1, 1, false), (2, 1, false), (3, 1, false)] 4 := by kernel_rfl
theorem zt178 : zeroT Proofs.Try.prog 178 = some [.int .i64 0, .int .i64 0, .string ⟨([] : List UInt8).toArray⟩, .int .i64 0] := by kernel_rfl
theorem so178 : szOk Proofs.Try.prog 178 = True := eq_true (szOk_of (n := 4) sh178 (by kernel_rfl) (by decide) (by decide))
theorem zs178 : zsT Proofs.Try.prog 178 = some [.int .i64 0, .int .i64 0, .string ⟨([] : List UInt8).toArray⟩, .int .i64 0] := by kernel_rfl
theorem sh185 : shp Proofs.Try.prog 185 = .int .u64 := by kernel_rfl
theorem so185 : szOk Proofs.Try.prog 185 = True := eq_true (szOk_of (n := 1) sh185 (by kernel_rfl) (by decide) (by decide))
theorem zs185 : zsT Proofs.Try.prog 185 = some [.int .u64 0] := by kernel_rfl
theorem sh193 : shp Proofs.Try.prog 193 = .int .u64 := by kernel_rfl
theorem so193 : szOk Proofs.Try.prog 193 = True := eq_true (szOk_of (n := 1) sh193 (by kernel_rfl) (by decide) (by decide))
theorem zs193 : zsT Proofs.Try.prog 193 = some [.int .u64 0] := by kernel_rfl
theorem sh194 : shp Proofs.Try.prog 194 = .slice 5 1 false := by kernel_rfl
theorem so194 : szOk Proofs.Try.prog 194 = True := eq_true (szOk_of (n := 1) sh194 (by kernel_rfl) (by decide) (by decide))
theorem sl194 : slT Proofs.Try.prog 194 = some (5, 1, 1, [.int .u8 0]) := by kernel_rfl
theorem zs194 : zsT Proofs.Try.prog 194 = some [.slice none 0 0] := by kernel_rfl
theorem sh198 : shp Proofs.Try.prog 198 = .struct [(0, 1, false), (1, 1, false)] 2 := by kernel_rfl
theorem zt198 : zeroT Proofs.Try.prog 198 = some [.int .i64 0, .int .i64 0] := by kernel_rfl
theorem so198 : szOk Proofs.Try.prog 198 = True := eq_true (szOk_of (n := 2) sh198 (by kernel_rfl) (by decide) (by decide))
theorem zs198 : zsT Proofs.Try.prog 198 = some [.int .i64 0, .int .i64 0] := by kernel_rfl
theorem sh199 : shp Proofs.Try.prog 199 = .struct [(0, 1, false), (1, 1, false)] 2 := by kernel_rfl
theorem zt199 : zeroT Proofs.Try.prog 199 = some [.int .i64 0, .int .i64 0] := by kernel_rfl
theorem so199 : szOk Proofs.Try.prog 199 = True := eq_true (szOk_of (n := 2) sh199 (by kernel_rfl) (by decide) (by decide))
theorem zs199 : zsT Proofs.Try.prog 199 = some [.int .i64 0, .int .i64 0] := by kernel_rfl
theorem sh206 : shp Proofs.Try.prog 206 = .slice 34 1 false := by kernel_rfl
theorem so206 : szOk Proofs.Try.prog 206 = True := eq_true (szOk_of (n := 1) sh206 (by kernel_rfl) (by decide) (by decide))
theorem sl206 : slT Proofs.Try.prog 206 = some (34, 1, 24, [.slice none 0 0]) := by kernel_rfl
theorem zs206 : zsT Proofs.Try.prog 206 = some [.slice none 0 0] := by kernel_rfl
theorem sh212 : shp Proofs.Try.prog 212 = .slice 87 3 true := by kernel_rfl
theorem so212 : szOk Proofs.Try.prog 212 = True := eq_true (szOk_of (n := 1) sh212 (by kernel_rfl) (by decide) (by decide))
theorem sl212 : slT Proofs.Try.prog 212 = some (87, 3, 24, [.bool false, .int .i64 0, .int .i64 0]) := by kernel_rfl
theorem zs212 : zsT Proofs.Try.prog 212 = some [.slice none 0 0] := by kernel_rfl
theorem sh213 : shp Proofs.Try.prog 213 = .struct [(0, 1, false), (1, 1, false)] 2 := by kernel_rfl
theorem zt213 : zeroT Proofs.Try.prog 213 = some [.string ⟨([] : List UInt8).toArray⟩, .slice none 0 0] := by kernel_rfl
theorem so213 : szOk Proofs.Try.prog 213 = True := eq_true (szOk_of (n := 2) sh213 (by kernel_rfl) (by decide) (by decide))
theorem zs213 : zsT Proofs.Try.prog 213 = some [.string ⟨([] : List UInt8).toArray⟩, .slice none 0 0] := by kernel_rfl
theorem sh214 : shp Proofs.Try.prog 214 = .struct [(0, 1, false), (1, 1, false)] 2 := by kernel_rfl
theorem zt214 : zeroT Proofs.Try.prog 214 = some [.string ⟨([] : List UInt8).toArray⟩, .slice none 0 0] := by kernel_rfl
theorem so214 : szOk Proofs.Try.prog 214 = True := eq_true (szOk_of (n := 2) sh214 (by kernel_rfl) (by decide) (by decide))
theorem zs214 : zsT Proofs.Try.prog 214 = some [.string ⟨([] : List UInt8).toArray⟩, .slice none 0 0] := by kernel_rfl
theorem sh219 : shp Proofs.Try.prog 219 = .slice 117 1 false := by kernel_rfl
theorem so219 : szOk Proofs.Try.prog 219 = True := eq_true (szOk_of (n := 1) sh219 (by kernel_rfl) (by decide) (by decide))
theorem sl219 : slT Proofs.Try.prog 219 = some (117, 1, 24, [.slice none 0 0]) := by kernel_rfl
theorem zs219 : zsT Proofs.Try.prog 219 = some [.slice none 0 0] := by kernel_rfl
theorem sh222 : shp Proofs.Try.prog 222 = .struct [(0, 1, false), (1, 1, false), (2, 1, false), (3, 1, false)] 4 := by kernel_rfl
theorem zt222 : zeroT Proofs.Try.prog 222 = some [.slice none 0 0, .slice none 0 0, .slice none 0 0, .int .i64 0] := by kernel_rfl
theorem so222 : szOk Proofs.Try.prog 222 = True := eq_true (szOk_of (n := 4) sh222 (by kernel_rfl) (by decide) (by decide))
theorem zs222 : zsT Proofs.Try.prog 222 = some [.slice none 0 0, .slice none 0 0, .slice none 0 0, .int .i64 0] := by kernel_rfl
theorem sh223 : shp Proofs.Try.prog 223 = .struct [(0, 1, false), (1, 1, false), (2, 1, false), (3, 1, false)] 4 := by kernel_rfl
theorem zt223 : zeroT Proofs.Try.prog 223 = some [.slice none 0 0, .slice none 0 0, .slice none 0 0, .int .i64 0] := by kernel_rfl
theorem so223 : szOk Proofs.Try.prog 223 = True := eq_true (szOk_of (n := 4) sh223 (by kernel_rfl) (by decide) (by decide))
theorem zs223 : zsT Proofs.Try.prog 223 = some [.slice none 0 0, .slice none 0 0, .slice none 0 0, .int .i64 0] := by kernel_rfl
theorem sh241 : shp Proofs.Try.prog 241 = .slice 46 1 false := by kernel_rfl
theorem so241 : szOk Proofs.Try.prog 241 = True := eq_true (szOk_of (n := 1) sh241 (by kernel_rfl) (by decide) (by decide))
theorem sl241 : slT Proofs.Try.prog 241 = some (46, 1, 24, [.slice none 0 0]) := by kernel_rfl
theorem zs241 : zsT Proofs.Try.prog 241 = some [.slice none 0 0] := by kernel_rfl
theorem sh245 : shp Proofs.Try.prog 245 = .slice 85 1 false := by kernel_rfl
theorem so245 : szOk Proofs.Try.prog 245 = True := eq_true (szOk_of (n := 1) sh245 (by kernel_rfl) (by decide) (by decide))
theorem sl245 : slT Proofs.Try.prog 245 = some (85, 1, 24, [.slice none 0 0]) := by kernel_rfl
theorem zs245 : zsT Proofs.Try.prog 245 = some [.slice none 0 0] := by kernel_rfl
theorem sh286 : shp Proofs.Try.prog 286 = .struct [(0, 1, false), (1, 1, false)] 2 := by kernel_rfl
theorem zt286 : zeroT Proofs.Try.prog 286 = some [.pointer none, .slice none 0 0] := by kernel_rfl
theorem so286 : szOk Proofs.Try.prog 286 = True := eq_true (szOk_of (n := 2) sh286 (by kernel_rfl) (by decide) (by decide))
theorem zs286 : zsT Proofs.Try.prog 286 = some [.pointer none, .slice none 0 0] := by kernel_rfl
theorem sh287 : shp Proofs.Try.prog 287 = .struct [(0, 1, false), (1, 1, false)] 2 := by kernel_rfl
theorem zt287 : zeroT Proofs.Try.prog 287 = some [.pointer none, .slice none 0 0] := by kernel_rfl
theorem so287 : szOk Proofs.Try.prog 287 = True := eq_true (szOk_of (n := 2) sh287 (by kernel_rfl) (by decide) (by decide))
theorem zs287 : zsT Proofs.Try.prog 287 = some [.pointer none, .slice none 0 0] := by kernel_rfl
theorem sh303 : shp Proofs.Try.prog 303 = .int .u64 := by kernel_rfl
theorem so303 : szOk Proofs.Try.prog 303 = True := eq_true (szOk_of (n := 1) sh303 (by kernel_rfl) (by decide) (by decide))
theorem zs303 : zsT Proofs.Try.prog 303 = some [.int .u64 0] := by kernel_rfl
theorem sh304 : shp Proofs.Try.prog 304 = .struct [(0, 1, false), (1, 1, false), (2, 1, false)] 3 := by kernel_rfl
theorem zt304 : zeroT Proofs.Try.prog 304 = some [.pointer none, .pointer none, .int .u64 0] := by kernel_rfl
theorem so304 : szOk Proofs.Try.prog 304 = True := eq_true (szOk_of (n := 3) sh304 (by kernel_rfl) (by decide) (by decide))
theorem zs304 : zsT Proofs.Try.prog 304 = some [.pointer none, .pointer none, .int .u64 0] := by kernel_rfl
theorem sh305 : shp Proofs.Try.prog 305 = .struct [(0, 1, false), (1, 1, false), (2, 1, false)] 3 := by kernel_rfl
theorem zt305 : zeroT Proofs.Try.prog 305 = some [.pointer none, .pointer none, .int .u64 0] := by kernel_rfl
theorem so305 : szOk Proofs.Try.prog 305 = True := eq_true (szOk_of (n := 3) sh305 (by kernel_rfl) (by decide) (by decide))
theorem zs305 : zsT Proofs.Try.prog 305 = some [.pointer none, .pointer none, .int .u64 0] := by kernel_rfl
theorem sh309 : shp Proofs.Try.prog 309 = .struct [(0, 1, false), (1, 1, false)] 2 := by kernel_rfl
theorem zt309 : zeroT Proofs.Try.prog 309 = some [.nilFunc, .nilFunc] := by kernel_rfl
theorem so309 : szOk Proofs.Try.prog 309 = True := eq_true (szOk_of (n := 2) sh309 (by kernel_rfl) (by decide) (by decide))
theorem sh310 : shp Proofs.Try.prog 310 = .struct [(0, 1, false), (1, 1, false)] 2 := by kernel_rfl
theorem zt310 : zeroT Proofs.Try.prog 310 = some [.nilFunc, .nilFunc] := by kernel_rfl
theorem so310 : szOk Proofs.Try.prog 310 = True := eq_true (szOk_of (n := 2) sh310 (by kernel_rfl) (by decide) (by decide))
theorem sh312 : shp Proofs.Try.prog 312 = .int .u32 := by kernel_rfl
theorem so312 : szOk Proofs.Try.prog 312 = True := eq_true (szOk_of (n := 1) sh312 (by kernel_rfl) (by decide) (by decide))
theorem zs312 : zsT Proofs.Try.prog 312 = some [.int .u32 0] := by kernel_rfl
theorem sh319 : shp Proofs.Try.prog 319 = .struct [(0, 1, false)] 1 := by kernel_rfl
theorem zt319 : zeroT Proofs.Try.prog 319 = some [.pointer none] := by kernel_rfl
theorem so319 : szOk Proofs.Try.prog 319 = True := eq_true (szOk_of (n := 1) sh319 (by kernel_rfl) (by decide) (by decide))
theorem zs319 : zsT Proofs.Try.prog 319 = some [.pointer none] := by kernel_rfl
theorem sh320 : shp Proofs.Try.prog 320 = .struct [(0, 1, false)] 1 := by kernel_rfl
theorem zt320 : zeroT Proofs.Try.prog 320 = some [.pointer none] := by kernel_rfl
theorem so320 : szOk Proofs.Try.prog 320 = True := eq_true (szOk_of (n := 1) sh320 (by kernel_rfl) (by decide) (by decide))
theorem zs320 : zsT Proofs.Try.prog 320 = some [.pointer none] := by kernel_rfl
theorem sh323 : shp Proofs.Try.prog 323 = .int .i64 := by kernel_rfl
theorem so323 : szOk Proofs.Try.prog 323 = True := eq_true (szOk_of (n := 1) sh323 (by kernel_rfl) (by decide) (by decide))
theorem zs323 : zsT Proofs.Try.prog 323 = some [.int .i64 0] := by kernel_rfl
theorem sh333 : shp Proofs.Try.prog 333 = .int .u64 := by kernel_rfl
theorem so333 : szOk Proofs.Try.prog 333 = True := eq_true (szOk_of (n := 1) sh333 (by kernel_rfl) (by decide) (by decide))
theorem zs333 : zsT Proofs.Try.prog 333 = some [.int .u64 0] := by kernel_rfl
theorem sh342 : shp Proofs.Try.prog 342 = .struct [(0, 1, false), (1, 1, false), (2, 1, false), (3, 1, false)] 4 := by kernel_rfl
theorem zt342 : zeroT Proofs.Try.prog 342 = some [.pointer none, .pointer none, .pointer none, .string ⟨([] : List UInt8).toArray⟩] := by kernel_rfl
theorem so342 : szOk Proofs.Try.prog 342 = True := eq_true (szOk_of (n := 4) sh342 (by kernel_rfl) (by decide) (by decide))
theorem zs342 : zsT Proofs.Try.prog 342 = some [.pointer none, .pointer none, .pointer none, .string ⟨([] : List UInt8).toArray⟩] := by kernel_rfl
theorem sh343 : shp Proofs.Try.prog 343 = .struct [(0, 1, false), (1, 1, false), (2, 1, false), (3, 1, false)] 4 := by kernel_rfl
theorem zt343 : zeroT Proofs.Try.prog 343 = some [.pointer none, .pointer none, .pointer none, .string ⟨([] : List UInt8).toArray⟩] := by kernel_rfl
theorem so343 : szOk Proofs.Try.prog 343 = True := eq_true (szOk_of (n := 4) sh343 (by kernel_rfl) (by decide) (by decide))
theorem zs343 : zsT Proofs.Try.prog 343 = some [.pointer none, .pointer none, .pointer none, .string ⟨([] : List UInt8).toArray⟩] := by kernel_rfl
theorem sh345 : shp Proofs.Try.prog 345 = .struct [(0, 0, true)] 0 := by kernel_rfl
theorem zt345 : zeroT Proofs.Try.prog 345 = some [] := by kernel_rfl
theorem zs345 : zsT Proofs.Try.prog 345 = some [] := by kernel_rfl
theorem sh346 : shp Proofs.Try.prog 346 = .struct [(0, 0, true)] 0 := by kernel_rfl
theorem zt346 : zeroT Proofs.Try.prog 346 = some [] := by kernel_rfl
theorem zs346 : zsT Proofs.Try.prog 346 = some [] := by kernel_rfl
theorem sh347 : shp Proofs.Try.prog 347 = .int .u8 := by kernel_rfl
theorem so347 : szOk Proofs.Try.prog 347 = True := eq_true (szOk_of (n := 1) sh347 (by kernel_rfl) (by decide) (by decide))
theorem zs347 : zsT Proofs.Try.prog 347 = some [.int .u8 0] := by kernel_rfl
theorem sh348 : shp Proofs.Try.prog 348 = .int .u8 := by kernel_rfl
theorem so348 : szOk Proofs.Try.prog 348 = True := eq_true (szOk_of (n := 1) sh348 (by kernel_rfl) (by decide) (by decide))
theorem zs348 : zsT Proofs.Try.prog 348 = some [.int .u8 0] := by kernel_rfl
theorem sh350 : shp Proofs.Try.prog 350 = .int .i32 := by kernel_rfl
theorem so350 : szOk Proofs.Try.prog 350 = True := eq_true (szOk_of (n := 1) sh350 (by kernel_rfl) (by decide) (by decide))
theorem zs350 : zsT Proofs.Try.prog 350 = some [.int .i32 0] := by kernel_rfl
theorem sh351 : shp Proofs.Try.prog 351 = .int .i32 := by kernel_rfl
theorem so351 : szOk Proofs.Try.prog 351 = True := eq_true (szOk_of (n := 1) sh351 (by kernel_rfl) (by decide) (by decide))
theorem zs351 : zsT Proofs.Try.prog 351 = some [.int .i32 0] := by kernel_rfl
theorem sh352 : shp Proofs.Try.prog 352 = .struct [(0, 1, false), (1, 1, false), (2, 1, false), (3, 1, false), (4, 1, false), (5, 1, false), (6, 1, false), (7, 1, false), (8, 1, false), (9, 1, false), (10, 1, false)] 11 := by kernel_rfl
theorem zt352 : zeroT Proofs.Try.prog 352 = some [.int .u64 0, .int .u64 0, .int .u32 0, .int .u8 0, .int .u8 0, .int .u8 0, .int .u8 0, .nilFunc, .pointer none, .int .i32 0, .int .i32 0] := by kernel_rfl
theorem so352 : szOk Proofs.Try.prog 352 = True := eq_true (szOk_of (n := 11) sh352 (by kernel_rfl) (by decide) (by decide))
theorem sh353 : shp Proofs.Try.prog 353 = .struct [(0, 1, false), (1, 1, false), (2, 1, false), (3, 1, false), (4, 1, false), (5, 1, false), (6, 1, false), (7, 1, false), (8, 1, false), (9, 1, false), (10, 1, false)] 11 := by kernel_rfl
theorem zt353 : zeroT Proofs.Try.prog 353 = some [.int .u64 0, .int .u64 0, .int .u32 0, .int .u8 0, .int .u8 0, .int .u8 0, .int .u8 0, .nilFunc, .pointer none, .int .i32 0, .int .i32 0] := by kernel_rfl
theorem so353 : szOk Proofs.Try.prog 353 = True := eq_true (szOk_of (n := 11) sh353 (by kernel_rfl) (by decide) (by decide))
theorem sh354 : shp Proofs.Try.prog 354 = .struct [(0, 1, false), (1, 1, false)] 2 := by kernel_rfl
theorem zt354 : zeroT Proofs.Try.prog 354 = some [.string ⟨([] : List UInt8).toArray⟩, .int .u8 0] := by kernel_rfl
theorem so354 : szOk Proofs.Try.prog 354 = True := eq_true (szOk_of (n := 2) sh354 (by kernel_rfl) (by decide) (by decide))
theorem zs354 : zsT Proofs.Try.prog 354 = some [.string ⟨([] : List UInt8).toArray⟩, .int .u8 0] := by kernel_rfl
theorem sh355 : shp Proofs.Try.prog 355 = .struct [(0, 1, false), (1, 1, false)] 2 := by kernel_rfl
theorem zt355 : zeroT Proofs.Try.prog 355 = some [.string ⟨([] : List UInt8).toArray⟩, .int .u8 0] := by kernel_rfl
theorem so355 : szOk Proofs.Try.prog 355 = True := eq_true (szOk_of (n := 2) sh355 (by kernel_rfl) (by decide) (by decide))
theorem zs355 : zsT Proofs.Try.prog 355 = some [.string ⟨([] : List UInt8).toArray⟩, .int .u8 0] := by kernel_rfl
theorem shs : (((((((shp Proofs.Try.prog 2 = .int .i64) ∧ (shp Proofs.Try.prog 3 = .int .i64)) ∧ ((shp Proofs.Try.prog 4 = .bool) ∧ ((shp Proofs.Try.prog 5 = .int .u8) ∧ (shp Proofs.Try.prog 6 = .int .u8)))) ∧ (((shp Proofs.Try.prog 7 = .struct [(0, 1, false), (1, 1, false), (2, 1, false), (3, 1, false)] 4) ∧ (shp Proofs.Try.prog 8 = .struct [(0, 1, false), (1, 1, false), (2, 1, false), (3, 1, false)] 4)) ∧ ((shp Proofs.Try.prog 9 = .str) ∧ ((shp Proofs.Try.prog 10 = .str) ∧ (shp Proofs.Try.prog 11 = .str))))) ∧ ((((shp Proofs.Try.prog 12 = .int .u64) ∧ (shp Proofs.Try.prog 13 = .struct [(0, 1, false), (1, 1, false)] 2)) ∧ ((shp Proofs.Try.prog 14 = .struct [(0, 1, false), (1, 1, false)] 2) ∧ ((shp Proofs.Try.prog 18 = .struct [(0, 1, false)] 1) ∧ (shp Proofs.Try.prog 19 = .struct [(0, 1, false)] 1)))) ∧ (((shp Proofs.Try.prog 21 = .int .i32) ∧ ((shp Proofs.Try.prog 22 = .int .i64) ∧ (shp Proofs.Try.prog 23 = .slice 22 1 false))) ∧ ((shp Proofs.Try.prog 34 = .slice 3 1 false) ∧ ((shp Proofs.Try.prog 35 = .slice 9 1 false) ∧ (shp Proofs.Try.prog 46 = .slice 4 1 false)))))) ∧ (((((shp Proofs.Try.prog 51 = .slice 56 2 true) ∧ (shp Proofs.Try.prog 55 = .struct [(0, 1, false), (1, 1, false)] 2)) ∧ ((shp Proofs.Try.prog 56 = .struct [(0, 1, false), (1, 1, false)] 2) ∧ ((shp Proofs.Try.prog 68 = .struct [(0, 1, false), (1, 1, false)] 2) ∧ (shp Proofs.Try.prog 69 = .struct [(0, 1, false), (1, 1, false)] 2)))) ∧ (((shp Proofs.Try.prog 76 = .slice 199 2 true) ∧ (shp Proofs.Try.prog 77 = .struct [(0, 1, false), (1, 1, false), (2, 1, false), (3, 1, false)] 4)) ∧ ((shp Proofs.Try.prog 78 = .struct [(0, 1, false), (1, 1, false), (2, 1, false), (3, 1, false)] 4) ∧ ((shp Proofs.Try.prog 85 = .slice 93 1 false) ∧ (shp Proofs.Try.prog 86 = .struct [(0, 1, false), (1, 1, false), (2, 1, false)] 3))))) ∧ ((((shp Proofs.Try.prog 87 = .struct [(0, 1, false), (1, 1, false), (2, 1, false)] 3) ∧ (shp Proofs.Try.prog 88 = .struct [(0, 3, true), (3, 1, false)] 4)) ∧ ((shp Proofs.Try.prog 89 = .struct [(0, 3, true), (3, 1, false)] 4) ∧ ((shp Proofs.Try.prog 93 = .slice 89 4 true) ∧ (shp Proofs.Try.prog 105 = .slice 178 4 true)))) ∧ (((shp Proofs.Try.prog 106 = .slice 214 2 true) ∧ ((shp Proofs.Try.prog 107 = .struct [(0, 1, false), (1, 1, false)] 2) ∧ (shp Proofs.Try.prog 108 = .struct [(0, 1, false), (1, 1, false)] 2))) ∧ ((shp Proofs.Try.prog 117 = .slice 119 2 true) ∧ ((shp Proofs.Try.prog 118 = .struct [(0, 1, false), (1, 1, false)] 2) ∧ (shp Proofs.Try.prog 119 = .struct [(0, 1, false), (1, 1, false)] 2))))))) ∧ ((((((shp Proofs.Try.prog 150 = .slice 155 3 true) ∧ (shp Proofs.Try.prog 154 = .struct [(0, 1, false), (1, 1, false), (2, 1, false)] 3)) ∧ ((shp Proofs.Try.prog 155 = .struct [(0, 1, false), (1, 1, false), (2, 1, false)] 3) ∧ ((shp Proofs.Try.prog 177 = .struct [(0, 1, false), (1, 1, false), (2, 1, false), (3, 1, false)] 4) ∧ (shp Proofs.Try.prog 178 = .struct [(0, 1, false), (1, 1, false), (2, 1, false), (3, 1, false)] 4)))) ∧ (((shp Proofs.Try.prog 185 = .int .u64) ∧ (shp Proofs.Try.prog 193 = .int .u64)) ∧ ((shp Proofs.Try.prog 194 = .slice 5 1 false) ∧ ((shp Proofs.Try.prog 198 = .struct [(0, 1, false), (1, 1, false)] 2) ∧ (shp Proofs.Try.prog 199 = .struct [(0, 1, false), (1, 1, false)] 2))))) ∧ ((((shp Proofs.Try.prog 206 = .slice 34 1 false) ∧ (shp Proofs.Try.prog 212 = .slice 87 3 true)) ∧ ((shp Proofs.Try.prog 213 = .struct [(0, 1, false), (1, 1, false)] 2) ∧ ((shp Proofs.Try.prog 214 = .struct [(0, 1, false), (1, 1, false)] 2) ∧ (shp Proofs.Try.prog 219 = .slice 117 1 false)))) ∧ (((shp Proofs.Try.prog 222 = .struct [(0, 1, false), (1, 1, false), (2, 1, false), (3, 1, false)] 4) ∧ ((shp Proofs.Try.prog 223 = .struct [(0, 1, false), (1, 1, false), (2, 1, false), (3, 1, false)] 4) ∧ (shp Proofs.Try.prog 241 = .slice 46 1 false))) ∧ ((shp Proofs.Try.prog 245 = .slice 85 1 false) ∧ ((shp Proofs.Try.prog 286 = .struct [(0, 1, false), (1, 1, false)] 2) ∧ (shp Proofs.Try.prog 287 = .struct [(0, 1, false), (1, 1, false)] 2)))))) ∧ (((((shp Proofs.Try.prog 303 = .int .u64) ∧ (shp Proofs.Try.prog 304 = .struct [(0, 1, false), (1, 1, false), (2, 1, false)] 3)) ∧ ((shp Proofs.Try.prog 305 = .struct [(0, 1, false), (1, 1, false), (2, 1, false)] 3) ∧ ((shp Proofs.Try.prog 309 = .struct [(0, 1, false), (1, 1, false)] 2) ∧ (shp Proofs.Try.prog 310 = .struct [(0, 1, false), (1, 1, false)] 2)))) ∧ (((shp Proofs.Try.prog 312 = .int .u32) ∧ ((shp Proofs.Try.prog 319 = .struct [(0, 1, false)] 1) ∧ (shp Proofs.Try.prog 320 = .struct [(0, 1, false)] 1))) ∧ ((shp Proofs.Try.prog 323 = .int .i64) ∧ ((shp Proofs.Try.prog 333 = .int .u64) ∧ (shp Proofs.Try.prog 342 = .struct [(0, 1, false), (1, 1, false), (2, 1, false), (3, 1, false)] 4))))) ∧ ((((shp Proofs.Try.prog 343 = .struct [(0, 1, false), (1, 1, false), (2, 1, false), (3, 1, false)] 4) ∧ (shp Proofs.Try.prog 345 = .struct [(0, 0, true)] 0)) ∧ ((shp Proofs.Try.prog 346 = .struct [(0, 0, true)] 0) ∧ ((shp Proofs.Try.prog 347 = .int .u8) ∧ (shp Proofs.Try.prog 348 = .int .u8)))) ∧ (((shp Proofs.Try.prog 350 = .int .i32) ∧ ((shp Proofs.Try.prog 351 = .int .i32) ∧ (shp Proofs.Try.prog 352 = .struct [(0, 1, false), (1, 1, false), (2, 1, false), (3, 1, false), (4, 1, false), (5, 1, false), (6, 1, false), (7, 1, false), (8, 1, false), (9, 1, false), (10, 1, false)] 11))) ∧ ((shp Proofs.Try.prog 353 = .struct [(0, 1, false), (1, 1, false), (2, 1, false), (3, 1, false), (4, 1, false), (5, 1, false), (6, 1, false), (7, 1, false), (8, 1, false), (9, 1, false), (10, 1, false)] 11) ∧ ((shp Proofs.Try.prog 354 = .struct [(0, 1, false), (1, 1, false)] 2) ∧ (shp Proofs.Try.prog 355 = .struct [(0, 1, false), (1, 1, false)] 2)))))))) :=
  ⟨⟨⟨⟨⟨⟨sh2, sh3⟩, ⟨sh4, ⟨sh5, sh6⟩⟩⟩, ⟨⟨sh7, sh8⟩, ⟨sh9, ⟨sh10, sh11⟩⟩⟩⟩, ⟨⟨⟨sh12, sh13⟩, ⟨sh14, ⟨sh18, sh19⟩⟩⟩, ⟨⟨sh21, ⟨sh22, sh23⟩⟩, ⟨sh34, ⟨sh35, sh46⟩⟩⟩⟩⟩, ⟨⟨⟨⟨sh51, sh55⟩, ⟨sh56, ⟨sh68, sh69⟩⟩⟩, ⟨⟨sh76, sh77⟩, ⟨sh78, ⟨sh85, sh86⟩⟩⟩⟩, ⟨⟨⟨sh87, sh88⟩, ⟨sh89, ⟨sh93, sh105⟩⟩⟩, ⟨⟨sh106, ⟨sh107, sh108⟩⟩, ⟨sh117, ⟨sh118, sh119⟩⟩⟩⟩⟩⟩, ⟨⟨⟨⟨⟨sh150, sh154⟩, ⟨sh155, ⟨sh177, sh178⟩⟩⟩, ⟨⟨sh185, sh193⟩, ⟨sh194, ⟨sh198, sh199⟩⟩⟩⟩, ⟨⟨⟨sh206, sh212⟩, ⟨sh213, ⟨sh214, sh219⟩⟩⟩, ⟨⟨sh222, ⟨sh223, sh241⟩⟩, ⟨sh245, ⟨sh286, sh287⟩⟩⟩⟩⟩, ⟨⟨⟨⟨sh303, sh304⟩, ⟨sh305, ⟨sh309, sh310⟩⟩⟩, ⟨⟨sh312, ⟨sh319, sh320⟩⟩, ⟨sh323, ⟨sh333, sh342⟩⟩⟩⟩, ⟨⟨⟨sh343, sh345⟩, ⟨sh346, ⟨sh347, sh348⟩⟩⟩, ⟨⟨sh350, ⟨sh351, sh352⟩⟩, ⟨sh353, ⟨sh354, sh355⟩⟩⟩⟩⟩⟩⟩
theorem zts : ((((((zeroT Proofs.Try.prog 7 = some [.int .i64 0, .int .i64 0, .bool false, .int .u8 0]) ∧ (zeroT Proofs.Try.prog 8 = some [.int .i64 0, .int .i64 0, .bool false, .int .u8 0])) ∧ ((zeroT Proofs.Try.prog 13 = some [.string ⟨([] : List UInt8).toArray⟩, .int .u64 0]) ∧ ((zeroT Proofs.Try.prog 14 = some [.string ⟨([] : List UInt8).toArray⟩, .int .u64 0]) ∧ (zeroT Proofs.Try.prog 18 = some [.pointer none])))) ∧ (((zeroT Proofs.Try.prog 19 = some [.pointer none]) ∧ ((zeroT Proofs.Try.prog 55 = some [.bool false, .int .i64 0]) ∧ (zeroT Proofs.Try.prog 56 = some [.bool false, .int .i64 0]))) ∧ ((zeroT Proofs.Try.prog 68 = some [.int .i64 0, .string ⟨([] : List UInt8).toArray⟩]) ∧ ((zeroT Proofs.Try.prog 69 = some [.int .i64 0, .string ⟨([] : List UInt8).toArray⟩]) ∧ (zeroT Proofs.Try.prog 77 = some [.int .i64 0, .slice none 0 0, .int .i64 0, .int .i64 0]))))) ∧ ((((zeroT Proofs.Try.prog 78 = some [.int .i64 0, .slice none 0 0, .int .i64 0, .int .i64 0]) ∧ ((zeroT Proofs.Try.prog 86 = some [.bool false, .int .i64 0, .int .i64 0]) ∧ (zeroT Proofs.Try.prog 87 = some [.bool false, .int .i64 0, .int .i64 0]))) ∧ ((zeroT Proofs.Try.prog 88 = some [.bool false, .int .i64 0, .int .i64 0, .string ⟨([] : List UInt8).toArray⟩]) ∧ ((zeroT Proofs.Try.prog 89 = some [.bool false, .int .i64 0, .int .i64 0, .string ⟨([] : List UInt8).toArray⟩]) ∧ (zeroT Proofs.Try.prog 107 = some [.slice none 0 0, .slice none 0 0])))) ∧ (((zeroT Proofs.Try.prog 108 = some [.slice none 0 0, .slice none 0 0]) ∧ ((zeroT Proofs.Try.prog 118 = some [.int .i64 0, .int .i64 0]) ∧ (zeroT Proofs.Try.prog 119 = some [.int .i64 0, .int .i64 0]))) ∧ ((zeroT Proofs.Try.prog 154 = some [.int .i64 0, .int .i64 0, .int .i64 0]) ∧ ((zeroT Proofs.Try.prog 155 = some [.int .i64 0, .int .i64 0, .int .i64 0]) ∧ (zeroT Proofs.Try.prog 177 = some [.int .i64 0, .int .i64 0, .string ⟨([] : List UInt8).toArray⟩, .int .i64 0])))))) ∧ (((((zeroT Proofs.Try.prog 178 = some [.int .i64 0, .int .i64 0, .string ⟨([] : List UInt8).toArray⟩, .int .i64 0]) ∧ (zeroT Proofs.Try.prog 198 = some [.int .i64 0, .int .i64 0])) ∧ ((zeroT Proofs.Try.prog 199 = some [.int .i64 0, .int .i64 0]) ∧ ((zeroT Proofs.Try.prog 213 = some [.string ⟨([] : List UInt8).toArray⟩, .slice none 0 0]) ∧ (zeroT Proofs.Try.prog 214 = some [.string ⟨([] : List UInt8).toArray⟩, .slice none 0 0])))) ∧ (((zeroT Proofs.Try.prog 222 = some [.slice none 0 0, .slice none 0 0, .slice none 0 0, .int .i64 0]) ∧ ((zeroT Proofs.Try.prog 223 = some [.slice none 0 0, .slice none 0 0, .slice none 0 0, .int .i64 0]) ∧ (zeroT Proofs.Try.prog 286 = some [.pointer none, .slice none 0 0]))) ∧ ((zeroT Proofs.Try.prog 287 = some [.pointer none, .slice none 0 0]) ∧ ((zeroT Proofs.Try.prog 304 = some [.pointer none, .pointer none, .int .u64 0]) ∧ (zeroT Proofs.Try.prog 305 = some [.pointer none, .pointer none, .int .u64 0]))))) ∧ ((((zeroT Proofs.Try.prog 309 = some [.nilFunc, .nilFunc]) ∧ ((zeroT Proofs.Try.prog 310 = some [.nilFunc, .nilFunc]) ∧ (zeroT Proofs.Try.prog 319 = some [.pointer none]))) ∧ ((zeroT Proofs.Try.prog 320 = some [.pointer none]) ∧ ((zeroT Proofs.Try.prog 342 = some [.pointer none, .pointer none, .pointer none, .string ⟨([] : List UInt8).toArray⟩]) ∧ (zeroT Proofs.Try.prog 343 = some [.pointer none, .pointer none, .pointer none, .string ⟨([] : List UInt8).toArray⟩])))) ∧ (((zeroT Proofs.Try.prog 345 = some []) ∧ ((zeroT Proofs.Try.prog 346 = some []) ∧ (zeroT Proofs.Try.prog 352 = some [.int .u64 0, .int .u64 0, .int .u32 0, .int .u8 0, .int .u8 0, .int .u8 0, .int .u8 0, .nilFunc, .pointer none, .int .i32 0, .int .i32 0]))) ∧ ((zeroT Proofs.Try.prog 353 = some [.int .u64 0, .int .u64 0, .int .u32 0, .int .u8 0, .int .u8 0, .int .u8 0, .int .u8 0, .nilFunc, .pointer none, .int .i32 0, .int .i32 0]) ∧ ((zeroT Proofs.Try.prog 354 = some [.string ⟨([] : List UInt8).toArray⟩, .int .u8 0]) ∧ (zeroT Proofs.Try.prog 355 = some [.string ⟨([] : List UInt8).toArray⟩, .int .u8 0]))))))) :=
  ⟨⟨⟨⟨⟨zt7, zt8⟩, ⟨zt13, ⟨zt14, zt18⟩⟩⟩, ⟨⟨zt19, ⟨zt55, zt56⟩⟩, ⟨zt68, ⟨zt69, zt77⟩⟩⟩⟩, ⟨⟨⟨zt78, ⟨zt86, zt87⟩⟩, ⟨zt88, ⟨zt89, zt107⟩⟩⟩, ⟨⟨zt108, ⟨zt118, zt119⟩⟩, ⟨zt154, ⟨zt155, zt177⟩⟩⟩⟩⟩, ⟨⟨⟨⟨zt178, zt198⟩, ⟨zt199, ⟨zt213, zt214⟩⟩⟩, ⟨⟨zt222, ⟨zt223, zt286⟩⟩, ⟨zt287, ⟨zt304, zt305⟩⟩⟩⟩, ⟨⟨⟨zt309, ⟨zt310, zt319⟩⟩, ⟨zt320, ⟨zt342, zt343⟩⟩⟩, ⟨⟨zt345, ⟨zt346, zt352⟩⟩, ⟨zt353, ⟨zt354, zt355⟩⟩⟩⟩⟩⟩
theorem sos : (((((((szOk Proofs.Try.prog 2 = True) ∧ (szOk Proofs.Try.prog 3 = True)) ∧ ((szOk Proofs.Try.prog 4 = True) ∧ ((szOk Proofs.Try.prog 5 = True) ∧ (szOk Proofs.Try.prog 6 = True)))) ∧ (((szOk Proofs.Try.prog 7 = True) ∧ (szOk Proofs.Try.prog 8 = True)) ∧ ((szOk Proofs.Try.prog 9 = True) ∧ ((szOk Proofs.Try.prog 10 = True) ∧ (szOk Proofs.Try.prog 11 = True))))) ∧ ((((szOk Proofs.Try.prog 12 = True) ∧ (szOk Proofs.Try.prog 13 = True)) ∧ ((szOk Proofs.Try.prog 14 = True) ∧ ((szOk Proofs.Try.prog 18 = True) ∧ (szOk Proofs.Try.prog 19 = True)))) ∧ (((szOk Proofs.Try.prog 21 = True) ∧ (szOk Proofs.Try.prog 22 = True)) ∧ ((szOk Proofs.Try.prog 23 = True) ∧ ((szOk Proofs.Try.prog 34 = True) ∧ (szOk Proofs.Try.prog 35 = True)))))) ∧ (((((szOk Proofs.Try.prog 46 = True) ∧ (szOk Proofs.Try.prog 51 = True)) ∧ ((szOk Proofs.Try.prog 55 = True) ∧ ((szOk Proofs.Try.prog 56 = True) ∧ (szOk Proofs.Try.prog 68 = True)))) ∧ (((szOk Proofs.Try.prog 69 = True) ∧ (szOk Proofs.Try.prog 76 = True)) ∧ ((szOk Proofs.Try.prog 77 = True) ∧ ((szOk Proofs.Try.prog 78 = True) ∧ (szOk Proofs.Try.prog 85 = True))))) ∧ ((((szOk Proofs.Try.prog 86 = True) ∧ (szOk Proofs.Try.prog 87 = True)) ∧ ((szOk Proofs.Try.prog 88 = True) ∧ ((szOk Proofs.Try.prog 89 = True) ∧ (szOk Proofs.Try.prog 93 = True)))) ∧ (((szOk Proofs.Try.prog 105 = True) ∧ ((szOk Proofs.Try.prog 106 = True) ∧ (szOk Proofs.Try.prog 107 = True))) ∧ ((szOk Proofs.Try.prog 108 = True) ∧ ((szOk Proofs.Try.prog 117 = True) ∧ (szOk Proofs.Try.prog 118 = True))))))) ∧ ((((((szOk Proofs.Try.prog 119 = True) ∧ (szOk Proofs.Try.prog 150 = True)) ∧ ((szOk Proofs.Try.prog 154 = True) ∧ ((szOk Proofs.Try.prog 155 = True) ∧ (szOk Proofs.Try.prog 177 = True)))) ∧ (((szOk Proofs.Try.prog 178 = True) ∧ (szOk Proofs.Try.prog 185 = True)) ∧ ((szOk Proofs.Try.prog 193 = True) ∧ ((szOk Proofs.Try.prog 194 = True) ∧ (szOk Proofs.Try.prog 198 = True))))) ∧ ((((szOk Proofs.Try.prog 199 = True) ∧ (szOk Proofs.Try.prog 206 = True)) ∧ ((szOk Proofs.Try.prog 212 = True) ∧ ((szOk Proofs.Try.prog 213 = True) ∧ (szOk Proofs.Try.prog 214 = True)))) ∧ (((szOk Proofs.Try.prog 219 = True) ∧ ((szOk Proofs.Try.prog 222 = True) ∧ (szOk Proofs.Try.prog 223 = True))) ∧ ((szOk Proofs.Try.prog 241 = True) ∧ ((szOk Proofs.Try.prog 245 = True) ∧ (szOk Proofs.Try.prog 286 = True)))))) ∧ (((((szOk Proofs.Try.prog 287 = True) ∧ (szOk Proofs.Try.prog 303 = True)) ∧ ((szOk Proofs.Try.prog 304 = True) ∧ ((szOk Proofs.Try.prog 305 = True) ∧ (szOk Proofs.Try.prog 309 = True)))) ∧ (((szOk Proofs.Try.prog 310 = True) ∧ (szOk Proofs.Try.prog 312 = True)) ∧ ((szOk Proofs.Try.prog 319 = True) ∧ ((szOk Proofs.Try.prog 320 = True) ∧ (szOk Proofs.Try.prog 323 = True))))) ∧ ((((szOk Proofs.Try.prog 333 = True) ∧ (szOk Proofs.Try.prog 342 = True)) ∧ ((szOk Proofs.Try.prog 343 = True) ∧ ((szOk Proofs.Try.prog 347 = True) ∧ (szOk Proofs.Try.prog 348 = True)))) ∧ (((szOk Proofs.Try.prog 350 = True) ∧ ((szOk Proofs.Try.prog 351 = True) ∧ (szOk Proofs.Try.prog 352 = True))) ∧ ((szOk Proofs.Try.prog 353 = True) ∧ ((szOk Proofs.Try.prog 354 = True) ∧ (szOk Proofs.Try.prog 355 = True)))))))) :=
  ⟨⟨⟨⟨⟨⟨so2, so3⟩, ⟨so4, ⟨so5, so6⟩⟩⟩, ⟨⟨so7, so8⟩, ⟨so9, ⟨so10, so11⟩⟩⟩⟩, ⟨⟨⟨so12, so13⟩, ⟨so14, ⟨so18, so19⟩⟩⟩, ⟨⟨so21, so22⟩, ⟨so23, ⟨so34, so35⟩⟩⟩⟩⟩, ⟨⟨⟨⟨so46, so51⟩, ⟨so55, ⟨so56, so68⟩⟩⟩, ⟨⟨so69, so76⟩, ⟨so77, ⟨so78, so85⟩⟩⟩⟩, ⟨⟨⟨so86, so87⟩, ⟨so88, ⟨so89, so93⟩⟩⟩, ⟨⟨so105, ⟨so106, so107⟩⟩, ⟨so108, ⟨so117, so118⟩⟩⟩⟩⟩⟩, ⟨⟨⟨⟨⟨so119, so150⟩, ⟨so154, ⟨so155, so177⟩⟩⟩, ⟨⟨so178, so185⟩, ⟨so193, ⟨so194, so198⟩⟩⟩⟩, ⟨⟨⟨so199, so206⟩, ⟨so212, ⟨so213, so214⟩⟩⟩, ⟨⟨so219, ⟨so222, so223⟩⟩, ⟨so241, ⟨so245, so286⟩⟩⟩⟩⟩, ⟨⟨⟨⟨so287, so303⟩, ⟨so304, ⟨so305, so309⟩⟩⟩, ⟨⟨so310, so312⟩, ⟨so319, ⟨so320, so323⟩⟩⟩⟩, ⟨⟨⟨so333, so342⟩, ⟨so343, ⟨so347, so348⟩⟩⟩, ⟨⟨so350, ⟨so351, so352⟩⟩, ⟨so353, ⟨so354, so355⟩⟩⟩⟩⟩⟩⟩
theorem sls : (((((slT Proofs.Try.prog 23 = some (22, 1, 8, [.int .i64 0])) ∧ (slT Proofs.Try.prog 34 = some (3, 1, 8, [.int .i64 0]))) ∧ ((slT Proofs.Try.prog 35 = some (9, 1, 16, [.string ⟨([] : List UInt8).toArray⟩])) ∧ (slT Proofs.Try.prog 46 = some (4, 1, 1, [.bool false])))) ∧ (((slT Proofs.Try.prog 51 = some (56, 2, 16, [.bool false, .int .i64 0])) ∧ (slT Proofs.Try.prog 76 = some (199, 2, 16, [.int .i64 0, .int .i64 0]))) ∧ ((slT Proofs.Try.prog 85 = some (93, 1, 24, [.slice none 0 0])) ∧ ((slT Proofs.Try.prog 93 = some (89, 4, 40, [.bool false, .int .i64 0, .int .i64 0, .string ⟨([] : List UInt8).toArray⟩])) ∧ (slT Proofs.Try.prog 105 = some (178, 4, 40, [.int .i64 0, .int .i64 0, .string ⟨([] : List UInt8).toArray⟩, .int .i64 0])))))) ∧ ((((slT Proofs.Try.prog 106 = some (214, 2, 40, [.string ⟨([] : List UInt8).toArray⟩, .slice none 0 0])) ∧ (slT Proofs.Try.prog 117 = some (119, 2, 16, [.int .i64 0, .int .i64 0]))) ∧ ((slT Proofs.Try.prog 150 = some (155, 3, 24, [.int .i64 0, .int .i64 0, .int .i64 0])) ∧ (slT Proofs.Try.prog 194 = some (5, 1, 1, [.int .u8 0])))) ∧ (((slT Proofs.Try.prog 206 = some (34, 1, 24, [.slice none 0 0])) ∧ (slT Proofs.Try.prog 212 = some (87, 3, 24, [.bool false, .int .i64 0, .int .i64 0]))) ∧ ((slT Proofs.Try.prog 219 = some (117, 1, 24, [.slice none 0 0])) ∧ ((slT Proofs.Try.prog 241 = some (46, 1, 24, [.slice none 0 0])) ∧ (slT Proofs.Try.prog 245 = some (85, 1, 24, [.slice none 0 0]))))))) :=
  ⟨⟨⟨⟨sl23, sl34⟩, ⟨sl35, sl46⟩⟩, ⟨⟨sl51, sl76⟩, ⟨sl85, ⟨sl93, sl105⟩⟩⟩⟩, ⟨⟨⟨sl106, sl117⟩, ⟨sl150, sl194⟩⟩, ⟨⟨sl206, sl212⟩, ⟨sl219, ⟨sl241, sl245⟩⟩⟩⟩⟩
theorem zss : (((((((zsT Proofs.Try.prog 2 = some [.int .i64 0]) ∧ (zsT Proofs.Try.prog 3 = some [.int .i64 0])) ∧ ((zsT Proofs.Try.prog 4 = some [.bool false]) ∧ ((zsT Proofs.Try.prog 5 = some [.int .u8 0]) ∧ (zsT Proofs.Try.prog 6 = some [.int .u8 0])))) ∧ (((zsT Proofs.Try.prog 7 = some [.int .i64 0, .int .i64 0, .bool false, .int .u8 0]) ∧ (zsT Proofs.Try.prog 8 = some [.int .i64 0, .int .i64 0, .bool false, .int .u8 0])) ∧ ((zsT Proofs.Try.prog 9 = some [.string ⟨([] : List UInt8).toArray⟩]) ∧ ((zsT Proofs.Try.prog 10 = some [.string ⟨([] : List UInt8).toArray⟩]) ∧ (zsT Proofs.Try.prog 11 = some [.string ⟨([] : List UInt8).toArray⟩]))))) ∧ ((((zsT Proofs.Try.prog 12 = some [.int .u64 0]) ∧ (zsT Proofs.Try.prog 13 = some [.string ⟨([] : List UInt8).toArray⟩, .int .u64 0])) ∧ ((zsT Proofs.Try.prog 14 = some [.string ⟨([] : List UInt8).toArray⟩, .int .u64 0]) ∧ ((zsT Proofs.Try.prog 18 = some [.pointer none]) ∧ (zsT Proofs.Try.prog 19 = some [.pointer none])))) ∧ (((zsT Proofs.Try.prog 21 = some [.int .i32 0]) ∧ (zsT Proofs.Try.prog 22 = some [.int .i64 0])) ∧ ((zsT Proofs.Try.prog 23 = some [.slice none 0 0]) ∧ ((zsT Proofs.Try.prog 34 = some [.slice none 0 0]) ∧ (zsT Proofs.Try.prog 35 = some [.slice none 0 0])))))) ∧ (((((zsT Proofs.Try.prog 46 = some [.slice none 0 0]) ∧ (zsT Proofs.Try.prog 51 = some [.slice none 0 0])) ∧ ((zsT Proofs.Try.prog 55 = some [.bool false, .int .i64 0]) ∧ ((zsT Proofs.Try.prog 56 = some [.bool false, .int .i64 0]) ∧ (zsT Proofs.Try.prog 68 = some [.int .i64 0, .string ⟨([] : List UInt8).toArray⟩])))) ∧ (((zsT Proofs.Try.prog 69 = some [.int .i64 0, .string ⟨([] : List UInt8).toArray⟩]) ∧ (zsT Proofs.Try.prog 76 = some [.slice none 0 0])) ∧ ((zsT Proofs.Try.prog 77 = some [.int .i64 0, .slice none 0 0, .int .i64 0, .int .i64 0]) ∧ ((zsT Proofs.Try.prog 78 = some [.int .i64 0, .slice none 0 0, .int .i64 0, .int .i64 0]) ∧ (zsT Proofs.Try.prog 85 = some [.slice none 0 0]))))) ∧ ((((zsT Proofs.Try.prog 86 = some [.bool false, .int .i64 0, .int .i64 0]) ∧ (zsT Proofs.Try.prog 87 = some [.bool false, .int .i64 0, .int .i64 0])) ∧ ((zsT Proofs.Try.prog 88 = some [.bool false, .int .i64 0, .int .i64 0, .string ⟨([] : List UInt8).toArray⟩]) ∧ ((zsT Proofs.Try.prog 89 = some [.bool false, .int .i64 0, .int .i64 0, .string ⟨([] : List UInt8).toArray⟩]) ∧ (zsT Proofs.Try.prog 93 = some [.slice none 0 0])))) ∧ (((zsT Proofs.Try.prog 105 = some [.slice none 0 0]) ∧ (zsT Proofs.Try.prog 106 = some [.slice none 0 0])) ∧ ((zsT Proofs.Try.prog 107 = some [.slice none 0 0, .slice none 0 0]) ∧ ((zsT Proofs.Try.prog 108 = some [.slice none 0 0, .slice none 0 0]) ∧ (zsT Proofs.Try.prog 117 = some [.slice none 0 0]))))))) ∧ ((((((zsT Proofs.Try.prog 118 = some [.int .i64 0, .int .i64 0]) ∧ (zsT Proofs.Try.prog 119 = some [.int .i64 0, .int .i64 0])) ∧ ((zsT Proofs.Try.prog 150 = some [.slice none 0 0]) ∧ ((zsT Proofs.Try.prog 154 = some [.int .i64 0, .int .i64 0, .int .i64 0]) ∧ (zsT Proofs.Try.prog 155 = some [.int .i64 0, .int .i64 0, .int .i64 0])))) ∧ (((zsT Proofs.Try.prog 177 = some [.int .i64 0, .int .i64 0, .string ⟨([] : List UInt8).toArray⟩, .int .i64 0]) ∧ (zsT Proofs.Try.prog 178 = some [.int .i64 0, .int .i64 0, .string ⟨([] : List UInt8).toArray⟩, .int .i64 0])) ∧ ((zsT Proofs.Try.prog 185 = some [.int .u64 0]) ∧ ((zsT Proofs.Try.prog 193 = some [.int .u64 0]) ∧ (zsT Proofs.Try.prog 194 = some [.slice none 0 0]))))) ∧ ((((zsT Proofs.Try.prog 198 = some [.int .i64 0, .int .i64 0]) ∧ (zsT Proofs.Try.prog 199 = some [.int .i64 0, .int .i64 0])) ∧ ((zsT Proofs.Try.prog 206 = some [.slice none 0 0]) ∧ ((zsT Proofs.Try.prog 212 = some [.slice none 0 0]) ∧ (zsT Proofs.Try.prog 213 = some [.string ⟨([] : List UInt8).toArray⟩, .slice none 0 0])))) ∧ (((zsT Proofs.Try.prog 214 = some [.string ⟨([] : List UInt8).toArray⟩, .slice none 0 0]) ∧ (zsT Proofs.Try.prog 219 = some [.slice none 0 0])) ∧ ((zsT Proofs.Try.prog 222 = some [.slice none 0 0, .slice none 0 0, .slice none 0 0, .int .i64 0]) ∧ ((zsT Proofs.Try.prog 223 = some [.slice none 0 0, .slice none 0 0, .slice none 0 0, .int .i64 0]) ∧ (zsT Proofs.Try.prog 241 = some [.slice none 0 0])))))) ∧ (((((zsT Proofs.Try.prog 245 = some [.slice none 0 0]) ∧ (zsT Proofs.Try.prog 286 = some [.pointer none, .slice none 0 0])) ∧ ((zsT Proofs.Try.prog 287 = some [.pointer none, .slice none 0 0]) ∧ ((zsT Proofs.Try.prog 303 = some [.int .u64 0]) ∧ (zsT Proofs.Try.prog 304 = some [.pointer none, .pointer none, .int .u64 0])))) ∧ (((zsT Proofs.Try.prog 305 = some [.pointer none, .pointer none, .int .u64 0]) ∧ (zsT Proofs.Try.prog 312 = some [.int .u32 0])) ∧ ((zsT Proofs.Try.prog 319 = some [.pointer none]) ∧ ((zsT Proofs.Try.prog 320 = some [.pointer none]) ∧ (zsT Proofs.Try.prog 323 = some [.int .i64 0]))))) ∧ ((((zsT Proofs.Try.prog 333 = some [.int .u64 0]) ∧ (zsT Proofs.Try.prog 342 = some [.pointer none, .pointer none, .pointer none, .string ⟨([] : List UInt8).toArray⟩])) ∧ ((zsT Proofs.Try.prog 343 = some [.pointer none, .pointer none, .pointer none, .string ⟨([] : List UInt8).toArray⟩]) ∧ ((zsT Proofs.Try.prog 345 = some []) ∧ (zsT Proofs.Try.prog 346 = some [])))) ∧ (((zsT Proofs.Try.prog 347 = some [.int .u8 0]) ∧ ((zsT Proofs.Try.prog 348 = some [.int .u8 0]) ∧ (zsT Proofs.Try.prog 350 = some [.int .i32 0]))) ∧ ((zsT Proofs.Try.prog 351 = some [.int .i32 0]) ∧ ((zsT Proofs.Try.prog 354 = some [.string ⟨([] : List UInt8).toArray⟩, .int .u8 0]) ∧ (zsT Proofs.Try.prog 355 = some [.string ⟨([] : List UInt8).toArray⟩, .int .u8 0])))))))) :=
  ⟨⟨⟨⟨⟨⟨zs2, zs3⟩, ⟨zs4, ⟨zs5, zs6⟩⟩⟩, ⟨⟨zs7, zs8⟩, ⟨zs9, ⟨zs10, zs11⟩⟩⟩⟩, ⟨⟨⟨zs12, zs13⟩, ⟨zs14, ⟨zs18, zs19⟩⟩⟩, ⟨⟨zs21, zs22⟩, ⟨zs23, ⟨zs34, zs35⟩⟩⟩⟩⟩, ⟨⟨⟨⟨zs46, zs51⟩, ⟨zs55, ⟨zs56, zs68⟩⟩⟩, ⟨⟨zs69, zs76⟩, ⟨zs77, ⟨zs78, zs85⟩⟩⟩⟩, ⟨⟨⟨zs86, zs87⟩, ⟨zs88, ⟨zs89, zs93⟩⟩⟩, ⟨⟨zs105, zs106⟩, ⟨zs107, ⟨zs108, zs117⟩⟩⟩⟩⟩⟩, ⟨⟨⟨⟨⟨zs118, zs119⟩, ⟨zs150, ⟨zs154, zs155⟩⟩⟩, ⟨⟨zs177, zs178⟩, ⟨zs185, ⟨zs193, zs194⟩⟩⟩⟩, ⟨⟨⟨zs198, zs199⟩, ⟨zs206, ⟨zs212, zs213⟩⟩⟩, ⟨⟨zs214, zs219⟩, ⟨zs222, ⟨zs223, zs241⟩⟩⟩⟩⟩, ⟨⟨⟨⟨zs245, zs286⟩, ⟨zs287, ⟨zs303, zs304⟩⟩⟩, ⟨⟨zs305, zs312⟩, ⟨zs319, ⟨zs320, zs323⟩⟩⟩⟩, ⟨⟨⟨zs333, zs342⟩, ⟨zs343, ⟨zs345, zs346⟩⟩⟩, ⟨⟨zs347, ⟨zs348, zs350⟩⟩, ⟨zs351, ⟨zs354, zs355⟩⟩⟩⟩⟩⟩⟩
end Go.X
