/- The shapes of the types of this translation. Conditions: none. -/
import Derived.Test.YtoohifeidifocaaGreatDoorProg
import Derived.KernelRfl
import Derived.Test.YtoohifeidifocaaGreatDoorFwB
set_option linter.unusedVariables false
namespace Go.X
open Go
theorem sh2:shp Proofs.Tryz.prog 2 = .int .i64:=by kernel_rfl
theorem so2:szOk Proofs.Tryz.prog 2=True:=eq_true (szOk_of (n:=1) sh2 (by kernel_rfl) (by decide) (by decide))
theorem zs2:zsT Proofs.Tryz.prog 2=some [.int .i64 0]:=by kernel_rfl
theorem sh3:shp Proofs.Tryz.prog 3 = .int .i64:=by kernel_rfl
theorem so3:szOk Proofs.Tryz.prog 3=True:=eq_true (szOk_of (n:=1) sh3 (by kernel_rfl) (by decide) (by decide))
theorem zs3:zsT Proofs.Tryz.prog 3=some [.int .i64 0]:=by kernel_rfl
theorem sh4:shp Proofs.Tryz.prog 4 = .bool:=by kernel_rfl
theorem so4:szOk Proofs.Tryz.prog 4=True:=eq_true (szOk_of (n:=1) sh4 (by kernel_rfl) (by decide) (by decide))
theorem zs4:zsT Proofs.Tryz.prog 4=some [.bool false]:=by kernel_rfl
theorem sh5:shp Proofs.Tryz.prog 5 = .int .u8:=by kernel_rfl
theorem so5:szOk Proofs.Tryz.prog 5=True:=eq_true (szOk_of (n:=1) sh5 (by kernel_rfl) (by decide) (by decide))
theorem zs5:zsT Proofs.Tryz.prog 5=some [.int .u8 0]:=by kernel_rfl
theorem sh6:shp Proofs.Tryz.prog 6 = .int .u8:=by kernel_rfl
theorem so6:szOk Proofs.Tryz.prog 6=True:=eq_true (szOk_of (n:=1) sh6 (by kernel_rfl) (by decide) (by decide))
theorem zs6:zsT Proofs.Tryz.prog 6=some [.int .u8 0]:=by kernel_rfl
theorem sh7:shp Proofs.Tryz.prog 7 = .struct [(0,1,false),(1,1,false),(2,1,false),(3,1,false)] 4:=by kernel_rfl
theorem zt7:zeroT Proofs.Tryz.prog 7=some [.int .i64 0,.int .i64 0,.bool false,.int .u8 0]:=by kernel_rfl
theorem so7:szOk Proofs.Tryz.prog 7=True:=eq_true (szOk_of (n:=4) sh7 (by kernel_rfl) (by decide) (by decide))
theorem zs7:zsT Proofs.Tryz.prog 7=some [.int .i64 0,.int .i64 0,.bool false,.int .u8 0]:=by kernel_rfl
theorem sh8:shp Proofs.Tryz.prog 8 = .struct [(0,1,false),(1,1,false),(2,1,false),(3,1,false)] 4:=by kernel_rfl
theorem zt8:zeroT Proofs.Tryz.prog 8=some [.int .i64 0,.int .i64 0,.bool false,.int .u8 0]:=by kernel_rfl
theorem so8:szOk Proofs.Tryz.prog 8=True:=eq_true (szOk_of (n:=4) sh8 (by kernel_rfl) (by decide) (by decide))
theorem zs8:zsT Proofs.Tryz.prog 8=some [.int .i64 0,.int .i64 0,.bool false,.int .u8 0]:=by kernel_rfl
theorem sh9:shp Proofs.Tryz.prog 9 = .str:=by kernel_rfl
theorem so9:szOk Proofs.Tryz.prog 9=True:=eq_true (szOk_of (n:=1) sh9 (by kernel_rfl) (by decide) (by decide))
theorem zs9:zsT Proofs.Tryz.prog 9=some [.string ⟨([]:List UInt8).toArray⟩]:=by kernel_rfl
theorem sh10:shp Proofs.Tryz.prog 10 = .str:=by kernel_rfl
theorem so10:szOk Proofs.Tryz.prog 10=True:=eq_true (szOk_of (n:=1) sh10 (by kernel_rfl) (by decide) (by decide))
theorem zs10:zsT Proofs.Tryz.prog 10=some [.string ⟨([]:List UInt8).toArray⟩]:=by kernel_rfl
theorem sh11:shp Proofs.Tryz.prog 11 = .str:=by kernel_rfl
theorem so11:szOk Proofs.Tryz.prog 11=True:=eq_true (szOk_of (n:=1) sh11 (by kernel_rfl) (by decide) (by decide))
theorem zs11:zsT Proofs.Tryz.prog 11=some [.string ⟨([]:List UInt8).toArray⟩]:=by kernel_rfl
theorem sh12:shp Proofs.Tryz.prog 12 = .int .u64:=by kernel_rfl
theorem so12:szOk Proofs.Tryz.prog 12=True:=eq_true (szOk_of (n:=1) sh12 (by kernel_rfl) (by decide) (by decide))
theorem zs12:zsT Proofs.Tryz.prog 12=some [.int .u64 0]:=by kernel_rfl
theorem sh13:shp Proofs.Tryz.prog 13 = .struct [(0,1,false),(1,1,false)] 2:=by kernel_rfl
theorem zt13:zeroT Proofs.Tryz.prog 13=some [.string ⟨([]:List UInt8).toArray⟩,.int .u64 0]:=by kernel_rfl
theorem so13:szOk Proofs.Tryz.prog 13=True:=eq_true (szOk_of (n:=2) sh13 (by kernel_rfl) (by decide) (by decide))
theorem zs13:zsT Proofs.Tryz.prog 13=some [.string ⟨([]:List UInt8).toArray⟩,.int .u64 0]:=by kernel_rfl
theorem sh14:shp Proofs.Tryz.prog 14 = .struct [(0,1,false),(1,1,false)] 2:=by kernel_rfl
theorem zt14:zeroT Proofs.Tryz.prog 14=some [.string ⟨([]:List UInt8).toArray⟩,.int .u64 0]:=by kernel_rfl
theorem so14:szOk Proofs.Tryz.prog 14=True:=eq_true (szOk_of (n:=2) sh14 (by kernel_rfl) (by decide) (by decide))
theorem zs14:zsT Proofs.Tryz.prog 14=some [.string ⟨([]:List UInt8).toArray⟩,.int .u64 0]:=by kernel_rfl
theorem sh18:shp Proofs.Tryz.prog 18 = .struct [(0,1,false)] 1:=by kernel_rfl
theorem zt18:zeroT Proofs.Tryz.prog 18=some [.pointer none]:=by kernel_rfl
theorem so18:szOk Proofs.Tryz.prog 18=True:=eq_true (szOk_of (n:=1) sh18 (by kernel_rfl) (by decide) (by decide))
theorem zs18:zsT Proofs.Tryz.prog 18=some [.pointer none]:=by kernel_rfl
theorem sh19:shp Proofs.Tryz.prog 19 = .struct [(0,1,false)] 1:=by kernel_rfl
theorem zt19:zeroT Proofs.Tryz.prog 19=some [.pointer none]:=by kernel_rfl
theorem so19:szOk Proofs.Tryz.prog 19=True:=eq_true (szOk_of (n:=1) sh19 (by kernel_rfl) (by decide) (by decide))
theorem zs19:zsT Proofs.Tryz.prog 19=some [.pointer none]:=by kernel_rfl
theorem sh21:shp Proofs.Tryz.prog 21 = .int .i32:=by kernel_rfl
theorem so21:szOk Proofs.Tryz.prog 21=True:=eq_true (szOk_of (n:=1) sh21 (by kernel_rfl) (by decide) (by decide))
theorem zs21:zsT Proofs.Tryz.prog 21=some [.int .i32 0]:=by kernel_rfl
theorem sh22:shp Proofs.Tryz.prog 22 = .slice 40 1 false:=by kernel_rfl
theorem so22:szOk Proofs.Tryz.prog 22=True:=eq_true (szOk_of (n:=1) sh22 (by kernel_rfl) (by decide) (by decide))
theorem sl22:slT Proofs.Tryz.prog 22=some (40,1,24,[.slice none 0 0]):=by kernel_rfl
theorem zs22:zsT Proofs.Tryz.prog 22=some [.slice none 0 0]:=by kernel_rfl
theorem sh23:shp Proofs.Tryz.prog 23 = .slice 29 5 true:=by kernel_rfl
theorem so23:szOk Proofs.Tryz.prog 23=True:=eq_true (szOk_of (n:=1) sh23 (by kernel_rfl) (by decide) (by decide))
theorem sl23:slT Proofs.Tryz.prog 23=some (29,5,64,[.int .i64 0,.string ⟨([]:List UInt8).toArray⟩,.string ⟨([]:List UInt8).toArray⟩,.int .i64 0,.string ⟨([]:List UInt8).toArray⟩]):=by kernel_rfl
theorem zs23:zsT Proofs.Tryz.prog 23=some [.slice none 0 0]:=by kernel_rfl
theorem sh26:shp Proofs.Tryz.prog 26 = .int .i64:=by kernel_rfl
theorem so26:szOk Proofs.Tryz.prog 26=True:=eq_true (szOk_of (n:=1) sh26 (by kernel_rfl) (by decide) (by decide))
theorem zs26:zsT Proofs.Tryz.prog 26=some [.int .i64 0]:=by kernel_rfl
theorem sh28:shp Proofs.Tryz.prog 28 = .struct [(0,1,false),(1,1,false),(2,1,false),(3,1,false),(4,1,false)] 5:=by kernel_rfl
theorem zt28:zeroT Proofs.Tryz.prog 28=some [.int .i64 0,.string ⟨([]:List UInt8).toArray⟩,.string ⟨([]:List UInt8).toArray⟩,.int .i64 0,.string ⟨([]:List UInt8).toArray⟩]:=by kernel_rfl
theorem so28:szOk Proofs.Tryz.prog 28=True:=eq_true (szOk_of (n:=5) sh28 (by kernel_rfl) (by decide) (by decide))
theorem zs28:zsT Proofs.Tryz.prog 28=some [.int .i64 0,.string ⟨([]:List UInt8).toArray⟩,.string ⟨([]:List UInt8).toArray⟩,.int .i64 0,.string ⟨([]:List UInt8).toArray⟩]:=by kernel_rfl
theorem sh29:shp Proofs.Tryz.prog 29 = .struct [(0,1,false),(1,1,false),(2,1,false),(3,1,false),(4,1,false)] 5:=by kernel_rfl
theorem zt29:zeroT Proofs.Tryz.prog 29=some [.int .i64 0,.string ⟨([]:List UInt8).toArray⟩,.string ⟨([]:List UInt8).toArray⟩,.int .i64 0,.string ⟨([]:List UInt8).toArray⟩]:=by kernel_rfl
theorem so29:szOk Proofs.Tryz.prog 29=True:=eq_true (szOk_of (n:=5) sh29 (by kernel_rfl) (by decide) (by decide))
theorem zs29:zsT Proofs.Tryz.prog 29=some [.int .i64 0,.string ⟨([]:List UInt8).toArray⟩,.string ⟨([]:List UInt8).toArray⟩,.int .i64 0,.string ⟨([]:List UInt8).toArray⟩]:=by kernel_rfl
theorem sh31:shp Proofs.Tryz.prog 31 = .slice 94 4 true:=by kernel_rfl
theorem so31:szOk Proofs.Tryz.prog 31=True:=eq_true (szOk_of (n:=1) sh31 (by kernel_rfl) (by decide) (by decide))
theorem sl31:slT Proofs.Tryz.prog 31=some (94,4,40,[.int .i64 0,.int .i64 0,.string ⟨([]:List UInt8).toArray⟩,.int .i64 0]):=by kernel_rfl
theorem zs31:zsT Proofs.Tryz.prog 31=some [.slice none 0 0]:=by kernel_rfl
theorem sh32:shp Proofs.Tryz.prog 32 = .slice 98 2 true:=by kernel_rfl
theorem so32:szOk Proofs.Tryz.prog 32=True:=eq_true (szOk_of (n:=1) sh32 (by kernel_rfl) (by decide) (by decide))
theorem sl32:slT Proofs.Tryz.prog 32=some (98,2,40,[.string ⟨([]:List UInt8).toArray⟩,.slice none 0 0]):=by kernel_rfl
theorem zs32:zsT Proofs.Tryz.prog 32=some [.slice none 0 0]:=by kernel_rfl
theorem sh33:shp Proofs.Tryz.prog 33 = .struct [(0,1,false),(1,1,false)] 2:=by kernel_rfl
theorem zt33:zeroT Proofs.Tryz.prog 33=some [.slice none 0 0,.slice none 0 0]:=by kernel_rfl
theorem so33:szOk Proofs.Tryz.prog 33=True:=eq_true (szOk_of (n:=2) sh33 (by kernel_rfl) (by decide) (by decide))
theorem zs33:zsT Proofs.Tryz.prog 33=some [.slice none 0 0,.slice none 0 0]:=by kernel_rfl
theorem sh34:shp Proofs.Tryz.prog 34 = .struct [(0,1,false),(1,1,false)] 2:=by kernel_rfl
theorem zt34:zeroT Proofs.Tryz.prog 34=some [.slice none 0 0,.slice none 0 0]:=by kernel_rfl
theorem so34:szOk Proofs.Tryz.prog 34=True:=eq_true (szOk_of (n:=2) sh34 (by kernel_rfl) (by decide) (by decide))
theorem zs34:zsT Proofs.Tryz.prog 34=some [.slice none 0 0,.slice none 0 0]:=by kernel_rfl
theorem sh35:shp Proofs.Tryz.prog 35 = .slice 91 2 true:=by kernel_rfl
theorem so35:szOk Proofs.Tryz.prog 35=True:=eq_true (szOk_of (n:=1) sh35 (by kernel_rfl) (by decide) (by decide))
theorem sl35:slT Proofs.Tryz.prog 35=some (91,2,16,[.int .i64 0,.int .i64 0]):=by kernel_rfl
theorem zs35:zsT Proofs.Tryz.prog 35=some [.slice none 0 0]:=by kernel_rfl
theorem sh36:shp Proofs.Tryz.prog 36 = .struct [(0,1,false),(1,1,false),(2,1,false),(3,1,false)] 4:=by kernel_rfl
theorem zt36:zeroT Proofs.Tryz.prog 36=some [.int .i64 0,.slice none 0 0,.int .i64 0,.int .i64 0]:=by kernel_rfl
theorem so36:szOk Proofs.Tryz.prog 36=True:=eq_true (szOk_of (n:=4) sh36 (by kernel_rfl) (by decide) (by decide))
theorem zs36:zsT Proofs.Tryz.prog 36=some [.int .i64 0,.slice none 0 0,.int .i64 0,.int .i64 0]:=by kernel_rfl
theorem sh37:shp Proofs.Tryz.prog 37 = .struct [(0,1,false),(1,1,false),(2,1,false),(3,1,false)] 4:=by kernel_rfl
theorem zt37:zeroT Proofs.Tryz.prog 37=some [.int .i64 0,.slice none 0 0,.int .i64 0,.int .i64 0]:=by kernel_rfl
theorem so37:szOk Proofs.Tryz.prog 37=True:=eq_true (szOk_of (n:=4) sh37 (by kernel_rfl) (by decide) (by decide))
theorem zs37:zsT Proofs.Tryz.prog 37=some [.int .i64 0,.slice none 0 0,.int .i64 0,.int .i64 0]:=by kernel_rfl
theorem sh38:shp Proofs.Tryz.prog 38 = .struct [(0,2,true),(2,4,true),(6,1,false),(7,1,false)] 8:=by kernel_rfl
theorem zt38:zeroT Proofs.Tryz.prog 38=some [.slice none 0 0,.slice none 0 0,.int .i64 0,.slice none 0 0,.int .i64 0,.int .i64 0,.string ⟨([]:List UInt8).toArray⟩,.int .i64 0]:=by kernel_rfl
theorem so38:szOk Proofs.Tryz.prog 38=True:=eq_true (szOk_of (n:=8) sh38 (by kernel_rfl) (by decide) (by decide))
theorem zs38:zsT Proofs.Tryz.prog 38=some [.slice none 0 0,.slice none 0 0,.int .i64 0,.slice none 0 0,.int .i64 0,.int .i64 0,.string ⟨([]:List UInt8).toArray⟩,.int .i64 0]:=by kernel_rfl
theorem sh39:shp Proofs.Tryz.prog 39 = .struct [(0,2,true),(2,4,true),(6,1,false),(7,1,false)] 8:=by kernel_rfl
theorem zt39:zeroT Proofs.Tryz.prog 39=some [.slice none 0 0,.slice none 0 0,.int .i64 0,.slice none 0 0,.int .i64 0,.int .i64 0,.string ⟨([]:List UInt8).toArray⟩,.int .i64 0]:=by kernel_rfl
theorem so39:szOk Proofs.Tryz.prog 39=True:=eq_true (szOk_of (n:=8) sh39 (by kernel_rfl) (by decide) (by decide))
theorem zs39:zsT Proofs.Tryz.prog 39=some [.slice none 0 0,.slice none 0 0,.int .i64 0,.slice none 0 0,.int .i64 0,.int .i64 0,.string ⟨([]:List UInt8).toArray⟩,.int .i64 0]:=by kernel_rfl
theorem sh40:shp Proofs.Tryz.prog 40 = .slice 3 1 false:=by kernel_rfl
theorem so40:szOk Proofs.Tryz.prog 40=True:=eq_true (szOk_of (n:=1) sh40 (by kernel_rfl) (by decide) (by decide))
theorem sl40:slT Proofs.Tryz.prog 40=some (3,1,8,[.int .i64 0]):=by kernel_rfl
theorem zs40:zsT Proofs.Tryz.prog 40=some [.slice none 0 0]:=by kernel_rfl
theorem sh56:shp Proofs.Tryz.prog 56 = .struct [(0,2,true),(2,4,true),(6,1,false),(7,1,false)] 8:=by kernel_rfl
theorem zt56:zeroT Proofs.Tryz.prog 56=some [.slice none 0 0,.slice none 0 0,.int .i64 0,.slice none 0 0,.int .i64 0,.int .i64 0,.string ⟨([]:List UInt8).toArray⟩,.int .i64 0]:=by kernel_rfl
theorem so56:szOk Proofs.Tryz.prog 56=True:=eq_true (szOk_of (n:=8) sh56 (by kernel_rfl) (by decide) (by decide))
theorem zs56:zsT Proofs.Tryz.prog 56=some [.slice none 0 0,.slice none 0 0,.int .i64 0,.slice none 0 0,.int .i64 0,.int .i64 0,.string ⟨([]:List UInt8).toArray⟩,.int .i64 0]:=by kernel_rfl
theorem sh57:shp Proofs.Tryz.prog 57 = .struct [(0,2,true),(2,4,true),(6,1,false),(7,1,false)] 8:=by kernel_rfl
theorem zt57:zeroT Proofs.Tryz.prog 57=some [.slice none 0 0,.slice none 0 0,.int .i64 0,.slice none 0 0,.int .i64 0,.int .i64 0,.string ⟨([]:List UInt8).toArray⟩,.int .i64 0]:=by kernel_rfl
theorem so57:szOk Proofs.Tryz.prog 57=True:=eq_true (szOk_of (n:=8) sh57 (by kernel_rfl) (by decide) (by decide))
theorem zs57:zsT Proofs.Tryz.prog 57=some [.slice none 0 0,.slice none 0 0,.int .i64 0,.slice none 0 0,.int .i64 0,.int .i64 0,.string ⟨([]:List UInt8).toArray⟩,.int .i64 0]:=by kernel_rfl
theorem sh64:shp Proofs.Tryz.prog 64 = .struct [(0,1,false),(1,1,false)] 2:=by kernel_rfl
theorem zt64:zeroT Proofs.Tryz.prog 64=some [.int .i64 0,.string ⟨([]:List UInt8).toArray⟩]:=by kernel_rfl
theorem so64:szOk Proofs.Tryz.prog 64=True:=eq_true (szOk_of (n:=2) sh64 (by kernel_rfl) (by decide) (by decide))
theorem zs64:zsT Proofs.Tryz.prog 64=some [.int .i64 0,.string ⟨([]:List UInt8).toArray⟩]:=by kernel_rfl
theorem sh65:shp Proofs.Tryz.prog 65 = .struct [(0,1,false),(1,1,false)] 2:=by kernel_rfl
theorem zt65:zeroT Proofs.Tryz.prog 65=some [.int .i64 0,.string ⟨([]:List UInt8).toArray⟩]:=by kernel_rfl
theorem so65:szOk Proofs.Tryz.prog 65=True:=eq_true (szOk_of (n:=2) sh65 (by kernel_rfl) (by decide) (by decide))
theorem zs65:zsT Proofs.Tryz.prog 65=some [.int .i64 0,.string ⟨([]:List UInt8).toArray⟩]:=by kernel_rfl
theorem sh71:shp Proofs.Tryz.prog 71 = .slice 9 1 false:=by kernel_rfl
theorem so71:szOk Proofs.Tryz.prog 71=True:=eq_true (szOk_of (n:=1) sh71 (by kernel_rfl) (by decide) (by decide))
theorem sl71:slT Proofs.Tryz.prog 71=some (9,1,16,[.string ⟨([]:List UInt8).toArray⟩]):=by kernel_rfl
theorem zs71:zsT Proofs.Tryz.prog 71=some [.slice none 0 0]:=by kernel_rfl
theorem sh90:shp Proofs.Tryz.prog 90 = .struct [(0,1,false),(1,1,false)] 2:=by kernel_rfl
theorem zt90:zeroT Proofs.Tryz.prog 90=some [.int .i64 0,.int .i64 0]:=by kernel_rfl
theorem so90:szOk Proofs.Tryz.prog 90=True:=eq_true (szOk_of (n:=2) sh90 (by kernel_rfl) (by decide) (by decide))
theorem zs90:zsT Proofs.Tryz.prog 90=some [.int .i64 0,.int .i64 0]:=by kernel_rfl
theorem sh91:shp Proofs.Tryz.prog 91 = .struct [(0,1,false),(1,1,false)] 2:=by kernel_rfl
theorem zt91:zeroT Proofs.Tryz.prog 91=some [.int .i64 0,.int .i64 0]:=by kernel_rfl
theorem so91:szOk Proofs.Tryz.prog 91=True:=eq_true (szOk_of (n:=2) sh91 (by kernel_rfl) (by decide) (by decide))
theorem zs91:zsT Proofs.Tryz.prog 91=some [.int .i64 0,.int .i64 0]:=by kernel_rfl
theorem sh93:shp Proofs.Tryz.prog 93 = .struct [(0,1,false),(1,1,false),(2,1,false),(3,1,false)] 4:=by kernel_rfl
theorem zt93:zeroT Proofs.Tryz.prog 93=some [.int .i64 0,.int .i64 0,.string ⟨([]:List UInt8).toArray⟩,.int .i64 0]:=by kernel_rfl
theorem so93:szOk Proofs.Tryz.prog 93=True:=eq_true (szOk_of (n:=4) sh93 (by kernel_rfl) (by decide) (by decide))
theorem zs93:zsT Proofs.Tryz.prog 93=some [.int .i64 0,.int .i64 0,.string ⟨([]:List UInt8).toArray⟩,.int .i64 0]:=by kernel_rfl
theorem sh94:shp Proofs.Tryz.prog 94 = .struct [(0,1,false),(1,1,false),(2,1,false),(3,1,false)] 4:=by kernel_rfl
theorem zt94:zeroT Proofs.Tryz.prog 94=some [.int .i64 0,.int .i64 0,.string ⟨([]:List UInt8).toArray⟩,.int .i64 0]:=by kernel_rfl
theorem so94:szOk Proofs.Tryz.prog 94=True:=eq_true (szOk_of (n:=4) sh94 (by kernel_rfl) (by decide) (by decide))
theorem zs94:zsT Proofs.Tryz.prog 94=some [.int .i64 0,.int .i64 0,.string ⟨([]:List UInt8).toArray⟩,.int .i64 0]:=by kernel_rfl
theorem sh96:shp Proofs.Tryz.prog 96 = .slice 101 3 true:=by kernel_rfl
theorem so96:szOk Proofs.Tryz.prog 96=True:=eq_true (szOk_of (n:=1) sh96 (by kernel_rfl) (by decide) (by decide))
theorem sl96:slT Proofs.Tryz.prog 96=some (101,3,24,[.bool false,.int .i64 0,.int .i64 0]):=by kernel_rfl
theorem zs96:zsT Proofs.Tryz.prog 96=some [.slice none 0 0]:=by kernel_rfl
theorem sh97:shp Proofs.Tryz.prog 97 = .struct [(0,1,false),(1,1,false)] 2:=by kernel_rfl
theorem zt97:zeroT Proofs.Tryz.prog 97=some [.string ⟨([]:List UInt8).toArray⟩,.slice none 0 0]:=by kernel_rfl
theorem so97:szOk Proofs.Tryz.prog 97=True:=eq_true (szOk_of (n:=2) sh97 (by kernel_rfl) (by decide) (by decide))
theorem zs97:zsT Proofs.Tryz.prog 97=some [.string ⟨([]:List UInt8).toArray⟩,.slice none 0 0]:=by kernel_rfl
theorem sh98:shp Proofs.Tryz.prog 98 = .struct [(0,1,false),(1,1,false)] 2:=by kernel_rfl
theorem zt98:zeroT Proofs.Tryz.prog 98=some [.string ⟨([]:List UInt8).toArray⟩,.slice none 0 0]:=by kernel_rfl
theorem so98:szOk Proofs.Tryz.prog 98=True:=eq_true (szOk_of (n:=2) sh98 (by kernel_rfl) (by decide) (by decide))
theorem zs98:zsT Proofs.Tryz.prog 98=some [.string ⟨([]:List UInt8).toArray⟩,.slice none 0 0]:=by kernel_rfl
theorem sh100:shp Proofs.Tryz.prog 100 = .struct [(0,1,false),(1,1,false),(2,1,false)] 3:=by kernel_rfl
theorem zt100:zeroT Proofs.Tryz.prog 100=some [.bool false,.int .i64 0,.int .i64 0]:=by kernel_rfl
theorem so100:szOk Proofs.Tryz.prog 100=True:=eq_true (szOk_of (n:=3) sh100 (by kernel_rfl) (by decide) (by decide))
theorem zs100:zsT Proofs.Tryz.prog 100=some [.bool false,.int .i64 0,.int .i64 0]:=by kernel_rfl
theorem sh101:shp Proofs.Tryz.prog 101 = .struct [(0,1,false),(1,1,false),(2,1,false)] 3:=by kernel_rfl
theorem zt101:zeroT Proofs.Tryz.prog 101=some [.bool false,.int .i64 0,.int .i64 0]:=by kernel_rfl
theorem so101:szOk Proofs.Tryz.prog 101=True:=eq_true (szOk_of (n:=3) sh101 (by kernel_rfl) (by decide) (by decide))
theorem zs101:zsT Proofs.Tryz.prog 101=some [.bool false,.int .i64 0,.int .i64 0]:=by kernel_rfl
theorem sh109:shp Proofs.Tryz.prog 109 = .slice 5 1 false:=by kernel_rfl
theorem so109:szOk Proofs.Tryz.prog 109=True:=eq_true (szOk_of (n:=1) sh109 (by kernel_rfl) (by decide) (by decide))
theorem sl109:slT Proofs.Tryz.prog 109=some (5,1,1,[.int .u8 0]):=by kernel_rfl
theorem zs109:zsT Proofs.Tryz.prog 109=some [.slice none 0 0]:=by kernel_rfl
theorem sh111:shp Proofs.Tryz.prog 111 = .int .u64:=by kernel_rfl
theorem so111:szOk Proofs.Tryz.prog 111=True:=eq_true (szOk_of (n:=1) sh111 (by kernel_rfl) (by decide) (by decide))
theorem zs111:zsT Proofs.Tryz.prog 111=some [.int .u64 0]:=by kernel_rfl
theorem sh154:shp Proofs.Tryz.prog 154 = .slice 32 1 false:=by kernel_rfl
theorem so154:szOk Proofs.Tryz.prog 154=True:=eq_true (szOk_of (n:=1) sh154 (by kernel_rfl) (by decide) (by decide))
theorem sl154:slT Proofs.Tryz.prog 154=some (32,1,24,[.slice none 0 0]):=by kernel_rfl
theorem zs154:zsT Proofs.Tryz.prog 154=some [.slice none 0 0]:=by kernel_rfl
theorem sh161:shp Proofs.Tryz.prog 161 = .slice 160 1 false:=by kernel_rfl
theorem so161:szOk Proofs.Tryz.prog 161=True:=eq_true (szOk_of (n:=1) sh161 (by kernel_rfl) (by decide) (by decide))
theorem sl161:slT Proofs.Tryz.prog 161=some (160,1,8,[.pointer none]):=by kernel_rfl
theorem zs161:zsT Proofs.Tryz.prog 161=some [.slice none 0 0]:=by kernel_rfl
theorem sh164:shp Proofs.Tryz.prog 164 = .arr 3 1 3:=by kernel_rfl
theorem so164:szOk Proofs.Tryz.prog 164=True:=eq_true (szOk_of (n:=3) sh164 (by kernel_rfl) (by decide) (by decide))
theorem zs164:zsT Proofs.Tryz.prog 164=some [.string ⟨([]:List UInt8).toArray⟩,.string ⟨([]:List UInt8).toArray⟩,.string ⟨([]:List UInt8).toArray⟩]:=by kernel_rfl
theorem sh178:shp Proofs.Tryz.prog 178 = .int .u64:=by kernel_rfl
theorem so178:szOk Proofs.Tryz.prog 178=True:=eq_true (szOk_of (n:=1) sh178 (by kernel_rfl) (by decide) (by decide))
theorem zs178:zsT Proofs.Tryz.prog 178=some [.int .u64 0]:=by kernel_rfl
theorem sh191:shp Proofs.Tryz.prog 191 = .int .u64:=by kernel_rfl
theorem so191:szOk Proofs.Tryz.prog 191=True:=eq_true (szOk_of (n:=1) sh191 (by kernel_rfl) (by decide) (by decide))
theorem zs191:zsT Proofs.Tryz.prog 191=some [.int .u64 0]:=by kernel_rfl
theorem sh192:shp Proofs.Tryz.prog 192 = .struct [(0,1,false),(1,1,false),(2,1,false)] 3:=by kernel_rfl
theorem zt192:zeroT Proofs.Tryz.prog 192=some [.pointer none,.pointer none,.int .u64 0]:=by kernel_rfl
theorem so192:szOk Proofs.Tryz.prog 192=True:=eq_true (szOk_of (n:=3) sh192 (by kernel_rfl) (by decide) (by decide))
theorem zs192:zsT Proofs.Tryz.prog 192=some [.pointer none,.pointer none,.int .u64 0]:=by kernel_rfl
theorem sh193:shp Proofs.Tryz.prog 193 = .struct [(0,1,false),(1,1,false),(2,1,false)] 3:=by kernel_rfl
theorem zt193:zeroT Proofs.Tryz.prog 193=some [.pointer none,.pointer none,.int .u64 0]:=by kernel_rfl
theorem so193:szOk Proofs.Tryz.prog 193=True:=eq_true (szOk_of (n:=3) sh193 (by kernel_rfl) (by decide) (by decide))
theorem zs193:zsT Proofs.Tryz.prog 193=some [.pointer none,.pointer none,.int .u64 0]:=by kernel_rfl
theorem sh200:shp Proofs.Tryz.prog 200 = .struct [(0,1,false),(1,1,false)] 2:=by kernel_rfl
theorem zt200:zeroT Proofs.Tryz.prog 200=some [.nilFunc,.nilFunc]:=by kernel_rfl
theorem so200:szOk Proofs.Tryz.prog 200=True:=eq_true (szOk_of (n:=2) sh200 (by kernel_rfl) (by decide) (by decide))
theorem sh201:shp Proofs.Tryz.prog 201 = .struct [(0,1,false),(1,1,false)] 2:=by kernel_rfl
theorem zt201:zeroT Proofs.Tryz.prog 201=some [.nilFunc,.nilFunc]:=by kernel_rfl
theorem so201:szOk Proofs.Tryz.prog 201=True:=eq_true (szOk_of (n:=2) sh201 (by kernel_rfl) (by decide) (by decide))
theorem sh214:shp Proofs.Tryz.prog 214 = .struct [(0,1,false)] 1:=by kernel_rfl
theorem zt214:zeroT Proofs.Tryz.prog 214=some [.pointer none]:=by kernel_rfl
theorem so214:szOk Proofs.Tryz.prog 214=True:=eq_true (szOk_of (n:=1) sh214 (by kernel_rfl) (by decide) (by decide))
theorem zs214:zsT Proofs.Tryz.prog 214=some [.pointer none]:=by kernel_rfl
theorem sh215:shp Proofs.Tryz.prog 215 = .struct [(0,1,false)] 1:=by kernel_rfl
theorem zt215:zeroT Proofs.Tryz.prog 215=some [.pointer none]:=by kernel_rfl
theorem so215:szOk Proofs.Tryz.prog 215=True:=eq_true (szOk_of (n:=1) sh215 (by kernel_rfl) (by decide) (by decide))
theorem zs215:zsT Proofs.Tryz.prog 215=some [.pointer none]:=by kernel_rfl
theorem sh218:shp Proofs.Tryz.prog 218 = .int .u32:=by kernel_rfl
theorem so218:szOk Proofs.Tryz.prog 218=True:=eq_true (szOk_of (n:=1) sh218 (by kernel_rfl) (by decide) (by decide))
theorem zs218:zsT Proofs.Tryz.prog 218=some [.int .u32 0]:=by kernel_rfl
theorem sh220:shp Proofs.Tryz.prog 220 = .int .i64:=by kernel_rfl
theorem so220:szOk Proofs.Tryz.prog 220=True:=eq_true (szOk_of (n:=1) sh220 (by kernel_rfl) (by decide) (by decide))
theorem zs220:zsT Proofs.Tryz.prog 220=some [.int .i64 0]:=by kernel_rfl
theorem sh228:shp Proofs.Tryz.prog 228 = .int .u64:=by kernel_rfl
theorem so228:szOk Proofs.Tryz.prog 228=True:=eq_true (szOk_of (n:=1) sh228 (by kernel_rfl) (by decide) (by decide))
theorem zs228:zsT Proofs.Tryz.prog 228=some [.int .u64 0]:=by kernel_rfl
theorem sh237:shp Proofs.Tryz.prog 237 = .struct [(0,1,false),(1,1,false)] 2:=by kernel_rfl
theorem zt237:zeroT Proofs.Tryz.prog 237=some [.int .u8 0,.int .u8 0]:=by kernel_rfl
theorem so237:szOk Proofs.Tryz.prog 237=True:=eq_true (szOk_of (n:=2) sh237 (by kernel_rfl) (by decide) (by decide))
theorem zs237:zsT Proofs.Tryz.prog 237=some [.int .u8 0,.int .u8 0]:=by kernel_rfl
theorem sh238:shp Proofs.Tryz.prog 238 = .struct [(0,1,false),(1,1,false)] 2:=by kernel_rfl
theorem zt238:zeroT Proofs.Tryz.prog 238=some [.int .u8 0,.int .u8 0]:=by kernel_rfl
theorem so238:szOk Proofs.Tryz.prog 238=True:=eq_true (szOk_of (n:=2) sh238 (by kernel_rfl) (by decide) (by decide))
theorem zs238:zsT Proofs.Tryz.prog 238=some [.int .u8 0,.int .u8 0]:=by kernel_rfl
theorem sh244:shp Proofs.Tryz.prog 244 = .struct [(0,1,false),(1,1,false),(2,1,false),(3,1,false)] 4:=by kernel_rfl
theorem zt244:zeroT Proofs.Tryz.prog 244=some [.pointer none,.pointer none,.pointer none,.string ⟨([]:List UInt8).toArray⟩]:=by kernel_rfl
theorem so244:szOk Proofs.Tryz.prog 244=True:=eq_true (szOk_of (n:=4) sh244 (by kernel_rfl) (by decide) (by decide))
theorem zs244:zsT Proofs.Tryz.prog 244=some [.pointer none,.pointer none,.pointer none,.string ⟨([]:List UInt8).toArray⟩]:=by kernel_rfl
theorem sh245:shp Proofs.Tryz.prog 245 = .struct [(0,1,false),(1,1,false),(2,1,false),(3,1,false)] 4:=by kernel_rfl
theorem zt245:zeroT Proofs.Tryz.prog 245=some [.pointer none,.pointer none,.pointer none,.string ⟨([]:List UInt8).toArray⟩]:=by kernel_rfl
theorem so245:szOk Proofs.Tryz.prog 245=True:=eq_true (szOk_of (n:=4) sh245 (by kernel_rfl) (by decide) (by decide))
theorem zs245:zsT Proofs.Tryz.prog 245=some [.pointer none,.pointer none,.pointer none,.string ⟨([]:List UInt8).toArray⟩]:=by kernel_rfl
theorem sh247:shp Proofs.Tryz.prog 247 = .struct [(0,0,true)] 0:=by kernel_rfl
theorem zt247:zeroT Proofs.Tryz.prog 247=some []:=by kernel_rfl
theorem zs247:zsT Proofs.Tryz.prog 247=some []:=by kernel_rfl
theorem sh248:shp Proofs.Tryz.prog 248 = .struct [(0,0,true)] 0:=by kernel_rfl
theorem zt248:zeroT Proofs.Tryz.prog 248=some []:=by kernel_rfl
theorem zs248:zsT Proofs.Tryz.prog 248=some []:=by kernel_rfl
theorem sh249:shp Proofs.Tryz.prog 249 = .int .u8:=by kernel_rfl
theorem so249:szOk Proofs.Tryz.prog 249=True:=eq_true (szOk_of (n:=1) sh249 (by kernel_rfl) (by decide) (by decide))
theorem zs249:zsT Proofs.Tryz.prog 249=some [.int .u8 0]:=by kernel_rfl
theorem sh250:shp Proofs.Tryz.prog 250 = .int .u8:=by kernel_rfl
theorem so250:szOk Proofs.Tryz.prog 250=True:=eq_true (szOk_of (n:=1) sh250 (by kernel_rfl) (by decide) (by decide))
theorem zs250:zsT Proofs.Tryz.prog 250=some [.int .u8 0]:=by kernel_rfl
theorem sh253:shp Proofs.Tryz.prog 253 = .int .i32:=by kernel_rfl
theorem so253:szOk Proofs.Tryz.prog 253=True:=eq_true (szOk_of (n:=1) sh253 (by kernel_rfl) (by decide) (by decide))
theorem zs253:zsT Proofs.Tryz.prog 253=some [.int .i32 0]:=by kernel_rfl
theorem sh254:shp Proofs.Tryz.prog 254 = .int .i32:=by kernel_rfl
theorem so254:szOk Proofs.Tryz.prog 254=True:=eq_true (szOk_of (n:=1) sh254 (by kernel_rfl) (by decide) (by decide))
theorem zs254:zsT Proofs.Tryz.prog 254=some [.int .i32 0]:=by kernel_rfl
theorem sh255:shp Proofs.Tryz.prog 255 = .struct [(0,1,false),(1,1,false),(2,1,false),(3,1,false),(4,1,false),(5,1,false),(6,1,false),(7,1,false),(8,1,false),(9,1,false),(10,1,false)] 11:=by kernel_rfl
theorem zt255:zeroT Proofs.Tryz.prog 255=some [.int .u64 0,.int .u64 0,.int .u32 0,.int .u8 0,.int .u8 0,.int .u8 0,.int .u8 0,.nilFunc,.pointer none,.int .i32 0,.int .i32 0]:=by kernel_rfl
theorem so255:szOk Proofs.Tryz.prog 255=True:=eq_true (szOk_of (n:=11) sh255 (by kernel_rfl) (by decide) (by decide))
theorem sh256:shp Proofs.Tryz.prog 256 = .struct [(0,1,false),(1,1,false),(2,1,false),(3,1,false),(4,1,false),(5,1,false),(6,1,false),(7,1,false),(8,1,false),(9,1,false),(10,1,false)] 11:=by kernel_rfl
theorem zt256:zeroT Proofs.Tryz.prog 256=some [.int .u64 0,.int .u64 0,.int .u32 0,.int .u8 0,.int .u8 0,.int .u8 0,.int .u8 0,.nilFunc,.pointer none,.int .i32 0,.int .i32 0]:=by kernel_rfl
theorem so256:szOk Proofs.Tryz.prog 256=True:=eq_true (szOk_of (n:=11) sh256 (by kernel_rfl) (by decide) (by decide))
theorem sh257:shp Proofs.Tryz.prog 257 = .struct [(0,1,false),(1,1,false)] 2:=by kernel_rfl
theorem zt257:zeroT Proofs.Tryz.prog 257=some [.string ⟨([]:List UInt8).toArray⟩,.int .u8 0]:=by kernel_rfl
theorem so257:szOk Proofs.Tryz.prog 257=True:=eq_true (szOk_of (n:=2) sh257 (by kernel_rfl) (by decide) (by decide))
theorem zs257:zsT Proofs.Tryz.prog 257=some [.string ⟨([]:List UInt8).toArray⟩,.int .u8 0]:=by kernel_rfl
theorem sh258:shp Proofs.Tryz.prog 258 = .struct [(0,1,false),(1,1,false)] 2:=by kernel_rfl
theorem zt258:zeroT Proofs.Tryz.prog 258=some [.string ⟨([]:List UInt8).toArray⟩,.int .u8 0]:=by kernel_rfl
theorem so258:szOk Proofs.Tryz.prog 258=True:=eq_true (szOk_of (n:=2) sh258 (by kernel_rfl) (by decide) (by decide))
theorem zs258:zsT Proofs.Tryz.prog 258=some [.string ⟨([]:List UInt8).toArray⟩,.int .u8 0]:=by kernel_rfl
theorem eq29:eqT Proofs.Tryz.prog 29=some [.int .i64,.str,.str,.int .i64,.str]:=by kernel_rfl
theorem eq65:eqT Proofs.Tryz.prog 65=some [.int .i64,.str]:=by kernel_rfl
theorem eq91:eqT Proofs.Tryz.prog 91=some [.int .i64,.int .i64]:=by kernel_rfl
theorem eq94:eqT Proofs.Tryz.prog 94=some [.int .i64,.int .i64,.str,.int .i64]:=by kernel_rfl
theorem eq101:eqT Proofs.Tryz.prog 101=some [.bool,.int .i64,.int .i64]:=by kernel_rfl
theorem shs:(((((((shp Proofs.Tryz.prog 2 = .int .i64)∧(shp Proofs.Tryz.prog 3 = .int .i64))∧((shp Proofs.Tryz.prog 4 = .bool)∧(shp Proofs.Tryz.prog 5 = .int .u8)))∧(((shp Proofs.Tryz.prog 6 = .int .u8)∧(shp Proofs.Tryz.prog 7 = .struct [(0,1,false),(1,1,false),(2,1,false),(3,1,false)] 4))∧((shp Proofs.Tryz.prog 8 = .struct [(0,1,false),(1,1,false),(2,1,false),(3,1,false)] 4)∧((shp Proofs.Tryz.prog 9 = .str)∧(shp Proofs.Tryz.prog 10 = .str)))))∧((((shp Proofs.Tryz.prog 11 = .str)∧(shp Proofs.Tryz.prog 12 = .int .u64))∧((shp Proofs.Tryz.prog 13 = .struct [(0,1,false),(1,1,false)] 2)∧(shp Proofs.Tryz.prog 14 = .struct [(0,1,false),(1,1,false)] 2)))∧(((shp Proofs.Tryz.prog 18 = .struct [(0,1,false)] 1)∧(shp Proofs.Tryz.prog 19 = .struct [(0,1,false)] 1))∧((shp Proofs.Tryz.prog 21 = .int .i32)∧((shp Proofs.Tryz.prog 22 = .slice 40 1 false)∧(shp Proofs.Tryz.prog 23 = .slice 29 5 true))))))∧(((((shp Proofs.Tryz.prog 26 = .int .i64)∧(shp Proofs.Tryz.prog 28 = .struct [(0,1,false),(1,1,false),(2,1,false),(3,1,false),(4,1,false)] 5))∧((shp Proofs.Tryz.prog 29 = .struct [(0,1,false),(1,1,false),(2,1,false),(3,1,false),(4,1,false)] 5)∧(shp Proofs.Tryz.prog 31 = .slice 94 4 true)))∧(((shp Proofs.Tryz.prog 32 = .slice 98 2 true)∧(shp Proofs.Tryz.prog 33 = .struct [(0,1,false),(1,1,false)] 2))∧((shp Proofs.Tryz.prog 34 = .struct [(0,1,false),(1,1,false)] 2)∧((shp Proofs.Tryz.prog 35 = .slice 91 2 true)∧(shp Proofs.Tryz.prog 36 = .struct [(0,1,false),(1,1,false),(2,1,false),(3,1,false)] 4)))))∧((((shp Proofs.Tryz.prog 37 = .struct [(0,1,false),(1,1,false),(2,1,false),(3,1,false)] 4)∧(shp Proofs.Tryz.prog 38 = .struct [(0,2,true),(2,4,true),(6,1,false),(7,1,false)] 8))∧((shp Proofs.Tryz.prog 39 = .struct [(0,2,true),(2,4,true),(6,1,false),(7,1,false)] 8)∧((shp Proofs.Tryz.prog 40 = .slice 3 1 false)∧(shp Proofs.Tryz.prog 56 = .struct [(0,2,true),(2,4,true),(6,1,false),(7,1,false)] 8))))∧(((shp Proofs.Tryz.prog 57 = .struct [(0,2,true),(2,4,true),(6,1,false),(7,1,false)] 8)∧(shp Proofs.Tryz.prog 64 = .struct [(0,1,false),(1,1,false)] 2))∧((shp Proofs.Tryz.prog 65 = .struct [(0,1,false),(1,1,false)] 2)∧((shp Proofs.Tryz.prog 71 = .slice 9 1 false)∧(shp Proofs.Tryz.prog 90 = .struct [(0,1,false),(1,1,false)] 2)))))))∧((((((shp Proofs.Tryz.prog 91 = .struct [(0,1,false),(1,1,false)] 2)∧(shp Proofs.Tryz.prog 93 = .struct [(0,1,false),(1,1,false),(2,1,false),(3,1,false)] 4))∧((shp Proofs.Tryz.prog 94 = .struct [(0,1,false),(1,1,false),(2,1,false),(3,1,false)] 4)∧(shp Proofs.Tryz.prog 96 = .slice 101 3 true)))∧(((shp Proofs.Tryz.prog 97 = .struct [(0,1,false),(1,1,false)] 2)∧(shp Proofs.Tryz.prog 98 = .struct [(0,1,false),(1,1,false)] 2))∧((shp Proofs.Tryz.prog 100 = .struct [(0,1,false),(1,1,false),(2,1,false)] 3)∧((shp Proofs.Tryz.prog 101 = .struct [(0,1,false),(1,1,false),(2,1,false)] 3)∧(shp Proofs.Tryz.prog 109 = .slice 5 1 false)))))∧((((shp Proofs.Tryz.prog 111 = .int .u64)∧(shp Proofs.Tryz.prog 154 = .slice 32 1 false))∧((shp Proofs.Tryz.prog 161 = .slice 160 1 false)∧((shp Proofs.Tryz.prog 164 = .arr 3 1 3)∧(shp Proofs.Tryz.prog 178 = .int .u64))))∧(((shp Proofs.Tryz.prog 191 = .int .u64)∧(shp Proofs.Tryz.prog 192 = .struct [(0,1,false),(1,1,false),(2,1,false)] 3))∧((shp Proofs.Tryz.prog 193 = .struct [(0,1,false),(1,1,false),(2,1,false)] 3)∧((shp Proofs.Tryz.prog 200 = .struct [(0,1,false),(1,1,false)] 2)∧(shp Proofs.Tryz.prog 201 = .struct [(0,1,false),(1,1,false)] 2))))))∧(((((shp Proofs.Tryz.prog 214 = .struct [(0,1,false)] 1)∧(shp Proofs.Tryz.prog 215 = .struct [(0,1,false)] 1))∧((shp Proofs.Tryz.prog 218 = .int .u32)∧(shp Proofs.Tryz.prog 220 = .int .i64)))∧(((shp Proofs.Tryz.prog 228 = .int .u64)∧(shp Proofs.Tryz.prog 237 = .struct [(0,1,false),(1,1,false)] 2))∧((shp Proofs.Tryz.prog 238 = .struct [(0,1,false),(1,1,false)] 2)∧((shp Proofs.Tryz.prog 244 = .struct [(0,1,false),(1,1,false),(2,1,false),(3,1,false)] 4)∧(shp Proofs.Tryz.prog 245 = .struct [(0,1,false),(1,1,false),(2,1,false),(3,1,false)] 4)))))∧((((shp Proofs.Tryz.prog 247 = .struct [(0,0,true)] 0)∧(shp Proofs.Tryz.prog 248 = .struct [(0,0,true)] 0))∧((shp Proofs.Tryz.prog 249 = .int .u8)∧((shp Proofs.Tryz.prog 250 = .int .u8)∧(shp Proofs.Tryz.prog 253 = .int .i32))))∧(((shp Proofs.Tryz.prog 254 = .int .i32)∧(shp Proofs.Tryz.prog 255 = .struct [(0,1,false),(1,1,false),(2,1,false),(3,1,false),(4,1,false),(5,1,false),(6,1,false),(7,1,false),(8,1,false),(9,1,false),(10,1,false)] 11))∧((shp Proofs.Tryz.prog 256 = .struct [(0,1,false),(1,1,false),(2,1,false),(3,1,false),(4,1,false),(5,1,false),(6,1,false),(7,1,false),(8,1,false),(9,1,false),(10,1,false)] 11)∧((shp Proofs.Tryz.prog 257 = .struct [(0,1,false),(1,1,false)] 2)∧(shp Proofs.Tryz.prog 258 = .struct [(0,1,false),(1,1,false)] 2)))))))):=
  ⟨⟨⟨⟨⟨⟨sh2,sh3⟩,⟨sh4,sh5⟩⟩,⟨⟨sh6,sh7⟩,⟨sh8,⟨sh9,sh10⟩⟩⟩⟩,⟨⟨⟨sh11,sh12⟩,⟨sh13,sh14⟩⟩,⟨⟨sh18,sh19⟩,⟨sh21,⟨sh22,sh23⟩⟩⟩⟩⟩,⟨⟨⟨⟨sh26,sh28⟩,⟨sh29,sh31⟩⟩,⟨⟨sh32,sh33⟩,⟨sh34,⟨sh35,sh36⟩⟩⟩⟩,⟨⟨⟨sh37,sh38⟩,⟨sh39,⟨sh40,sh56⟩⟩⟩,⟨⟨sh57,sh64⟩,⟨sh65,⟨sh71,sh90⟩⟩⟩⟩⟩⟩,⟨⟨⟨⟨⟨sh91,sh93⟩,⟨sh94,sh96⟩⟩,⟨⟨sh97,sh98⟩,⟨sh100,⟨sh101,sh109⟩⟩⟩⟩,⟨⟨⟨sh111,sh154⟩,⟨sh161,⟨sh164,sh178⟩⟩⟩,⟨⟨sh191,sh192⟩,⟨sh193,⟨sh200,sh201⟩⟩⟩⟩⟩,⟨⟨⟨⟨sh214,sh215⟩,⟨sh218,sh220⟩⟩,⟨⟨sh228,sh237⟩,⟨sh238,⟨sh244,sh245⟩⟩⟩⟩,⟨⟨⟨sh247,sh248⟩,⟨sh249,⟨sh250,sh253⟩⟩⟩,⟨⟨sh254,sh255⟩,⟨sh256,⟨sh257,sh258⟩⟩⟩⟩⟩⟩⟩
theorem zts:((((((zeroT Proofs.Tryz.prog 7=some [.int .i64 0,.int .i64 0,.bool false,.int .u8 0])∧(zeroT Proofs.Tryz.prog 8=some [.int .i64 0,.int .i64 0,.bool false,.int .u8 0]))∧((zeroT Proofs.Tryz.prog 13=some [.string ⟨([]:List UInt8).toArray⟩,.int .u64 0])∧((zeroT Proofs.Tryz.prog 14=some [.string ⟨([]:List UInt8).toArray⟩,.int .u64 0])∧(zeroT Proofs.Tryz.prog 18=some [.pointer none]))))∧(((zeroT Proofs.Tryz.prog 19=some [.pointer none])∧(zeroT Proofs.Tryz.prog 28=some [.int .i64 0,.string ⟨([]:List UInt8).toArray⟩,.string ⟨([]:List UInt8).toArray⟩,.int .i64 0,.string ⟨([]:List UInt8).toArray⟩]))∧((zeroT Proofs.Tryz.prog 29=some [.int .i64 0,.string ⟨([]:List UInt8).toArray⟩,.string ⟨([]:List UInt8).toArray⟩,.int .i64 0,.string ⟨([]:List UInt8).toArray⟩])∧((zeroT Proofs.Tryz.prog 33=some [.slice none 0 0,.slice none 0 0])∧(zeroT Proofs.Tryz.prog 34=some [.slice none 0 0,.slice none 0 0])))))∧((((zeroT Proofs.Tryz.prog 36=some [.int .i64 0,.slice none 0 0,.int .i64 0,.int .i64 0])∧(zeroT Proofs.Tryz.prog 37=some [.int .i64 0,.slice none 0 0,.int .i64 0,.int .i64 0]))∧((zeroT Proofs.Tryz.prog 38=some [.slice none 0 0,.slice none 0 0,.int .i64 0,.slice none 0 0,.int .i64 0,.int .i64 0,.string ⟨([]:List UInt8).toArray⟩,.int .i64 0])∧((zeroT Proofs.Tryz.prog 39=some [.slice none 0 0,.slice none 0 0,.int .i64 0,.slice none 0 0,.int .i64 0,.int .i64 0,.string ⟨([]:List UInt8).toArray⟩,.int .i64 0])∧(zeroT Proofs.Tryz.prog 56=some [.slice none 0 0,.slice none 0 0,.int .i64 0,.slice none 0 0,.int .i64 0,.int .i64 0,.string ⟨([]:List UInt8).toArray⟩,.int .i64 0]))))∧(((zeroT Proofs.Tryz.prog 57=some [.slice none 0 0,.slice none 0 0,.int .i64 0,.slice none 0 0,.int .i64 0,.int .i64 0,.string ⟨([]:List UInt8).toArray⟩,.int .i64 0])∧((zeroT Proofs.Tryz.prog 64=some [.int .i64 0,.string ⟨([]:List UInt8).toArray⟩])∧(zeroT Proofs.Tryz.prog 65=some [.int .i64 0,.string ⟨([]:List UInt8).toArray⟩])))∧((zeroT Proofs.Tryz.prog 90=some [.int .i64 0,.int .i64 0])∧((zeroT Proofs.Tryz.prog 91=some [.int .i64 0,.int .i64 0])∧(zeroT Proofs.Tryz.prog 93=some [.int .i64 0,.int .i64 0,.string ⟨([]:List UInt8).toArray⟩,.int .i64 0]))))))∧(((((zeroT Proofs.Tryz.prog 94=some [.int .i64 0,.int .i64 0,.string ⟨([]:List UInt8).toArray⟩,.int .i64 0])∧(zeroT Proofs.Tryz.prog 97=some [.string ⟨([]:List UInt8).toArray⟩,.slice none 0 0]))∧((zeroT Proofs.Tryz.prog 98=some [.string ⟨([]:List UInt8).toArray⟩,.slice none 0 0])∧((zeroT Proofs.Tryz.prog 100=some [.bool false,.int .i64 0,.int .i64 0])∧(zeroT Proofs.Tryz.prog 101=some [.bool false,.int .i64 0,.int .i64 0]))))∧(((zeroT Proofs.Tryz.prog 192=some [.pointer none,.pointer none,.int .u64 0])∧(zeroT Proofs.Tryz.prog 193=some [.pointer none,.pointer none,.int .u64 0]))∧((zeroT Proofs.Tryz.prog 200=some [.nilFunc,.nilFunc])∧((zeroT Proofs.Tryz.prog 201=some [.nilFunc,.nilFunc])∧(zeroT Proofs.Tryz.prog 214=some [.pointer none])))))∧((((zeroT Proofs.Tryz.prog 215=some [.pointer none])∧(zeroT Proofs.Tryz.prog 237=some [.int .u8 0,.int .u8 0]))∧((zeroT Proofs.Tryz.prog 238=some [.int .u8 0,.int .u8 0])∧((zeroT Proofs.Tryz.prog 244=some [.pointer none,.pointer none,.pointer none,.string ⟨([]:List UInt8).toArray⟩])∧(zeroT Proofs.Tryz.prog 245=some [.pointer none,.pointer none,.pointer none,.string ⟨([]:List UInt8).toArray⟩]))))∧(((zeroT Proofs.Tryz.prog 247=some [])∧((zeroT Proofs.Tryz.prog 248=some [])∧(zeroT Proofs.Tryz.prog 255=some [.int .u64 0,.int .u64 0,.int .u32 0,.int .u8 0,.int .u8 0,.int .u8 0,.int .u8 0,.nilFunc,.pointer none,.int .i32 0,.int .i32 0])))∧((zeroT Proofs.Tryz.prog 256=some [.int .u64 0,.int .u64 0,.int .u32 0,.int .u8 0,.int .u8 0,.int .u8 0,.int .u8 0,.nilFunc,.pointer none,.int .i32 0,.int .i32 0])∧((zeroT Proofs.Tryz.prog 257=some [.string ⟨([]:List UInt8).toArray⟩,.int .u8 0])∧(zeroT Proofs.Tryz.prog 258=some [.string ⟨([]:List UInt8).toArray⟩,.int .u8 0]))))))):=
  ⟨⟨⟨⟨⟨zt7,zt8⟩,⟨zt13,⟨zt14,zt18⟩⟩⟩,⟨⟨zt19,zt28⟩,⟨zt29,⟨zt33,zt34⟩⟩⟩⟩,⟨⟨⟨zt36,zt37⟩,⟨zt38,⟨zt39,zt56⟩⟩⟩,⟨⟨zt57,⟨zt64,zt65⟩⟩,⟨zt90,⟨zt91,zt93⟩⟩⟩⟩⟩,⟨⟨⟨⟨zt94,zt97⟩,⟨zt98,⟨zt100,zt101⟩⟩⟩,⟨⟨zt192,zt193⟩,⟨zt200,⟨zt201,zt214⟩⟩⟩⟩,⟨⟨⟨zt215,zt237⟩,⟨zt238,⟨zt244,zt245⟩⟩⟩,⟨⟨zt247,⟨zt248,zt255⟩⟩,⟨zt256,⟨zt257,zt258⟩⟩⟩⟩⟩⟩
theorem sos:(((((((szOk Proofs.Tryz.prog 2=True)∧(szOk Proofs.Tryz.prog 3=True))∧((szOk Proofs.Tryz.prog 4=True)∧(szOk Proofs.Tryz.prog 5=True)))∧(((szOk Proofs.Tryz.prog 6=True)∧(szOk Proofs.Tryz.prog 7=True))∧((szOk Proofs.Tryz.prog 8=True)∧((szOk Proofs.Tryz.prog 9=True)∧(szOk Proofs.Tryz.prog 10=True)))))∧((((szOk Proofs.Tryz.prog 11=True)∧(szOk Proofs.Tryz.prog 12=True))∧((szOk Proofs.Tryz.prog 13=True)∧(szOk Proofs.Tryz.prog 14=True)))∧(((szOk Proofs.Tryz.prog 18=True)∧(szOk Proofs.Tryz.prog 19=True))∧((szOk Proofs.Tryz.prog 21=True)∧((szOk Proofs.Tryz.prog 22=True)∧(szOk Proofs.Tryz.prog 23=True))))))∧(((((szOk Proofs.Tryz.prog 26=True)∧(szOk Proofs.Tryz.prog 28=True))∧((szOk Proofs.Tryz.prog 29=True)∧(szOk Proofs.Tryz.prog 31=True)))∧(((szOk Proofs.Tryz.prog 32=True)∧(szOk Proofs.Tryz.prog 33=True))∧((szOk Proofs.Tryz.prog 34=True)∧((szOk Proofs.Tryz.prog 35=True)∧(szOk Proofs.Tryz.prog 36=True)))))∧((((szOk Proofs.Tryz.prog 37=True)∧(szOk Proofs.Tryz.prog 38=True))∧((szOk Proofs.Tryz.prog 39=True)∧(szOk Proofs.Tryz.prog 40=True)))∧(((szOk Proofs.Tryz.prog 56=True)∧(szOk Proofs.Tryz.prog 57=True))∧((szOk Proofs.Tryz.prog 64=True)∧((szOk Proofs.Tryz.prog 65=True)∧(szOk Proofs.Tryz.prog 71=True)))))))∧((((((szOk Proofs.Tryz.prog 90=True)∧(szOk Proofs.Tryz.prog 91=True))∧((szOk Proofs.Tryz.prog 93=True)∧(szOk Proofs.Tryz.prog 94=True)))∧(((szOk Proofs.Tryz.prog 96=True)∧(szOk Proofs.Tryz.prog 97=True))∧((szOk Proofs.Tryz.prog 98=True)∧((szOk Proofs.Tryz.prog 100=True)∧(szOk Proofs.Tryz.prog 101=True)))))∧((((szOk Proofs.Tryz.prog 109=True)∧(szOk Proofs.Tryz.prog 111=True))∧((szOk Proofs.Tryz.prog 154=True)∧(szOk Proofs.Tryz.prog 161=True)))∧(((szOk Proofs.Tryz.prog 164=True)∧(szOk Proofs.Tryz.prog 178=True))∧((szOk Proofs.Tryz.prog 191=True)∧((szOk Proofs.Tryz.prog 192=True)∧(szOk Proofs.Tryz.prog 193=True))))))∧(((((szOk Proofs.Tryz.prog 200=True)∧(szOk Proofs.Tryz.prog 201=True))∧((szOk Proofs.Tryz.prog 214=True)∧(szOk Proofs.Tryz.prog 215=True)))∧(((szOk Proofs.Tryz.prog 218=True)∧(szOk Proofs.Tryz.prog 220=True))∧((szOk Proofs.Tryz.prog 228=True)∧((szOk Proofs.Tryz.prog 237=True)∧(szOk Proofs.Tryz.prog 238=True)))))∧((((szOk Proofs.Tryz.prog 244=True)∧(szOk Proofs.Tryz.prog 245=True))∧((szOk Proofs.Tryz.prog 249=True)∧((szOk Proofs.Tryz.prog 250=True)∧(szOk Proofs.Tryz.prog 253=True))))∧(((szOk Proofs.Tryz.prog 254=True)∧(szOk Proofs.Tryz.prog 255=True))∧((szOk Proofs.Tryz.prog 256=True)∧((szOk Proofs.Tryz.prog 257=True)∧(szOk Proofs.Tryz.prog 258=True)))))))):=
  ⟨⟨⟨⟨⟨⟨so2,so3⟩,⟨so4,so5⟩⟩,⟨⟨so6,so7⟩,⟨so8,⟨so9,so10⟩⟩⟩⟩,⟨⟨⟨so11,so12⟩,⟨so13,so14⟩⟩,⟨⟨so18,so19⟩,⟨so21,⟨so22,so23⟩⟩⟩⟩⟩,⟨⟨⟨⟨so26,so28⟩,⟨so29,so31⟩⟩,⟨⟨so32,so33⟩,⟨so34,⟨so35,so36⟩⟩⟩⟩,⟨⟨⟨so37,so38⟩,⟨so39,so40⟩⟩,⟨⟨so56,so57⟩,⟨so64,⟨so65,so71⟩⟩⟩⟩⟩⟩,⟨⟨⟨⟨⟨so90,so91⟩,⟨so93,so94⟩⟩,⟨⟨so96,so97⟩,⟨so98,⟨so100,so101⟩⟩⟩⟩,⟨⟨⟨so109,so111⟩,⟨so154,so161⟩⟩,⟨⟨so164,so178⟩,⟨so191,⟨so192,so193⟩⟩⟩⟩⟩,⟨⟨⟨⟨so200,so201⟩,⟨so214,so215⟩⟩,⟨⟨so218,so220⟩,⟨so228,⟨so237,so238⟩⟩⟩⟩,⟨⟨⟨so244,so245⟩,⟨so249,⟨so250,so253⟩⟩⟩,⟨⟨so254,so255⟩,⟨so256,⟨so257,so258⟩⟩⟩⟩⟩⟩⟩
theorem sls:((((slT Proofs.Tryz.prog 22=some (40,1,24,[.slice none 0 0]))∧(slT Proofs.Tryz.prog 23=some (29,5,64,[.int .i64 0,.string ⟨([]:List UInt8).toArray⟩,.string ⟨([]:List UInt8).toArray⟩,.int .i64 0,.string ⟨([]:List UInt8).toArray⟩])))∧((slT Proofs.Tryz.prog 31=some (94,4,40,[.int .i64 0,.int .i64 0,.string ⟨([]:List UInt8).toArray⟩,.int .i64 0]))∧((slT Proofs.Tryz.prog 32=some (98,2,40,[.string ⟨([]:List UInt8).toArray⟩,.slice none 0 0]))∧(slT Proofs.Tryz.prog 35=some (91,2,16,[.int .i64 0,.int .i64 0])))))∧(((slT Proofs.Tryz.prog 40=some (3,1,8,[.int .i64 0]))∧((slT Proofs.Tryz.prog 71=some (9,1,16,[.string ⟨([]:List UInt8).toArray⟩]))∧(slT Proofs.Tryz.prog 96=some (101,3,24,[.bool false,.int .i64 0,.int .i64 0]))))∧((slT Proofs.Tryz.prog 109=some (5,1,1,[.int .u8 0]))∧((slT Proofs.Tryz.prog 154=some (32,1,24,[.slice none 0 0]))∧(slT Proofs.Tryz.prog 161=some (160,1,8,[.pointer none])))))):=
  ⟨⟨⟨sl22,sl23⟩,⟨sl31,⟨sl32,sl35⟩⟩⟩,⟨⟨sl40,⟨sl71,sl96⟩⟩,⟨sl109,⟨sl154,sl161⟩⟩⟩⟩
theorem zss:(((((((zsT Proofs.Tryz.prog 2=some [.int .i64 0])∧(zsT Proofs.Tryz.prog 3=some [.int .i64 0]))∧((zsT Proofs.Tryz.prog 4=some [.bool false])∧(zsT Proofs.Tryz.prog 5=some [.int .u8 0])))∧(((zsT Proofs.Tryz.prog 6=some [.int .u8 0])∧(zsT Proofs.Tryz.prog 7=some [.int .i64 0,.int .i64 0,.bool false,.int .u8 0]))∧((zsT Proofs.Tryz.prog 8=some [.int .i64 0,.int .i64 0,.bool false,.int .u8 0])∧(zsT Proofs.Tryz.prog 9=some [.string ⟨([]:List UInt8).toArray⟩]))))∧((((zsT Proofs.Tryz.prog 10=some [.string ⟨([]:List UInt8).toArray⟩])∧(zsT Proofs.Tryz.prog 11=some [.string ⟨([]:List UInt8).toArray⟩]))∧((zsT Proofs.Tryz.prog 12=some [.int .u64 0])∧(zsT Proofs.Tryz.prog 13=some [.string ⟨([]:List UInt8).toArray⟩,.int .u64 0])))∧(((zsT Proofs.Tryz.prog 14=some [.string ⟨([]:List UInt8).toArray⟩,.int .u64 0])∧(zsT Proofs.Tryz.prog 18=some [.pointer none]))∧((zsT Proofs.Tryz.prog 19=some [.pointer none])∧((zsT Proofs.Tryz.prog 21=some [.int .i32 0])∧(zsT Proofs.Tryz.prog 22=some [.slice none 0 0]))))))∧(((((zsT Proofs.Tryz.prog 23=some [.slice none 0 0])∧(zsT Proofs.Tryz.prog 26=some [.int .i64 0]))∧((zsT Proofs.Tryz.prog 28=some [.int .i64 0,.string ⟨([]:List UInt8).toArray⟩,.string ⟨([]:List UInt8).toArray⟩,.int .i64 0,.string ⟨([]:List UInt8).toArray⟩])∧(zsT Proofs.Tryz.prog 29=some [.int .i64 0,.string ⟨([]:List UInt8).toArray⟩,.string ⟨([]:List UInt8).toArray⟩,.int .i64 0,.string ⟨([]:List UInt8).toArray⟩])))∧(((zsT Proofs.Tryz.prog 31=some [.slice none 0 0])∧(zsT Proofs.Tryz.prog 32=some [.slice none 0 0]))∧((zsT Proofs.Tryz.prog 33=some [.slice none 0 0,.slice none 0 0])∧((zsT Proofs.Tryz.prog 34=some [.slice none 0 0,.slice none 0 0])∧(zsT Proofs.Tryz.prog 35=some [.slice none 0 0])))))∧((((zsT Proofs.Tryz.prog 36=some [.int .i64 0,.slice none 0 0,.int .i64 0,.int .i64 0])∧(zsT Proofs.Tryz.prog 37=some [.int .i64 0,.slice none 0 0,.int .i64 0,.int .i64 0]))∧((zsT Proofs.Tryz.prog 38=some [.slice none 0 0,.slice none 0 0,.int .i64 0,.slice none 0 0,.int .i64 0,.int .i64 0,.string ⟨([]:List UInt8).toArray⟩,.int .i64 0])∧(zsT Proofs.Tryz.prog 39=some [.slice none 0 0,.slice none 0 0,.int .i64 0,.slice none 0 0,.int .i64 0,.int .i64 0,.string ⟨([]:List UInt8).toArray⟩,.int .i64 0])))∧(((zsT Proofs.Tryz.prog 40=some [.slice none 0 0])∧(zsT Proofs.Tryz.prog 56=some [.slice none 0 0,.slice none 0 0,.int .i64 0,.slice none 0 0,.int .i64 0,.int .i64 0,.string ⟨([]:List UInt8).toArray⟩,.int .i64 0]))∧((zsT Proofs.Tryz.prog 57=some [.slice none 0 0,.slice none 0 0,.int .i64 0,.slice none 0 0,.int .i64 0,.int .i64 0,.string ⟨([]:List UInt8).toArray⟩,.int .i64 0])∧((zsT Proofs.Tryz.prog 64=some [.int .i64 0,.string ⟨([]:List UInt8).toArray⟩])∧(zsT Proofs.Tryz.prog 65=some [.int .i64 0,.string ⟨([]:List UInt8).toArray⟩])))))))∧((((((zsT Proofs.Tryz.prog 71=some [.slice none 0 0])∧(zsT Proofs.Tryz.prog 90=some [.int .i64 0,.int .i64 0]))∧((zsT Proofs.Tryz.prog 91=some [.int .i64 0,.int .i64 0])∧(zsT Proofs.Tryz.prog 93=some [.int .i64 0,.int .i64 0,.string ⟨([]:List UInt8).toArray⟩,.int .i64 0])))∧(((zsT Proofs.Tryz.prog 94=some [.int .i64 0,.int .i64 0,.string ⟨([]:List UInt8).toArray⟩,.int .i64 0])∧(zsT Proofs.Tryz.prog 96=some [.slice none 0 0]))∧((zsT Proofs.Tryz.prog 97=some [.string ⟨([]:List UInt8).toArray⟩,.slice none 0 0])∧((zsT Proofs.Tryz.prog 98=some [.string ⟨([]:List UInt8).toArray⟩,.slice none 0 0])∧(zsT Proofs.Tryz.prog 100=some [.bool false,.int .i64 0,.int .i64 0])))))∧((((zsT Proofs.Tryz.prog 101=some [.bool false,.int .i64 0,.int .i64 0])∧(zsT Proofs.Tryz.prog 109=some [.slice none 0 0]))∧((zsT Proofs.Tryz.prog 111=some [.int .u64 0])∧(zsT Proofs.Tryz.prog 154=some [.slice none 0 0])))∧(((zsT Proofs.Tryz.prog 161=some [.slice none 0 0])∧(zsT Proofs.Tryz.prog 164=some [.string ⟨([]:List UInt8).toArray⟩,.string ⟨([]:List UInt8).toArray⟩,.string ⟨([]:List UInt8).toArray⟩]))∧((zsT Proofs.Tryz.prog 178=some [.int .u64 0])∧((zsT Proofs.Tryz.prog 191=some [.int .u64 0])∧(zsT Proofs.Tryz.prog 192=some [.pointer none,.pointer none,.int .u64 0]))))))∧(((((zsT Proofs.Tryz.prog 193=some [.pointer none,.pointer none,.int .u64 0])∧(zsT Proofs.Tryz.prog 214=some [.pointer none]))∧((zsT Proofs.Tryz.prog 215=some [.pointer none])∧(zsT Proofs.Tryz.prog 218=some [.int .u32 0])))∧(((zsT Proofs.Tryz.prog 220=some [.int .i64 0])∧(zsT Proofs.Tryz.prog 228=some [.int .u64 0]))∧((zsT Proofs.Tryz.prog 237=some [.int .u8 0,.int .u8 0])∧((zsT Proofs.Tryz.prog 238=some [.int .u8 0,.int .u8 0])∧(zsT Proofs.Tryz.prog 244=some [.pointer none,.pointer none,.pointer none,.string ⟨([]:List UInt8).toArray⟩])))))∧((((zsT Proofs.Tryz.prog 245=some [.pointer none,.pointer none,.pointer none,.string ⟨([]:List UInt8).toArray⟩])∧(zsT Proofs.Tryz.prog 247=some []))∧((zsT Proofs.Tryz.prog 248=some [])∧(zsT Proofs.Tryz.prog 249=some [.int .u8 0])))∧(((zsT Proofs.Tryz.prog 250=some [.int .u8 0])∧(zsT Proofs.Tryz.prog 253=some [.int .i32 0]))∧((zsT Proofs.Tryz.prog 254=some [.int .i32 0])∧((zsT Proofs.Tryz.prog 257=some [.string ⟨([]:List UInt8).toArray⟩,.int .u8 0])∧(zsT Proofs.Tryz.prog 258=some [.string ⟨([]:List UInt8).toArray⟩,.int .u8 0])))))))):=
  ⟨⟨⟨⟨⟨⟨zs2,zs3⟩,⟨zs4,zs5⟩⟩,⟨⟨zs6,zs7⟩,⟨zs8,zs9⟩⟩⟩,⟨⟨⟨zs10,zs11⟩,⟨zs12,zs13⟩⟩,⟨⟨zs14,zs18⟩,⟨zs19,⟨zs21,zs22⟩⟩⟩⟩⟩,⟨⟨⟨⟨zs23,zs26⟩,⟨zs28,zs29⟩⟩,⟨⟨zs31,zs32⟩,⟨zs33,⟨zs34,zs35⟩⟩⟩⟩,⟨⟨⟨zs36,zs37⟩,⟨zs38,zs39⟩⟩,⟨⟨zs40,zs56⟩,⟨zs57,⟨zs64,zs65⟩⟩⟩⟩⟩⟩,⟨⟨⟨⟨⟨zs71,zs90⟩,⟨zs91,zs93⟩⟩,⟨⟨zs94,zs96⟩,⟨zs97,⟨zs98,zs100⟩⟩⟩⟩,⟨⟨⟨zs101,zs109⟩,⟨zs111,zs154⟩⟩,⟨⟨zs161,zs164⟩,⟨zs178,⟨zs191,zs192⟩⟩⟩⟩⟩,⟨⟨⟨⟨zs193,zs214⟩,⟨zs215,zs218⟩⟩,⟨⟨zs220,zs228⟩,⟨zs237,⟨zs238,zs244⟩⟩⟩⟩,⟨⟨⟨zs245,zs247⟩,⟨zs248,zs249⟩⟩,⟨⟨zs250,zs253⟩,⟨zs254,⟨zs257,zs258⟩⟩⟩⟩⟩⟩⟩
theorem eqs:(((eqT Proofs.Tryz.prog 29=some [.int .i64,.str,.str,.int .i64,.str])∧(eqT Proofs.Tryz.prog 65=some [.int .i64,.str]))∧((eqT Proofs.Tryz.prog 91=some [.int .i64,.int .i64])∧((eqT Proofs.Tryz.prog 94=some [.int .i64,.int .i64,.str,.int .i64])∧(eqT Proofs.Tryz.prog 101=some [.bool,.int .i64,.int .i64])))):=
  ⟨⟨eq29,eq65⟩,⟨eq91,⟨eq94,eq101⟩⟩⟩
theorem zz:type_of% (And.intro (And.intro @shs (And.intro @zts @sos)) (And.intro @sls (And.intro @zss @eqs))):=And.intro (And.intro @shs (And.intro @zts @sos)) (And.intro @sls (And.intro @zss @eqs))
end Go.X

