/- The shapes of the types of this translation. Conditions: none. -/
import Derived.Test.YthafjlokddpjfaaGreatDoorProg
import Derived.KernelRfl
import Derived.Test.YthafjlokddpjfaaGreatDoorFwB
open Go.Proofs.Tryz renaming prog → qz
set_option linter.unusedVariables false
namespace Go.X
open Go
theorem sh2:shp qz 2 = .int .i64:=by kernel_rfl
theorem so2:szOk qz 2=True:=eq_true (szOk_of (n:=1) sh2 (by kernel_rfl) (by decide) (by decide))
theorem zs2:zsT qz 2=some [.int .i64 0]:=by kernel_rfl
theorem sh3:shp qz 3 = .int .i64:=by kernel_rfl
theorem so3:szOk qz 3=True:=eq_true (szOk_of (n:=1) sh3 (by kernel_rfl) (by decide) (by decide))
theorem zs3:zsT qz 3=some [.int .i64 0]:=by kernel_rfl
theorem sh4:shp qz 4 = .bool:=by kernel_rfl
theorem so4:szOk qz 4=True:=eq_true (szOk_of (n:=1) sh4 (by kernel_rfl) (by decide) (by decide))
theorem zs4:zsT qz 4=some [.bool false]:=by kernel_rfl
theorem sh5:shp qz 5 = .int .u8:=by kernel_rfl
theorem so5:szOk qz 5=True:=eq_true (szOk_of (n:=1) sh5 (by kernel_rfl) (by decide) (by decide))
theorem zs5:zsT qz 5=some [.int .u8 0]:=by kernel_rfl
theorem sh6:shp qz 6 = .int .u8:=by kernel_rfl
theorem so6:szOk qz 6=True:=eq_true (szOk_of (n:=1) sh6 (by kernel_rfl) (by decide) (by decide))
theorem zs6:zsT qz 6=some [.int .u8 0]:=by kernel_rfl
theorem sh7:shp qz 7 = .struct [(0,1,false),(1,1,false),(2,1,false),(3,1,false)] 4:=by kernel_rfl
theorem zt7:zeroT qz 7=some [.int .i64 0,.int .i64 0,.bool false,.int .u8 0]:=by kernel_rfl
theorem so7:szOk qz 7=True:=eq_true (szOk_of (n:=4) sh7 (by kernel_rfl) (by decide) (by decide))
theorem zs7:zsT qz 7=some [.int .i64 0,.int .i64 0,.bool false,.int .u8 0]:=by kernel_rfl
theorem sh8:shp qz 8 = .struct [(0,1,false),(1,1,false),(2,1,false),(3,1,false)] 4:=by kernel_rfl
theorem zt8:zeroT qz 8=some [.int .i64 0,.int .i64 0,.bool false,.int .u8 0]:=by kernel_rfl
theorem so8:szOk qz 8=True:=eq_true (szOk_of (n:=4) sh8 (by kernel_rfl) (by decide) (by decide))
theorem zs8:zsT qz 8=some [.int .i64 0,.int .i64 0,.bool false,.int .u8 0]:=by kernel_rfl
theorem sh9:shp qz 9 = .str:=by kernel_rfl
theorem so9:szOk qz 9=True:=eq_true (szOk_of (n:=1) sh9 (by kernel_rfl) (by decide) (by decide))
theorem zs9:zsT qz 9=some [.string ⟨([]:List UInt8).toArray⟩]:=by kernel_rfl
theorem sh10:shp qz 10 = .str:=by kernel_rfl
theorem so10:szOk qz 10=True:=eq_true (szOk_of (n:=1) sh10 (by kernel_rfl) (by decide) (by decide))
theorem zs10:zsT qz 10=some [.string ⟨([]:List UInt8).toArray⟩]:=by kernel_rfl
theorem sh11:shp qz 11 = .str:=by kernel_rfl
theorem so11:szOk qz 11=True:=eq_true (szOk_of (n:=1) sh11 (by kernel_rfl) (by decide) (by decide))
theorem zs11:zsT qz 11=some [.string ⟨([]:List UInt8).toArray⟩]:=by kernel_rfl
theorem sh12:shp qz 12 = .int .u64:=by kernel_rfl
theorem so12:szOk qz 12=True:=eq_true (szOk_of (n:=1) sh12 (by kernel_rfl) (by decide) (by decide))
theorem zs12:zsT qz 12=some [.int .u64 0]:=by kernel_rfl
theorem sh13:shp qz 13 = .struct [(0,1,false),(1,1,false)] 2:=by kernel_rfl
theorem zt13:zeroT qz 13=some [.string ⟨([]:List UInt8).toArray⟩,.int .u64 0]:=by kernel_rfl
theorem so13:szOk qz 13=True:=eq_true (szOk_of (n:=2) sh13 (by kernel_rfl) (by decide) (by decide))
theorem zs13:zsT qz 13=some [.string ⟨([]:List UInt8).toArray⟩,.int .u64 0]:=by kernel_rfl
theorem sh14:shp qz 14 = .struct [(0,1,false),(1,1,false)] 2:=by kernel_rfl
theorem zt14:zeroT qz 14=some [.string ⟨([]:List UInt8).toArray⟩,.int .u64 0]:=by kernel_rfl
theorem so14:szOk qz 14=True:=eq_true (szOk_of (n:=2) sh14 (by kernel_rfl) (by decide) (by decide))
theorem zs14:zsT qz 14=some [.string ⟨([]:List UInt8).toArray⟩,.int .u64 0]:=by kernel_rfl
theorem sh18:shp qz 18 = .struct [(0,1,false)] 1:=by kernel_rfl
theorem zt18:zeroT qz 18=some [.pointer none]:=by kernel_rfl
theorem so18:szOk qz 18=True:=eq_true (szOk_of (n:=1) sh18 (by kernel_rfl) (by decide) (by decide))
theorem zs18:zsT qz 18=some [.pointer none]:=by kernel_rfl
theorem sh19:shp qz 19 = .struct [(0,1,false)] 1:=by kernel_rfl
theorem zt19:zeroT qz 19=some [.pointer none]:=by kernel_rfl
theorem so19:szOk qz 19=True:=eq_true (szOk_of (n:=1) sh19 (by kernel_rfl) (by decide) (by decide))
theorem zs19:zsT qz 19=some [.pointer none]:=by kernel_rfl
theorem sh21:shp qz 21 = .int .i32:=by kernel_rfl
theorem so21:szOk qz 21=True:=eq_true (szOk_of (n:=1) sh21 (by kernel_rfl) (by decide) (by decide))
theorem zs21:zsT qz 21=some [.int .i32 0]:=by kernel_rfl
theorem sh23:shp qz 23 = .slice 36 1 false:=by kernel_rfl
theorem so23:szOk qz 23=True:=eq_true (szOk_of (n:=1) sh23 (by kernel_rfl) (by decide) (by decide))
theorem sl23:slT qz 23=some (36,1,24,[.slice none 0 0]):=by kernel_rfl
theorem zs23:zsT qz 23=some [.slice none 0 0]:=by kernel_rfl
theorem sh27:shp qz 27 = .slice 181 4 true:=by kernel_rfl
theorem so27:szOk qz 27=True:=eq_true (szOk_of (n:=1) sh27 (by kernel_rfl) (by decide) (by decide))
theorem sl27:slT qz 27=some (181,4,40,[.int .i64 0,.int .i64 0,.string ⟨([]:List UInt8).toArray⟩,.int .i64 0]):=by kernel_rfl
theorem zs27:zsT qz 27=some [.slice none 0 0]:=by kernel_rfl
theorem sh28:shp qz 28 = .slice 68 2 true:=by kernel_rfl
theorem so28:szOk qz 28=True:=eq_true (szOk_of (n:=1) sh28 (by kernel_rfl) (by decide) (by decide))
theorem sl28:slT qz 28=some (68,2,40,[.string ⟨([]:List UInt8).toArray⟩,.slice none 0 0]):=by kernel_rfl
theorem zs28:zsT qz 28=some [.slice none 0 0]:=by kernel_rfl
theorem sh29:shp qz 29 = .struct [(0,1,false),(1,1,false)] 2:=by kernel_rfl
theorem zt29:zeroT qz 29=some [.slice none 0 0,.slice none 0 0]:=by kernel_rfl
theorem so29:szOk qz 29=True:=eq_true (szOk_of (n:=2) sh29 (by kernel_rfl) (by decide) (by decide))
theorem zs29:zsT qz 29=some [.slice none 0 0,.slice none 0 0]:=by kernel_rfl
theorem sh30:shp qz 30 = .struct [(0,1,false),(1,1,false)] 2:=by kernel_rfl
theorem zt30:zeroT qz 30=some [.slice none 0 0,.slice none 0 0]:=by kernel_rfl
theorem so30:szOk qz 30=True:=eq_true (szOk_of (n:=2) sh30 (by kernel_rfl) (by decide) (by decide))
theorem zs30:zsT qz 30=some [.slice none 0 0,.slice none 0 0]:=by kernel_rfl
theorem sh31:shp qz 31 = .slice 185 2 true:=by kernel_rfl
theorem so31:szOk qz 31=True:=eq_true (szOk_of (n:=1) sh31 (by kernel_rfl) (by decide) (by decide))
theorem sl31:slT qz 31=some (185,2,16,[.int .i64 0,.int .i64 0]):=by kernel_rfl
theorem zs31:zsT qz 31=some [.slice none 0 0]:=by kernel_rfl
theorem sh32:shp qz 32 = .struct [(0,1,false),(1,1,false),(2,1,false),(3,1,false)] 4:=by kernel_rfl
theorem zt32:zeroT qz 32=some [.int .i64 0,.slice none 0 0,.int .i64 0,.int .i64 0]:=by kernel_rfl
theorem so32:szOk qz 32=True:=eq_true (szOk_of (n:=4) sh32 (by kernel_rfl) (by decide) (by decide))
theorem zs32:zsT qz 32=some [.int .i64 0,.slice none 0 0,.int .i64 0,.int .i64 0]:=by kernel_rfl
theorem sh33:shp qz 33 = .struct [(0,1,false),(1,1,false),(2,1,false),(3,1,false)] 4:=by kernel_rfl
theorem zt33:zeroT qz 33=some [.int .i64 0,.slice none 0 0,.int .i64 0,.int .i64 0]:=by kernel_rfl
theorem so33:szOk qz 33=True:=eq_true (szOk_of (n:=4) sh33 (by kernel_rfl) (by decide) (by decide))
theorem zs33:zsT qz 33=some [.int .i64 0,.slice none 0 0,.int .i64 0,.int .i64 0]:=by kernel_rfl
theorem sh34:shp qz 34 = .struct [(0,2,true),(2,4,true),(6,1,false),(7,1,false)] 8:=by kernel_rfl
theorem zt34:zeroT qz 34=some [.slice none 0 0,.slice none 0 0,.int .i64 0,.slice none 0 0,.int .i64 0,.int .i64 0,.string ⟨([]:List UInt8).toArray⟩,.int .i64 0]:=by kernel_rfl
theorem so34:szOk qz 34=True:=eq_true (szOk_of (n:=8) sh34 (by kernel_rfl) (by decide) (by decide))
theorem zs34:zsT qz 34=some [.slice none 0 0,.slice none 0 0,.int .i64 0,.slice none 0 0,.int .i64 0,.int .i64 0,.string ⟨([]:List UInt8).toArray⟩,.int .i64 0]:=by kernel_rfl
theorem sh35:shp qz 35 = .struct [(0,2,true),(2,4,true),(6,1,false),(7,1,false)] 8:=by kernel_rfl
theorem zt35:zeroT qz 35=some [.slice none 0 0,.slice none 0 0,.int .i64 0,.slice none 0 0,.int .i64 0,.int .i64 0,.string ⟨([]:List UInt8).toArray⟩,.int .i64 0]:=by kernel_rfl
theorem so35:szOk qz 35=True:=eq_true (szOk_of (n:=8) sh35 (by kernel_rfl) (by decide) (by decide))
theorem zs35:zsT qz 35=some [.slice none 0 0,.slice none 0 0,.int .i64 0,.slice none 0 0,.int .i64 0,.int .i64 0,.string ⟨([]:List UInt8).toArray⟩,.int .i64 0]:=by kernel_rfl
theorem sh36:shp qz 36 = .slice 9 1 false:=by kernel_rfl
theorem so36:szOk qz 36=True:=eq_true (szOk_of (n:=1) sh36 (by kernel_rfl) (by decide) (by decide))
theorem sl36:slT qz 36=some (9,1,16,[.string ⟨([]:List UInt8).toArray⟩]):=by kernel_rfl
theorem zs36:zsT qz 36=some [.slice none 0 0]:=by kernel_rfl
theorem sh47:shp qz 47 = .struct [(0,1,false)] 1:=by kernel_rfl
theorem zt47:zeroT qz 47=some [.pointer none]:=by kernel_rfl
theorem so47:szOk qz 47=True:=eq_true (szOk_of (n:=1) sh47 (by kernel_rfl) (by decide) (by decide))
theorem zs47:zsT qz 47=some [.pointer none]:=by kernel_rfl
theorem sh48:shp qz 48 = .struct [(0,1,false)] 1:=by kernel_rfl
theorem zt48:zeroT qz 48=some [.pointer none]:=by kernel_rfl
theorem so48:szOk qz 48=True:=eq_true (szOk_of (n:=1) sh48 (by kernel_rfl) (by decide) (by decide))
theorem zs48:zsT qz 48=some [.pointer none]:=by kernel_rfl
theorem sh50:shp qz 50 = .slice 5 1 false:=by kernel_rfl
theorem so50:szOk qz 50=True:=eq_true (szOk_of (n:=1) sh50 (by kernel_rfl) (by decide) (by decide))
theorem sl50:slT qz 50=some (5,1,1,[.int .u8 0]):=by kernel_rfl
theorem zs50:zsT qz 50=some [.slice none 0 0]:=by kernel_rfl
theorem sh51:shp qz 51 = .struct [(0,1,false),(1,1,false)] 2:=by kernel_rfl
theorem zt51:zeroT qz 51=some [.pointer none,.slice none 0 0]:=by kernel_rfl
theorem so51:szOk qz 51=True:=eq_true (szOk_of (n:=2) sh51 (by kernel_rfl) (by decide) (by decide))
theorem zs51:zsT qz 51=some [.pointer none,.slice none 0 0]:=by kernel_rfl
theorem sh52:shp qz 52 = .struct [(0,1,false),(1,1,false)] 2:=by kernel_rfl
theorem zt52:zeroT qz 52=some [.pointer none,.slice none 0 0]:=by kernel_rfl
theorem so52:szOk qz 52=True:=eq_true (szOk_of (n:=2) sh52 (by kernel_rfl) (by decide) (by decide))
theorem zs52:zsT qz 52=none:=by kernel_rfl
theorem sh60:shp qz 60 = .int .i64:=by kernel_rfl
theorem so60:szOk qz 60=True:=eq_true (szOk_of (n:=1) sh60 (by kernel_rfl) (by decide) (by decide))
theorem zs60:zsT qz 60=some [.int .i64 0]:=by kernel_rfl
theorem sh61:shp qz 61 = .slice 3 1 false:=by kernel_rfl
theorem so61:szOk qz 61=True:=eq_true (szOk_of (n:=1) sh61 (by kernel_rfl) (by decide) (by decide))
theorem sl61:slT qz 61=some (3,1,8,[.int .i64 0]):=by kernel_rfl
theorem zs61:zsT qz 61=some [.slice none 0 0]:=by kernel_rfl
theorem sh66:shp qz 66 = .slice 178 3 true:=by kernel_rfl
theorem so66:szOk qz 66=True:=eq_true (szOk_of (n:=1) sh66 (by kernel_rfl) (by decide) (by decide))
theorem sl66:slT qz 66=some (178,3,24,[.bool false,.int .i64 0,.int .i64 0]):=by kernel_rfl
theorem zs66:zsT qz 66=some [.slice none 0 0]:=by kernel_rfl
theorem sh67:shp qz 67 = .struct [(0,1,false),(1,1,false)] 2:=by kernel_rfl
theorem zt67:zeroT qz 67=some [.string ⟨([]:List UInt8).toArray⟩,.slice none 0 0]:=by kernel_rfl
theorem so67:szOk qz 67=True:=eq_true (szOk_of (n:=2) sh67 (by kernel_rfl) (by decide) (by decide))
theorem zs67:zsT qz 67=some [.string ⟨([]:List UInt8).toArray⟩,.slice none 0 0]:=by kernel_rfl
theorem sh68:shp qz 68 = .struct [(0,1,false),(1,1,false)] 2:=by kernel_rfl
theorem zt68:zeroT qz 68=some [.string ⟨([]:List UInt8).toArray⟩,.slice none 0 0]:=by kernel_rfl
theorem so68:szOk qz 68=True:=eq_true (szOk_of (n:=2) sh68 (by kernel_rfl) (by decide) (by decide))
theorem zs68:zsT qz 68=some [.string ⟨([]:List UInt8).toArray⟩,.slice none 0 0]:=by kernel_rfl
theorem sh75:shp qz 75 = .struct [(0,2,true),(2,4,true),(6,1,false),(7,1,false)] 8:=by kernel_rfl
theorem zt75:zeroT qz 75=some [.slice none 0 0,.slice none 0 0,.int .i64 0,.slice none 0 0,.int .i64 0,.int .i64 0,.string ⟨([]:List UInt8).toArray⟩,.int .i64 0]:=by kernel_rfl
theorem so75:szOk qz 75=True:=eq_true (szOk_of (n:=8) sh75 (by kernel_rfl) (by decide) (by decide))
theorem zs75:zsT qz 75=some [.slice none 0 0,.slice none 0 0,.int .i64 0,.slice none 0 0,.int .i64 0,.int .i64 0,.string ⟨([]:List UInt8).toArray⟩,.int .i64 0]:=by kernel_rfl
theorem sh76:shp qz 76 = .struct [(0,2,true),(2,4,true),(6,1,false),(7,1,false)] 8:=by kernel_rfl
theorem zt76:zeroT qz 76=some [.slice none 0 0,.slice none 0 0,.int .i64 0,.slice none 0 0,.int .i64 0,.int .i64 0,.string ⟨([]:List UInt8).toArray⟩,.int .i64 0]:=by kernel_rfl
theorem so76:szOk qz 76=True:=eq_true (szOk_of (n:=8) sh76 (by kernel_rfl) (by decide) (by decide))
theorem zs76:zsT qz 76=some [.slice none 0 0,.slice none 0 0,.int .i64 0,.slice none 0 0,.int .i64 0,.int .i64 0,.string ⟨([]:List UInt8).toArray⟩,.int .i64 0]:=by kernel_rfl
theorem sh77:shp qz 77 = .struct [(0,1,false)] 1:=by kernel_rfl
theorem zt77:zeroT qz 77=some [.int .i64 0]:=by kernel_rfl
theorem so77:szOk qz 77=True:=eq_true (szOk_of (n:=1) sh77 (by kernel_rfl) (by decide) (by decide))
theorem zs77:zsT qz 77=some [.int .i64 0]:=by kernel_rfl
theorem sh78:shp qz 78 = .struct [(0,1,false)] 1:=by kernel_rfl
theorem zt78:zeroT qz 78=some [.int .i64 0]:=by kernel_rfl
theorem so78:szOk qz 78=True:=eq_true (szOk_of (n:=1) sh78 (by kernel_rfl) (by decide) (by decide))
theorem zs78:zsT qz 78=some [.int .i64 0]:=by kernel_rfl
theorem sh81:shp qz 81 = .struct [(0,1,false),(1,1,false)] 2:=by kernel_rfl
theorem zt81:zeroT qz 81=some [.slice none 0 0,.int .i64 0]:=by kernel_rfl
theorem so81:szOk qz 81=True:=eq_true (szOk_of (n:=2) sh81 (by kernel_rfl) (by decide) (by decide))
theorem zs81:zsT qz 81=some [.slice none 0 0,.int .i64 0]:=by kernel_rfl
theorem sh82:shp qz 82 = .struct [(0,1,false),(1,1,false)] 2:=by kernel_rfl
theorem zt82:zeroT qz 82=some [.slice none 0 0,.int .i64 0]:=by kernel_rfl
theorem so82:szOk qz 82=True:=eq_true (szOk_of (n:=2) sh82 (by kernel_rfl) (by decide) (by decide))
theorem zs82:zsT qz 82=some [.slice none 0 0,.int .i64 0]:=by kernel_rfl
theorem sh95:shp qz 95 = .struct [(0,1,false),(1,1,false),(2,1,false),(3,1,false),(4,1,false)] 5:=by kernel_rfl
theorem zt95:zeroT qz 95=some [.int .i64 0,.string ⟨([]:List UInt8).toArray⟩,.string ⟨([]:List UInt8).toArray⟩,.int .i64 0,.string ⟨([]:List UInt8).toArray⟩]:=by kernel_rfl
theorem so95:szOk qz 95=True:=eq_true (szOk_of (n:=5) sh95 (by kernel_rfl) (by decide) (by decide))
theorem zs95:zsT qz 95=some [.int .i64 0,.string ⟨([]:List UInt8).toArray⟩,.string ⟨([]:List UInt8).toArray⟩,.int .i64 0,.string ⟨([]:List UInt8).toArray⟩]:=by kernel_rfl
theorem sh96:shp qz 96 = .struct [(0,1,false),(1,1,false),(2,1,false),(3,1,false),(4,1,false)] 5:=by kernel_rfl
theorem zt96:zeroT qz 96=some [.int .i64 0,.string ⟨([]:List UInt8).toArray⟩,.string ⟨([]:List UInt8).toArray⟩,.int .i64 0,.string ⟨([]:List UInt8).toArray⟩]:=by kernel_rfl
theorem so96:szOk qz 96=True:=eq_true (szOk_of (n:=5) sh96 (by kernel_rfl) (by decide) (by decide))
theorem zs96:zsT qz 96=some [.int .i64 0,.string ⟨([]:List UInt8).toArray⟩,.string ⟨([]:List UInt8).toArray⟩,.int .i64 0,.string ⟨([]:List UInt8).toArray⟩]:=by kernel_rfl
theorem sh103:shp qz 103 = .int .u64:=by kernel_rfl
theorem so103:szOk qz 103=True:=eq_true (szOk_of (n:=1) sh103 (by kernel_rfl) (by decide) (by decide))
theorem zs103:zsT qz 103=some [.int .u64 0]:=by kernel_rfl
theorem sh117:shp qz 117 = .slice 4 1 false:=by kernel_rfl
theorem so117:szOk qz 117=True:=eq_true (szOk_of (n:=1) sh117 (by kernel_rfl) (by decide) (by decide))
theorem sl117:slT qz 117=some (4,1,1,[.bool false]):=by kernel_rfl
theorem zs117:zsT qz 117=some [.slice none 0 0]:=by kernel_rfl
theorem sh126:shp qz 126 = .slice 167 3 true:=by kernel_rfl
theorem so126:szOk qz 126=True:=eq_true (szOk_of (n:=1) sh126 (by kernel_rfl) (by decide) (by decide))
theorem sl126:slT qz 126=some (167,3,24,[.int .i64 0,.int .i64 0,.int .i64 0]):=by kernel_rfl
theorem zs126:zsT qz 126=some [.slice none 0 0]:=by kernel_rfl
theorem sh134:shp qz 134 = .struct [(0,1,false),(1,1,false)] 2:=by kernel_rfl
theorem zt134:zeroT qz 134=some [.int .i64 0,.string ⟨([]:List UInt8).toArray⟩]:=by kernel_rfl
theorem so134:szOk qz 134=True:=eq_true (szOk_of (n:=2) sh134 (by kernel_rfl) (by decide) (by decide))
theorem zs134:zsT qz 134=some [.int .i64 0,.string ⟨([]:List UInt8).toArray⟩]:=by kernel_rfl
theorem sh135:shp qz 135 = .struct [(0,1,false),(1,1,false)] 2:=by kernel_rfl
theorem zt135:zeroT qz 135=some [.int .i64 0,.string ⟨([]:List UInt8).toArray⟩]:=by kernel_rfl
theorem so135:szOk qz 135=True:=eq_true (szOk_of (n:=2) sh135 (by kernel_rfl) (by decide) (by decide))
theorem zs135:zsT qz 135=some [.int .i64 0,.string ⟨([]:List UInt8).toArray⟩]:=by kernel_rfl
theorem sh148:shp qz 148 = .int .u64:=by kernel_rfl
theorem so148:szOk qz 148=True:=eq_true (szOk_of (n:=1) sh148 (by kernel_rfl) (by decide) (by decide))
theorem zs148:zsT qz 148=some [.int .u64 0]:=by kernel_rfl
theorem sh158:shp qz 158 = .arr 4 1 4:=by kernel_rfl
theorem so158:szOk qz 158=True:=eq_true (szOk_of (n:=4) sh158 (by kernel_rfl) (by decide) (by decide))
theorem zs158:zsT qz 158=some [.int .i64 0,.int .i64 0,.int .i64 0,.int .i64 0]:=by kernel_rfl
theorem sh166:shp qz 166 = .struct [(0,1,false),(1,1,false),(2,1,false)] 3:=by kernel_rfl
theorem zt166:zeroT qz 166=some [.int .i64 0,.int .i64 0,.int .i64 0]:=by kernel_rfl
theorem so166:szOk qz 166=True:=eq_true (szOk_of (n:=3) sh166 (by kernel_rfl) (by decide) (by decide))
theorem zs166:zsT qz 166=some [.int .i64 0,.int .i64 0,.int .i64 0]:=by kernel_rfl
theorem sh167:shp qz 167 = .struct [(0,1,false),(1,1,false),(2,1,false)] 3:=by kernel_rfl
theorem zt167:zeroT qz 167=some [.int .i64 0,.int .i64 0,.int .i64 0]:=by kernel_rfl
theorem so167:szOk qz 167=True:=eq_true (szOk_of (n:=3) sh167 (by kernel_rfl) (by decide) (by decide))
theorem zs167:zsT qz 167=some [.int .i64 0,.int .i64 0,.int .i64 0]:=by kernel_rfl
theorem sh177:shp qz 177 = .struct [(0,1,false),(1,1,false),(2,1,false)] 3:=by kernel_rfl
theorem zt177:zeroT qz 177=some [.bool false,.int .i64 0,.int .i64 0]:=by kernel_rfl
theorem so177:szOk qz 177=True:=eq_true (szOk_of (n:=3) sh177 (by kernel_rfl) (by decide) (by decide))
theorem zs177:zsT qz 177=some [.bool false,.int .i64 0,.int .i64 0]:=by kernel_rfl
theorem sh178:shp qz 178 = .struct [(0,1,false),(1,1,false),(2,1,false)] 3:=by kernel_rfl
theorem zt178:zeroT qz 178=some [.bool false,.int .i64 0,.int .i64 0]:=by kernel_rfl
theorem so178:szOk qz 178=True:=eq_true (szOk_of (n:=3) sh178 (by kernel_rfl) (by decide) (by decide))
theorem zs178:zsT qz 178=some [.bool false,.int .i64 0,.int .i64 0]:=by kernel_rfl
theorem sh180:shp qz 180 = .struct [(0,1,false),(1,1,false),(2,1,false),(3,1,false)] 4:=by kernel_rfl
theorem zt180:zeroT qz 180=some [.int .i64 0,.int .i64 0,.string ⟨([]:List UInt8).toArray⟩,.int .i64 0]:=by kernel_rfl
theorem so180:szOk qz 180=True:=eq_true (szOk_of (n:=4) sh180 (by kernel_rfl) (by decide) (by decide))
theorem zs180:zsT qz 180=some [.int .i64 0,.int .i64 0,.string ⟨([]:List UInt8).toArray⟩,.int .i64 0]:=by kernel_rfl
theorem sh181:shp qz 181 = .struct [(0,1,false),(1,1,false),(2,1,false),(3,1,false)] 4:=by kernel_rfl
theorem zt181:zeroT qz 181=some [.int .i64 0,.int .i64 0,.string ⟨([]:List UInt8).toArray⟩,.int .i64 0]:=by kernel_rfl
theorem so181:szOk qz 181=True:=eq_true (szOk_of (n:=4) sh181 (by kernel_rfl) (by decide) (by decide))
theorem zs181:zsT qz 181=some [.int .i64 0,.int .i64 0,.string ⟨([]:List UInt8).toArray⟩,.int .i64 0]:=by kernel_rfl
theorem sh184:shp qz 184 = .struct [(0,1,false),(1,1,false)] 2:=by kernel_rfl
theorem zt184:zeroT qz 184=some [.int .i64 0,.int .i64 0]:=by kernel_rfl
theorem so184:szOk qz 184=True:=eq_true (szOk_of (n:=2) sh184 (by kernel_rfl) (by decide) (by decide))
theorem zs184:zsT qz 184=some [.int .i64 0,.int .i64 0]:=by kernel_rfl
theorem sh185:shp qz 185 = .struct [(0,1,false),(1,1,false)] 2:=by kernel_rfl
theorem zt185:zeroT qz 185=some [.int .i64 0,.int .i64 0]:=by kernel_rfl
theorem so185:szOk qz 185=True:=eq_true (szOk_of (n:=2) sh185 (by kernel_rfl) (by decide) (by decide))
theorem zs185:zsT qz 185=some [.int .i64 0,.int .i64 0]:=by kernel_rfl
theorem sh189:shp qz 189 = .int .u32:=by kernel_rfl
theorem so189:szOk qz 189=True:=eq_true (szOk_of (n:=1) sh189 (by kernel_rfl) (by decide) (by decide))
theorem zs189:zsT qz 189=some [.int .u32 0]:=by kernel_rfl
theorem sh224:shp qz 224 = .slice 28 1 false:=by kernel_rfl
theorem so224:szOk qz 224=True:=eq_true (szOk_of (n:=1) sh224 (by kernel_rfl) (by decide) (by decide))
theorem sl224:slT qz 224=some (28,1,24,[.slice none 0 0]):=by kernel_rfl
theorem zs224:zsT qz 224=some [.slice none 0 0]:=by kernel_rfl
theorem sh228:shp qz 228 = .arr 3 1 3:=by kernel_rfl
theorem so228:szOk qz 228=True:=eq_true (szOk_of (n:=3) sh228 (by kernel_rfl) (by decide) (by decide))
theorem zs228:zsT qz 228=some [.string ⟨([]:List UInt8).toArray⟩,.string ⟨([]:List UInt8).toArray⟩,.string ⟨([]:List UInt8).toArray⟩]:=by kernel_rfl
theorem sh230:shp qz 230 = .struct [(0,1,false),(1,1,false)] 2:=by kernel_rfl
theorem zt230:zeroT qz 230=some [.int .u8 0,.int .u8 0]:=by kernel_rfl
theorem so230:szOk qz 230=True:=eq_true (szOk_of (n:=2) sh230 (by kernel_rfl) (by decide) (by decide))
theorem zs230:zsT qz 230=some [.int .u8 0,.int .u8 0]:=by kernel_rfl
theorem sh231:shp qz 231 = .struct [(0,1,false),(1,1,false)] 2:=by kernel_rfl
theorem zt231:zeroT qz 231=some [.int .u8 0,.int .u8 0]:=by kernel_rfl
theorem so231:szOk qz 231=True:=eq_true (szOk_of (n:=2) sh231 (by kernel_rfl) (by decide) (by decide))
theorem zs231:zsT qz 231=some [.int .u8 0,.int .u8 0]:=by kernel_rfl
theorem sh236:shp qz 236 = .int .i64:=by kernel_rfl
theorem so236:szOk qz 236=True:=eq_true (szOk_of (n:=1) sh236 (by kernel_rfl) (by decide) (by decide))
theorem zs236:zsT qz 236=some [.int .i64 0]:=by kernel_rfl
theorem sh273:shp qz 273 = .int .u64:=by kernel_rfl
theorem so273:szOk qz 273=True:=eq_true (szOk_of (n:=1) sh273 (by kernel_rfl) (by decide) (by decide))
theorem zs273:zsT qz 273=some [.int .u64 0]:=by kernel_rfl
theorem sh274:shp qz 274 = .struct [(0,1,false),(1,1,false),(2,1,false)] 3:=by kernel_rfl
theorem zt274:zeroT qz 274=some [.pointer none,.pointer none,.int .u64 0]:=by kernel_rfl
theorem so274:szOk qz 274=True:=eq_true (szOk_of (n:=3) sh274 (by kernel_rfl) (by decide) (by decide))
theorem zs274:zsT qz 274=some [.pointer none,.pointer none,.int .u64 0]:=by kernel_rfl
theorem sh275:shp qz 275 = .struct [(0,1,false),(1,1,false),(2,1,false)] 3:=by kernel_rfl
theorem zt275:zeroT qz 275=some [.pointer none,.pointer none,.int .u64 0]:=by kernel_rfl
theorem so275:szOk qz 275=True:=eq_true (szOk_of (n:=3) sh275 (by kernel_rfl) (by decide) (by decide))
theorem zs275:zsT qz 275=some [.pointer none,.pointer none,.int .u64 0]:=by kernel_rfl
theorem sh280:shp qz 280 = .struct [(0,1,false),(1,1,false)] 2:=by kernel_rfl
theorem zt280:zeroT qz 280=some [.nilFunc,.nilFunc]:=by kernel_rfl
theorem so280:szOk qz 280=True:=eq_true (szOk_of (n:=2) sh280 (by kernel_rfl) (by decide) (by decide))
theorem sh281:shp qz 281 = .struct [(0,1,false),(1,1,false)] 2:=by kernel_rfl
theorem zt281:zeroT qz 281=some [.nilFunc,.nilFunc]:=by kernel_rfl
theorem so281:szOk qz 281=True:=eq_true (szOk_of (n:=2) sh281 (by kernel_rfl) (by decide) (by decide))
theorem sh286:shp qz 286 = .struct [(0,1,false),(1,1,false),(2,1,false)] 3:=by kernel_rfl
theorem zt286:zeroT qz 286=some [.string ⟨([]:List UInt8).toArray⟩,.string ⟨([]:List UInt8).toArray⟩,.nilIface]:=by kernel_rfl
theorem so286:szOk qz 286=True:=eq_true (szOk_of (n:=3) sh286 (by kernel_rfl) (by decide) (by decide))
theorem sh287:shp qz 287 = .struct [(0,1,false),(1,1,false),(2,1,false)] 3:=by kernel_rfl
theorem zt287:zeroT qz 287=some [.string ⟨([]:List UInt8).toArray⟩,.string ⟨([]:List UInt8).toArray⟩,.nilIface]:=by kernel_rfl
theorem so287:szOk qz 287=True:=eq_true (szOk_of (n:=3) sh287 (by kernel_rfl) (by decide) (by decide))
theorem sh298:shp qz 298 = .slice 297 1 false:=by kernel_rfl
theorem so298:szOk qz 298=True:=eq_true (szOk_of (n:=1) sh298 (by kernel_rfl) (by decide) (by decide))
theorem sl298:slT qz 298=some (297,1,8,[.pointer none]):=by kernel_rfl
theorem zs298:zsT qz 298=some [.slice none 0 0]:=by kernel_rfl
theorem sh305:shp qz 305 = .struct [(0,1,false)] 1:=by kernel_rfl
theorem zt305:zeroT qz 305=some [.pointer none]:=by kernel_rfl
theorem so305:szOk qz 305=True:=eq_true (szOk_of (n:=1) sh305 (by kernel_rfl) (by decide) (by decide))
theorem zs305:zsT qz 305=some [.pointer none]:=by kernel_rfl
theorem sh306:shp qz 306 = .struct [(0,1,false)] 1:=by kernel_rfl
theorem zt306:zeroT qz 306=some [.pointer none]:=by kernel_rfl
theorem so306:szOk qz 306=True:=eq_true (szOk_of (n:=1) sh306 (by kernel_rfl) (by decide) (by decide))
theorem zs306:zsT qz 306=some [.pointer none]:=by kernel_rfl
theorem sh309:shp qz 309 = .int .i64:=by kernel_rfl
theorem so309:szOk qz 309=True:=eq_true (szOk_of (n:=1) sh309 (by kernel_rfl) (by decide) (by decide))
theorem zs309:zsT qz 309=some [.int .i64 0]:=by kernel_rfl
theorem sh320:shp qz 320 = .struct [(0,1,false)] 1:=by kernel_rfl
theorem zt320:zeroT qz 320=some [.string ⟨([]:List UInt8).toArray⟩]:=by kernel_rfl
theorem so320:szOk qz 320=True:=eq_true (szOk_of (n:=1) sh320 (by kernel_rfl) (by decide) (by decide))
theorem zs320:zsT qz 320=some [.string ⟨([]:List UInt8).toArray⟩]:=by kernel_rfl
theorem sh321:shp qz 321 = .struct [(0,1,false)] 1:=by kernel_rfl
theorem zt321:zeroT qz 321=some [.string ⟨([]:List UInt8).toArray⟩]:=by kernel_rfl
theorem so321:szOk qz 321=True:=eq_true (szOk_of (n:=1) sh321 (by kernel_rfl) (by decide) (by decide))
theorem zs321:zsT qz 321=some [.string ⟨([]:List UInt8).toArray⟩]:=by kernel_rfl
theorem sh336:shp qz 336 = .int .u64:=by kernel_rfl
theorem so336:szOk qz 336=True:=eq_true (szOk_of (n:=1) sh336 (by kernel_rfl) (by decide) (by decide))
theorem zs336:zsT qz 336=some [.int .u64 0]:=by kernel_rfl
theorem sh351:shp qz 351 = .struct [(0,1,false),(1,1,false),(2,1,false),(3,1,false)] 4:=by kernel_rfl
theorem zt351:zeroT qz 351=some [.pointer none,.pointer none,.pointer none,.string ⟨([]:List UInt8).toArray⟩]:=by kernel_rfl
theorem so351:szOk qz 351=True:=eq_true (szOk_of (n:=4) sh351 (by kernel_rfl) (by decide) (by decide))
theorem zs351:zsT qz 351=some [.pointer none,.pointer none,.pointer none,.string ⟨([]:List UInt8).toArray⟩]:=by kernel_rfl
theorem sh352:shp qz 352 = .struct [(0,1,false),(1,1,false),(2,1,false),(3,1,false)] 4:=by kernel_rfl
theorem zt352:zeroT qz 352=some [.pointer none,.pointer none,.pointer none,.string ⟨([]:List UInt8).toArray⟩]:=by kernel_rfl
theorem so352:szOk qz 352=True:=eq_true (szOk_of (n:=4) sh352 (by kernel_rfl) (by decide) (by decide))
theorem zs352:zsT qz 352=some [.pointer none,.pointer none,.pointer none,.string ⟨([]:List UInt8).toArray⟩]:=by kernel_rfl
theorem sh354:shp qz 354 = .struct [(0,0,true)] 0:=by kernel_rfl
theorem zt354:zeroT qz 354=some []:=by kernel_rfl
theorem zs354:zsT qz 354=some []:=by kernel_rfl
theorem sh355:shp qz 355 = .struct [(0,0,true)] 0:=by kernel_rfl
theorem zt355:zeroT qz 355=some []:=by kernel_rfl
theorem zs355:zsT qz 355=some []:=by kernel_rfl
theorem sh356:shp qz 356 = .int .u8:=by kernel_rfl
theorem so356:szOk qz 356=True:=eq_true (szOk_of (n:=1) sh356 (by kernel_rfl) (by decide) (by decide))
theorem zs356:zsT qz 356=some [.int .u8 0]:=by kernel_rfl
theorem sh357:shp qz 357 = .int .u8:=by kernel_rfl
theorem so357:szOk qz 357=True:=eq_true (szOk_of (n:=1) sh357 (by kernel_rfl) (by decide) (by decide))
theorem zs357:zsT qz 357=some [.int .u8 0]:=by kernel_rfl
theorem sh359:shp qz 359 = .int .i32:=by kernel_rfl
theorem so359:szOk qz 359=True:=eq_true (szOk_of (n:=1) sh359 (by kernel_rfl) (by decide) (by decide))
theorem zs359:zsT qz 359=some [.int .i32 0]:=by kernel_rfl
theorem sh360:shp qz 360 = .int .i32:=by kernel_rfl
theorem so360:szOk qz 360=True:=eq_true (szOk_of (n:=1) sh360 (by kernel_rfl) (by decide) (by decide))
theorem zs360:zsT qz 360=some [.int .i32 0]:=by kernel_rfl
theorem sh361:shp qz 361 = .struct [(0,1,false),(1,1,false),(2,1,false),(3,1,false),(4,1,false),(5,1,false),(6,1,false),(7,1,false),(8,1,false),(9,1,false),(10,1,false)] 11:=by kernel_rfl
theorem zt361:zeroT qz 361=some [.int .u64 0,.int .u64 0,.int .u32 0,.int .u8 0,.int .u8 0,.int .u8 0,.int .u8 0,.nilFunc,.pointer none,.int .i32 0,.int .i32 0]:=by kernel_rfl
theorem so361:szOk qz 361=True:=eq_true (szOk_of (n:=11) sh361 (by kernel_rfl) (by decide) (by decide))
theorem sh362:shp qz 362 = .struct [(0,1,false),(1,1,false),(2,1,false),(3,1,false),(4,1,false),(5,1,false),(6,1,false),(7,1,false),(8,1,false),(9,1,false),(10,1,false)] 11:=by kernel_rfl
theorem zt362:zeroT qz 362=some [.int .u64 0,.int .u64 0,.int .u32 0,.int .u8 0,.int .u8 0,.int .u8 0,.int .u8 0,.nilFunc,.pointer none,.int .i32 0,.int .i32 0]:=by kernel_rfl
theorem so362:szOk qz 362=True:=eq_true (szOk_of (n:=11) sh362 (by kernel_rfl) (by decide) (by decide))
theorem sh363:shp qz 363 = .struct [(0,1,false),(1,1,false)] 2:=by kernel_rfl
theorem zt363:zeroT qz 363=some [.string ⟨([]:List UInt8).toArray⟩,.int .u8 0]:=by kernel_rfl
theorem so363:szOk qz 363=True:=eq_true (szOk_of (n:=2) sh363 (by kernel_rfl) (by decide) (by decide))
theorem zs363:zsT qz 363=some [.string ⟨([]:List UInt8).toArray⟩,.int .u8 0]:=by kernel_rfl
theorem sh364:shp qz 364 = .struct [(0,1,false),(1,1,false)] 2:=by kernel_rfl
theorem zt364:zeroT qz 364=some [.string ⟨([]:List UInt8).toArray⟩,.int .u8 0]:=by kernel_rfl
theorem so364:szOk qz 364=True:=eq_true (szOk_of (n:=2) sh364 (by kernel_rfl) (by decide) (by decide))
theorem zs364:zsT qz 364=some [.string ⟨([]:List UInt8).toArray⟩,.int .u8 0]:=by kernel_rfl
theorem eq78:eqT qz 78=some [.int .i64]:=by kernel_rfl
theorem eq96:eqT qz 96=some [.int .i64,.str,.str,.int .i64,.str]:=by kernel_rfl
theorem eq135:eqT qz 135=some [.int .i64,.str]:=by kernel_rfl
theorem eq167:eqT qz 167=some [.int .i64,.int .i64,.int .i64]:=by kernel_rfl
theorem eq178:eqT qz 178=some [.bool,.int .i64,.int .i64]:=by kernel_rfl
theorem eq181:eqT qz 181=some [.int .i64,.int .i64,.str,.int .i64]:=by kernel_rfl
theorem eq185:eqT qz 185=some [.int .i64,.int .i64]:=by kernel_rfl
theorem shs:(((((((shp qz 2 = .int .i64)∧(shp qz 3 = .int .i64))∧((shp qz 4 = .bool)∧((shp qz 5 = .int .u8)∧(shp qz 6 = .int .u8))))∧(((shp qz 7 = .struct [(0,1,false),(1,1,false),(2,1,false),(3,1,false)] 4)∧((shp qz 8 = .struct [(0,1,false),(1,1,false),(2,1,false),(3,1,false)] 4)∧(shp qz 9 = .str)))∧((shp qz 10 = .str)∧((shp qz 11 = .str)∧(shp qz 12 = .int .u64)))))∧((((shp qz 13 = .struct [(0,1,false),(1,1,false)] 2)∧((shp qz 14 = .struct [(0,1,false),(1,1,false)] 2)∧(shp qz 18 = .struct [(0,1,false)] 1)))∧((shp qz 19 = .struct [(0,1,false)] 1)∧((shp qz 21 = .int .i32)∧(shp qz 23 = .slice 36 1 false))))∧(((shp qz 27 = .slice 181 4 true)∧((shp qz 28 = .slice 68 2 true)∧(shp qz 29 = .struct [(0,1,false),(1,1,false)] 2)))∧((shp qz 30 = .struct [(0,1,false),(1,1,false)] 2)∧((shp qz 31 = .slice 185 2 true)∧(shp qz 32 = .struct [(0,1,false),(1,1,false),(2,1,false),(3,1,false)] 4))))))∧(((((shp qz 33 = .struct [(0,1,false),(1,1,false),(2,1,false),(3,1,false)] 4)∧(shp qz 34 = .struct [(0,2,true),(2,4,true),(6,1,false),(7,1,false)] 8))∧((shp qz 35 = .struct [(0,2,true),(2,4,true),(6,1,false),(7,1,false)] 8)∧((shp qz 36 = .slice 9 1 false)∧(shp qz 47 = .struct [(0,1,false)] 1))))∧(((shp qz 48 = .struct [(0,1,false)] 1)∧((shp qz 50 = .slice 5 1 false)∧(shp qz 51 = .struct [(0,1,false),(1,1,false)] 2)))∧((shp qz 52 = .struct [(0,1,false),(1,1,false)] 2)∧((shp qz 60 = .int .i64)∧(shp qz 61 = .slice 3 1 false)))))∧((((shp qz 66 = .slice 178 3 true)∧((shp qz 67 = .struct [(0,1,false),(1,1,false)] 2)∧(shp qz 68 = .struct [(0,1,false),(1,1,false)] 2)))∧((shp qz 75 = .struct [(0,2,true),(2,4,true),(6,1,false),(7,1,false)] 8)∧((shp qz 76 = .struct [(0,2,true),(2,4,true),(6,1,false),(7,1,false)] 8)∧(shp qz 77 = .struct [(0,1,false)] 1))))∧(((shp qz 78 = .struct [(0,1,false)] 1)∧((shp qz 81 = .struct [(0,1,false),(1,1,false)] 2)∧(shp qz 82 = .struct [(0,1,false),(1,1,false)] 2)))∧((shp qz 95 = .struct [(0,1,false),(1,1,false),(2,1,false),(3,1,false),(4,1,false)] 5)∧((shp qz 96 = .struct [(0,1,false),(1,1,false),(2,1,false),(3,1,false),(4,1,false)] 5)∧(shp qz 103 = .int .u64)))))))∧((((((shp qz 117 = .slice 4 1 false)∧(shp qz 126 = .slice 167 3 true))∧((shp qz 134 = .struct [(0,1,false),(1,1,false)] 2)∧((shp qz 135 = .struct [(0,1,false),(1,1,false)] 2)∧(shp qz 148 = .int .u64))))∧(((shp qz 158 = .arr 4 1 4)∧((shp qz 166 = .struct [(0,1,false),(1,1,false),(2,1,false)] 3)∧(shp qz 167 = .struct [(0,1,false),(1,1,false),(2,1,false)] 3)))∧((shp qz 177 = .struct [(0,1,false),(1,1,false),(2,1,false)] 3)∧((shp qz 178 = .struct [(0,1,false),(1,1,false),(2,1,false)] 3)∧(shp qz 180 = .struct [(0,1,false),(1,1,false),(2,1,false),(3,1,false)] 4)))))∧((((shp qz 181 = .struct [(0,1,false),(1,1,false),(2,1,false),(3,1,false)] 4)∧((shp qz 184 = .struct [(0,1,false),(1,1,false)] 2)∧(shp qz 185 = .struct [(0,1,false),(1,1,false)] 2)))∧((shp qz 189 = .int .u32)∧((shp qz 224 = .slice 28 1 false)∧(shp qz 228 = .arr 3 1 3))))∧(((shp qz 230 = .struct [(0,1,false),(1,1,false)] 2)∧((shp qz 231 = .struct [(0,1,false),(1,1,false)] 2)∧(shp qz 236 = .int .i64)))∧((shp qz 273 = .int .u64)∧((shp qz 274 = .struct [(0,1,false),(1,1,false),(2,1,false)] 3)∧(shp qz 275 = .struct [(0,1,false),(1,1,false),(2,1,false)] 3))))))∧(((((shp qz 280 = .struct [(0,1,false),(1,1,false)] 2)∧(shp qz 281 = .struct [(0,1,false),(1,1,false)] 2))∧((shp qz 286 = .struct [(0,1,false),(1,1,false),(2,1,false)] 3)∧((shp qz 287 = .struct [(0,1,false),(1,1,false),(2,1,false)] 3)∧(shp qz 298 = .slice 297 1 false))))∧(((shp qz 305 = .struct [(0,1,false)] 1)∧((shp qz 306 = .struct [(0,1,false)] 1)∧(shp qz 309 = .int .i64)))∧((shp qz 320 = .struct [(0,1,false)] 1)∧((shp qz 321 = .struct [(0,1,false)] 1)∧(shp qz 336 = .int .u64)))))∧((((shp qz 351 = .struct [(0,1,false),(1,1,false),(2,1,false),(3,1,false)] 4)∧((shp qz 352 = .struct [(0,1,false),(1,1,false),(2,1,false),(3,1,false)] 4)∧(shp qz 354 = .struct [(0,0,true)] 0)))∧((shp qz 355 = .struct [(0,0,true)] 0)∧((shp qz 356 = .int .u8)∧(shp qz 357 = .int .u8))))∧(((shp qz 359 = .int .i32)∧((shp qz 360 = .int .i32)∧(shp qz 361 = .struct [(0,1,false),(1,1,false),(2,1,false),(3,1,false),(4,1,false),(5,1,false),(6,1,false),(7,1,false),(8,1,false),(9,1,false),(10,1,false)] 11)))∧((shp qz 362 = .struct [(0,1,false),(1,1,false),(2,1,false),(3,1,false),(4,1,false),(5,1,false),(6,1,false),(7,1,false),(8,1,false),(9,1,false),(10,1,false)] 11)∧((shp qz 363 = .struct [(0,1,false),(1,1,false)] 2)∧(shp qz 364 = .struct [(0,1,false),(1,1,false)] 2)))))))):=
 ⟨⟨⟨⟨⟨⟨sh2,sh3⟩,⟨sh4,⟨sh5,sh6⟩⟩⟩,⟨⟨sh7,⟨sh8,sh9⟩⟩,⟨sh10,⟨sh11,sh12⟩⟩⟩⟩,⟨⟨⟨sh13,⟨sh14,sh18⟩⟩,⟨sh19,⟨sh21,sh23⟩⟩⟩,⟨⟨sh27,⟨sh28,sh29⟩⟩,⟨sh30,⟨sh31,sh32⟩⟩⟩⟩⟩,⟨⟨⟨⟨sh33,sh34⟩,⟨sh35,⟨sh36,sh47⟩⟩⟩,⟨⟨sh48,⟨sh50,sh51⟩⟩,⟨sh52,⟨sh60,sh61⟩⟩⟩⟩,⟨⟨⟨sh66,⟨sh67,sh68⟩⟩,⟨sh75,⟨sh76,sh77⟩⟩⟩,⟨⟨sh78,⟨sh81,sh82⟩⟩,⟨sh95,⟨sh96,sh103⟩⟩⟩⟩⟩⟩,⟨⟨⟨⟨⟨sh117,sh126⟩,⟨sh134,⟨sh135,sh148⟩⟩⟩,⟨⟨sh158,⟨sh166,sh167⟩⟩,⟨sh177,⟨sh178,sh180⟩⟩⟩⟩,⟨⟨⟨sh181,⟨sh184,sh185⟩⟩,⟨sh189,⟨sh224,sh228⟩⟩⟩,⟨⟨sh230,⟨sh231,sh236⟩⟩,⟨sh273,⟨sh274,sh275⟩⟩⟩⟩⟩,⟨⟨⟨⟨sh280,sh281⟩,⟨sh286,⟨sh287,sh298⟩⟩⟩,⟨⟨sh305,⟨sh306,sh309⟩⟩,⟨sh320,⟨sh321,sh336⟩⟩⟩⟩,⟨⟨⟨sh351,⟨sh352,sh354⟩⟩,⟨sh355,⟨sh356,sh357⟩⟩⟩,⟨⟨sh359,⟨sh360,sh361⟩⟩,⟨sh362,⟨sh363,sh364⟩⟩⟩⟩⟩⟩⟩
theorem zts:((((((zeroT qz 7=some [.int .i64 0,.int .i64 0,.bool false,.int .u8 0])∧((zeroT qz 8=some [.int .i64 0,.int .i64 0,.bool false,.int .u8 0])∧(zeroT qz 13=some [.string ⟨([]:List UInt8).toArray⟩,.int .u64 0])))∧(((zeroT qz 14=some [.string ⟨([]:List UInt8).toArray⟩,.int .u64 0])∧(zeroT qz 18=some [.pointer none]))∧((zeroT qz 19=some [.pointer none])∧(zeroT qz 29=some [.slice none 0 0,.slice none 0 0]))))∧(((zeroT qz 30=some [.slice none 0 0,.slice none 0 0])∧((zeroT qz 32=some [.int .i64 0,.slice none 0 0,.int .i64 0,.int .i64 0])∧(zeroT qz 33=some [.int .i64 0,.slice none 0 0,.int .i64 0,.int .i64 0])))∧(((zeroT qz 34=some [.slice none 0 0,.slice none 0 0,.int .i64 0,.slice none 0 0,.int .i64 0,.int .i64 0,.string ⟨([]:List UInt8).toArray⟩,.int .i64 0])∧(zeroT qz 35=some [.slice none 0 0,.slice none 0 0,.int .i64 0,.slice none 0 0,.int .i64 0,.int .i64 0,.string ⟨([]:List UInt8).toArray⟩,.int .i64 0]))∧((zeroT qz 47=some [.pointer none])∧(zeroT qz 48=some [.pointer none])))))∧((((zeroT qz 51=some [.pointer none,.slice none 0 0])∧((zeroT qz 52=some [.pointer none,.slice none 0 0])∧(zeroT qz 67=some [.string ⟨([]:List UInt8).toArray⟩,.slice none 0 0])))∧(((zeroT qz 68=some [.string ⟨([]:List UInt8).toArray⟩,.slice none 0 0])∧(zeroT qz 75=some [.slice none 0 0,.slice none 0 0,.int .i64 0,.slice none 0 0,.int .i64 0,.int .i64 0,.string ⟨([]:List UInt8).toArray⟩,.int .i64 0]))∧((zeroT qz 76=some [.slice none 0 0,.slice none 0 0,.int .i64 0,.slice none 0 0,.int .i64 0,.int .i64 0,.string ⟨([]:List UInt8).toArray⟩,.int .i64 0])∧(zeroT qz 77=some [.int .i64 0]))))∧(((zeroT qz 78=some [.int .i64 0])∧((zeroT qz 81=some [.slice none 0 0,.int .i64 0])∧(zeroT qz 82=some [.slice none 0 0,.int .i64 0])))∧(((zeroT qz 95=some [.int .i64 0,.string ⟨([]:List UInt8).toArray⟩,.string ⟨([]:List UInt8).toArray⟩,.int .i64 0,.string ⟨([]:List UInt8).toArray⟩])∧(zeroT qz 96=some [.int .i64 0,.string ⟨([]:List UInt8).toArray⟩,.string ⟨([]:List UInt8).toArray⟩,.int .i64 0,.string ⟨([]:List UInt8).toArray⟩]))∧((zeroT qz 134=some [.int .i64 0,.string ⟨([]:List UInt8).toArray⟩])∧(zeroT qz 135=some [.int .i64 0,.string ⟨([]:List UInt8).toArray⟩]))))))∧(((((zeroT qz 166=some [.int .i64 0,.int .i64 0,.int .i64 0])∧((zeroT qz 167=some [.int .i64 0,.int .i64 0,.int .i64 0])∧(zeroT qz 177=some [.bool false,.int .i64 0,.int .i64 0])))∧(((zeroT qz 178=some [.bool false,.int .i64 0,.int .i64 0])∧(zeroT qz 180=some [.int .i64 0,.int .i64 0,.string ⟨([]:List UInt8).toArray⟩,.int .i64 0]))∧((zeroT qz 181=some [.int .i64 0,.int .i64 0,.string ⟨([]:List UInt8).toArray⟩,.int .i64 0])∧(zeroT qz 184=some [.int .i64 0,.int .i64 0]))))∧(((zeroT qz 185=some [.int .i64 0,.int .i64 0])∧((zeroT qz 230=some [.int .u8 0,.int .u8 0])∧(zeroT qz 231=some [.int .u8 0,.int .u8 0])))∧(((zeroT qz 274=some [.pointer none,.pointer none,.int .u64 0])∧(zeroT qz 275=some [.pointer none,.pointer none,.int .u64 0]))∧((zeroT qz 280=some [.nilFunc,.nilFunc])∧(zeroT qz 281=some [.nilFunc,.nilFunc])))))∧((((zeroT qz 286=some [.string ⟨([]:List UInt8).toArray⟩,.string ⟨([]:List UInt8).toArray⟩,.nilIface])∧((zeroT qz 287=some [.string ⟨([]:List UInt8).toArray⟩,.string ⟨([]:List UInt8).toArray⟩,.nilIface])∧(zeroT qz 305=some [.pointer none])))∧(((zeroT qz 306=some [.pointer none])∧(zeroT qz 320=some [.string ⟨([]:List UInt8).toArray⟩]))∧((zeroT qz 321=some [.string ⟨([]:List UInt8).toArray⟩])∧(zeroT qz 351=some [.pointer none,.pointer none,.pointer none,.string ⟨([]:List UInt8).toArray⟩]))))∧(((zeroT qz 352=some [.pointer none,.pointer none,.pointer none,.string ⟨([]:List UInt8).toArray⟩])∧((zeroT qz 354=some [])∧(zeroT qz 355=some [])))∧(((zeroT qz 361=some [.int .u64 0,.int .u64 0,.int .u32 0,.int .u8 0,.int .u8 0,.int .u8 0,.int .u8 0,.nilFunc,.pointer none,.int .i32 0,.int .i32 0])∧(zeroT qz 362=some [.int .u64 0,.int .u64 0,.int .u32 0,.int .u8 0,.int .u8 0,.int .u8 0,.int .u8 0,.nilFunc,.pointer none,.int .i32 0,.int .i32 0]))∧((zeroT qz 363=some [.string ⟨([]:List UInt8).toArray⟩,.int .u8 0])∧(zeroT qz 364=some [.string ⟨([]:List UInt8).toArray⟩,.int .u8 0]))))))):=
 ⟨⟨⟨⟨⟨zt7,⟨zt8,zt13⟩⟩,⟨⟨zt14,zt18⟩,⟨zt19,zt29⟩⟩⟩,⟨⟨zt30,⟨zt32,zt33⟩⟩,⟨⟨zt34,zt35⟩,⟨zt47,zt48⟩⟩⟩⟩,⟨⟨⟨zt51,⟨zt52,zt67⟩⟩,⟨⟨zt68,zt75⟩,⟨zt76,zt77⟩⟩⟩,⟨⟨zt78,⟨zt81,zt82⟩⟩,⟨⟨zt95,zt96⟩,⟨zt134,zt135⟩⟩⟩⟩⟩,⟨⟨⟨⟨zt166,⟨zt167,zt177⟩⟩,⟨⟨zt178,zt180⟩,⟨zt181,zt184⟩⟩⟩,⟨⟨zt185,⟨zt230,zt231⟩⟩,⟨⟨zt274,zt275⟩,⟨zt280,zt281⟩⟩⟩⟩,⟨⟨⟨zt286,⟨zt287,zt305⟩⟩,⟨⟨zt306,zt320⟩,⟨zt321,zt351⟩⟩⟩,⟨⟨zt352,⟨zt354,zt355⟩⟩,⟨⟨zt361,zt362⟩,⟨zt363,zt364⟩⟩⟩⟩⟩⟩
theorem sos:(((((((szOk qz 2=True)∧(szOk qz 3=True))∧((szOk qz 4=True)∧((szOk qz 5=True)∧(szOk qz 6=True))))∧(((szOk qz 7=True)∧((szOk qz 8=True)∧(szOk qz 9=True)))∧((szOk qz 10=True)∧((szOk qz 11=True)∧(szOk qz 12=True)))))∧((((szOk qz 13=True)∧(szOk qz 14=True))∧((szOk qz 18=True)∧((szOk qz 19=True)∧(szOk qz 21=True))))∧(((szOk qz 23=True)∧((szOk qz 27=True)∧(szOk qz 28=True)))∧((szOk qz 29=True)∧((szOk qz 30=True)∧(szOk qz 31=True))))))∧(((((szOk qz 32=True)∧(szOk qz 33=True))∧((szOk qz 34=True)∧((szOk qz 35=True)∧(szOk qz 36=True))))∧(((szOk qz 47=True)∧((szOk qz 48=True)∧(szOk qz 50=True)))∧((szOk qz 51=True)∧((szOk qz 52=True)∧(szOk qz 60=True)))))∧((((szOk qz 61=True)∧((szOk qz 66=True)∧(szOk qz 67=True)))∧((szOk qz 68=True)∧((szOk qz 75=True)∧(szOk qz 76=True))))∧(((szOk qz 77=True)∧((szOk qz 78=True)∧(szOk qz 81=True)))∧((szOk qz 82=True)∧((szOk qz 95=True)∧(szOk qz 96=True)))))))∧((((((szOk qz 103=True)∧(szOk qz 117=True))∧((szOk qz 126=True)∧((szOk qz 134=True)∧(szOk qz 135=True))))∧(((szOk qz 148=True)∧((szOk qz 158=True)∧(szOk qz 166=True)))∧((szOk qz 167=True)∧((szOk qz 177=True)∧(szOk qz 178=True)))))∧((((szOk qz 180=True)∧(szOk qz 181=True))∧((szOk qz 184=True)∧((szOk qz 185=True)∧(szOk qz 189=True))))∧(((szOk qz 224=True)∧((szOk qz 228=True)∧(szOk qz 230=True)))∧((szOk qz 231=True)∧((szOk qz 236=True)∧(szOk qz 273=True))))))∧(((((szOk qz 274=True)∧(szOk qz 275=True))∧((szOk qz 280=True)∧((szOk qz 281=True)∧(szOk qz 286=True))))∧(((szOk qz 287=True)∧((szOk qz 298=True)∧(szOk qz 305=True)))∧((szOk qz 306=True)∧((szOk qz 309=True)∧(szOk qz 320=True)))))∧((((szOk qz 321=True)∧((szOk qz 336=True)∧(szOk qz 351=True)))∧((szOk qz 352=True)∧((szOk qz 356=True)∧(szOk qz 357=True))))∧(((szOk qz 359=True)∧((szOk qz 360=True)∧(szOk qz 361=True)))∧((szOk qz 362=True)∧((szOk qz 363=True)∧(szOk qz 364=True)))))))):=
 ⟨⟨⟨⟨⟨⟨so2,so3⟩,⟨so4,⟨so5,so6⟩⟩⟩,⟨⟨so7,⟨so8,so9⟩⟩,⟨so10,⟨so11,so12⟩⟩⟩⟩,⟨⟨⟨so13,so14⟩,⟨so18,⟨so19,so21⟩⟩⟩,⟨⟨so23,⟨so27,so28⟩⟩,⟨so29,⟨so30,so31⟩⟩⟩⟩⟩,⟨⟨⟨⟨so32,so33⟩,⟨so34,⟨so35,so36⟩⟩⟩,⟨⟨so47,⟨so48,so50⟩⟩,⟨so51,⟨so52,so60⟩⟩⟩⟩,⟨⟨⟨so61,⟨so66,so67⟩⟩,⟨so68,⟨so75,so76⟩⟩⟩,⟨⟨so77,⟨so78,so81⟩⟩,⟨so82,⟨so95,so96⟩⟩⟩⟩⟩⟩,⟨⟨⟨⟨⟨so103,so117⟩,⟨so126,⟨so134,so135⟩⟩⟩,⟨⟨so148,⟨so158,so166⟩⟩,⟨so167,⟨so177,so178⟩⟩⟩⟩,⟨⟨⟨so180,so181⟩,⟨so184,⟨so185,so189⟩⟩⟩,⟨⟨so224,⟨so228,so230⟩⟩,⟨so231,⟨so236,so273⟩⟩⟩⟩⟩,⟨⟨⟨⟨so274,so275⟩,⟨so280,⟨so281,so286⟩⟩⟩,⟨⟨so287,⟨so298,so305⟩⟩,⟨so306,⟨so309,so320⟩⟩⟩⟩,⟨⟨⟨so321,⟨so336,so351⟩⟩,⟨so352,⟨so356,so357⟩⟩⟩,⟨⟨so359,⟨so360,so361⟩⟩,⟨so362,⟨so363,so364⟩⟩⟩⟩⟩⟩⟩
theorem sls:((((slT qz 23=some (36,1,24,[.slice none 0 0]))∧((slT qz 27=some (181,4,40,[.int .i64 0,.int .i64 0,.string ⟨([]:List UInt8).toArray⟩,.int .i64 0]))∧(slT qz 28=some (68,2,40,[.string ⟨([]:List UInt8).toArray⟩,.slice none 0 0]))))∧((slT qz 31=some (185,2,16,[.int .i64 0,.int .i64 0]))∧((slT qz 36=some (9,1,16,[.string ⟨([]:List UInt8).toArray⟩]))∧(slT qz 50=some (5,1,1,[.int .u8 0])))))∧(((slT qz 61=some (3,1,8,[.int .i64 0]))∧((slT qz 66=some (178,3,24,[.bool false,.int .i64 0,.int .i64 0]))∧(slT qz 117=some (4,1,1,[.bool false]))))∧((slT qz 126=some (167,3,24,[.int .i64 0,.int .i64 0,.int .i64 0]))∧((slT qz 224=some (28,1,24,[.slice none 0 0]))∧(slT qz 298=some (297,1,8,[.pointer none])))))):=
 ⟨⟨⟨sl23,⟨sl27,sl28⟩⟩,⟨sl31,⟨sl36,sl50⟩⟩⟩,⟨⟨sl61,⟨sl66,sl117⟩⟩,⟨sl126,⟨sl224,sl298⟩⟩⟩⟩
theorem zss:(((((((zsT qz 2=some [.int .i64 0])∧(zsT qz 3=some [.int .i64 0]))∧((zsT qz 4=some [.bool false])∧((zsT qz 5=some [.int .u8 0])∧(zsT qz 6=some [.int .u8 0]))))∧(((zsT qz 7=some [.int .i64 0,.int .i64 0,.bool false,.int .u8 0])∧(zsT qz 8=some [.int .i64 0,.int .i64 0,.bool false,.int .u8 0]))∧((zsT qz 9=some [.string ⟨([]:List UInt8).toArray⟩])∧((zsT qz 10=some [.string ⟨([]:List UInt8).toArray⟩])∧(zsT qz 11=some [.string ⟨([]:List UInt8).toArray⟩])))))∧((((zsT qz 12=some [.int .u64 0])∧(zsT qz 13=some [.string ⟨([]:List UInt8).toArray⟩,.int .u64 0]))∧((zsT qz 14=some [.string ⟨([]:List UInt8).toArray⟩,.int .u64 0])∧((zsT qz 18=some [.pointer none])∧(zsT qz 19=some [.pointer none]))))∧(((zsT qz 21=some [.int .i32 0])∧((zsT qz 23=some [.slice none 0 0])∧(zsT qz 27=some [.slice none 0 0])))∧((zsT qz 28=some [.slice none 0 0])∧((zsT qz 29=some [.slice none 0 0,.slice none 0 0])∧(zsT qz 30=some [.slice none 0 0,.slice none 0 0]))))))∧(((((zsT qz 31=some [.slice none 0 0])∧(zsT qz 32=some [.int .i64 0,.slice none 0 0,.int .i64 0,.int .i64 0]))∧((zsT qz 33=some [.int .i64 0,.slice none 0 0,.int .i64 0,.int .i64 0])∧((zsT qz 34=some [.slice none 0 0,.slice none 0 0,.int .i64 0,.slice none 0 0,.int .i64 0,.int .i64 0,.string ⟨([]:List UInt8).toArray⟩,.int .i64 0])∧(zsT qz 35=some [.slice none 0 0,.slice none 0 0,.int .i64 0,.slice none 0 0,.int .i64 0,.int .i64 0,.string ⟨([]:List UInt8).toArray⟩,.int .i64 0]))))∧(((zsT qz 36=some [.slice none 0 0])∧((zsT qz 47=some [.pointer none])∧(zsT qz 48=some [.pointer none])))∧((zsT qz 50=some [.slice none 0 0])∧((zsT qz 51=some [.pointer none,.slice none 0 0])∧(zsT qz 52=none)))))∧((((zsT qz 60=some [.int .i64 0])∧(zsT qz 61=some [.slice none 0 0]))∧((zsT qz 66=some [.slice none 0 0])∧((zsT qz 67=some [.string ⟨([]:List UInt8).toArray⟩,.slice none 0 0])∧(zsT qz 68=some [.string ⟨([]:List UInt8).toArray⟩,.slice none 0 0]))))∧(((zsT qz 75=some [.slice none 0 0,.slice none 0 0,.int .i64 0,.slice none 0 0,.int .i64 0,.int .i64 0,.string ⟨([]:List UInt8).toArray⟩,.int .i64 0])∧((zsT qz 76=some [.slice none 0 0,.slice none 0 0,.int .i64 0,.slice none 0 0,.int .i64 0,.int .i64 0,.string ⟨([]:List UInt8).toArray⟩,.int .i64 0])∧(zsT qz 77=some [.int .i64 0])))∧((zsT qz 78=some [.int .i64 0])∧((zsT qz 81=some [.slice none 0 0,.int .i64 0])∧(zsT qz 82=some [.slice none 0 0,.int .i64 0])))))))∧((((((zsT qz 95=some [.int .i64 0,.string ⟨([]:List UInt8).toArray⟩,.string ⟨([]:List UInt8).toArray⟩,.int .i64 0,.string ⟨([]:List UInt8).toArray⟩])∧(zsT qz 96=some [.int .i64 0,.string ⟨([]:List UInt8).toArray⟩,.string ⟨([]:List UInt8).toArray⟩,.int .i64 0,.string ⟨([]:List UInt8).toArray⟩]))∧((zsT qz 103=some [.int .u64 0])∧((zsT qz 117=some [.slice none 0 0])∧(zsT qz 126=some [.slice none 0 0]))))∧(((zsT qz 134=some [.int .i64 0,.string ⟨([]:List UInt8).toArray⟩])∧(zsT qz 135=some [.int .i64 0,.string ⟨([]:List UInt8).toArray⟩]))∧((zsT qz 148=some [.int .u64 0])∧((zsT qz 158=some [.int .i64 0,.int .i64 0,.int .i64 0,.int .i64 0])∧(zsT qz 166=some [.int .i64 0,.int .i64 0,.int .i64 0])))))∧((((zsT qz 167=some [.int .i64 0,.int .i64 0,.int .i64 0])∧(zsT qz 177=some [.bool false,.int .i64 0,.int .i64 0]))∧((zsT qz 178=some [.bool false,.int .i64 0,.int .i64 0])∧((zsT qz 180=some [.int .i64 0,.int .i64 0,.string ⟨([]:List UInt8).toArray⟩,.int .i64 0])∧(zsT qz 181=some [.int .i64 0,.int .i64 0,.string ⟨([]:List UInt8).toArray⟩,.int .i64 0]))))∧(((zsT qz 184=some [.int .i64 0,.int .i64 0])∧((zsT qz 185=some [.int .i64 0,.int .i64 0])∧(zsT qz 189=some [.int .u32 0])))∧((zsT qz 224=some [.slice none 0 0])∧((zsT qz 228=some [.string ⟨([]:List UInt8).toArray⟩,.string ⟨([]:List UInt8).toArray⟩,.string ⟨([]:List UInt8).toArray⟩])∧(zsT qz 230=some [.int .u8 0,.int .u8 0]))))))∧(((((zsT qz 231=some [.int .u8 0,.int .u8 0])∧(zsT qz 236=some [.int .i64 0]))∧((zsT qz 273=some [.int .u64 0])∧((zsT qz 274=some [.pointer none,.pointer none,.int .u64 0])∧(zsT qz 275=some [.pointer none,.pointer none,.int .u64 0]))))∧(((zsT qz 298=some [.slice none 0 0])∧((zsT qz 305=some [.pointer none])∧(zsT qz 306=some [.pointer none])))∧((zsT qz 309=some [.int .i64 0])∧((zsT qz 320=some [.string ⟨([]:List UInt8).toArray⟩])∧(zsT qz 321=some [.string ⟨([]:List UInt8).toArray⟩])))))∧((((zsT qz 336=some [.int .u64 0])∧(zsT qz 351=some [.pointer none,.pointer none,.pointer none,.string ⟨([]:List UInt8).toArray⟩]))∧((zsT qz 352=some [.pointer none,.pointer none,.pointer none,.string ⟨([]:List UInt8).toArray⟩])∧((zsT qz 354=some [])∧(zsT qz 355=some []))))∧(((zsT qz 356=some [.int .u8 0])∧((zsT qz 357=some [.int .u8 0])∧(zsT qz 359=some [.int .i32 0])))∧((zsT qz 360=some [.int .i32 0])∧((zsT qz 363=some [.string ⟨([]:List UInt8).toArray⟩,.int .u8 0])∧(zsT qz 364=some [.string ⟨([]:List UInt8).toArray⟩,.int .u8 0])))))))):=
 ⟨⟨⟨⟨⟨⟨zs2,zs3⟩,⟨zs4,⟨zs5,zs6⟩⟩⟩,⟨⟨zs7,zs8⟩,⟨zs9,⟨zs10,zs11⟩⟩⟩⟩,⟨⟨⟨zs12,zs13⟩,⟨zs14,⟨zs18,zs19⟩⟩⟩,⟨⟨zs21,⟨zs23,zs27⟩⟩,⟨zs28,⟨zs29,zs30⟩⟩⟩⟩⟩,⟨⟨⟨⟨zs31,zs32⟩,⟨zs33,⟨zs34,zs35⟩⟩⟩,⟨⟨zs36,⟨zs47,zs48⟩⟩,⟨zs50,⟨zs51,zs52⟩⟩⟩⟩,⟨⟨⟨zs60,zs61⟩,⟨zs66,⟨zs67,zs68⟩⟩⟩,⟨⟨zs75,⟨zs76,zs77⟩⟩,⟨zs78,⟨zs81,zs82⟩⟩⟩⟩⟩⟩,⟨⟨⟨⟨⟨zs95,zs96⟩,⟨zs103,⟨zs117,zs126⟩⟩⟩,⟨⟨zs134,zs135⟩,⟨zs148,⟨zs158,zs166⟩⟩⟩⟩,⟨⟨⟨zs167,zs177⟩,⟨zs178,⟨zs180,zs181⟩⟩⟩,⟨⟨zs184,⟨zs185,zs189⟩⟩,⟨zs224,⟨zs228,zs230⟩⟩⟩⟩⟩,⟨⟨⟨⟨zs231,zs236⟩,⟨zs273,⟨zs274,zs275⟩⟩⟩,⟨⟨zs298,⟨zs305,zs306⟩⟩,⟨zs309,⟨zs320,zs321⟩⟩⟩⟩,⟨⟨⟨zs336,zs351⟩,⟨zs352,⟨zs354,zs355⟩⟩⟩,⟨⟨zs356,⟨zs357,zs359⟩⟩,⟨zs360,⟨zs363,zs364⟩⟩⟩⟩⟩⟩⟩
theorem eqs:(((eqT qz 78=some [.int .i64])∧((eqT qz 96=some [.int .i64,.str,.str,.int .i64,.str])∧(eqT qz 135=some [.int .i64,.str])))∧(((eqT qz 167=some [.int .i64,.int .i64,.int .i64])∧(eqT qz 178=some [.bool,.int .i64,.int .i64]))∧((eqT qz 181=some [.int .i64,.int .i64,.str,.int .i64])∧(eqT qz 185=some [.int .i64,.int .i64])))):=
 ⟨⟨eq78,⟨eq96,eq135⟩⟩,⟨⟨eq167,eq178⟩,⟨eq181,eq185⟩⟩⟩
theorem zz:type_of% (And.intro (And.intro @shs (And.intro @zts @sos)) (And.intro @sls (And.intro @zss @eqs))):=And.intro (And.intro @shs (And.intro @zts @sos)) (And.intro @sls (And.intro @zss @eqs))
end Go.X

