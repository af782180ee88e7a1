/- Contracts of functions and the logic that they are proved in (5 texts in one). Conditions: none. -/
import Derived.WalkKit
import Derived.Shelf.Lays
import Derived.Shelf.LaysM
import Derived.Shelf.LaysC
import Derived.Shelf.Strconv.AtoiAll
import Derived.Shelf.Strconv.Itoa3
import Derived.Shelf.Strings.Split
import Derived.Shelf.Strings.Cut
import Derived.Shelf.Small.Strs
import Derived.Test.YthafjlokddpjfaaGreatDoorMg9
open Go.Proofs.Tryz renaming prog → qz
open Int renaming cast_ofNat_Int→zl,natCast_zero→za,natCast_one→ze,toNat_natCast→zo
set_option linter.unusedSimpArgs false
set_option linter.unusedVariables false
set_option maxHeartbeats 4000000
set_option maxRecDepth 20000
namespace Go.Proofs
open Go.Shelf
def Tryz.lays171_ren:Go.Shelf.Ren:=⟨fun | 171=>29 | 243=>53 | 246=>109 | 283=>158 | 284=>159 | 285=>160 | 286=>161 | 129=>187 | 317=>201 | 318=>202 | 319=>203 | 320=>204 | 337=>261 | 338=>262 | n=>n,fun | 3=>3 | 9=>9 | 2=>2 | 4=>4 | 171=>192 | 0=>0 | 53=>103 | 37=>50 | 5=>5 | 173=>195 | 212=>234 | 51=>189 | 20=>20 | 213=>235 | 46=>148 | 232=>316 | 233=>317 | n=>n,fun | 17=>3 | 18=>6 | 19=>7 | n=>n⟩
theorem Tryz.lays171:Go.Proofs.LaysM.n171 Tryz.prog Tryz.lays171_ren:={
 mixed:=by kernel_rfl,
 f129:=Tryz.func187.trans (congrArg some (by kernel_rfl)),
 f171:=Tryz.func29.trans (congrArg some (by kernel_rfl)),
 f243:=Tryz.func53.trans (congrArg some (by kernel_rfl)),
 f246:=Tryz.func109.trans (congrArg some (by kernel_rfl)),
 f283:=Tryz.func158.trans (congrArg some (by kernel_rfl)),
 f284:=Tryz.func159.trans (congrArg some (by kernel_rfl)),
 f285:=Tryz.func160.trans (congrArg some (by kernel_rfl)),
 f286:=Tryz.func161.trans (congrArg some (by kernel_rfl)),
 f317:=Tryz.func201.trans (congrArg some (by kernel_rfl)),
 f318:=Tryz.func202.trans (congrArg some (by kernel_rfl)),
 f319:=Tryz.func203.trans (congrArg some (by kernel_rfl)),
 f320:=Tryz.func204.trans (congrArg some (by kernel_rfl)),
 f337:=Tryz.func261.trans (congrArg some (by kernel_rfl)),
 f338:=Tryz.func262.trans (congrArg some (by kernel_rfl)),
 t0:=Tryz.underlying0,
 a0:=Tryz.isAgg0,
 z0:=Tryz.sizeOf0,
 v0:=Tryz.zeroValue0,
 t2:=Tryz.underlying2,
 a2:=Tryz.isAgg2,
 z2:=Tryz.sizeOf2,
 v2:=Tryz.zeroValue2,
 t3:=Tryz.underlying3,
 a3:=Tryz.isAgg3,
 z3:=Tryz.sizeOf3,
 v3:=Tryz.zeroValue3,
 t4:=Tryz.underlying4,
 a4:=Tryz.isAgg4,
 z4:=Tryz.sizeOf4,
 v4:=Tryz.zeroValue4,
 t5:=Tryz.underlying5,
 a5:=Tryz.isAgg5,
 z5:=Tryz.sizeOf5,
 v5:=Tryz.zeroValue5,
 t9:=Tryz.underlying9,
 a9:=Tryz.isAgg9,
 z9:=Tryz.sizeOf9,
 v9:=Tryz.zeroValue9,
 t20:=Tryz.underlying20,
 a20:=Tryz.isAgg20,
 z20:=Tryz.sizeOf20,
 v20:=Tryz.zeroValue20,
 t37:=Tryz.underlying50,
 a37:=Tryz.isAgg50,
 z37:=Tryz.sizeOf50,
 v37:=Tryz.zeroValue50,
 t46:=Tryz.underlying148,
 a46:=Tryz.isAgg148,
 z46:=Tryz.sizeOf148,
 v46:=Tryz.zeroValue148,
 t51:=Tryz.underlying189,
 a51:=Tryz.isAgg189,
 z51:=Tryz.sizeOf189,
 v51:=Tryz.zeroValue189,
 t53:=Tryz.underlying103,
 a53:=Tryz.isAgg103,
 z53:=Tryz.sizeOf103,
 v53:=Tryz.zeroValue103,
 t171:=Tryz.underlying192,
 a171:=Tryz.isAgg192,
 z171:=Tryz.sizeOf192,
 v171:=Tryz.zeroValue192,
 t173:=Tryz.underlying195,
 a173:=Tryz.isAgg195,
 z173:=Tryz.sizeOf195,
 v173:=Tryz.zeroValue195,
 t212:=Tryz.underlying234,
 a212:=Tryz.isAgg234,
 z212:=Tryz.sizeOf234,
 v212:=Tryz.zeroValue234,
 t213:=Tryz.underlying235,
 a213:=Tryz.isAgg235,
 z213:=Tryz.sizeOf235,
 t232:=Tryz.underlying316,
 a232:=Tryz.isAgg316,
 z232:=Tryz.sizeOf316,
 v232:=Tryz.zeroValue316,
 t233:=Tryz.underlying317,
 a233:=Tryz.isAgg317,
 z233:=Tryz.sizeOf317,
 v233:=Tryz.zeroValue317,
 g17:=by kernel_rfl,
 g18:=by kernel_rfl,
 g19:=by kernel_rfl,
 i0:=by kernel_rfl,
 i2:=by kernel_rfl,
 i3:=by kernel_rfl,
 i4:=by kernel_rfl,
 i5:=by kernel_rfl,
 i9:=by kernel_rfl,
 i20:=by kernel_rfl,
 i37:=by kernel_rfl,
 i46:=by kernel_rfl,
 i51:=by kernel_rfl,
 i53:=by kernel_rfl,
 i171:=by kernel_rfl,
 i173:=by kernel_rfl,
 i212:=by kernel_rfl,
 i232:=by kernel_rfl,
 i233:=by kernel_rfl,
 m17:=by kernel_rfl,
 m18:=by kernel_rfl,
 m19:=by kernel_rfl }

def Tryz.lays172_ren:Go.Shelf.Ren:=⟨fun | 172=>111 | 244=>162 | 245=>163 | 247=>205 | 279=>206 | 280=>207 | 281=>208 | 282=>209 | 287=>263 | 316=>264 | 171=>29 | 205=>265 | 321=>313 | 322=>314 | 243=>53 | 246=>109 | 283=>158 | 284=>159 | 285=>160 | 286=>161 | 129=>187 | 317=>201 | 318=>202 | 319=>203 | 320=>204 | 337=>261 | 338=>262 | n=>n,fun | 9=>9 | 3=>3 | 75=>54 | 76=>55 | 4=>4 | 5=>5 | 167=>236 | 37=>50 | 0=>0 | 85=>237 | 2=>2 | 168=>239 | 53=>103 | 175=>284 | 46=>148 | 210=>287 | 127=>84 | 145=>321 | 143=>319 | 21=>21 | 171=>192 | 173=>195 | 212=>234 | 51=>189 | 20=>20 | 213=>235 | 232=>316 | 233=>317 | 80=>58 | n=>n,fun | 15=>4 | 16=>5 | 17=>3 | 18=>6 | 19=>7 | n=>n⟩
theorem Tryz.lays172:Go.Proofs.LaysC.n172 Tryz.prog Tryz.lays172_ren:={
 mixed:=by kernel_rfl,
 f129:=Tryz.func187.trans (congrArg some (by kernel_rfl)),
 f171:=Tryz.func29.trans (congrArg some (by kernel_rfl)),
 f172:=Tryz.func111.trans (congrArg some (by kernel_rfl)),
 f205:=Tryz.func265.trans (congrArg some (by kernel_rfl)),
 f243:=Tryz.func53.trans (congrArg some (by kernel_rfl)),
 f244:=Tryz.func162.trans (congrArg some (by kernel_rfl)),
 f245:=Tryz.func163.trans (congrArg some (by kernel_rfl)),
 f246:=Tryz.func109.trans (congrArg some (by kernel_rfl)),
 f247:=Tryz.func205.trans (congrArg some (by kernel_rfl)),
 f279:=Tryz.func206.trans (congrArg some (by kernel_rfl)),
 f280:=Tryz.func207.trans (congrArg some (by kernel_rfl)),
 f281:=Tryz.func208.trans (congrArg some (by kernel_rfl)),
 f282:=Tryz.func209.trans (congrArg some (by kernel_rfl)),
 f283:=Tryz.func158.trans (congrArg some (by kernel_rfl)),
 f284:=Tryz.func159.trans (congrArg some (by kernel_rfl)),
 f285:=Tryz.func160.trans (congrArg some (by kernel_rfl)),
 f286:=Tryz.func161.trans (congrArg some (by kernel_rfl)),
 f287:=Tryz.func263.trans (congrArg some (by kernel_rfl)),
 f316:=Tryz.func264.trans (congrArg some (by kernel_rfl)),
 f317:=Tryz.func201.trans (congrArg some (by kernel_rfl)),
 f318:=Tryz.func202.trans (congrArg some (by kernel_rfl)),
 f319:=Tryz.func203.trans (congrArg some (by kernel_rfl)),
 f320:=Tryz.func204.trans (congrArg some (by kernel_rfl)),
 f321:=Tryz.func313.trans (congrArg some (by kernel_rfl)),
 f322:=Tryz.func314.trans (congrArg some (by kernel_rfl)),
 f337:=Tryz.func261.trans (congrArg some (by kernel_rfl)),
 f338:=Tryz.func262.trans (congrArg some (by kernel_rfl)),
 t0:=Tryz.underlying0,
 a0:=Tryz.isAgg0,
 z0:=Tryz.sizeOf0,
 v0:=Tryz.zeroValue0,
 t2:=Tryz.underlying2,
 a2:=Tryz.isAgg2,
 z2:=Tryz.sizeOf2,
 v2:=Tryz.zeroValue2,
 t3:=Tryz.underlying3,
 a3:=Tryz.isAgg3,
 z3:=Tryz.sizeOf3,
 v3:=Tryz.zeroValue3,
 t4:=Tryz.underlying4,
 a4:=Tryz.isAgg4,
 z4:=Tryz.sizeOf4,
 v4:=Tryz.zeroValue4,
 t5:=Tryz.underlying5,
 a5:=Tryz.isAgg5,
 z5:=Tryz.sizeOf5,
 v5:=Tryz.zeroValue5,
 t9:=Tryz.underlying9,
 a9:=Tryz.isAgg9,
 z9:=Tryz.sizeOf9,
 v9:=Tryz.zeroValue9,
 t20:=Tryz.underlying20,
 a20:=Tryz.isAgg20,
 z20:=Tryz.sizeOf20,
 v20:=Tryz.zeroValue20,
 t21:=Tryz.underlying21,
 a21:=Tryz.isAgg21,
 z21:=Tryz.sizeOf21,
 v21:=Tryz.zeroValue21,
 t37:=Tryz.underlying50,
 a37:=Tryz.isAgg50,
 z37:=Tryz.sizeOf50,
 v37:=Tryz.zeroValue50,
 t46:=Tryz.underlying148,
 a46:=Tryz.isAgg148,
 z46:=Tryz.sizeOf148,
 v46:=Tryz.zeroValue148,
 t51:=Tryz.underlying189,
 a51:=Tryz.isAgg189,
 z51:=Tryz.sizeOf189,
 v51:=Tryz.zeroValue189,
 t53:=Tryz.underlying103,
 a53:=Tryz.isAgg103,
 z53:=Tryz.sizeOf103,
 v53:=Tryz.zeroValue103,
 t75:=Tryz.underlying54,
 a75:=Tryz.isAgg54,
 z75:=Tryz.sizeOf54,
 v75:=Tryz.zeroValue54,
 t76:=Tryz.underlying55,
 a76:=Tryz.isAgg55,
 z76:=Tryz.sizeOf55,
 v76:=Tryz.zeroValue55,
 t85:=Tryz.underlying237,
 a85:=Tryz.isAgg237,
 z85:=Tryz.sizeOf237,
 v85:=Tryz.zeroValue237,
 t127:=Tryz.underlying84,
 a127:=Tryz.isAgg84,
 z127:=Tryz.sizeOf84,
 v127:=Tryz.zeroValue84,
 t143:=Tryz.underlying319,
 a143:=Tryz.isAgg319,
 z143:=Tryz.sizeOf319,
 v143:=Tryz.zeroValue319,
 t145:=Tryz.underlying321,
 a145:=Tryz.isAgg321,
 z145:=Tryz.sizeOf321,
 v145:=Tryz.zeroValue321,
 t167:=Tryz.underlying236,
 a167:=Tryz.isAgg236,
 z167:=Tryz.sizeOf236,
 v167:=Tryz.zeroValue236,
 t168:=Tryz.underlying239,
 a168:=Tryz.isAgg239,
 z168:=Tryz.sizeOf239,
 v168:=Tryz.zeroValue239,
 t171:=Tryz.underlying192,
 a171:=Tryz.isAgg192,
 z171:=Tryz.sizeOf192,
 v171:=Tryz.zeroValue192,
 t173:=Tryz.underlying195,
 a173:=Tryz.isAgg195,
 z173:=Tryz.sizeOf195,
 v173:=Tryz.zeroValue195,
 t175:=Tryz.underlying284,
 a175:=Tryz.isAgg284,
 z175:=Tryz.sizeOf284,
 v175:=Tryz.zeroValue284,
 t210:=Tryz.underlying287,
 a210:=Tryz.isAgg287,
 z210:=Tryz.sizeOf287,
 v210:=Tryz.zeroValue287,
 t212:=Tryz.underlying234,
 a212:=Tryz.isAgg234,
 z212:=Tryz.sizeOf234,
 v212:=Tryz.zeroValue234,
 t213:=Tryz.underlying235,
 a213:=Tryz.isAgg235,
 z213:=Tryz.sizeOf235,
 t232:=Tryz.underlying316,
 a232:=Tryz.isAgg316,
 z232:=Tryz.sizeOf316,
 v232:=Tryz.zeroValue316,
 t233:=Tryz.underlying317,
 a233:=Tryz.isAgg317,
 z233:=Tryz.sizeOf317,
 v233:=Tryz.zeroValue317,
 g15:=by kernel_rfl,
 g16:=by kernel_rfl,
 g17:=by kernel_rfl,
 g18:=by kernel_rfl,
 g19:=by kernel_rfl,
 t80:=Tryz.underlying58,
 a80:=Tryz.isAgg58,
 z80:=Tryz.sizeOf58,
 v80:=Tryz.zeroValue58,
 i0:=by kernel_rfl,
 i2:=by kernel_rfl,
 i3:=by kernel_rfl,
 i4:=by kernel_rfl,
 i5:=by kernel_rfl,
 i9:=by kernel_rfl,
 i20:=by kernel_rfl,
 i21:=by kernel_rfl,
 i37:=by kernel_rfl,
 i46:=by kernel_rfl,
 i51:=by kernel_rfl,
 i53:=by kernel_rfl,
 i75:=by kernel_rfl,
 i76:=by kernel_rfl,
 i80:=by kernel_rfl,
 i85:=by kernel_rfl,
 i127:=by kernel_rfl,
 i143:=by kernel_rfl,
 i145:=by kernel_rfl,
 i167:=by kernel_rfl,
 i168:=by kernel_rfl,
 i171:=by kernel_rfl,
 i173:=by kernel_rfl,
 i175:=by kernel_rfl,
 i210:=by kernel_rfl,
 i212:=by kernel_rfl,
 i232:=by kernel_rfl,
 i233:=by kernel_rfl,
 m15:=by kernel_rfl,
 m16:=by kernel_rfl,
 m17:=by kernel_rfl,
 m18:=by kernel_rfl,
 m19:=by kernel_rfl,
 c0:=by kernel_rfl,
 c2:=by kernel_rfl,
 c3:=by kernel_rfl,
 c4:=by kernel_rfl,
 c5:=by kernel_rfl,
 c9:=by kernel_rfl,
 c20:=by kernel_rfl,
 c21:=by kernel_rfl,
 c37:=by kernel_rfl,
 c46:=by kernel_rfl,
 c51:=by kernel_rfl,
 c53:=by kernel_rfl,
 c75:=by kernel_rfl,
 c76:=by kernel_rfl,
 c80:=by kernel_rfl,
 c85:=by kernel_rfl,
 c127:=by kernel_rfl,
 c143:=by kernel_rfl,
 c145:=by kernel_rfl,
 c167:=by kernel_rfl,
 c168:=by kernel_rfl,
 c171:=by kernel_rfl,
 c173:=by kernel_rfl,
 c175:=by kernel_rfl,
 c210:=by kernel_rfl,
 c212:=by kernel_rfl,
 c213:=by kernel_rfl,
 c232:=by kernel_rfl,
 c233:=by kernel_rfl }

def Tryz.lays146_ren:Go.Shelf.Ren:=⟨fun | 146=>11 | 221=>26 | 268=>50 | 138=>51 | 143=>32 | 195=>106 | 197=>107 | 218=>108 | 219=>47 | 260=>157 | 217=>101 | 225=>102 | 224=>103 | 267=>104 | 266=>155 | 314=>156 | n=>n,fun | 9=>9 | 31=>36 | 3=>3 | 4=>4 | 0=>0 | 105=>149 | 21=>21 | 5=>5 | 46=>148 | 119=>229 | 139=>232 | 138=>231 | 146=>190 | 51=>189 | n=>n,fun | 1=>0 | 3=>1 | 4=>2 | n=>n⟩
theorem Tryz.lays146:Go.Proofs.Lays.n146 Tryz.prog Tryz.lays146_ren:={
 mixed:=by kernel_rfl,
 f138:=Tryz.func51.trans (congrArg some (by kernel_rfl)),
 f143:=Tryz.func32.trans (congrArg some (by kernel_rfl)),
 f146:=Tryz.func11.trans (congrArg some (by kernel_rfl)),
 f195:=Tryz.func106.trans (congrArg some (by kernel_rfl)),
 f197:=Tryz.func107.trans (congrArg some (by kernel_rfl)),
 f217:=Tryz.func101.trans (congrArg some (by kernel_rfl)),
 f218:=Tryz.func108.trans (congrArg some (by kernel_rfl)),
 f219:=Tryz.func47.trans (congrArg some (by kernel_rfl)),
 f221:=Tryz.func26.trans (congrArg some (by kernel_rfl)),
 f224:=Tryz.func103.trans (congrArg some (by kernel_rfl)),
 f225:=Tryz.func102.trans (congrArg some (by kernel_rfl)),
 f260:=Tryz.func157.trans (congrArg some (by kernel_rfl)),
 f266:=Tryz.func155.trans (congrArg some (by kernel_rfl)),
 f267:=Tryz.func104.trans (congrArg some (by kernel_rfl)),
 f268:=Tryz.func50.trans (congrArg some (by kernel_rfl)),
 f314:=Tryz.func156.trans (congrArg some (by kernel_rfl)),
 t0:=Tryz.underlying0,
 a0:=Tryz.isAgg0,
 z0:=Tryz.sizeOf0,
 v0:=Tryz.zeroValue0,
 t3:=Tryz.underlying3,
 a3:=Tryz.isAgg3,
 z3:=Tryz.sizeOf3,
 v3:=Tryz.zeroValue3,
 t4:=Tryz.underlying4,
 a4:=Tryz.isAgg4,
 z4:=Tryz.sizeOf4,
 v4:=Tryz.zeroValue4,
 t5:=Tryz.underlying5,
 a5:=Tryz.isAgg5,
 z5:=Tryz.sizeOf5,
 v5:=Tryz.zeroValue5,
 t9:=Tryz.underlying9,
 a9:=Tryz.isAgg9,
 z9:=Tryz.sizeOf9,
 v9:=Tryz.zeroValue9,
 t21:=Tryz.underlying21,
 a21:=Tryz.isAgg21,
 z21:=Tryz.sizeOf21,
 v21:=Tryz.zeroValue21,
 t31:=Tryz.underlying36,
 a31:=Tryz.isAgg36,
 z31:=Tryz.sizeOf36,
 v31:=Tryz.zeroValue36,
 t46:=Tryz.underlying148,
 a46:=Tryz.isAgg148,
 z46:=Tryz.sizeOf148,
 v46:=Tryz.zeroValue148,
 t51:=Tryz.underlying189,
 a51:=Tryz.isAgg189,
 z51:=Tryz.sizeOf189,
 v51:=Tryz.zeroValue189,
 t105:=Tryz.underlying149,
 a105:=Tryz.isAgg149,
 z105:=Tryz.sizeOf149,
 v105:=Tryz.zeroValue149,
 t119:=Tryz.underlying229,
 a119:=Tryz.isAgg229,
 z119:=Tryz.sizeOf229,
 t138:=Tryz.underlying231,
 a138:=Tryz.isAgg231,
 z138:=Tryz.sizeOf231,
 v138:=Tryz.zeroValue231,
 t139:=Tryz.underlying232,
 a139:=Tryz.isAgg232,
 z139:=Tryz.sizeOf232,
 v139:=Tryz.zeroValue232,
 t146:=Tryz.underlying190,
 a146:=Tryz.isAgg190,
 z146:=Tryz.sizeOf190,
 v146:=Tryz.zeroValue190,
 g1:=by kernel_rfl,
 g3:=by kernel_rfl,
 g4:=by kernel_rfl }

def Tryz.lays137_ren:Go.Shelf.Ren:=⟨fun | 137=>116 | 217=>101 | 266=>155 | n=>n,fun | 9=>9 | 5=>5 | 3=>3 | n=>n,fun | n=>n⟩
theorem Tryz.lays137:Go.Proofs.Lays.n137 Tryz.prog Tryz.lays137_ren:={
 mixed:=by kernel_rfl,
 f137:=Tryz.func116.trans (congrArg some (by kernel_rfl)),
 f217:=Tryz.func101.trans (congrArg some (by kernel_rfl)),
 f266:=Tryz.func155.trans (congrArg some (by kernel_rfl)),
 t3:=Tryz.underlying3,
 a3:=Tryz.isAgg3,
 z3:=Tryz.sizeOf3,
 v3:=Tryz.zeroValue3,
 t5:=Tryz.underlying5,
 a5:=Tryz.isAgg5,
 z5:=Tryz.sizeOf5,
 v5:=Tryz.zeroValue5,
 t9:=Tryz.underlying9,
 a9:=Tryz.isAgg9,
 z9:=Tryz.sizeOf9,
 v9:=Tryz.zeroValue9 }

end Go.Proofs
namespace Go.X.Dk
open Go Go.X Go.RowKit
/-- the package variables that the library reads -/
structure GlobM (M:Mem):Prop where
 pow : ∀ w,M.on w→Lib.TabIs qz w "internal/strconv.uint64pow10" .u64 Lib.pow10Tab
 maxl : ∃ m,∀ w,M.on w→w.cell? ⟨Proofs.Tryz.lays146_ren.g 1,0,none⟩=some (.int .i64 m)
 esyn : ∃ ev,(ev=Value.nilIface ∨ ∃ te pe,ev = .iface te pe) ∧ ∀ w,M.on w→w.cell? ⟨Proofs.Tryz.lays172_ren.g 15,0,none⟩=some ev
 eran : ∃ ev,(ev=Value.nilIface ∨ ∃ te pe,ev = .iface te pe) ∧ ∀ w,M.on w→w.cell? ⟨Proofs.Tryz.lays172_ren.g 16,0,none⟩=some ev
theorem on_le {M M':Mem} (h:M.le M') {w:World} (ho:M'.on w):M.on w:=fun b o hb=>ho b o (h b o hb)
theorem GlobM.le {M M':Mem} (h:GlobM M) (hl:M.le M'):GlobM M':=⟨fun w hw=>h.pow w (on_le hl hw),h.maxl.imp fun m hm w hw=>hm w (on_le hl hw),h.esyn.imp fun m hm=>⟨hm.1,fun w hw=>hm.2 w (on_le hl hw)⟩,h.eran.imp fun m hm=>⟨hm.1,fun w hw=>hm.2 w (on_le hl hw)⟩⟩
theorem ofCallsM {P:Program} {f:FuncId} {args:List SV} {M:Mem} {s:SV} {v:Value} (hv : ∀ ν,s.val ν=v) (hc:callable P f)
  (h : ∀ w,M.on w→Calls P f (SV.vals ν0 args).toArray w fun e w'=>e = .returned v∧Below w.heap.size w w'):Meets P f args M fun r _ _=>r=s:=
 ⟨hc,fun w hw=>(h w hw).mono fun e w' ⟨he,hb⟩=>⟨s,[],M,ν0,by rw [he,hv],
  Heap.grow (E:=⟨P,0,w,M⟩) (ν:=ν0) (H:=[]) (M:=M) (w:=w) ⟨by simp,List.nodup_nil,by simp [fp],hw,Below.refl _ _,Mem.le.refl _,fun b hb=>.inl hb,fun k=>rfl⟩ hb,rfl⟩⟩
theorem below_growC (w:World) (k:Nat) (os:Array Obj):Below w.heap.size w (Sort.grow (w.drewN k) os):=
 ⟨rfl,rfl,rfl,by show w.heap.size≤(w.heap++os).size; rw [Array.size_append]; omega,fun j hj=>by show (w.heap++os)[j]? = _; rw [Array.getElem?_append_left hj]⟩
theorem itoa_m {n:Int} {M:Mem} (hG:GlobM M) (hn:inK .i64 n):Meets qz 29 [.v (.int .i64 n)] M fun r _ _=>r = .v (.string ⟨(Lib.itoa n).toArray⟩):=by
 refine ofCallsM (fun ν=>rfl) ⟨_,Proofs.Tryz.func29,by kernel_rfl,by kernel_rfl⟩ fun w hw=>?_
 refine (Proofs.Any.strconv_Itoa Proofs.Tryz.lays171 n hn.1 hn.2 w (hG.pow w hw)).mono ?_
 rintro e w' ⟨he,k,os,rfl⟩
 exact ⟨he,below_growC _ _ _⟩
theorem indexByte_m {s:Tx} {c:UInt8} {M:Mem}:Meets qz 116 [.v (.string ⟨s.toArray⟩),.v (.int .u8 (c.toNat:Int))] M fun r _ _=>r = .v (.int .i64 (Lib.indexByte s c)):=by
 refine ofCallsM (fun ν=>rfl) ⟨_,Proofs.Tryz.func116,by kernel_rfl,by kernel_rfl⟩ fun w hw=>?_
 refine (Proofs.Any.strings_IndexByte Proofs.Tryz.lays137 ⟨s.toArray⟩ (c.toNat:Int) w).mono ?_
 rintro e w' ⟨he,rfl⟩
 have:((c.toNat:Int).toNat.toUInt8)=c:=by simp
 rw [this] at he
 exact ⟨he,Below.refl _ _⟩
theorem countFrom_C (c:UInt8) : ∀ (k:Nat) (l:Tx),l.length < k→Lib.countFrom [c] k l=l.count c
 | 0,l,h=>by omega
 | k+1,l,h=>by
   by_cases hm:c ∈ l
   · obtain ⟨p,r,rfl,hp⟩:=mem_cut hm
     have hi:=index_at (r:=r) hp
     have hd:(p++c :: r).drop (p.length+[c].length)=r:=by
      rw [List.drop_append]
      simp
     simp only [List.length_append,List.length_cons] at h
     rw [Lib.countFrom,hi,if_neg (by simp),zo,hd,countFrom_C c k r (by omega),List.count_append,List.count_cons_self,List.count_eq_zero_of_not_mem hp]
     omega
   · rw [Lib.countFrom,index_mem hm,List.count_eq_zero_of_not_mem hm]
     rfl
theorem countB_C (c:UInt8) (s:Tx):Lib.countB ⟨s.toArray⟩ ⟨#[c]⟩=s.count c:=countFrom_C c (s.length+1) s (by omega)
theorem countB_eq (c:UInt8) (s:Tx):(Lib.splitB ⟨#[c]⟩ 0 (Lib.countB ⟨s.toArray⟩ ⟨#[c]⟩) ⟨s.toArray⟩).map (fun b=>b.data.toList)=splitC c s:=by
 rw [Lib.splitB_data,countB_C]
 exact splitK_C _ s (Nat.le_refl _)
theorem split_row {M:Mem} {b n:Nat} {T:TypeId} {L:List ByteArray} {W:List Tx} (h2:M b=some (.cells (L.map Value.string).toArray T (0,0))) (hlen:L.length=n+1) (hsp:L.map (fun b=>b.data.toList)=W) (hn:n+1≤maxLen) :
  RowM M (.slice (some ⟨b,0,none⟩) (n+1) (n+1)) 1 (W.map wordV):=by
 have hW:W.length=n+1:=by rw [← hsp,List.length_map,hlen]
 refine ⟨⟨rfl,by rw [List.length_map,hW]; rfl,Nat.le_refl _,hn⟩,fun _=>rfl,fun i e he=>?_⟩
 rw [List.getElem?_map] at he
 obtain ⟨t,ht,rfl⟩:=Option.map_eq_some_iff.1 he
 rw [← hsp,List.getElem?_map] at ht
 obtain ⟨x,hx,rfl⟩:=Option.map_eq_some_iff.1 ht
 refine ⟨rfl,fun j c hc=>?_⟩
 match j,hc with
 | 0,hc=>
   simp only [wordV,List.getElem?_cons_zero,Option.some.injEq] at hc
   subst hc
   refine ⟨?_,rfl⟩
   have e1:(⟨b,0,none⟩:Addr).add (i * 1+0)=⟨b,i,none⟩:=by unfold Addr.add; split <;> simp_all
   show cellM M ((⟨b,0,none⟩:Addr).add (i * 1+0))=_
   rw [e1]
   unfold cellM
   rw [h2]
   simp [hx]
theorem split_m {s:Tx} {c:UInt8} {M:Mem} (hG:GlobM M) (hs:s.length < 4294967281):Meets qz 11 [.v (.string ⟨s.toArray⟩),.v (.string ⟨#[c]⟩)] M fun r _ M'=>∃ v,r = .v v∧RowM M' v 1 ((splitC c s).map wordV):=by
 obtain ⟨m,hm⟩:=hG.maxl
 refine ⟨⟨_,Proofs.Tryz.func11,by kernel_rfl,by kernel_rfl⟩,fun w hw=>?_⟩
 refine (Proofs.Any.strings_Split Proofs.Tryz.lays146 (by kernel_rfl) ⟨s.toArray⟩ ⟨#[c]⟩ m w (by simpa [ByteArray.size] using hs) (hm w hw) (Nat.le_refl 1)).mono ?_
 rintro e w' ⟨he,rfl⟩
 have hh:Heap ⟨qz,0,w,M⟩ ν0 [] M w:=⟨by simp,List.nodup_nil,by simp [fp],hw,Below.refl _ _,Mem.le.refl _,fun b hb=>.inl hb,fun k=>rfl⟩
 obtain ⟨M',h1,h2,h3⟩:=hh.known (below_alloc w _) (heap_alloc_at w _)
 refine ⟨_,[],M',ν0,by rw [he]; rfl,h3,.slice (some ⟨w.heap.size,0,none⟩) (Lib.countB ⟨s.toArray⟩ ⟨#[c]⟩+1) (Lib.countB ⟨s.toArray⟩ ⟨#[c]⟩+1),rfl,?_⟩
 have hlen:=Lib.splitB_all ⟨#[c]⟩ (Nat.le_refl 1) 0 _ ⟨s.toArray⟩ rfl
 have hsp:=countB_eq c s
 have hm:=hh.mem
 refine split_row h2 hlen hsp ?_
 have:=Lib.countB_le ⟨#[c]⟩ (Nat.le_refl 1) s.length ⟨s.toArray⟩ (Nat.le_refl _)
 have hz:(ByteArray.mk s.toArray).size=s.length:=rfl
 rw [hz] at this
 simp only [maxLen]
 omega
theorem atoi_m {s:Tx} {M:Mem} (hG:GlobM M) (hs:s.length≤281474976710656):Meets qz 111 [.v (.string ⟨s.toArray⟩)] M fun r _ _=>∃ v e,r = .tup [.v (.int .i64 v),.v e]∧((Lib.atoiAll s = .ok v∧e = .nilIface)∨((∀ v,Lib.atoiAll s ≠ .ok v) ∧ ∃ te pe,e = .iface te pe)):=by
 have hc:callable qz 111:=⟨_,Proofs.Tryz.func111,by kernel_rfl,by kernel_rfl⟩
 have hz:(ByteArray.mk s.toArray).size=s.length:=rfl
 refine ⟨hc,fun w hw=>?_⟩
 have done : ∀ (v:Int) (e:Value) (w':World),Below w.heap.size w w'→((Lib.atoiAll s = .ok v∧e = .nilIface)∨((∀ v,Lib.atoiAll s ≠ .ok v) ∧ ∃ te pe,e = .iface te pe)) →
   ∃ s_1 H' M' ν,Ending.returned (.tuple #[.int .i64 v,e]) = .returned (SV.val ν s_1)∧Heap ⟨qz,0,w,M⟩ ν H' M' w' ∧ ∃ v e,s_1 = .tup [.v (.int .i64 v),.v e]∧((Lib.atoiAll s = .ok v∧e = .nilIface)∨((∀ v,Lib.atoiAll s ≠ .ok v) ∧ ∃ te pe,e = .iface te pe)):=fun v e w' hb h=>
  ⟨.tup [.v (.int .i64 v),.v e],[],M,ν0,rfl,Heap.grow (E:=⟨qz,0,w,M⟩) (ν:=ν0) (H:=[]) (M:=M) (w:=w) ⟨by simp,List.nodup_nil,by simp [fp],hw,Below.refl _ _,Mem.le.refl _,fun b hb=>.inl hb,fun k=>rfl⟩ hb,v,e,rfl,h⟩
 cases ha:Lib.atoiAll s with
 | ok v=>
   refine (Proofs.Any.strconv_Atoi_ok Proofs.Tryz.lays172 ⟨s.toArray⟩ (by omega) v ha w).mono ?_
   rintro e w' ⟨rfl,hw'⟩
   refine (ha ▸ done) v .nilIface w' ?_ (.inl ⟨rfl,rfl⟩)
   rcases hw' with rfl | ⟨t,rfl⟩
   · exact Below.refl _ _
   · exact Lib.bytesWorld_below w _ t
 | range=>
   obtain ⟨ev,h1,h2⟩:=hG.eran
   refine (Proofs.Any.strconv_Atoi_range Proofs.Tryz.lays172 ⟨s.toArray⟩ (by omega) ha ev w (h2 w hw) h1).mono ?_
   rintro e w' ⟨N,rfl,_,_,hb⟩
   exact (ha ▸ done) _ _ w' hb (.inr ⟨fun v h=>(by cases h),_,_,rfl⟩)
 | _=>
   obtain ⟨ev,h1,h2⟩:=hG.esyn
   refine (Proofs.Any.strconv_Atoi_syntax Proofs.Tryz.lays172 ⟨s.toArray⟩ (by omega) ha ev w (h2 w hw) h1).mono ?_
   rintro e w' ⟨N,rfl,_,_,hb⟩
   exact (ha ▸ done) _ _ w' hb (.inr ⟨fun v h=>(by cases h),_,_,rfl⟩)
end Go.X.Dk

namespace Go.X
open Go Go.RowKit
section
variable {E:Env} {σ:Sig} {H:HS} {M:Mem} {Q:QP}
/-- an interface beside nil -/
theorem RegK.nilIf {ops:Array Oper} {o:Oper} {rest:List Oper} {T u:TypeId} {d:Nat} {x:Operand} {v:Value} (ho:o.op = .binOp .neq T x (.const .nilIface) u) (hg:o.guard=none) (hd:o.dst=some d) (hN:decide (d < E.N)=true)
  (hx:opv σ x=some (true,.v v)) (hv:v = .nilIface ∨ ∃ te pe,v = .iface te pe) (hT : ∃ ms,E.P.underlying T=some (.interface ms)) (h:RegK E ops Q rest ((d,true,.v (.bool (isIfc v))) :: σ) H M):RegK E ops Q (o :: rest) σ H M:=by
 rintro a w ⟨ν,hs,hh⟩
 obtain ⟨ms,hT⟩:=hT
 refine wpList_plain hg fun K' hK'=>?_
 have ex:a.eval x=v:=hs.opv hx rfl
 have ey:a.eval (.const .nilIface) = .nilIface:=rfl
 unfold Oper.wp
 have hq:(Op.equal T v .nilIface).run E.P w = .ok (!isIfc v) w:=by
  have hd : ∀ d:Nat,(Op.equalIn (d+1) T v .nilIface).run E.P w = .ok (!isIfc v) w:=fun d=>by
   rcases hv with rfl | ⟨te,pe,rfl⟩
   · simp [Op.equalIn,run_underlying hT,isIfc]
   · simp [Op.equalIn,run_underlying hT,isIfc]
  rw [Op.equal,Op.maxDepth]
  exact hd 9999
 have he:eqGuard .neq T x (.const .nilIface) v .nilIface=pure ():=by
  rcases hv with rfl | ⟨te,pe,rfl⟩
  · cases x <;> rfl
  · cases x <;> rfl
 have hb:(binOp .neq T v .nilIface).run E.P w = .ok (.bool (isIfc v)) w:=by
  rcases hv with rfl | ⟨te,pe,rfl⟩
  · show ((Op.equal T .nilIface .nilIface).bind _).run E.P w=_
    rw [Sem.run_bind',hq]
    rfl
  · show ((Op.equal T (.iface te pe) .nilIface).bind _).run E.P w=_
    rw [Sem.run_bind',hq]
    rfl
 have:(execOp a.eval o).run E.P w = .ok (.value (.bool (isIfc v))) w:=by
  simp only [execOp,ho,ex,ey,he,Sem.run_bind,Sem.run_pure,Result.andThen_ok,hb]
 rw [this]
 simp only [Oper.upon,hd]
 exact hK' _ _ (h _ _ ⟨ν,hs.put (of_decide_eq_true hN) rfl,hh⟩)
end
end Go.X
namespace Go.X.Dk
open Go Go.X Go.RowKit
theorem atoi_in {s:Tx} {v:Int} (h:Lib.atoiAll s = .ok v):inK .i64 v:=by
 unfold Lib.atoiAll at h
 split at h
 · cases h
 · simp only at h
   split at h
   · cases h
   · cases h
   · split at h
     · cases h
     · split at h
       · cases h
       · injection h with h
         split at h <;> exact in64 (by omega) (by omega)
theorem num_x {ws:List Tx} {v:Value} {i:Nat} {q:Option Value} {M:Mem} (hG:GlobM M) (hM:RowM M v 1 (ws.map wordV)) (hi:i≤ws.length) (hw : ∀ w ∈ ws,w.length≤281474976710656) :
  MeetsX qz 54 [.ptr 8000 0 0 0] [(8000,.box (lineC v i) q)] M
   (fun s H' _=>∃ cs',(s.conc=true∧SV.concs cs'=true)∧hget H' 8000=some (.box cs' q) ∧ ∃ w n,ws[i]? = some w∧numS w=some n∧s = .v (.int .i64 n)∧cs'=lineC v (i+1))
   (fun ch H' _=>∃ cs',SV.concs cs'=true∧hget H' 8000=some (.box cs' q)∧((ws[i]?).bind numS=none)∧ch=faultC 12):=by
 refine MeetsX.of_code Proofs.Tryz.func54 rfl (by kernel_rfl) fun w0 M0=>?_
 simp only [Proofs.Tryz.f54]
 refine CodeK.seq (wpX_sound (live:=[0,2,3,4,5,29]) _ _ _ _ _ ?_)
 simp only [RegX_nil,RegX_call,RegX_panic,RegX_step,opX,Option.isNone_none,Option.isNone_some,Bool.true_and,Bool.false_and,cond_true,cond_false,xCall_ev,xPanic_ev,wpX_skip,wpX_ret,wpX_exit,wpX_region,wpX_draw,wpX_seq,wpX_block,wpX_cond,wpX_loop,condX_ev,seqX_normal,seqX_ret,seqX_exit,seqX_panic,blkQ_panic,rndQ_panic,xPan_ev,RetX_panic,RetX_ret,RetX_normal,isIfc,zz,zq,seval,zl,za,ze,zo]
 refine CodeK.seq (wpX_sound (live:=[0,2,3,4,5,29]) _ _ _ _ _ ?_)
 simp only [RegX_nil,RegX_call,RegX_panic,RegX_step,opX,Option.isNone_none,Option.isNone_some,Bool.true_and,Bool.false_and,cond_true,cond_false,xCall_ev,xPanic_ev,wpX_skip,wpX_ret,wpX_exit,wpX_region,wpX_draw,wpX_seq,wpX_block,wpX_cond,wpX_loop,condX_ev,seqX_normal,seqX_ret,seqX_exit,seqX_panic,blkQ_panic,rndQ_panic,xPan_ev,RetX_panic,RetX_ret,RetX_normal,isIfc,zz,zq,seval,zl,za,ze,zo]
 refine CallX.box1 (A:=fun s=>[s]) 8000 (fun s s' ν ν' h=>by simp only [SV.vals,h]) rfl rfl rfl (fun q' M' hM'=>word_x (hM.le hM') hi) (fun s cs' ⟨w,hw1,hs,hcs⟩=>?_) (fun ch cs' ⟨h0,hch,hcs⟩=>?_)
 rotate_left
 · subst hch hcs
   exact ⟨_,rfl,rfl,by rw [h0]; rfl,rfl⟩
 subst hs hcs
 have hmem:w ∈ ws:=List.mem_of_getElem? hw1
 simp only [RegX_nil,RegX_call,RegX_panic,RegX_step,opX,Option.isNone_none,Option.isNone_some,Bool.true_and,Bool.false_and,cond_true,cond_false,xCall_ev,xPanic_ev,wpX_skip,wpX_ret,wpX_exit,wpX_region,wpX_draw,wpX_seq,wpX_block,wpX_cond,wpX_loop,condX_ev,seqX_normal,seqX_ret,seqX_exit,seqX_panic,blkQ_panic,rndQ_panic,xPan_ev,RetX_panic,RetX_ret,RetX_normal,isIfc,zz,zq,seval,zl,za,ze,zo]
 refine CodeK.seq (wpX_sound (live:=[0,2,3,4,5,29]) _ _ _ _ _ ?_)
 simp only [RegX_nil,RegX_call,RegX_panic,RegX_step,opX,Option.isNone_none,Option.isNone_some,Bool.true_and,Bool.false_and,cond_true,cond_false,xCall_ev,xPanic_ev,wpX_skip,wpX_ret,wpX_exit,wpX_region,wpX_draw,wpX_seq,wpX_block,wpX_cond,wpX_loop,condX_ev,seqX_normal,seqX_ret,seqX_exit,seqX_panic,blkQ_panic,rndQ_panic,xPan_ev,RetX_panic,RetX_ret,RetX_normal,isIfc,zz,zq,seval,zl,za,ze,zo]
 refine CallX.ofM rfl rfl (atoi_m hG (hw w hmem)) fun s H' M' hM' hr=>?_
 obtain ⟨n,e,rfl,hr⟩:=hr
 refine ⟨rfl,?_⟩
 simp only [RegX_nil,RegX_call,RegX_panic,RegX_step,opX,Option.isNone_none,Option.isNone_some,Bool.true_and,Bool.false_and,cond_true,cond_false,xCall_ev,xPanic_ev,wpX_skip,wpX_ret,wpX_exit,wpX_region,wpX_draw,wpX_seq,wpX_block,wpX_cond,wpX_loop,condX_ev,seqX_normal,seqX_ret,seqX_exit,seqX_panic,blkQ_panic,rndQ_panic,xPan_ev,RetX_panic,RetX_ret,RetX_normal,isIfc,zz,zq,seval,zl,za,ze,zo]
 refine CodeK.seq (CodeK.seq (CodeK.reg ?_))
 refine RegK.at 1 ?_
 simp only [RegX_nil,RegX_call,RegX_panic,RegX_step,opX,Option.isNone_none,Option.isNone_some,Bool.true_and,Bool.false_and,cond_true,cond_false,xCall_ev,xPanic_ev,wpX_skip,wpX_ret,wpX_exit,wpX_region,wpX_draw,wpX_seq,wpX_block,wpX_cond,wpX_loop,condX_ev,seqX_normal,seqX_ret,seqX_exit,seqX_panic,blkQ_panic,rndQ_panic,xPan_ev,RetX_panic,RetX_ret,RetX_normal,isIfc,zz,zq,seval,zl,za,ze,zo,List.take,List.drop]
 have hie:e = .nilIface ∨ ∃ te pe,e = .iface te pe:=hr.imp (fun h=>h.2) (fun h=>h.2)
 refine RegK.nilIf (v:=e) rfl rfl rfl rfl rfl hie ⟨_,Proofs.Tryz.underlying54⟩ ?_
 refine RegX.sound (live:=[0,2,3,4,5,29]) _ _ _ _ ?_
 have hnone:(∀ k,numS w=some k→False)→numS w=none:=fun h=>by
  cases hn:numS w with
  | none=>rfl
  | some k=>exact (h k hn).elim
 rcases hr with ⟨ha,rfl⟩ | ⟨ha,te,pe,rfl⟩
 · have hask:=num_ask ha
   have hnil:isIfc .nilIface=false:=rfl
   by_cases h1:n < 0
   · have hno:numS w=none:=hnone fun k hk=>by
      have:=atoi_num hk
      rw [ha] at this
      injection this with this
      omega
     simp only [RegX_nil,RegX_call,RegX_panic,RegX_step,opX,Option.isNone_none,Option.isNone_some,Bool.true_and,Bool.false_and,cond_true,cond_false,xCall_ev,xPanic_ev,wpX_skip,wpX_ret,wpX_exit,wpX_region,wpX_draw,wpX_seq,wpX_block,wpX_cond,wpX_loop,condX_ev,seqX_normal,seqX_ret,seqX_exit,seqX_panic,blkQ_panic,rndQ_panic,xPan_ev,RetX_panic,RetX_ret,RetX_normal,isIfc,zz,zq,seval,zl,za,ze,zo,nzs,hnil,h1,decide_true]
     refine wpX_sound (live:=[0,2,3,4,5,29]) _ _ _ _ _ ?_
     simp only [RegX_nil,RegX_call,RegX_panic,RegX_step,opX,Option.isNone_none,Option.isNone_some,Bool.true_and,Bool.false_and,cond_true,cond_false,xCall_ev,xPanic_ev,wpX_skip,wpX_ret,wpX_exit,wpX_region,wpX_draw,wpX_seq,wpX_block,wpX_cond,wpX_loop,condX_ev,seqX_normal,seqX_ret,seqX_exit,seqX_panic,blkQ_panic,rndQ_panic,xPan_ev,RetX_panic,RetX_ret,RetX_normal,isIfc,zz,zq,seval,zl,za,ze,zo,nzs,Bool.true_eq_false,false_implies,and_true,true_implies]
     exact CallX.panic rfl (bad_x 12 M') ⟨_,rfl,rfl,by rw [hw1]; exact hno,rfl⟩
   · have e1:(n < 0)=False:=eq_false h1
     by_cases h2:10 < w.length
     · have hno:numS w=none:=hnone fun k hk=>by
        have:=(numS_iff.1 hk).2
        omega
       have e2:((10:Int) < (w.length:Int))=True:=eq_true (by omega)
       simp only [RegX_nil,RegX_call,RegX_panic,RegX_step,opX,Option.isNone_none,Option.isNone_some,Bool.true_and,Bool.false_and,cond_true,cond_false,xCall_ev,xPanic_ev,wpX_skip,wpX_ret,wpX_exit,wpX_region,wpX_draw,wpX_seq,wpX_block,wpX_cond,wpX_loop,condX_ev,seqX_normal,seqX_ret,seqX_exit,seqX_panic,blkQ_panic,rndQ_panic,xPan_ev,RetX_panic,RetX_ret,RetX_normal,isIfc,zz,zq,seval,zl,za,ze,zo,nzs,hnil,e1,e2,decide_true,decide_false]
       refine wpX_sound (live:=[0,2,3,4,5,29]) _ _ _ _ _ ?_
       simp only [RegX_nil,RegX_call,RegX_panic,RegX_step,opX,Option.isNone_none,Option.isNone_some,Bool.true_and,Bool.false_and,cond_true,cond_false,xCall_ev,xPanic_ev,wpX_skip,wpX_ret,wpX_exit,wpX_region,wpX_draw,wpX_seq,wpX_block,wpX_cond,wpX_loop,condX_ev,seqX_normal,seqX_ret,seqX_exit,seqX_panic,blkQ_panic,rndQ_panic,xPan_ev,RetX_panic,RetX_ret,RetX_normal,isIfc,zz,zq,seval,zl,za,ze,zo,nzs,Bool.true_eq_false,false_implies,and_true,true_implies]
       exact CallX.panic rfl (bad_x 12 M') ⟨_,rfl,rfl,by rw [hw1]; exact hno,rfl⟩
     · have e2:((10:Int) < (w.length:Int))=False:=eq_false (by omega)
       have hl:w.length≤10:=by omega
       simp only [RegX_nil,RegX_call,RegX_panic,RegX_step,opX,Option.isNone_none,Option.isNone_some,Bool.true_and,Bool.false_and,cond_true,cond_false,xCall_ev,xPanic_ev,wpX_skip,wpX_ret,wpX_exit,wpX_region,wpX_draw,wpX_seq,wpX_block,wpX_cond,wpX_loop,condX_ev,seqX_normal,seqX_ret,seqX_exit,seqX_panic,blkQ_panic,rndQ_panic,xPan_ev,RetX_panic,RetX_ret,RetX_normal,isIfc,zz,zq,seval,zl,za,ze,zo,nzs,hnil,e1,e2,decide_true,decide_false]
       refine CallK.pure ⟨rfl,rfl⟩ rfl (itoa_m (hG.le hM') (atoi_in ha)) ?_
       by_cases h3:w=Lib.itoa n
       · have e3:(w=Lib.itoa n)=True:=eq_true h3
         have hn:=hask.1 ⟨by omega,hl,h3⟩
         have hnn:((n.toNat:Nat):Int)=n:=Int.toNat_of_nonneg (by omega)
         simp only [RegX_nil,RegX_call,RegX_panic,RegX_step,opX,Option.isNone_none,Option.isNone_some,Bool.true_and,Bool.false_and,cond_true,cond_false,xCall_ev,xPanic_ev,wpX_skip,wpX_ret,wpX_exit,wpX_region,wpX_draw,wpX_seq,wpX_block,wpX_cond,wpX_loop,condX_ev,seqX_normal,seqX_ret,seqX_exit,seqX_panic,blkQ_panic,rndQ_panic,xPan_ev,RetX_panic,RetX_ret,RetX_normal,isIfc,zz,zq,seval,zl,za,ze,zo,nzs,e3,decide_true,decide_false,Bool.not_true]
         refine wpX_sound (live:=[0,2,3,4,5,29]) _ _ _ _ _ ?_
         simp only [RegX_nil,RegX_call,RegX_panic,RegX_step,opX,Option.isNone_none,Option.isNone_some,Bool.true_and,Bool.false_and,cond_true,cond_false,xCall_ev,xPanic_ev,wpX_skip,wpX_ret,wpX_exit,wpX_region,wpX_draw,wpX_seq,wpX_block,wpX_cond,wpX_loop,condX_ev,seqX_normal,seqX_ret,seqX_exit,seqX_panic,blkQ_panic,rndQ_panic,xPan_ev,RetX_panic,RetX_ret,RetX_normal,isIfc,zz,zq,seval,zl,za,ze,zo,nzs,Bool.false_eq_true,false_implies,and_true,true_and,true_implies]
         refine wpX_sound (live:=[0,2,3,4,5,29]) _ _ _ _ _ ?_
         simp only [RegX_nil,RegX_call,RegX_panic,RegX_step,opX,Option.isNone_none,Option.isNone_some,Bool.true_and,Bool.false_and,cond_true,cond_false,xCall_ev,xPanic_ev,wpX_skip,wpX_ret,wpX_exit,wpX_region,wpX_draw,wpX_seq,wpX_block,wpX_cond,wpX_loop,condX_ev,seqX_normal,seqX_ret,seqX_exit,seqX_panic,blkQ_panic,rndQ_panic,xPan_ev,RetX_panic,RetX_ret,RetX_normal,isIfc,zz,zq,seval,zl,za,ze,zo,nzs,true_and]
         exact ⟨_,rfl,rfl,w,n.toNat,hw1,hn,by rw [hnn],rfl⟩
       · have e3:(w=Lib.itoa n)=False:=eq_false h3
         have hno:numS w=none:=hnone fun k hk=>by
          have h5:=atoi_num hk
          rw [ha] at h5
          injection h5 with h5
          refine h3 (hask.2 ?_).2.2
          rw [h5,zo]
          exact hk
         simp only [RegX_nil,RegX_call,RegX_panic,RegX_step,opX,Option.isNone_none,Option.isNone_some,Bool.true_and,Bool.false_and,cond_true,cond_false,xCall_ev,xPanic_ev,wpX_skip,wpX_ret,wpX_exit,wpX_region,wpX_draw,wpX_seq,wpX_block,wpX_cond,wpX_loop,condX_ev,seqX_normal,seqX_ret,seqX_exit,seqX_panic,blkQ_panic,rndQ_panic,xPan_ev,RetX_panic,RetX_ret,RetX_normal,isIfc,zz,zq,seval,zl,za,ze,zo,nzs,e3,decide_true,decide_false,Bool.not_false]
         refine wpX_sound (live:=[0,2,3,4,5,29]) _ _ _ _ _ ?_
         simp only [RegX_nil,RegX_call,RegX_panic,RegX_step,opX,Option.isNone_none,Option.isNone_some,Bool.true_and,Bool.false_and,cond_true,cond_false,xCall_ev,xPanic_ev,wpX_skip,wpX_ret,wpX_exit,wpX_region,wpX_draw,wpX_seq,wpX_block,wpX_cond,wpX_loop,condX_ev,seqX_normal,seqX_ret,seqX_exit,seqX_panic,blkQ_panic,rndQ_panic,xPan_ev,RetX_panic,RetX_ret,RetX_normal,isIfc,zz,zq,seval,zl,za,ze,zo,nzs,Bool.true_eq_false,false_implies,and_true,true_implies]
         exact CallX.panic rfl (bad_x 12 M') ⟨_,rfl,rfl,by rw [hw1]; exact hno,rfl⟩
 · have hnil:isIfc (.iface te pe)=true:=rfl
   have hno:numS w=none:=num_none ha
   simp only [RegX_nil,RegX_call,RegX_panic,RegX_step,opX,Option.isNone_none,Option.isNone_some,Bool.true_and,Bool.false_and,cond_true,cond_false,xCall_ev,xPanic_ev,wpX_skip,wpX_ret,wpX_exit,wpX_region,wpX_draw,wpX_seq,wpX_block,wpX_cond,wpX_loop,condX_ev,seqX_normal,seqX_ret,seqX_exit,seqX_panic,blkQ_panic,rndQ_panic,xPan_ev,RetX_panic,RetX_ret,RetX_normal,isIfc,zz,zq,seval,zl,za,ze,zo,nzs,hnil]
   refine wpX_sound (live:=[0,2,3,4,5,29]) _ _ _ _ _ ?_
   simp only [RegX_nil,RegX_call,RegX_panic,RegX_step,opX,Option.isNone_none,Option.isNone_some,Bool.true_and,Bool.false_and,cond_true,cond_false,xCall_ev,xPanic_ev,wpX_skip,wpX_ret,wpX_exit,wpX_region,wpX_draw,wpX_seq,wpX_block,wpX_cond,wpX_loop,condX_ev,seqX_normal,seqX_ret,seqX_exit,seqX_panic,blkQ_panic,rndQ_panic,xPan_ev,RetX_panic,RetX_ret,RetX_normal,isIfc,zz,zq,seval,zl,za,ze,zo,nzs,Bool.true_eq_false,false_implies,and_true,true_implies]
   exact CallX.panic rfl (bad_x 12 M') ⟨_,rfl,rfl,by rw [hw1]; exact hno,rfl⟩
end Go.X.Dk

namespace Go.X.Dk
theorem tx_fuel : ∀ (n k:Nat) (l:Tx),l.length≤n→l.length≤k→txS k l=txS l.length l
 | n,k,[],_,_=>by cases k <;> rfl
 | n+1,k+1,c :: r,hn,hk=>by
   simp only [List.length_cons] at hn hk
   have h1:=tx_fuel n k r (by omega) (by omega)
   rw [List.length_cons]
   unfold txS
   rw [h1]
   split
   · rfl
   split
   · rfl
   cases r with
   | nil=>rfl
   | cons a r=>
     cases r with
     | nil=>rfl
     | cons b r'=>
       simp only [List.length_cons] at hn hk ⊢
       have h2:=tx_fuel n k r' (by omega) (by omega)
       have h3:=tx_fuel n (r'.length+1+1) r' (by omega) (by omega)
       rw [h2,h3]
def txT (w:Tx):Option Tx:=txS w.length w
theorem txT_nil:txT []=some []:=rfl
theorem txT_bad {c:UInt8} {r:Tx} (h:plainB c=false):txT (c :: r)=none:=by
 unfold txT
 rw [List.length_cons]
 unfold txS
 rw [if_pos h]
theorem txT_one {c:UInt8} {r:Tx} (h:plainB c=true) (h2:c.toNat≠37):txT (c :: r)=(txT r).map (c :: ·):=by
 unfold txT
 rw [List.length_cons]
 conv=>lhs; unfold txS
 rw [if_neg (by rw [h]; decide),if_pos h2]
theorem txT_hex {c a b:UInt8} {r:Tx} (h:c.toNat=37):txT (c :: a :: b :: r)=match unhexS a,unhexS b with
  | some x,some y=>(txT r).map (UInt8.ofNat (16 * x+y) :: ·)
  | _,_=>none:=by
 have hp:plainB c=true:=by simp [plainB,h]
 unfold txT
 rw [List.length_cons]
 conv=>lhs; unfold txS
 rw [if_neg (by rw [hp]; decide),if_neg (by simp [h])]
 simp only
 rw [tx_fuel (r.length) ((a :: b :: r).length) r (Nat.le_refl _) (by simp only [List.length_cons]; omega)]
 cases unhexS a with
 | none=>rfl
 | some x=>cases unhexS b <;> rfl
theorem txT_short {c:UInt8} {r:Tx} (h:c.toNat=37) (hr:r.length < 2):txT (c :: r)=none:=by
 have hp:plainB c=true:=by simp [plainB,h]
 unfold txT
 rw [List.length_cons]
 unfold txS
 rw [if_neg (by rw [hp]; decide),if_neg (by simp [h])]
 match r,hr with
 | [],_=>rfl
 | [a],_=>rfl
 | a :: b :: r,hr=>simp only [List.length_cons] at hr; omega
def hexL:Tx:=[48,49,50,51,52,53,54,55,56,57,97,98,99,100,101,102]
def hexI (c:UInt8):Int:=match unhexS c with | some x=>x | none=>-1
theorem hex_ix (c:UInt8):Lib.indexByte hexL c=hexI c:=by
 have key : ∀ n:Fin 256,Lib.indexByte hexL (UInt8.ofNat n.val)=hexI (UInt8.ofNat n.val):=by decide
 have h:=key ⟨c.toNat,c.toNat_lt⟩
 have e:UInt8.ofNat c.toNat=c:=UInt8.ofNat_toNat
 simp only [e] at h
 exact h
theorem unhex_lt {c:UInt8} {x:Nat} (h:unhexS c=some x):x < 16:=by
 unfold unhexS at h
 split at h
 · injection h with h; omega
 split at h
 · injection h with h; omega
 · cases h
end Go.X.Dk

namespace Go.X.Dk
open Go Go.X Go.RowKit
theorem text_x {ws:List Tx} {v:Value} {i:Nat} {q:Option Value} {M:Mem} (hM:RowM M v 1 (ws.map wordV)) (hi:i≤ws.length) (hw : ∀ w ∈ ws,w.length≤70000) :
  MeetsX qz 64 [.ptr 8000 0 0 0] [(8000,.box (lineC v i) q)] M
   (fun s H' _=>∃ cs',(s.conc=true∧SV.concs cs'=true)∧hget H' 8000=some (.box cs' q) ∧ ∃ w t,ws[i]? = some w∧textS w=some t∧s = .v (.string ⟨t.toArray⟩)∧cs'=lineC v (i+1))
   (fun ch H' _=>∃ cs',SV.concs cs'=true∧hget H' 8000=some (.box cs' q)∧((ws[i]?).bind textS=none)∧ch=faultC 12):=by
 refine MeetsX.of_body [0,2,3,4,5,6,7,11,15,33,38,49,66] Proofs.Tryz.func64 rfl (by kernel_rfl) fun w0 M0=>?_
 simp only [Proofs.Tryz.f64,zxj,zxk,opX,isIfc,zz,zq,seval,zl,za,ze,zo]
 refine CallX.box1 (A:=fun s=>[s]) 8000 (fun s s' ν ν' h=>by simp only [SV.vals,h]) rfl rfl rfl (fun q' M' hM'=>word_x (hM.le hM') hi) (fun s cs' ⟨w,hw1,hs,hcs⟩=>?_) (fun ch cs' ⟨h0,hch,hcs⟩=>?_)
 rotate_left
 · subst hch hcs
   exact ⟨_,rfl,rfl,by rw [h0]; rfl,rfl⟩
 subst hs hcs
 have hmem:w ∈ ws:=List.mem_of_getElem? hw1
 have hlen:=hw w hmem
 by_cases h1:w=[95]
 · have e1:(w=[95])=True:=eq_true h1
   simp only [zxj,zxk,opX,isIfc,zz,zq,seval,zl,za,ze,zo,nzs,e1,decide_true,true_implies,Bool.true_eq_false,false_implies,and_true]
   refine ⟨_,rfl,rfl,w,[],hw1,?_,rfl,rfl⟩
   rw [h1]; rfl
 have e1:(w=[95])=False:=eq_false h1
 have htx:textS w=txT w:=if_neg h1
 simp only [zxj,zxk,opX,isIfc,zz,zq,seval,zl,za,ze,zo,nzs,e1,decide_false,true_implies,Bool.false_eq_true,false_implies,true_and]
 refine LoopK.nilRow 4 75 1 rfl rfl rfl ?_
 refine LoopX.go (X:=Nat×Tx) (fun x=>([(3,true,.v (.string ⟨w.toArray⟩)),(4,true,.own 600),(5,true,.v (.int .i64 (x.1:Int)))],[(600,.row 1 (x.2.map encB)),(8000,.box (lineC v (i+1)) q)],M))
  (fun x=>(x.1≤w.length∧x.2.length≤x.1)∧txT w=(txT (w.drop x.1)).map (x.2 ++ ·)) (fun x=>w.length - x.1) (0,[]) ⟨⟨Nat.zero_le _,Nat.le_refl _⟩,by simp⟩ (Ent.of ?_) ?_
 · simp only [zq,seval,zl,za,ze,zo,List.map_nil,za,lineC]
 rintro ⟨k,o⟩ ⟨⟨k1,k2⟩,k3⟩
 simp only at k1 k2 k3
 by_cases hk:k < w.length
 rotate_left
 · have d1:((k:Int) < (w.length:Int))=False:=eq_false (by omega)
   have hmb:(o.map encB).map byteOf=o:=by
    rw [List.map_map]
    have:byteOf ∘ encB=id:=funext fun b=>by
     show UInt8.ofNat ((b.toNat:Int).toNat)=b
     rw [zo]
     exact UInt8.ofNat_toNat
    rw [this,List.map_id]
   have hu8 : ∀ o:Tx,u8s (o.map encB):=fun o=>by
    induction o with
    | nil=>trivial
    | cons b o ih=>exact ih
   simp only [zxj,zxk,opX,isIfc,zz,zq,seval,zl,za,ze,zo,nzs,d1,hmb]
   refine ⟨hu8 o,_,rfl,rfl,w,o,hw1,?_,rfl,rfl⟩
   rw [htx,k3,List.drop_eq_nil_of_le (by omega),txT_nil]
   simp
 have d1:((k:Int) < (w.length:Int))=True:=eq_true (by omega)
 obtain ⟨c,hc⟩ : ∃ c,w[k]? = some c:=⟨_,List.getElem?_eq_getElem hk⟩
 have hd:w.drop k=c :: w.drop (k+1):=by
  rw [List.drop_eq_getElem_cons hk]
  congr 1
  rw [List.getElem?_eq_getElem hk] at hc
  exact Option.some.inj hc
 have hx:strIx w (k:Int)=((c.toNat:Nat):Int):=by
  unfold strIx
  simp [hc]
 rw [hd] at k3
 have hix:(0≤(k:Int)∧(k:Int) < (w.length:Int))=True:=eq_true ⟨by omega,by omega⟩
 simp only [zxj,zxk,opX,isIfc,zz,zq,seval,zl,za,ze,zo,nzs,d1,hx,decide_true,Bool.true_eq_false,false_implies,true_implies,and_true,true_and]
 have bad:plainB c=false→((ws[i]?).bind textS=none):=fun h=>by
  rw [hw1]
  show textS w=none
  rw [htx,k3,txT_bad h]
  rfl
 refine ⟨by omega,fun h=>⟨h,by omega⟩,fun h=>⟨h,by omega⟩,fun hb=>?_,fun hb=>?_⟩
 · have hp:plainB c=false:=by
    unfold plainB
    rw [decide_eq_false_iff_not]
    omega
   exact CallX.panic rfl (bad_x 12 M) ⟨_,rfl,rfl,bad hp,rfl⟩
 have hp:plainB c=true:=by
  unfold plainB
  rw [decide_eq_true_iff]
  omega
 by_cases h37:c.toNat=37
 · have e37:((c.toNat:Int)=37)=True:=eq_true (by omega)
   simp only [e37,not_true,false_implies,true_implies,and_true,true_and]
   by_cases hk2:w.length≤k+2
   · have hno:(ws[i]?).bind textS=none:=by
      rw [hw1]
      show textS w=none
      rw [htx,k3,txT_short h37 (by rw [List.length_drop]; omega)]
      rfl
     refine ⟨by omega,in64 (by omega) (by omega),fun _=>CallX.panic rfl (bad_x 12 M) ⟨_,rfl,rfl,hno,rfl⟩,fun h=>absurd h (by omega)⟩
   refine ⟨by omega,in64 (by omega) (by omega),fun h=>absurd h (by omega),fun _=>?_⟩
   obtain ⟨a,ha⟩ : ∃ a,w[k+1]? = some a:=⟨_,List.getElem?_eq_getElem (by omega)⟩
   obtain ⟨b,hb2⟩ : ∃ b,w[k+2]? = some b:=⟨_,List.getElem?_eq_getElem (by omega)⟩
   have hd1:w.drop (k+1)=a :: w.drop (k+2):=by
    rw [List.drop_eq_getElem_cons (show k+1 < w.length by omega)]
    congr 1
    rw [List.getElem?_eq_getElem (by omega)] at ha
    exact Option.some.inj ha
   have hd2:w.drop (k+2)=b :: w.drop (k+3):=by
    rw [List.drop_eq_getElem_cons (show k+2 < w.length by omega)]
    congr 1
    rw [List.getElem?_eq_getElem (by omega)] at hb2
    exact Option.some.inj hb2
   have xa:strIx w ((k:Int)+1)=((a.toNat:Nat):Int):=by
    have:((k:Int)+1).toNat=k+1:=by omega
    unfold strIx
    rw [this]
    simp [ha]
   have xb:strIx w ((k:Int)+2)=((b.toNat:Nat):Int):=by
    have:((k:Int)+2).toNat=k+2:=by omega
    unfold strIx
    rw [this]
    simp [hb2]
   rw [hd1,hd2,txT_hex h37] at k3
   refine DrawX.of (DrawK.plan (tk [0,1,5,6,2,7,3,8] (.one 4 (.one 9 (tk [10,11] .done)))) (by kernel_rfl) (by kernel_rfl) ?_)
   simp only [zxj,zxk,opX,isIfc,zz,zq,seval,zl,za,ze,zo,nzs,se1,se2,tks,xa,xb]
   refine ⟨in64 (by omega) (by omega),in64 (by omega) (by omega),⟨by omega,by omega⟩,⟨by omega,by omega⟩,CallK.pure ⟨rfl,rfl⟩ rfl (indexByte_m (s:=hexL) (c:=a)) ?_⟩
   simp only [zxj,zxk,opX,isIfc,zz,zq,seval,zl,za,ze,zo,nzs,se1,se2,tks]
   refine CallK.pure ⟨rfl,rfl⟩ rfl (indexByte_m (s:=hexL) (c:=b)) ?_
   have none_of:txT w=none→(ws[i]?).bind textS=none:=fun h=>by
    rw [hw1]
    show textS w=none
    rw [htx,h]
   cases ua:unhexS a with
   | none=>
     have fa:hexI a = -1:=by unfold hexI; rw [ua]
     have hno:=none_of (by rw [k3,ua]; rfl)
     simp only [zxj,zxk,opX,isIfc,zz,zq,seval,zl,za,ze,zo,nzs,se1,se2,tks,hex_ix,fa,decide_true,decide_false,true_implies,Bool.true_eq_false,false_implies,and_true]
     exact CallX.panic rfl (bad_x 12 M) ⟨_,rfl,rfl,hno,rfl⟩
   | some x=>
   have fa:hexI a=x:=by unfold hexI; rw [ua]
   have la:((x:Int) < 0)=False:=eq_false (by omega)
   cases ub:unhexS b with
   | none=>
     have fb:hexI b = -1:=by unfold hexI; rw [ub]
     have hno:=none_of (by rw [k3,ua,ub]; rfl)
     simp only [zxj,zxk,opX,isIfc,zz,zq,seval,zl,za,ze,zo,nzs,se1,se2,tks,hex_ix,fa,fb,la,decide_true,decide_false,true_implies,Bool.true_eq_false,false_implies,and_true]
     exact CallX.panic rfl (bad_x 12 M) ⟨_,rfl,rfl,hno,rfl⟩
   | some y=>
   have fb:hexI b=y:=by unfold hexI; rw [ub]
   have lb:((y:Int) < 0)=False:=eq_false (by omega)
   simp only [zxj,zxk,opX,isIfc,zz,zq,seval,zl,za,ze,zo,nzs,se1,se2,tks,hex_ix,fa,fb,la,lb,decide_true,decide_false,true_implies,Bool.false_eq_true,false_implies,true_and]
   have lx:=unhex_lt ua
   have ly:=unhex_lt ub
   have hu:((UInt8.ofNat (16 * x+y)).toNat:Int)=16 * (x:Int)+y:=by
    have:(UInt8.ofNat (16 * x+y)).toNat=(16 * x+y) % 256:=rfl
    omega
   have hwr:IntKind.u8.wrap (16 * (x:Int)+y)=((UInt8.ofNat (16 * x+y)).toNat:Int):=by
    rw [wrap_in (show inK .u8 _ from ⟨by show (0:Int)≤_; omega,by show _≤(255:Int); omega⟩),hu]
   have hl:(o.map encB).length=o.length:=List.length_map ..
   have e:o.map encB++[[.int .u8 ((UInt8.ofNat (16 * x+y)).toNat:Int)]]=(o++[UInt8.ofNat (16 * x+y)]).map encB:=by rw [List.map_append]; rfl
   rw [hwr,e]
   refine ⟨in64 (by omega) (by omega),in64 (by omega) (by omega),rfl,⟨by omega,by omega⟩,rfl,in64 (by omega) (by omega),in64 (by omega) (by omega),(k+3,o++[UInt8.ofNat (16 * x+y)]),⟨⟨⟨by simp only; omega,by simp only [List.length_append,List.length_singleton]; omega⟩,?_⟩,by simp only; omega⟩,Ent.of ?_⟩
   · rw [k3,ua,ub]
     simp only
     cases txT (w.drop (k+3)) <;> simp
   · have:(k:Int)+2+1=((k+3:Nat):Int):=by omega
     simp only [zq,seval,zl,za,ze,zo,this]
 · have e37:((c.toNat:Int)=37)=False:=eq_false (by omega)
   simp only [e37,not_false_eq_true,false_implies,true_implies,and_true,true_and]
   have hl:(o.map encB).length=o.length:=List.length_map ..
   have e:o.map encB++[[.int .u8 (c.toNat:Int)]]=(o++[c]).map encB:=by rw [List.map_append]; rfl
   rw [e]
   refine ⟨by omega,by omega,rfl,⟨by omega,by omega⟩,rfl,in64 (by omega) (by omega),(k+1,o++[c]),⟨⟨⟨by simp only; omega,by simp only [List.length_append,List.length_singleton]; omega⟩,?_⟩,by simp only; omega⟩,?_⟩
   · rw [k3,txT_one hp h37]
     cases txT (w.drop (k+1)) <;> simp
   · refine Ent.rekey 4 75 352 1 _ rfl rfl rfl rfl (Ent.of ?_)
     simp only [zq,seval,zl,za,ze,zo,Int.natCast_add]
end Go.X.Dk

namespace Go.X
open Go Go.RowKit
/-- a call of known arguments that may panic and hands back a known value -/
theorem CallX.pureX {E:Env} {σ:Sig} {H:HS} {M:Mem} {K:KP} {f d:Nat} {l:List SV} {R:SV→Prop} {X0:List PanicEntry→Prop} {X:XP} (hd:decide (d < E.N)=true) (hl:SV.concs l=true)
  (h:MeetsX E.P f l [] M (fun s _ _=>s.conc=true∧R s) (fun c _ _=>X0 c)) (hK : ∀ s,R s→K ((d,true,s) :: σ) H M) (hX : ∀ ch,X0 ch→X ch H M):CallX E f l d K X σ H M:=by
 intro ν a w hs hh
 refine ⟨h.1,?_⟩
 refine (h.2 w M ν w ⟨fun p hp=>(by cases hp),List.nodup_nil,fun b hb=>by simp [fp] at hb,hh.mem,Below.refl _ _,Mem.le.refl _,fun b hb=>.inl hb,hh.one⟩).mono ?_
 rintro e w' (⟨s,H',M',ν',rfl,hh',hc,hr⟩ | ⟨c,ν',H',M',rfl,hh',hx⟩)
 · exact .inl ⟨_,rfl,_,H,M,⟨ν,hs.put (of_decide_eq_true hd) (by rw [cond_true]; exact SV.conc_val s hc),hh.grow hh'.below⟩,hK s hr⟩
 · exact .inr ⟨_,rfl,ν,H,M,hh.grow hh'.below,hX c hx⟩
theorem MeetsX.mono {P:Program} {f:FuncId} {args:List SV} {H:HS} {M:Mem} {R R':RP} {X X':XP} (h:MeetsX P f args H M R X) (hr : ∀ s H M,R s H M→R' s H M) (hx : ∀ c H M,X c H M→X' c H M):MeetsX P f args H M R' X':=
 ⟨h.1,fun w0 M0 ν w hh=>(h.2 w0 M0 ν w hh).mono fun e w' h=>h.imp (fun ⟨s,H',M',ν',h1,h2,h3⟩=>⟨s,H',M',ν',h1,h2,hr _ _ _ h3⟩) (fun ⟨c,ν',H',M',h1,h2,h3⟩=>⟨c,ν',H',M',h1,h2,hx _ _ _ h3⟩)⟩
end Go.X
namespace Go.X.Dk
open Go Go.X Go.RowKit
theorem done_x (e:Int) (M:Mem):MeetsX qz 123 [.v (.int .i64 e)] [] M (fun s _ _=>s.conc=true∧(e=0∧s = .v (.string ⟨okS.toArray⟩))) (fun c _ _=>e≠0∧c=faultC e):=by
 refine MeetsX.of_body [0,2] Proofs.Tryz.func123 rfl (by kernel_rfl) fun w0 M0=>?_
 simp only [Proofs.Tryz.f123,zxj,zxk,opX,isIfc,zz,zq,seval,zl,za,ze,zo]
 refine CallX.pureX (R:=fun s=>e=0∧s = .tup []) (X0:=fun c=>e≠0∧c=faultC e) rfl rfl ((must_x e M).mono (fun s _ _ h=>⟨by rw [h.2]; rfl,h⟩) (fun _ _ _ h=>h)) (fun s hs=>?_) (fun ch hx=>hx)
 obtain ⟨h0,rfl⟩:=hs
 simp only [zxj,zxk,opX,isIfc,zz,zq,seval,zl,za,ze,zo]
 exact ⟨h0,rfl⟩
end Go.X.Dk

