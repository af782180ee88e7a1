/- Contracts of functions and the logic that they are proved in (4 texts in one). Conditions: none. -/
import Derived.Test.YthafjlokddpjfaaGreatDoorMg20
import Derived.Test.YthafjlokddpjfaaGreatDoorMg5
import Derived.Test.YthafjlokddpjfaaGreatDoorMg12
open Go.Proofs.Tryz renaming prog → qz
open Nat renaming reduceAdd→zx,reduceMul→zj,reduceDiv→zy,reduceEqDiff→zk,reduceLT→zw,reduceLeDiff→zb,reduceBEq→zg
open Int renaming reduceEq→zd,reduceNe→zf,reduceLT→zp,reduceLE→zm,reduceAdd→zh,reduceSub→zu,reduceMul→zt,reduceNeg→zn,reduceToNat→zc,cast_ofNat_Int→zl,natCast_zero→za,natCast_one→ze,toNat_natCast→zo
namespace Go.X.Pol
end Go.X.Pol
namespace Go.X.Pl
end Go.X.Pl
namespace Go.X.Rp
end Go.X.Rp
namespace Go.X.Pd
end Go.X.Pd
namespace Go.X.Md
end Go.X.Md
namespace Go.X.Mv
end Go.X.Mv
namespace Go.X.Pt
end Go.X.Pt
namespace Go.X.Tv
end Go.X.Tv
namespace Go.X.Bg
end Go.X.Bg
namespace Go.X.Nm
end Go.X.Nm
namespace Go.X.Bp
end Go.X.Bp
namespace Go.X.Sb
end Go.X.Sb
set_option linter.unusedSimpArgs false
set_option linter.unusedVariables false
set_option maxHeartbeats 4000000
set_option maxRecDepth 20000
namespace Go.X.Fr
open Go Go.X Go.X.Pol Go.X.Pl Go.X.Rp Go.X.Pd Go.X.Md Go.X.Mv Go.X.Pt Go.X.Tv

theorem g0:(2:Nat)≤1073741907∧1073741907≤2147483647:=by decide
def tl (s:List UInt8):List UInt8:=be4 (prf 1073741907 s 1)
theorem tl_len (s:List UInt8):(tl s).length=4:=rfl
theorem prf31 (s:List UInt8):prf 1073741907 s 1≤2147483647:=by
 have:=prf_le 1073741907 (by decide) (by decide) s 1 (by decide)
 omega
theorem tail (s:List UInt8) (M:Mem) (hs:s.length≤maxLen) :
  Meets qz 229 [.v (.string ⟨s.toArray⟩)] M fun r _ _=>r = .v (.string ⟨(tl s).toArray⟩):=by
 refine Meets.of_body [0,2,3] Proofs.Tryz.func229 rfl (by kernel_rfl) rfl fun w=>?_
 simp only [Proofs.Tryz.f229,zz,zq,↓reduceIte,zx,zj,zy,zk,zw,zb,reduceCtorEq,zd,zf,zp,zm,zh,zu,zt,zn,zc,zl,za,ze,zo,zg]
 refine CallK.pure ⟨rfl,rfl⟩ rfl (plain 1073741907 s M g0.1 g0.2 hs) ?_
 have hp:=prf31 s
 generalize hq:prf 1073741907 s 1=p at *
 have ht:tl s=be4 p:=by unfold tl; rw [hq]
 rw [ht]
 simp only [zz,zq,↓reduceIte,zx,zj,zy,zk,zw,zb,reduceCtorEq,zd,zf,zp,zm,zh,zu,zt,zn,zc,zl,za,ze,zo,zg,dw,b64,byteOf,byteW]
 exact ⟨(fun h=>by cases h),(fun h=>by cases h),(fun h=>by cases h),(fun h=>by cases h),rfl⟩

def hd (k:Nat) (b:List UInt8):List UInt8:=UInt8.ofNat k :: UInt8.ofNat (b.length / 256) :: UInt8.ofNat b.length :: b
def fr (k:Nat) (b:List UInt8):List UInt8:=hd k b++tl (hd k b)
def putE (k:Int) (b:List UInt8):Int:=if k < 1∨255 < k then 1 else if 700 < (b.length:Int) then 2 else 0
def putS (k:Int) (b:List UInt8):List UInt8:=if putE k b=0 then fr k.toNat b else []
def frV (k:Int) (b:List UInt8):SV:=.agg [.v (.int .i64 k),.v (.string ⟨b.toArray⟩)]

theorem put (k:Int) (b:List UInt8) (M:Mem) (hb:b.length≤maxLen) :
  Meets qz 176 [frV k b] M fun r _ _=>r = .tup [.v (.string ⟨(putS k b).toArray⟩),.v (.int .i64 (putE k b))]:=by
 refine Meets.of_body [0,1,2,3,4,12,16] Proofs.Tryz.func176 rfl (by kernel_rfl) rfl fun w=>?_
 have hc : ∀ d:Nat,@IntKind.bits .i64=64:=fun _=>rfl
 by_cases h1:k < 1∨255 < k
 · have he:putE k b=1:=if_pos h1
   have hs:putS k b=[]:=if_neg (by rw [he]; decide)
   rw [he,hs]
   rcases h1 with h1 | h1
   · have d1:(k < 1)=True:=eq_true h1
     simp only [Proofs.Tryz.f176,frV,zz,zq,↓reduceIte,zx,zj,zy,zk,zw,zb,reduceCtorEq,zd,zf,zp,zm,zh,zu,zt,zn,zc,zl,za,ze,zo,zg,nzs,d1]
   · have d1:(k < 1)=False:=eq_false (by omega)
     have d2:(255 < k)=True:=eq_true h1
     simp only [Proofs.Tryz.f176,frV,zz,zq,↓reduceIte,zx,zj,zy,zk,zw,zb,reduceCtorEq,zd,zf,zp,zm,zh,zu,zt,zn,zc,zl,za,ze,zo,zg,nzs,d1,d2]
 · by_cases h2:700 < (b.length:Int)
   · have he:putE k b=2:=by unfold putE; rw [if_neg h1,if_pos h2]
     have hs:putS k b=[]:=if_neg (by rw [he]; decide)
     rw [he,hs]
     have d1:(k < 1)=False:=eq_false (by omega)
     have d2:(255 < k)=False:=eq_false (by omega)
     have d3:(700 < (b.length:Int))=True:=eq_true h2
     simp only [Proofs.Tryz.f176,frV,zz,zq,↓reduceIte,zx,zj,zy,zk,zw,zb,reduceCtorEq,zd,zf,zp,zm,zh,zu,zt,zn,zc,zl,za,ze,zo,zg,nzs,d1,d2,d3]
   · have he:putE k b=0:=by unfold putE; rw [if_neg h1,if_neg h2]
     have hs:putS k b=fr k.toNat b:=if_pos he
     rw [he,hs]
     have d1:(k < 1)=False:=eq_false (by omega)
     have d2:(255 < k)=False:=eq_false (by omega)
     have d3:(700 < (b.length:Int))=False:=eq_false h2
     have d4:(((3+b.length:Nat):Int)≤9223372036854775807)=True:=eq_true (by omega)
     have e1 : ∀ x:Nat,(x:Int) / 2 ^ 8=((x / 256:Nat):Int):=fun x=>by omega
     obtain ⟨n,rfl⟩ : ∃ n:Nat,k=n:=⟨k.toNat,by omega⟩
     simp only [Proofs.Tryz.f176,frV,zz,zq,↓reduceIte,zx,zj,zy,zk,zw,zb,reduceCtorEq,zd,zf,zp,zm,zh,zu,zt,zn,zc,zl,za,ze,zo,zg,nzs,d1,d2,d3,d4,byteOf,e1,byteW,IntKind.bits]
     refine CallK.pure ⟨rfl,rfl⟩ rfl (tail _ M (by simp only [List.length_cons,maxLen]; omega)) ?_
     have d5:(((3+b.length+4:Nat):Int)≤9223372036854775807)=True:=eq_true (by omega)
     simp only [zz,zq,↓reduceIte,zx,zj,zy,zk,zw,zb,reduceCtorEq,zd,zf,zp,zm,zh,zu,zt,zn,zc,zl,za,ze,zo,zg,nzs,tl_len,d5,zo]
     exact ⟨by omega,rfl⟩

def seq:List Nat→Sch→Sch
 | [],s=>s
 | i :: l,s=>.take i (seq l s)
theorem sq:type_of% (And.intro @seq.eq_1 @seq.eq_2):=And.intro @seq.eq_1 @seq.eq_2
theorem orwi {x y:Nat} (hx:x < 9223372036854775808) (hy:y < 9223372036854775808):orV .i64 (x:Int) (y:Int)=((x ||| y:Nat):Int):=by
 unfold orV
 show IntKind.i64.wrap ((BitVec.ofInt 64 (x:Int) ||| BitVec.ofInt 64 (y:Int)).toNat:Int)=_
 rw [BitVec.toNat_or,toNat_ofInt 64 (x:Int) (by omega) (by omega),toNat_ofInt 64 (y:Int) (by omega) (by omega),zo,zo]
 have h:=Nat.or_lt_two_pow (n:=63) (x:=x) (y:=y) (by omega) (by omega)
 exact iw (by omega)
def sb (s:List UInt8) (i:Nat):Nat:=(s.getD i 0).toNat
theorem sb_lt (s:List UInt8) (i:Nat):sb s i < 256:=UInt8.toNat_lt _
theorem strIx_sb (s:List UInt8) (i:Nat):strIx s (i:Int)=((sb s i:Nat):Int):=by
 unfold strIx sb
 rw [zo]
theorem ix0 (s:List UInt8):strIx s 0=((sb s 0:Nat):Int):=strIx_sb s 0
theorem ix1 (s:List UInt8):strIx s 1=((sb s 1:Nat):Int):=strIx_sb s 1
theorem ix2 (s:List UInt8):strIx s 2=((sb s 2:Nat):Int):=strIx_sb s 2
def gN (s:List UInt8):Nat:=sb s 1 * 256+sb s 2
def getE (s:List UInt8):Int:=if s.length≤2 then 7 else if sb s 0=0∨700 < gN s then 3 else if s.length < gN s+7 then 7 else if tl (s.take (gN s+3))≠(s.drop (gN s+3)).take 4 then 6 else 0
def getF (s:List UInt8):SV:=if getE s=0 then frV (sb s 0:Nat) ((s.drop 3).take (gN s)) else frV 0 []
def getU (s:List UInt8):Int:=if getE s=0 then ((gN s+7:Nat):Int) else 0

theorem get (s:List UInt8) (M:Mem) (hs:s.length≤maxLen) :
  Meets qz 184 [.v (.string ⟨s.toArray⟩)] M fun r _ _=>r = .tup [getF s,.v (.int .i64 (getU s)),.v (.int .i64 (getE s))]:=by
 refine Meets.of_body [0,2,3,4,5,8,24,30,43] Proofs.Tryz.func184 rfl (by kernel_rfl) rfl fun w=>?_
 simp only [maxLen] at hs
 unfold getF getU
 generalize hc:getE s=c
 unfold getE at hc
 by_cases h1:s.length≤2
 · rw [if_pos h1] at hc
   subst hc
   have d1:((s.length:Int) < 3)=True:=eq_true (by omega)
   simp only [Proofs.Tryz.f184,frV,zz,zq,↓reduceIte,zx,zj,zy,zk,zw,zb,reduceCtorEq,zd,zf,zp,zm,zh,zu,zt,zn,zc,zl,za,ze,zo,zg,nzs,d1]
 rw [if_neg h1] at hc
 have d1:((s.length:Int) < 3)=False:=eq_false (by omega)
 have d2:(1 < (s.length:Int))=True:=eq_true (by omega)
 have d3:(2 < (s.length:Int))=True:=eq_true (by omega)
 have d0:(0 < (s.length:Int))=True:=eq_true (by omega)
 simp only [Proofs.Tryz.f184,frV,zz,zq,↓reduceIte,zx,zj,zy,zk,zw,zb,reduceCtorEq,zd,zf,zp,zm,zh,zu,zt,zn,zc,zl,za,ze,zo,zg,nzs,d1]
 refine DrawK.quiet (by kernel_rfl) (by kernel_rfl) ?_
 have hb0:=sb_lt s 0
 have hb1:=sb_lt s 1
 have hb2:=sb_lt s 2
 have e1:((sb s 1:Nat):Int) * 2 ^ 8=((sb s 1 * 2 ^ 8:Nat):Int):=mw _ 8
 have e2:sb s 1 * 2 ^ 8 ||| sb s 2=gN s:=or_low (k:=8) (by omega)
 simp only [zz,zq,↓reduceIte,zx,zj,zy,zk,zw,zb,reduceCtorEq,zd,zf,zp,zm,zh,zu,zt,zn,zc,zl,za,ze,zo,zg,nzs,ix1,ix2,ix0,iw (show sb s 1 < 9223372036854775808 by omega),iw (show sb s 2 < 9223372036854775808 by omega),e1,orwi (show sb s 1 * 2 ^ 8 < 9223372036854775808 by omega) (show sb s 2 < 9223372036854775808 by omega),e2,inK,lo,hi,b64]
 have hgN:gN s≤65535:=by unfold gN; omega
 generalize hg:gN s=n at *
 refine ⟨by omega,by omega,by omega,by omega,fun h3=>?_,fun h3=>?_⟩
 · rw [if_pos (by omega)] at hc
   subst hc
   rfl
 rw [if_neg (by omega)] at hc
 refine ⟨by omega,fun h4=>?_,fun h4=>?_⟩
 · rw [if_pos (by omega)] at hc
   subst hc
   rfl
 rw [if_neg (by omega)] at hc
 refine DrawK.plan (seq [0,1,2,3,5,6,7,8,9,10] (.one 4 (seq [11] .done))) (by kernel_rfl) (by kernel_rfl) ?_
 have e3:(n:Int)+3=((n+3:Nat):Int):=by omega
 have e7:(n:Int)+7=((n+7:Nat):Int):=by omega
 have d4:(((n+3:Nat):Int)≤((n+7:Nat):Int))=True:=eq_true (by omega)
 have d5:(((n+7:Nat):Int)≤(s.length:Int))=True:=eq_true (by omega)
 have d6:(((n+3:Nat):Int)≤(s.length:Int))=True:=eq_true (by omega)
 have d7:(0≤((n+3:Nat):Int))=True:=eq_true (by omega)
 have d8:((3:Int)≤((n+3:Nat):Int))=True:=eq_true (by omega)
 have i1:inK .i64 ((n+3:Nat):Int):=i64N (by omega)
 have i2:inK .i64 ((n+7:Nat):Int):=i64N (by omega)
 have ek:n+7 - (n+3)=4:=by omega
 have ek2:n+3 - 3=n:=by omega
 simp only [zz,zq,↓reduceIte,zx,zj,zy,zk,zw,zb,reduceCtorEq,zd,zf,zp,zm,zh,zu,zt,zn,zc,zl,za,ze,zo,zg,nzs,se1,se2,sq,e3,e7,d4,d5,d6,d7,i1,i2,List.drop_zero,Nat.sub_zero,ek]
 refine CallK.pure ⟨rfl,rfl⟩ rfl (tail _ M (by simp only [List.length_take,maxLen]; omega)) ?_
 simp only [zz,zq,↓reduceIte,zx,zj,zy,zk,zw,zb,reduceCtorEq,zd,zf,zp,zm,zh,zu,zt,zn,zc,zl,za,ze,zo,zg,nzs,se1,se2,sq]
 refine ⟨fun h5=>?_,fun h5=>?_⟩
 · rw [if_pos h5] at hc
   subst hc
   rfl
 rw [if_neg (fun h=>h h5)] at hc
 subst hc
 refine DrawK.plan (seq [0,1,2,3,4,5,6,7,8,9] (.one 10 (seq [11,12] .done))) (by kernel_rfl) (by kernel_rfl) ?_
 simp only [zz,zq,↓reduceIte,zx,zj,zy,zk,zw,zb,reduceCtorEq,zd,zf,zp,zm,zh,zu,zt,zn,zc,zl,za,ze,zo,zg,nzs,se1,se2,sq,e3,e7,d8,d6,i1,i2,ix0,iw (show sb s 0 < 9223372036854775808 by omega),d0,ek2]

end Go.X.Fr

namespace Go.X.Vo
open Go Go.X Go.RowKit Go.X.Bg Go.X.Nm Go.X.Bp Go.X.Sb

/-! ### what is written of deeds -/
def frO (o:OpT):List UInt8:=Fr.fr 1 (Lg.bodyS o)
theorem body_len {o:OpT} (h:Lg.opE o=0):(Lg.bodyS o).length≤700:=by
 obtain ⟨_,_,h1,h2,h3⟩:=Lg.opE_ok h
 unfold Lg.bodyS Lg.txt
 simp only [List.length_cons,List.length_append]
 omega
theorem put_body {o:OpT} (h:Lg.opE o=0):Fr.putE 1 (Lg.bodyS o)=0∧Fr.putS 1 (Lg.bodyS o)=frO o:=by
 have h1:=body_len h
 have h0:Fr.putE 1 (Lg.bodyS o)=0:=by
  unfold Fr.putE
  rw [if_neg (by omega),if_neg (by omega)]
 exact ⟨h0,by unfold Fr.putS; rw [if_pos h0]; rfl⟩
theorem frO_len {o:OpT} (h:Lg.opE o=0):(frO o).length≤707:=by
 have h1:=body_len h
 unfold frO Fr.fr Fr.hd
 simp only [List.length_append,List.length_cons,Fr.tl_len]
 omega
theorem body_max {o:OpT} (h:Lg.opE o=0):(Lg.bodyS o).length≤maxLen:=Nat.le_trans (body_len h) (by decide)
/-! ### what is played again -/
def playS:Nat→St→List UInt8→Nat→St×Int×Int
 | 0,A,_,n=>(A,(n:Int),0)
 | f+1,A,s,n=>
   if Fr.getE s=7 then (A,(n:Int),0) else if Fr.getE s≠0 then (zSt,0,Fr.getE s) else if n=200 then (zSt,0,2) else
   if (Lg.decS ((s.drop 3).take (Fr.gN s))).2≠0∨Fr.sb s 0≠1 then (zSt,0,3) else
   if (doA A.1 A.2 (Lg.decS ((s.drop 3).take (Fr.gN s))).1).2≠0 then (zSt,0,3) else
   playS f (doA A.1 A.2 (Lg.decS ((s.drop 3).take (Fr.gN s))).1).1 (s.drop (Fr.gN s+7)) (n+1)
theorem get_ok {s:List UInt8} (h:Fr.getE s=0):Fr.gN s+7≤s.length:=by
 unfold Fr.getE at h
 split at h
 · cases h
 split at h
 · cases h
 split at h
 · cases h
 omega
theorem get_nil:Fr.getE []=7:=rfl
theorem play_nil : ∀ (f:Nat) (A:St) (n:Nat),playS f A [] n=(A,(n:Int),0)
 | 0,_,_=>rfl
 | _+1,_,_=>by rw [playS,if_pos get_nil]
theorem play_fuel : ∀ (f g:Nat) (A:St) (s:List UInt8) (n:Nat),s.length≤f→s.length≤g→playS f A s n=playS g A s n
 | 0,g,A,s,n,h1,_=>by
   have:s=[]:=List.length_eq_zero_iff.1 (by omega)
   subst this
   rw [play_nil,play_nil]
 | f+1,0,A,s,n,_,h2=>by
   have:s=[]:=List.length_eq_zero_iff.1 (by omega)
   subst this
   rw [play_nil,play_nil]
 | f+1,g+1,A,s,n,h1,h2=>by
   rw [playS,playS]
   by_cases e:Fr.getE s=0
   · have:=get_ok e
     rw [play_fuel f g _ (s.drop (Fr.gN s+7)) (n+1) (by rw [List.length_drop]; omega) (by rw [List.length_drop]; omega)]
   · rw [if_pos e,if_pos e]
theorem dec_opE {s:List UInt8} (h:(Lg.decS s).2=0):Lg.opE (Lg.decS s).1=0:=by
 obtain ⟨o,h1,h2,_⟩:=Lg.dec_ok h
 rw [h1]
 exact h2
def playT (n e:Int) (s:SV):SV:=.tup [s,.v (.int .i64 n),.v (.int .i64 e)]
theorem replayW (s:List UInt8) (M:Mem) (hs:s.length≤maxLen) :
  Meets qz 183 [.v (.string ⟨s.toArray⟩)] M (StM (playT (playS s.length zSt s 0).2.1 (playS s.length zSt s 0).2.2) (playS s.length zSt s 0).1):=by
 refine Meets.of_body [0,2,3,4,5,6,7,8,9,10,12,20,22,26,40,49] Proofs.Tryz.func183 rfl (by kernel_rfl) rfl fun w=>?_
 generalize hc:playS s.length zSt s 0=c
 simp only [Proofs.Tryz.f183,zz,zq,seval,zl,za,ze,zo,nzs]
 refine LoopK.go (X:=List UInt8×Nat×Value×Value×List It×List WV×Mem) (fun z=>([(0,true,.v (.string ⟨z.1.toArray⟩)),(2,true,.ptr 16 0 0 0),(5,true,.ptr 40 0 0 0),(6,true,.v (.int .i64 z.2.1))],
   [(40,.box [.v z.2.2.1,.v z.2.2.2.1] none),(16,.box [.v (.slice none 0 0),.v (.slice none 0 0)] none)],z.2.2.2.2.2.2))
  (fun z=>((z.1.length≤s.length∧z.2.1≤200)∧(RowM z.2.2.2.2.2.2 z.2.2.1 4 (z.2.2.2.2.1.map Bg.encT)∧VolsM z.2.2.2.2.2.2 z.2.2.2.1 z.2.2.2.2.2.1))∧playS s.length (z.2.2.2.2.1,z.2.2.2.2.2.1.map (·.2)) z.1 z.2.1=c) (fun z=>z.1.length) (s,0,.slice none 0 0,.slice none 0 0,[],[],M) ⟨⟨⟨Nat.le_refl _,Nat.zero_le _⟩,zero_volsM M⟩,hc⟩ (Ent.of ?_) ?_
 · simp only [zq,seval,zl,za,ze,zo,za]
 rintro ⟨t,n,b,v,bag,ws,N⟩ ⟨⟨⟨n1,n2⟩,n3,n4⟩,n5⟩
 simp only at n1 n2 n3 n4 n5
 by_cases ht:t=[]
 · subst ht
   rw [play_nil] at n5
   subst n5
   simp only [zz,zq,seval,zl,za,ze,zo,nzs,decide_true,Bool.not_true,n3.one,n4.row.one,playT]
   exact ⟨b,v,ws,rfl,rfl,n3,n4⟩
 have ct:decide (t=[])=false:=decide_eq_false ht
 have htl:0 < t.length:=List.length_pos_iff.2 ht
 obtain ⟨f,hf⟩ : ∃ f,s.length=f+1:=⟨s.length - 1,by omega⟩
 rw [hf,playS] at n5
 have hG:=Fr.get t N (Nat.le_trans n1 hs)
 simp only [zz,zq,seval,zl,za,ze,zo,nzs,ct,Bool.not_false]
 by_cases e0:Fr.getE t=0
 rotate_left
 · have eF:Fr.getF t=Fr.frV 0 []:=if_neg e0
   have eU:Fr.getU t=0:=if_neg e0
   rw [eF,eU] at hG
   simp only [Fr.frV] at hG
   refine CallK.pure ⟨rfl,rfl⟩ rfl hG ?_
   by_cases e7:Fr.getE t=7
   · rw [if_pos e7] at n5
     subst n5
     have c7:=eq_true e7
     simp only [zz,zq,seval,zl,za,ze,zo,nzs,c7,n3.one,n4.row.one,playT]
     exact ⟨b,v,ws,rfl,rfl,n3,n4⟩
   · rw [if_neg e7,if_pos e0] at n5
     subst n5
     have c7:=eq_false e7
     have c0:=eq_false e0
     simp only [zz,zq,seval,zl,za,ze,zo,nzs,c7,c0,playT]
     exact ⟨_,_,[],rfl,rfl,RowM.nil _ _,zero_volsM _ |>.2⟩
 have hU:=get_ok e0
 have eF:Fr.getF t=Fr.frV (Fr.sb t 0:Nat) ((t.drop 3).take (Fr.gN t)):=if_pos e0
 have eU:Fr.getU t=((Fr.gN t+7:Nat):Int):=if_pos e0
 have hbl:((t.drop 3).take (Fr.gN t)).length≤9223372036854775807:=by
  rw [List.length_take,List.length_drop]
  unfold maxLen at hs
  omega
 have hD:=Lg.decodeW ((t.drop 3).take (Fr.gN t)) N hbl
 rw [eF,eU,e0] at hG
 rw [e0,if_neg (by decide),if_neg (fun h=>h rfl)] at n5
 have hO:=dec_opE (s:=(t.drop 3).take (Fr.gN t))
 simp only [Fr.frV] at hG
 simp only [Lg.opV] at hD
 generalize hb:(t.drop 3).take (Fr.gN t)=body at *
 generalize Lg.decS body=dc at *
 generalize hk:Fr.sb t 0=kd at *
 refine CallK.pure ⟨rfl,rfl⟩ rfl hG ?_
 by_cases h2:n=200
 · rw [if_pos h2] at n5
   subst n5
   have c2:((n:Int)=200)=True:=eq_true (by omega)
   simp only [zz,zq,seval,zl,za,ze,zo,nzs,c2,playT]
   exact ⟨_,_,[],rfl,rfl,RowM.nil _ _,zero_volsM _ |>.2⟩
 have c2:((n:Int)=200)=False:=eq_false (by omega)
 rw [if_neg h2] at n5
 simp only [zz,zq,seval,zl,za,ze,zo,nzs,c2]
 refine CallK.pure ⟨rfl,rfl⟩ rfl hD ?_
 by_cases h3:dc.2=0
 rotate_left
 · have c3:=eq_false h3
   rw [if_pos (.inl h3)] at n5
   subst n5
   simp only [zz,zq,seval,zl,za,ze,zo,nzs,c3,playT]
   exact ⟨_,_,[],rfl,rfl,RowM.nil _ _,zero_volsM _ |>.2⟩
 by_cases h4:kd=1
 rotate_left
 · have c4:((kd:Int)=1)=False:=eq_false (by omega)
   rw [if_pos (.inr h4)] at n5
   subst n5
   simp only [zz,zq,seval,zl,za,ze,zo,nzs,h3,c4,playT]
   exact ⟨_,_,[],rfl,rfl,RowM.nil _ _,zero_volsM _ |>.2⟩
 have c4:((kd:Int)=1)=True:=eq_true (by omega)
 rw [if_neg (by rintro (h | h) <;> contradiction)] at n5
 have hL:=ldo b v bag ws dc.1 N n3 n4
 rw [show doL bag (ws.map (·.2)) dc.1=doA bag (ws.map (·.2)) dc.1 from if_neg (fun h=>h (hO h3))] at hL
 simp only [stV,opT] at hL
 have hPf:=fun A m h=>play_fuel f (f+1) A (t.drop (Fr.gN t+7)) m h
 generalize doA bag (ws.map (·.2)) dc.1=A at *
 simp only [zz,zq,seval,zl,za,ze,zo,nzs,h3,c4,n3.one,n4.row.one]
 refine CallK.stM (T:=fun s=>.tup [s,.v (.int .i64 A.2)]) (fun _ _=>rfl) rfl rfl hL fun b2 v2 ws2 M2 hM2 hw2 hb2 hv2=>?_
 by_cases h5:A.2=0
 rotate_left
 · have c5:=eq_false h5
   rw [if_pos h5] at n5
   subst n5
   simp only [zz,zq,seval,zl,za,ze,zo,nzs,stV,c5,hb2.one,hv2.row.one,playT]
   exact ⟨_,_,[],rfl,rfl,RowM.nil _ _,zero_volsM _ |>.2⟩
 rw [if_neg (fun h=>h h5),hPf A.1 (n+1) (by rw [List.length_drop]; omega) (by rw [List.length_drop]; omega),← hf] at n5
 have e7:((Fr.gN t:Int)+7).toNat=Fr.gN t+7:=by omega
 have ed:List.take (t.length - (Fr.gN t+7)) (t.drop (Fr.gN t+7))=t.drop (Fr.gN t+7):=List.take_of_length_le (by rw [List.length_drop]; exact Nat.le_refl _)
 simp only [zz,zq,seval,zl,za,ze,zo,nzs,stV,h5,hb2.one,hv2.row.one,inK,lo,hi]
 refine ⟨by omega,⟨⟨by omega,by omega⟩,Int.le_refl _⟩,(t.drop (Fr.gN t+7),n+1,b2,v2,A.1.1,ws2,M2),⟨⟨⟨⟨by simp only [List.length_drop]; omega,by simp only; omega⟩,hb2,hv2⟩,?_⟩,by simp only [List.length_drop]; omega⟩,Ent.of ?_⟩
 · simp only [hw2]
   exact n5
 · simp only [zq,seval,zl,za,ze,zo,Int.natCast_add,ed]
end Go.X.Vo

namespace Go.X.Rv
open Go Go.X Go.X.Rp

def encR (x:Int×Int):List Value:=[.int .i64 x.1,.int .i64 x.2]
/-- where a hand stands, or -1 -/
def fi (w:Int):List (Int×Int)→Nat→Int
 | [],_=>-1
 | x :: l,i=>if x.1=w then (i:Int) else fi w l (i+1)
def resvV (g:Int) (y:Value) (k h:Int):SV:=.agg [.v (.int .i64 g),.v y,.v (.int .i64 k),.v (.int .i64 h)]

theorem nz:(((1:Nat)≠0)=True)∧(((2:Nat)≠0)=True)∧(((3:Nat)≠0)=True)∧(((4:Nat)≠0)=True):=by simp

theorem find (g:Int) (y:Value) (kd hd w:Int) (l:List (Int×Int)) (M:Mem) (hy:RowM M y 2 (l.map encR)) :
  Meets qz 219 [resvV g y kd hd,.v (.int .i64 w)] M fun r _ _=>r = .v (.int .i64 (fi w l 0)):=by
 refine Meets.of_body [0,1,2,3,4] Proofs.Tryz.func219 rfl (by kernel_rfl) rfl fun w0=>?_
 generalize hc:fi w l 0=c
 have hyl:=hy.len_le
 rw [List.length_map] at hyl
 simp only [Proofs.Tryz.f219,resvV,zz,zq,seval,zl,za,ze,zo,nz]
 refine stepK.mkFn rfl rfl ?_
 simp only [zz,zq,seval,zl,za,ze,zo]
 refine CallK.lendB 8000 [0,1,4,5,7,8,9,16] Proofs.Tryz.func269 rfl (by kernel_rfl) rfl rfl fun xs=>?_
 simp only [Proofs.Tryz.f269,sd2,sd3,zz,zq,seval,zl,za,ze,zo,hy.len,hy.sl,List.length_map]
 refine LoopK.go (X:=Nat×Nat) (fun x=>([(0,true,.v y),(1,true,.fn 270 [.ptr 8024 0 0 0]),(7,true,.v (.int .i64 l.length)),(8,true,.v (.int .i64 x.2))],
   [(8024,.box [.v (.int .i64 w)] (some (xs 24))),(8016,.box [.v (.int .i64 g),.v y,.v (.int .i64 kd),.v (.int .i64 hd)] (some (xs 16)))],M))
  (fun x=>x.1+x.2=l.length∧fi w (l.drop x.2) x.2=c) (fun x=>x.1) (l.length,0) ⟨rfl,hc⟩ (Ent.of ?_) ?_
 · simp only [zq,seval,zl,za,ze,zo]
 rintro ⟨f,i⟩ ⟨h1,h2⟩
 simp only at h1 h2
 by_cases hil:i < l.length
 · have c1:((i:Int) < (l.length:Int))=True:=eq_true (by omega)
   obtain ⟨⟨a,b⟩,hx,hd'⟩:=drop_at (l:=l) (i:=i) hil
   rw [hd'] at h2
   simp only [fi] at h2
   have g0:=hy.cell (i:=i) (e:=[.int .i64 a,.int .i64 b]) (by rw [List.getElem?_map,hx]; rfl) (off:=0) (by omega)
   have g1:=hy.cell (i:=i) (e:=[.int .i64 a,.int .i64 b]) (by rw [List.getElem?_map,hx]; rfl) (off:=1) (by omega)
   have i0:=hy.ix (i:=(i:Int)) (by omega) (by rw [List.length_map]; omega)
   simp only [List.getD_cons_zero,List.getD_cons_succ] at g0 g1
   simp only [zz,zq,seval,zl,za,ze,zo,c1,hy.len,hy.sl,List.length_map,i0,g0.1,g1.1,g0.2.1,g1.2.1,i0.2,nz]
   refine CallK.lendB 8000 [0,1,2,3] Proofs.Tryz.func270 rfl (by kernel_rfl) rfl rfl fun ys=>?_
   simp only [Proofs.Tryz.f270,sd2,sd3,zz,zq,seval,zl,za,ze,zo,nz,inK,lo,hi]
   refine ⟨fun h=>?_,fun h=>?_⟩
   · rw [if_pos h] at h2
     rw [h2]
   · rw [if_neg h] at h2
     refine ⟨by omega,(f - 1,i+1),⟨⟨by simp only; omega,h2⟩,by simp only; omega⟩,Ent.of ?_⟩
     simp only [zq,seval,zl,za,ze,zo,Int.natCast_add]
 · have c1:((i:Int) < (l.length:Int))=False:=eq_false (by omega)
   have hd':l.drop i=[]:=List.drop_eq_nil_of_le (by omega)
   rw [hd'] at h2
   simp only [fi] at h2
   subst h2
   simp only [sd2,sd3,zz,zq,seval,zl,za,ze,zo,c1]

def whoB (n:Int):Bool:=decide (0≤n) && decide (n≤7)
def allB (k:Int):Bool:=decide (k=7) || decide (k=8)
def kindB (k:Int):Bool:=decide (k=1) || decide (k=3) || (decide (5≤k) && decide (k≤8))
theorem who (n:Int) (M:Mem):Meets qz 217 [.v (.int .i64 n)] M fun r _ _=>r = .v (.bool (whoB n)):=by
 refine Meets.of_body [0,2] Proofs.Tryz.func217 rfl (by kernel_rfl) rfl fun w=>?_
 simp only [Proofs.Tryz.f217,zz,zq,seval,zl,za,ze,zo,whoB]
theorem all (k:Int) (M:Mem):Meets qz 237 [.v (.int .i64 k)] M fun r _ _=>r = .v (.bool (allB k)):=by
 refine Meets.of_body [0,2] Proofs.Tryz.func237 rfl (by kernel_rfl) rfl fun w=>?_
 simp only [Proofs.Tryz.f237,zz,zq,seval,zl,za,ze,zo,allB]
theorem kind (k:Int) (M:Mem):Meets qz 236 [.v (.int .i64 k)] M fun r _ _=>r = .v (.bool (kindB k)):=by
 refine Meets.of_body [0,2] Proofs.Tryz.func236 rfl (by kernel_rfl) rfl fun w=>?_
 simp only [Proofs.Tryz.f236,zz,zq,seval,zl,za,ze,zo,kindB]
 exact fun h=>⟨h,fun h5=>⟨h,h5⟩⟩

/-- a hand's key, or 0 -/
def ky (w:Int):List (Int×Int)→Int
 | []=>0
 | x :: l=>if x.1=w then x.2 else ky w l
/-- what is wrong with those who are registered -/
def ck:List (Int×Int)→Int→Int
 | [],_=>0
 | x :: l,last=>if ¬ (0≤x.1∧x.1≤7)∨(x.2 < 1∨1000 < x.2) then 1 else if x.1≤last then 3 else ck l x.1
def kE (l:List (Int×Int)) (k h:Int):Int:=
 if k=0∨allB k=true then (if h≠0∨(allB k=true∧l=[]) then 3 else 0) else if kindB k=false then 1 else if fi h l 0 < 0 then 3 else 0
def resvE (g:Int) (l:List (Int×Int)) (k h:Int):Int:=if g < 0∨2147483647 < g then 1 else if ck l (-1)≠0 then ck l (-1) else kE l k h
theorem allB0:allB 0=false:=rfl

theorem check (g:Int) (y:Value) (kd hd:Int) (l:List (Int×Int)) (M:Mem) (hy:RowM M y 2 (l.map encR)) :
  Meets qz 216 [resvV g y kd hd] M fun r _ _=>r = .v (.int .i64 (resvE g l kd hd)):=by
 refine Meets.of_body [0,1,2,3,4,12,14,15,16,17,34,48,50,72,73,78] Proofs.Tryz.func216 rfl (by kernel_rfl) rfl fun w0=>?_
 generalize hc:resvE g l kd hd=c
 have hyl:=hy.len_le
 rw [List.length_map] at hyl
 by_cases hg:g < 0∨2147483647 < g
 · rw [resvE,if_pos hg] at hc
   subst hc
   simp only [Proofs.Tryz.f216,resvV,zz,zq,seval,zl,za,ze,zo,nz,hy.len,hy.sl,List.length_map]
   exact fun h=>by omega
 rw [resvE,if_neg hg] at hc
 have c1:(g < 0)=False:=eq_false (by omega)
 have c2:(2147483647 < g)=False:=eq_false (by omega)
 simp only [Proofs.Tryz.f216,resvV,zz,zq,seval,zl,za,ze,zo,nz,hy.len,hy.sl,List.length_map,c1,c2]
 generalize hck:ck l (-1)=e0 at hc
 refine LoopK.go (X:=Nat×Nat×Int) (fun x=>([(1,true,.ptr 8 0 0 0),(14,true,.v y),(15,true,.v (.int .i64 l.length)),(16,true,.v (.int .i64 x.2.1))],[(8,.box [.v (.int .i64 g),.v y,.v (.int .i64 kd),.v (.int .i64 hd)] none)],M))
  (fun x=>(x.1+x.2.1=l.length∧((x.2.1=0∧x.2.2 = -1)∨(0 < x.2.1 ∧ ∃ b,l[x.2.1 - 1]? = some (x.2.2,b))))∧ck (l.drop x.2.1) x.2.2=e0) (fun x=>x.1) (l.length,0,-1) ⟨⟨rfl,.inl ⟨rfl,rfl⟩⟩,hck⟩ (Ent.of ?_) ?_
 · simp only [zq,seval,zl,za,ze,zo]
 rintro ⟨f,i,last⟩ ⟨⟨h1,h3⟩,h2⟩
 simp only at h1 h2 h3
 by_cases hil:i < l.length
 · have d1:((i:Int) < (l.length:Int))=True:=eq_true (by omega)
   obtain ⟨⟨a,b⟩,hx,hd'⟩:=drop_at (l:=l) (i:=i) hil
   rw [hd'] at h2
   simp only [ck] at h2
   have g0:=hy.cell (i:=i) (e:=[.int .i64 a,.int .i64 b]) (by rw [List.getElem?_map,hx]; rfl) (off:=0) (by omega)
   have g1:=hy.cell (i:=i) (e:=[.int .i64 a,.int .i64 b]) (by rw [List.getElem?_map,hx]; rfl) (off:=1) (by omega)
   have i0:=hy.ix (i:=(i:Int)) (by omega) (by rw [List.length_map]; omega)
   simp only [List.getD_cons_zero,List.getD_cons_succ] at g0 g1
   simp only [zz,zq,seval,zl,za,ze,zo,d1,hy.len,hy.sl,List.length_map,i0,g0.1,g1.1,g0.2.1,g1.2.1,i0.2,nz,inK,lo,hi]
   refine ⟨fun _=>trivial,CallK.pure ⟨rfl,rfl⟩ rfl (who a M) ?_⟩
   by_cases hw : ¬ (0≤a∧a≤7)∨(b < 1∨1000 < b)
   · rw [if_pos hw] at h2
     subst h2
     rw [if_pos (by decide)] at hc
     subst hc
     simp only [zz,zq,seval,zl,za,ze,zo,nz,whoB]
     exact fun h=>by omega
   · rw [if_neg hw] at h2
     have hwB:whoB a=true:=by unfold whoB; rw [decide_eq_true (by omega),decide_eq_true (by omega)]; rfl
     have d2:(b < 1)=False:=eq_false (by omega)
     have d3:(1000 < b)=False:=eq_false (by omega)
     simp only [zz,zq,seval,zl,za,ze,zo,nz,hwB,d2,d3]
     refine DrawK.quiet (by kernel_rfl) (by kernel_rfl) ?_
     rcases h3 with ⟨rfl,rfl⟩ | ⟨h3,b',h4⟩
     · rw [if_neg (by omega)] at h2
       simp only [zz,zq,seval,zl,za,ze,zo,nz,hy.len,hy.sl,List.length_map,inK,lo,hi]
       refine ⟨(f - 1,1,a),⟨⟨⟨by simp only; omega,.inr ⟨by simp,b,by simpa using hx⟩⟩,h2⟩,by simp only; omega⟩,Ent.of ?_⟩
       simp only [zq,seval,zl,za,ze,zo]
     · have d4:(0 < (i:Int))=True:=eq_true (by omega)
       have e1:(i:Int) - 1=((i - 1:Nat):Int):=by omega
       have p0:=hy.cell (i:=i - 1) (e:=[.int .i64 last,.int .i64 b']) (by rw [List.getElem?_map,h4]; rfl) (off:=0) (by omega)
       have q0:=hy.ix (i:=((i - 1:Nat):Int)) (by omega) (by rw [List.length_map]; omega)
       simp only [List.getD_cons_zero,List.getD_cons_succ] at p0
       simp only [zz,zq,seval,zl,za,ze,zo,nz,d4,e1,hy.len,hy.sl,List.length_map,p0.1,p0.2.1,q0,q0.2,inK,lo,hi]
       refine ⟨by omega,fun h=>?_,fun h=>⟨by omega,(f - 1,i+1,a),⟨⟨⟨by simp only; omega,.inr ⟨by simp,b,by simpa using hx⟩⟩,by simp only; rw [if_neg (by omega)] at h2; exact h2⟩,by simp only; omega⟩,Ent.of ?_⟩⟩
       · rw [if_pos h] at h2
         subst h2
         rw [if_pos (by decide)] at hc
         rw [hc]
       · simp only [zq,seval,zl,za,ze,zo,Int.natCast_add]
 · have d1:((i:Int) < (l.length:Int))=False:=eq_false (by omega)
   have hd':l.drop i=[]:=List.drop_eq_nil_of_le (by omega)
   rw [hd'] at h2
   simp only [ck] at h2
   subst h2
   rw [if_neg (by decide)] at hc
   have hl0:((l.length:Int)=0)=(l=[]):=by
    apply propext
    rw [← List.length_eq_zero_iff]
    omega
   unfold kE at hc
   by_cases hk0:kd=0
   · subst hk0
     rw [if_pos (.inl rfl)] at hc
     by_cases hh:hd=0
     · have d2:(hd=0)=True:=eq_true hh
       rw [if_neg (by simp [hh,allB0])] at hc
       subst hc
       simp only [zz,zq,seval,zl,za,ze,zo,nz,d1,d2]
       refine CallK.pure ⟨rfl,rfl⟩ rfl (all 0 M) ?_
       simp only [zz,zq,seval,zl,za,ze,zo,nz,allB0]
     · have d2:(hd=0)=False:=eq_false hh
       rw [if_pos (.inl hh)] at hc
       subst hc
       simp only [zz,zq,seval,zl,za,ze,zo,nz,d1,d2]
   · have d0:(kd=0)=False:=eq_false hk0
     simp only [zz,zq,seval,zl,za,ze,zo,nz,d1,d0]
     refine CallK.pure ⟨rfl,rfl⟩ rfl (all kd M) ?_
     cases hA:allB kd with
     | true=>
       rw [if_pos (.inr hA)] at hc
       by_cases hh:hd=0
       · have d2:(hd=0)=True:=eq_true hh
         simp only [zz,zq,seval,zl,za,ze,zo,nz,d2]
         refine CallK.pure ⟨rfl,rfl⟩ rfl (all kd M) ?_
         simp only [zz,zq,seval,zl,za,ze,zo,nz,hA,hy.len,hy.sl,List.length_map,hl0]
         exact ⟨fun h=>by rw [if_pos (.inr ⟨hA,h⟩)] at hc; rw [hc],fun h=>by rw [if_neg (by simp [hh,h])] at hc; rw [hc]⟩
       · have d2:(hd=0)=False:=eq_false hh
         rw [if_pos (.inl hh)] at hc
         subst hc
         simp only [zz,zq,seval,zl,za,ze,zo,nz,d2]
     | false=>
       rw [if_neg (by simp [hk0,hA])] at hc
       simp only [zz,zq,seval,zl,za,ze,zo,nz]
       refine CallK.pure ⟨rfl,rfl⟩ rfl (kind kd M) ?_
       cases hK:kindB kd with
       | false=>
         rw [if_pos hK] at hc
         subst hc
         simp only [zz,zq,seval,zl,za,ze,zo,nz]
       | true=>
         rw [if_neg (by simp [hK])] at hc
         simp only [zz,zq,seval,zl,za,ze,zo,nz]
         refine CallK.pure ⟨rfl,rfl⟩ rfl (find g y kd hd hd l M hy) ?_
         simp only [zz,zq,seval,zl,za,ze,zo,nz]
         refine ⟨fun h=>?_,fun h=>?_⟩
         · rw [if_pos h] at hc
           rw [hc]
         · rw [if_neg (by omega)] at hc
           rw [hc]
end Go.X.Rv

namespace Go.X.Rv
open Go Go.X Go.X.Rp

theorem ky_fi (w:Int) : ∀ (l:List (Int×Int)) (i:Nat),(∀ x ∈ l,1≤x.2)→((0 < ky w l)↔0≤fi w l i)
 | [],i,_=>by simp [ky,fi]
 | x :: l,i,h=>by
   simp only [ky,fi]
   split
   · have:=h x List.mem_cons_self
     constructor <;> intro _ <;> omega
   · exact ky_fi w l (i+1) (fun y hy=>h y (List.mem_cons_of_mem _ hy))
/-- is the reservation a hand's? -/
def hasB (l:List (Int×Int)) (k h w:Int):Bool:=if allB k=true then decide (0≤fi w l 0) else (decide (k≠0) && decide (h=w))
theorem has (g:Int) (y:Value) (kd hd w:Int) (l:List (Int×Int)) (M:Mem) (hy:RowM M y 2 (l.map encR)) :
  Meets qz 218 [resvV g y kd hd,.v (.int .i64 w)] M fun r _ _=>r = .v (.bool (hasB l kd hd w)):=by
 refine Meets.of_body [0,1,2,4] Proofs.Tryz.func218 rfl (by kernel_rfl) rfl fun w0=>?_
 simp only [Proofs.Tryz.f218,resvV,zz,zq,seval,zl,za,ze,zo,nz]
 by_cases hk0:kd=0
 · subst hk0
   simp only [zz,zq,seval,zl,za,ze,zo,nz,hasB,allB0]
 · have d0:(kd=0)=False:=eq_false hk0
   simp only [zz,zq,seval,zl,za,ze,zo,nz,d0]
   refine CallK.pure ⟨rfl,rfl⟩ rfl (all kd M) ?_
   cases hA:allB kd with
   | true=>
     simp only [zz,zq,seval,zl,za,ze,zo,nz]
     refine CallK.pure ⟨rfl,rfl⟩ rfl (find g y kd hd w l M hy) ?_
     by_cases hf:0≤fi w l 0
     · have d1:(0≤fi w l 0)=True:=eq_true hf
       have d2:(fi w l 0 < 0)=False:=eq_false (by omega)
       simp only [zz,zq,seval,zl,za,ze,zo,nz,d1,d2,hasB,hA]
     · have d1:(0≤fi w l 0)=False:=eq_false hf
       have d2:(fi w l 0 < 0)=True:=eq_true (by omega)
       simp only [zz,zq,seval,zl,za,ze,zo,nz,d1,d2,hasB,hA]
       refine CallK.pure ⟨rfl,rfl⟩ rfl (all kd M) ?_
       simp only [zz,zq,seval,zl,za,ze,zo,nz,hA]
   | false=>
     simp only [zz,zq,seval,zl,za,ze,zo,nz]
     refine CallK.pure ⟨rfl,rfl⟩ rfl (all kd M) ?_
     have d3:decide (kd≠0)=true:=decide_eq_true hk0
     simp only [zz,zq,seval,zl,za,ze,zo,nz,hA,hasB,d3]
/-- may it be done? -/
def mayB (l:List (Int×Int)) (k h w:Int) (wr:Bool):Bool:=
 if k=0 then true else if k=1 then (!wr || hasB l k h w) else if k=3 then hasB l k h w else if k=5∨k=7 then (!wr || decide (0≤fi w l 0)) else decide (0≤fi w l 0)
def mayE (g:Int) (l:List (Int×Int)) (k h w:Int):Int:=if resvE g l k h≠0 then resvE g l k h else if whoB w=true then 0 else 1
theorem may (g:Int) (y:Value) (kd hd w:Int) (wr:Bool) (l:List (Int×Int)) (M:Mem) (hy:RowM M y 2 (l.map encR)) :
  Meets qz 172 [resvV g y kd hd,.v (.int .i64 w),.v (.bool wr)] M fun r _ _=>r = .tup [.v (.bool (decide (mayE g l kd hd w=0) && mayB l kd hd w wr)),.v (.int .i64 (mayE g l kd hd w))]:=by
 refine Meets.of_body [0,1,2,3,6,7,8,12,16,18,19,21,30,35] Proofs.Tryz.func172 rfl (by kernel_rfl) rfl fun w0=>?_
 simp only [Proofs.Tryz.f172,resvV,zz,zq,seval,zl,za,ze,zo,nz]
 refine CallK.pure ⟨rfl,rfl⟩ rfl (check g y kd hd l M hy) ?_
 unfold mayE
 generalize resvE g l kd hd=e
 by_cases he:e=0
 · subst he
   rw [if_neg (by simp)]
   simp only [zz,zq,seval,zl,za,ze,zo,nz]
   refine CallK.pure ⟨rfl,rfl⟩ rfl (who w M) ?_
   cases hw:whoB w with
   | false=>simp only [zz,zq,seval,zl,za,ze,zo,nz]
   | true=>
     rw [if_pos rfl]
     by_cases h0:kd=0
     · subst h0
       simp only [zz,zq,seval,zl,za,ze,zo,nz,mayB]
     have d0:(kd=0)=False:=eq_false h0
     by_cases h1:kd=1
     · subst h1
       cases wr with
       | false=>simp only [zz,zq,seval,zl,za,ze,zo,nz,mayB]
       | true=>
         simp only [zz,zq,seval,zl,za,ze,zo,nz]
         refine CallK.pure ⟨rfl,rfl⟩ rfl (has g y 1 hd w l M hy) ?_
         simp only [zz,zq,seval,zl,za,ze,zo,nz,mayB]
     have d1:(kd=1)=False:=eq_false h1
     by_cases h3:kd=3
     · subst h3
       simp only [zz,zq,seval,zl,za,ze,zo,nz]
       refine CallK.pure ⟨rfl,rfl⟩ rfl (has g y 3 hd w l M hy) ?_
       simp only [zz,zq,seval,zl,za,ze,zo,nz,mayB]
     have d3:(kd=3)=False:=eq_false h3
     by_cases h5:kd=5∨kd=7
     · have hm:mayB l kd hd w wr=(!wr || decide (0≤fi w l 0)):=by unfold mayB; rw [if_neg h0,if_neg h1,if_neg h3,if_pos h5]
       rw [hm]
       rcases h5 with rfl | rfl
       · cases wr with
         | false=>simp only [zz,zq,seval,zl,za,ze,zo,nz]
         | true=>
           simp only [zz,zq,seval,zl,za,ze,zo,nz]
           refine CallK.pure ⟨rfl,rfl⟩ rfl (find g y 5 hd w l M hy) ?_
           simp only [zz,zq,seval,zl,za,ze,zo,nz]
       · cases wr with
         | false=>simp only [zz,zq,seval,zl,za,ze,zo,nz]
         | true=>
           simp only [zz,zq,seval,zl,za,ze,zo,nz]
           refine CallK.pure ⟨rfl,rfl⟩ rfl (find g y 7 hd w l M hy) ?_
           simp only [zz,zq,seval,zl,za,ze,zo,nz]
     · have d5:(kd=5)=False:=eq_false (fun h=>h5 (.inl h))
       have d7:(kd=7)=False:=eq_false (fun h=>h5 (.inr h))
       have hm:mayB l kd hd w wr=decide (0≤fi w l 0):=by unfold mayB; rw [if_neg h0,if_neg h1,if_neg h3,if_neg h5]
       rw [hm]
       simp only [zz,zq,seval,zl,za,ze,zo,nz,d0,d1,d3,d5,d7]
       refine CallK.pure ⟨rfl,rfl⟩ rfl (find g y kd hd w l M hy) ?_
       simp only [zz,zq,seval,zl,za,ze,zo,nz]
 · have de:(e=0)=False:=eq_false he
   rw [if_pos he]
   simp only [zz,zq,seval,zl,za,ze,zo,nz,de]

end Go.X.Rv

