/- slices.Clone, Equal, IndexFunc, Insert, Delete, DeleteFunc, BinarySearchFunc at items. Conditions: none. -/
import Derived.Test.YthafjlokddpjfaaGreatDoorMg9
import Derived.Test.YthafjlokddpjfaaGreatDoorMg13
open Go.Proofs.Tryz renaming prog → qz
open Nat renaming reduceAdd→zx,reduceMul→zj,reduceDiv→zy,reduceEqDiff→zk,reduceLT→zw,reduceLeDiff→zb,reduceBEq→zg
open Int renaming reduceEq→zd,reduceNe→zf,reduceLT→zp,reduceLE→zm,reduceAdd→zh,reduceSub→zu,reduceMul→zt,reduceNeg→zn,reduceToNat→zc,cast_ofNat_Int→zl,natCast_zero→za,natCast_one→ze,toNat_natCast→zo
namespace Go.X.Bg
end Go.X.Bg
set_option linter.unusedSimpArgs false
set_option linter.unusedVariables false
set_option maxHeartbeats 4000000
set_option maxRecDepth 20000
namespace Go.X.Sb
open Go Go.X Go.RowKit Go.X.Bg

def bk {α:Type} (cf:α→Int):List α→Nat
 | []=>0
 | x :: l=>if cf x < 0 then bk cf l+1 else 0
def bf {α:Type} (cf:α→Int) (l:List α):Bool:=match l[bk cf l]? with
 | some x=>decide (cf x=0)
 | none=>false
theorem bk_eq {α:Type} (cf:α→Int) : ∀ (l:List α) (i:Nat),i≤l.length→(∀ q x,q < i→l[q]? = some x→cf x < 0)→(∀ x,l[i]? = some x → ¬ cf x < 0)→bk cf l=i
 | [],i,h,_,_=>by simp at h; subst h; rfl
 | a :: l,0,_,_,h2=>by
   have:=h2 a rfl
   rw [bk,if_neg this]
 | a :: l,i+1,h,h1,h2=>by
   have:=h1 0 a (by omega) rfl
   rw [bk,if_pos this,bk_eq cf l i (by simpa using h) (fun q x hq hx=>h1 (q+1) x (by omega) (by simpa using hx)) (fun x hx=>h2 x (by simpa using hx))]
theorem bk_le {α:Type} (cf:α→Int) : ∀ l:List α,bk cf l≤l.length
 | []=>Nat.le_refl _
 | x :: l=>by
   rw [bk,List.length_cons]
   have:=bk_le cf l
   split <;> omega
theorem cloneB (u:Value) (l:List (Int×Int×List UInt8×Int)) (M:Mem) (hu:RowM M u 4 (l.map Bg.encT)) (hb:l.length≤1000000) :
  Meets qz 149 [.v u] M (OwnR (fun s=>s) 4 (l.map Bg.encT)):=by
 obtain ⟨r1,r2⟩:=hu.rows (by omega)
 cases hs:someV u with
 | true=>
   refine Meets.of_body [0,2,4] Proofs.Tryz.func149 rfl (by kernel_rfl) rfl fun w=>?_
   simp only [Proofs.Tryz.f149,zz,zq,↓reduceIte,zx,zj,zy,zk,zw,zb,reduceCtorEq,zd,zf,zp,zm,zh,zu,zt,zn,zc,zl,za,ze,zo,zg,hu.sl,hs,r1,List.length_map]
   exact ⟨⟨by omega,r2⟩,56,rfl,rfl⟩
 | false=>
   have hn:l=[]:=by
    cases l with
    | nil=>rfl
    | cons a r=>have:=hu.2.1 (by simp); rw [hs] at this; cases this
   subst hn
   refine Meets.nilOwn ?_
   refine Meets.of_body [0,2,4] Proofs.Tryz.func149 rfl (by kernel_rfl) rfl fun w=>?_
   simp only [Proofs.Tryz.f149,zz,zq,↓reduceIte,zx,zj,zy,zk,zw,zb,reduceCtorEq,zd,zf,zp,zm,zh,zu,zt,zn,zc,zl,za,ze,zo,zg,hu.sl,hs]

theorem idxB4 {α:Type} (q0 q1 q2 q3:α→Value) (p:α→Bool) (f:Nat) (caps:List SV) (hcaps:SV.concs caps=true) (y:Value) (l:List α) (M:Mem) (hy:RowM M y 4 (l.map (fun x=>[q0 x,q1 x,q2 x,q3 x])))
  (hf : ∀ x ∈ l,Meets qz f (.agg [.v (q0 x),.v (q1 x),.v (q2 x),.v (q3 x)] :: caps) M fun r _ _=>r = .v (.bool (p x))) :
  Meets qz 312 [.v y,.fn f caps] M fun r _ _=>r = .v (.int .i64 (fidx p l 0)):=by
 refine Meets.of_body [0,1,4,5,7,8,9,16] Proofs.Tryz.func312 rfl (by kernel_rfl) (by simp only [SV.concs,SV.conc,hcaps,Bool.and_self]) fun w=>?_
 generalize hc:fidx p l 0=c
 have hyl:=hy.len_le
 rw [List.length_map] at hyl
 simp only [Proofs.Tryz.f312,zz,zq,↓reduceIte,zx,zj,zy,zk,zw,zb,reduceCtorEq,zd,zf,zp,zm,zh,zu,zt,zn,zc,zl,za,ze,zo,zg,hy.len,hy.sl,List.length_map]
 refine LoopK.go (X:=Nat×Nat) (fun x=>([(0,true,.v y),(1,true,.fn f caps),(7,true,.v (.int .i64 l.length)),(8,true,.v (.int .i64 x.2))],[],M))
  (fun x=>x.1+x.2=l.length∧fidx p (l.drop x.2) x.2=c) (fun x=>x.1) (l.length,0) ⟨rfl,hc⟩ (Ent.of ?_) ?_
 · simp only [zq,↓reduceIte,zx,zj,zy,zk,zw,zb,reduceCtorEq,zd,zf,zp,zm,zh,zu,zt,zn,zc,zl,za,ze,zo,zg]
 rintro ⟨fu,i⟩ ⟨h1,h2⟩
 simp only at h1 h2
 by_cases hil:i < l.length
 · have c1:((i:Int) < (l.length:Int))=True:=eq_true (by omega)
   obtain ⟨a,hx,hd⟩:=l_drop_at (l:=l) (i:=i) hil
   rw [hd] at h2
   simp only [fidx] at h2
   have g0:=hy.cell (i:=i) (e:=[q0 a,q1 a,q2 a,q3 a]) (by rw [List.getElem?_map,hx]; rfl) (off:=0) (by omega)
   have g1:=hy.cell (i:=i) (e:=[q0 a,q1 a,q2 a,q3 a]) (by rw [List.getElem?_map,hx]; rfl) (off:=1) (by omega)
   have g2:=hy.cell (i:=i) (e:=[q0 a,q1 a,q2 a,q3 a]) (by rw [List.getElem?_map,hx]; rfl) (off:=2) (by omega)
   have g3:=hy.cell (i:=i) (e:=[q0 a,q1 a,q2 a,q3 a]) (by rw [List.getElem?_map,hx]; rfl) (off:=3) (by omega)
   have i0:=hy.ix (i:=(i:Int)) (by omega) (by rw [List.length_map]; omega)
   simp only [List.getD_cons_zero,List.getD_cons_succ] at g0 g1 g2 g3
   simp only [zz,zq,↓reduceIte,zx,zj,zy,zk,zw,zb,reduceCtorEq,zd,zf,zp,zm,zh,zu,zt,zn,zc,zl,za,ze,zo,zg,nzs,c1,hy.len,hy.sl,List.length_map,i0,i0.2,g0.1,g0.2.1,g1.1,g1.2.1,g2.1,g2.2.1,g3.1,g3.2.1]
   refine CallK.pure ⟨by simp only [SV.concs,SV.conc,hcaps,Bool.and_self],rfl⟩ rfl (hf a (List.mem_of_getElem? hx)) ?_
   cases hp:p a with
   | true=>
     rw [hp,if_pos rfl] at h2
     subst h2
     simp only [zz,zq,↓reduceIte,zx,zj,zy,zk,zw,zb,reduceCtorEq,zd,zf,zp,zm,zh,zu,zt,zn,zc,zl,za,ze,zo,zg,nzs]
   | false=>
     rw [hp,if_neg (by simp)] at h2
     simp only [zz,zq,↓reduceIte,zx,zj,zy,zk,zw,zb,reduceCtorEq,zd,zf,zp,zm,zh,zu,zt,zn,zc,zl,za,ze,zo,zg,nzs,inK,lo,hi]
     refine ⟨by omega,(fu - 1,i+1),⟨⟨by simp only; omega,h2⟩,by simp only; omega⟩,Ent.of ?_⟩
     simp only [zq,↓reduceIte,zx,zj,zy,zk,zw,zb,reduceCtorEq,zd,zf,zp,zm,zh,zu,zt,zn,zc,zl,za,ze,zo,zg,Int.natCast_add]
 · have c1:((i:Int) < (l.length:Int))=False:=eq_false (by omega)
   have hd:l.drop i=[]:=List.drop_eq_nil_of_le (by omega)
   rw [hd] at h2
   simp only [fidx] at h2
   subst h2
   simp only [zz,zq,↓reduceIte,zx,zj,zy,zk,zw,zb,reduceCtorEq,zd,zf,zp,zm,zh,zu,zt,zn,zc,zl,za,ze,zo,zg,c1]

theorem insertB (es:List (List Value)) (x:List Value) (i:Nat) (M:Mem) (hin:i≤es.length) (hb:es.length≤1000000) (hes : ∀ e ∈ es,e.length=4 ∧ ∀ c ∈ e,c.oneCell'=true) (hx:x.length=4 ∧ ∀ c ∈ x,c.oneCell'=true) :
  MeetsH qz 330 [.own 8000,.v (.int .i64 i),.own 8008] [(8000,.row 4 es),(8008,.row 4 [x])] M (OwnR (fun s=>s) 4 (es.take i++x :: es.drop i)):=by
 refine MeetsH.closeR Ctx.id (fun e he=>?_) ?_
 · rcases List.mem_append.1 he with he | he
   · exact hes e (List.mem_of_mem_take he)
   · rcases List.mem_cons.1 he with rfl | he
     · exact hx
     · exact hes e (List.mem_of_mem_drop he)
 refine MeetsH.of_bodyS Proofs.Tryz.func330 rfl (by kernel_rfl) fun w M0=>?_
 refine CodeK.openRow (k:=8000) 1002 rfl (fun _=>rfl) (fun he=>?_) (fun b cap sp h1 h2=>?_)
 · subst he
   have e1:i=0:=by simpa using hin
   subst e1
   refine CodeK.ofW (live:=[0,1,2,6,7,8,9,16,22,31,68]) ?_
   simp only [Proofs.Tryz.f330,zz,zq,↓reduceIte,zx,zj,zy,zk,zw,zb,reduceCtorEq,zd,zf,zp,zm,zh,zu,zt,zn,zc,zl,za,ze,zo,zg,sp1,sp2,sp3,nzs,lenV,capV,isSl]
   exact .inr ⟨200,rfl,rfl⟩
 refine CodeK.ofW (live:=[0,1,2,6,7,8,9,16,22,31,68]) ?_
 have hm:(cap:Int)≤9223372036854775807:=by have:=h1.2.1; simp only [maxLen] at this; omega
 by_cases hn:i=es.length
 · have c1:((i:Int)=(es.length:Int))=True:=eq_true (by omega)
   simp only [Proofs.Tryz.f330,zz,zq,↓reduceIte,zx,zj,zy,zk,zw,zb,reduceCtorEq,zd,zf,zp,zm,zh,zu,zt,zn,zc,zl,za,ze,zo,zg,sp1,sp2,sp3,nzs,lenV,capV,isSl,c1]
   refine ⟨⟨⟨by omega,by omega⟩,by omega⟩,show OpK _ _ _ _ _ _ from OpK.reown (es:=es) (sp:=sp) (cap:=cap) (b:=b) 23 8016 1003 rfl rfl rfl h1 h2 rfl (OpK.step ?_)⟩
   simp only [zz,zq,↓reduceIte,zx,zj,zy,zk,zw,zb,reduceCtorEq,zd,zf,zp,zm,zh,zu,zt,zn,zc,zl,za,ze,zo,zg,sp1,sp2,sp3,nzs]
   refine ⟨⟨by omega,by omega⟩,.inr ⟨200,rfl,?_⟩⟩
   simp [hn]
 have c1:((i:Int)=(es.length:Int))=False:=eq_false (by omega)
 have hlen : ∀ e ∈ es,e.length=4:=fun e he=>(hes e he).1
 have hfl:=flatten_len hlen
 have hft:=flatten_len (fun e he=>hlen e (List.mem_of_mem_take (i:=i) he))
 have hfd:=flatten_len (fun e he=>hlen e (List.mem_of_mem_drop (i:=i) he))
 rw [List.length_take,Nat.min_eq_left hin] at hft
 rw [List.length_drop] at hfd
 have hol : ∀ u ∈ (es.drop i).flatten,u.oneCell'=true:=fun u hu=>by
  obtain ⟨e,he,hu⟩:=List.mem_flatten.1 hu
  exact (hes e (List.mem_of_mem_drop he)).2 u hu
 have htl:es.flatten.take (i * 4)=(es.take i).flatten:=flat_take hlen i
 have hdl:es.flatten.drop (i * 4)=(es.drop i).flatten:=flat_drop hlen i
 by_cases hr:es.length+1 > cap
 · have c2:((cap:Int) < (es.length:Int)+1)=True:=eq_true (by omega)
   simp only [Proofs.Tryz.f330,zz,zq,↓reduceIte,zx,zj,zy,zk,zw,zb,reduceCtorEq,zd,zf,zp,zm,zh,zu,zt,zn,zc,zl,za,ze,zo,zg,sp1,sp2,sp3,nzs,lenV,capV,isSl,c1,inK,lo,hi]
   refine ⟨⟨⟨by omega,by omega⟩,by omega⟩,⟨by omega,by omega⟩,⟨rfl,OpK.cap (e:=181) rfl rfl rfl (by kernel_rfl) rfl rfl ?_⟩⟩
   simp only [zz,zq,↓reduceIte,zx,zj,zy,zk,zw,zb,reduceCtorEq,zd,zf,zp,zm,zh,zu,zt,zn,zc,zl,za,ze,zo,zg,sp1,sp2,sp3,nzs,lenV,capV,isSl,c1,c2,inK,lo,hi,subV_open0]
   have em:(es.length:Int)+1 - (i:Int)=((es.length+1 - i:Nat):Int):=by omega
   simp only [em]
   refine ⟨⟨by omega,by omega⟩,⟨by omega,by omega⟩,⟨by omega,by omega⟩,show OpK _ _ _ _ _ _ from OpK.appMake (base:=some ⟨b,0,none⟩) (n:=i) (m:=es.length+1 - i) (c:=cap) (olds:=(es.take i).flatten) rfl rfl rfl sl27 (kn:=.i64) (by kernel_rfl) rfl rfl
    (.inr ⟨⟨b,0,none⟩,rfl,hft,Reads.sub (k:=8016) (cs:=es.flatten++sp) rfl fun j u hj=>get_of_take htl.symm hj⟩) (by omega) (by decide) rfl (by omega) (by omega) (by simp [hdel,hNoKey,poNoKey,opn_noKeys]) fun b2 cap2 tp2 q1 q2 q3=>?_⟩
   have eim:i+(es.length+1 - i)=es.length+1:=by omega
   rw [eim] at q1 q3
   have hz:(List.replicate (es.length+1 - i) [Value.int IntKind.i64 0,Value.int IntKind.i64 0,Value.string ⟨([]:List UInt8).toArray⟩,Value.int IntKind.i64 0]).flatten.length=(es.length+1 - i) * 4:=by simp
   have d1:(cap2=i)=False:=eq_false (by omega)
   simp only [zz,zq,↓reduceIte,zx,zj,zy,zk,zw,zb,reduceCtorEq,zd,zf,zp,zm,zh,zu,zt,zn,zc,zl,za,ze,zo,zg,sp1,sp2,sp3,nzs,lenV,capV,isSl,inK,lo,hi,subV_open b2 (es.length+1) cap2 4 i,eim,d1]
   refine ⟨⟨by omega,by omega⟩,⟨rfl,OpK.openRow (k:=8008) 1003 rfl (fun _=>by simp [hpub,poPub,hNoKey,poNoKey,opn_noKeys,opn_pubs]) (fun h=>by cases h) fun b3 cap3 tp3 r1 r2=>?_⟩⟩
   simp only [zz,zq,↓reduceIte,zx,zj,zy,zk,zw,zb,reduceCtorEq,zd,zf,zp,zm,zh,zu,zt,zn,zc,zl,za,ze,zo,zg,sp1,sp2,sp3,nzs,so0]
   refine OpK.copyIn (k:=320) (cs:=(es.take i).flatten++(List.replicate (es.length+1 - i) [Value.int IntKind.i64 0,Value.int IntKind.i64 0,Value.string ⟨([]:List UInt8).toArray⟩,Value.int IntKind.i64 0]).flatten++tp2) (news:=x) (m:=1) (ad:=⟨b3,0,none⟩) rfl rfl sl27 rfl rfl rfl ?_ (Reads.sub (k:=8024) (cs:=[x].flatten++tp3) rfl fun j u hj=>?_) hx.2 ?_ ?_
   · rw [hx.1]
     have:Nat.min 1 (es.length+1 - i)=1:=Nat.min_eq_left (by omega)
     rw [this]
   · rw [Nat.zero_add,List.getElem?_append_left (by have:=(List.getElem?_eq_some_iff.1 hj).1; simpa using this)]
     simpa using hj
   · rw [List.length_append,List.length_append,hft,hz,hx.1]
     omega
   rw [← hft,List.append_assoc,putV_keep]
   generalize hR:((List.replicate (es.length+1 - i) [Value.int IntKind.i64 0,Value.int IntKind.i64 0,Value.string ⟨([]:List UInt8).toArray⟩,Value.int IntKind.i64 0]).flatten++tp2).drop x.length=R
   have hRl:R.length=(cap2 - i - 1) * 4:=by rw [← hR,List.length_drop,List.length_append,hz,hx.1,q3]; omega
   simp only [putD,zz,zq,↓reduceIte,zx,zj,zy,zk,zw,zb,reduceCtorEq,zd,zf,zp,zm,zh,zu,zt,zn,zc,zl,za,ze,zo,zg,sp1,sp2,sp3,nzs,so0]
   refine DrawK.tail 8 (by kernel_rfl) (by kernel_rfl) ?_
   have d2:(cap2=i+1)=False:=eq_false (by omega)
   have d3:(cap=i)=False:=eq_false (by omega)
   have e4:((i:Int)+1).toNat=i+1:=by omega
   simp only [zz,zq,↓reduceIte,zx,zj,zy,zk,zw,zb,reduceCtorEq,zd,zf,zp,zm,zh,zu,zt,zn,zc,zl,za,ze,zo,zg,sp1,sp2,sp3,nzs,lenV,capV,isSl,inK,lo,hi,e4,subV_open b2 (es.length+1) cap2 4 (i+1),subV_open b es.length cap 4 i,d2,d3]
   refine ⟨⟨by omega,by omega⟩,⟨⟨by omega,by omega⟩,by omega⟩,⟨⟨by omega,by omega⟩,by omega⟩,⟨rfl,OpK.copyIn (k:=320) (cs:=(es.take i).flatten++(x++R)) (news:=(es.drop i).flatten) (m:=es.length - i) (ad:=⟨b,i * 4,none⟩) rfl rfl sl27 rfl rfl rfl ?_ (Reads.sub (k:=8016) (cs:=es.flatten++sp) rfl fun j u hj=>get_of_drop hdl.symm hj) hol ?_ ?_⟩⟩
   · have:Nat.min (es.length - i) (es.length+1 - (i+1))=es.length - i:=Nat.min_eq_left (by omega)
     rw [this,hfd]
   · rw [List.length_append,List.length_append,hft,hfd,hRl,hx.1]
     omega
   have eo:(i+1) * 4=((es.take i).flatten++x).length:=by rw [List.length_append,hft,hx.1]; omega
   rw [eo,← List.append_assoc,putV_keep]
   have ef:(es.take i).flatten++x++((es.drop i).flatten++R.drop (es.drop i).flatten.length)=(es.take i++x :: es.drop i).flatten++R.drop (es.drop i).flatten.length:=by simp
   rw [ef]
   have hl2:(es.take i++x :: es.drop i).length=es.length+1:=by simp; omega
   simp only [putD,zz,zq,↓reduceIte,zx,zj,zy,zk,zw,zb,reduceCtorEq,zd,zf,zp,zm,zh,zu,zt,zn,zc,zl,za,ze,zo,zg,sp1,sp2,sp3,nzs,so0]
   refine .inl ⟨b2,320,cap2,R.drop (es.drop i).flatten.length,by rw [hl2],rfl,by omega,q2,?_⟩
   rw [List.length_drop,hRl,hfd,hl2]
   omega
 · have c2:((cap:Int) < (es.length:Int)+1)=False:=eq_false (by omega)
   have e3:((es.length:Int)+1).toNat=es.length+1:=by omega
   have e4:((i:Int)+1).toNat=i+1:=by omega
   have d1:(cap=i+1)=False:=eq_false (by omega)
   simp only [Proofs.Tryz.f330,zz,zq,↓reduceIte,zx,zj,zy,zk,zw,zb,reduceCtorEq,zd,zf,zp,zm,zh,zu,zt,zn,zc,zl,za,ze,zo,zg,sp1,sp2,sp3,nzs,lenV,capV,isSl,c1,inK,lo,hi]
   refine ⟨⟨⟨by omega,by omega⟩,by omega⟩,⟨by omega,by omega⟩,⟨rfl,OpK.cap (e:=181) rfl rfl rfl (by kernel_rfl) rfl rfl ?_⟩⟩
   simp only [zz,zq,↓reduceIte,zx,zj,zy,zk,zw,zb,reduceCtorEq,zd,zf,zp,zm,zh,zu,zt,zn,zc,zl,za,ze,zo,zg,sp1,sp2,sp3,nzs,lenV,capV,isSl,c1,c2,inK,lo,hi,subV_open0,e3,e4,subV_open b (es.length+1) cap 4 (i+1),d1]
   refine ⟨⟨by omega,by omega⟩,⟨by omega,by omega⟩,⟨by omega,by omega⟩,⟨⟨by omega,by omega⟩,by omega⟩,CallK.openRow (k:=8008) 1003 rfl (fun _=>by simp [hpub,poPub,hNoKey,poNoKey,opn_noKeys,opn_pubs]) (fun h=>by cases h) (fun b3 cap3 tp3 r1 r2=>?_) (fun _=>rfl)⟩
   simp only [zz,zq,↓reduceIte,zx,zj,zy,zk,zw,zb,reduceCtorEq,zd,zf,zp,zm,zh,zu,zt,zn,zc,zl,za,ze,zo,zg,sp1,sp2,sp3,nzs,so0]
   refine CallK.overlaps (k:=8024) (k2:=8016) (cs:=[x].flatten++tp3) (cs2:=es.flatten++sp) (tS:=27) (tR:=4) (e:=181) (sz:=4) rfl (by kernel_rfl) Proofs.Tryz.sizeOf181 (fun w x y v h=>by rw [run_callFunc_extern Proofs.Tryz.func343 (by kernel_rfl) (by kernel_rfl) (by kernel_rfl) (e:=Extern.SlicesOverlaps.overlaps #[27,27] #[4]) (by kernel_rfl),h]; rfl) rfl rfl rfl ?_ ?_
   · rw [List.length_append,hfl]; omega
   simp only [zz,zq,↓reduceIte,zx,zj,zy,zk,zw,zb,reduceCtorEq,zd,zf,zp,zm,zh,zu,zt,zn,zc,zl,za,ze,zo,zg,sp1,sp2,sp3,nzs,so0]
   refine DrawK.tail 8 (by kernel_rfl) (by kernel_rfl) ?_
   have d3:(cap=i)=False:=eq_false (by omega)
   simp only [zz,zq,↓reduceIte,zx,zj,zy,zk,zw,zb,reduceCtorEq,zd,zf,zp,zm,zh,zu,zt,zn,zc,zl,za,ze,zo,zg,sp1,sp2,sp3,nzs,lenV,capV,isSl,inK,lo,hi,e4,subV_open b (es.length+1) cap 4 (i+1),subV_open b (es.length+1) cap 4 i,d1,d3]
   refine ⟨⟨by omega,by omega⟩,⟨⟨by omega,by omega⟩,by omega⟩,⟨⟨by omega,by omega⟩,by omega⟩,⟨rfl,OpK.copyIn (k:=8016) (cs:=es.flatten++sp) (news:=(es.drop i).flatten) (m:=es.length+1 - i) (ad:=⟨b,i * 4,none⟩) rfl rfl sl27 rfl rfl rfl ?_ (Reads.sub (k:=8016) (cs:=es.flatten++sp) rfl fun j u hj=>get_of_drop hdl.symm hj) hol ?_ ?_⟩⟩
   · have:Nat.min (es.length+1 - i) (es.length+1 - (i+1))=es.length - i:=by
      rw [show es.length+1 - (i+1)=es.length - i by omega]
      exact Nat.min_eq_right (by omega)
     rw [this,hfd]
   · rw [List.length_append,hfl,hfd]
     omega
   simp only [putD,zz,zq,↓reduceIte,zx,zj,zy,zk,zw,zb,reduceCtorEq,zd,zf,zp,zm,zh,zu,zt,zn,zc,zl,za,ze,zo,zg,sp1,sp2,sp3,nzs,so0,lenV,capV,isSl,subV_open b (es.length+1) cap 4 i,d3]
   have hcl:(putV (es.flatten++sp) ((i+1) * 4) (es.drop i).flatten).length=(es.flatten++sp).length:=by
    unfold putV
    rw [List.length_append,List.length_append,List.length_take,List.length_drop,List.length_append,hfl,hfd]
    omega
   refine ⟨⟨by omega,by omega⟩,⟨rfl,OpK.copyIn (k:=8016) (cs:=putV (es.flatten++sp) ((i+1) * 4) (es.drop i).flatten) (news:=x) (m:=1) (ad:=⟨b3,0,none⟩) rfl rfl sl27 rfl rfl rfl ?_ (Reads.sub (k:=8024) (cs:=[x].flatten++tp3) rfl fun j u hj=>?_) hx.2 ?_ ?_⟩⟩
   · rw [hx.1]
     have:Nat.min 1 (es.length+1 - i)=1:=Nat.min_eq_left (by omega)
     rw [this]
   · rw [Nat.zero_add,List.getElem?_append_left (by have:=(List.getElem?_eq_some_iff.1 hj).1; simpa using this)]
     simpa using hj
   · rw [hcl,List.length_append,hfl,hx.1]
     omega
   have hps:=putV_shift (es.flatten++sp) (es.drop i).flatten x (i * 4) (by rw [List.length_append,hfl,hx.1]; omega)
   rw [hx.1,show i * 4+4=(i+1) * 4 by omega,List.take_append_of_le_length (by omega),htl] at hps
   rw [hps]
   have ef:(es.take i).flatten++x++((es.drop i).flatten++(es.flatten++sp).drop ((i+1) * 4+(es.drop i).flatten.length))=(es.take i++x :: es.drop i).flatten++(es.flatten++sp).drop ((i+1) * 4+(es.drop i).flatten.length):=by simp
   rw [ef]
   have hl2:(es.take i++x :: es.drop i).length=es.length+1:=by simp; omega
   simp only [putD,zz,zq,↓reduceIte,zx,zj,zy,zk,zw,zb,reduceCtorEq,zd,zf,zp,zm,zh,zu,zt,zn,zc,zl,za,ze,zo,zg,sp1,sp2,sp3,nzs,so0]
   refine .inl ⟨b,8016,cap,_,by rw [hl2],rfl,by omega,h1.2.1,?_⟩
   rw [List.length_drop,List.length_append,hfl,hfd,hl2,h1.2.2]
   omega

theorem bsB {α:Type} (q0 q1 q2 q3:α→Value) (cf:α→Int) (f:Nat) (t0 t1 t2 t3 y:Value) (l:List α) (M:Mem) (hy:RowM M y 4 (l.map fun x=>[q0 x,q1 x,q2 x,q3 x])) (hb:l.length≤1000000)
  (ht:t0.oneCell'=true∧t1.oneCell'=true∧t2.oneCell'=true∧t3.oneCell'=true)
  (hf : ∀ x ∈ l,Meets qz f [.agg [.v (q0 x),.v (q1 x),.v (q2 x),.v (q3 x)],.agg [.v t0,.v t1,.v t2,.v t3]] M fun r _ _=>r = .v (.int .i64 (cf x)))
  (hmono : ∀ (i j:Nat) (x y:α),i≤j→l[i]? = some x→l[j]? = some y→cf y < 0→cf x < 0) :
  Meets qz 329 [.v y,.agg [.v t0,.v t1,.v t2,.v t3],.fn f []] M fun r _ _=>r = .tup [.v (.int .i64 (bk cf l)),.v (.bool (bf cf l))]:=by
 refine Meets.of_body [0,1,2,4,6,7,8,9,10,11,17,31] Proofs.Tryz.func329 rfl (by kernel_rfl) rfl fun w=>?_
 simp only [Proofs.Tryz.f329,zz,zq,↓reduceIte,zx,zj,zy,zk,zw,zb,reduceCtorEq,zd,zf,zp,zm,zh,zu,zt,zn,zc,zl,za,ze,zo,zg,nzs,hy.len,hy.sl,List.length_map]
 refine LoopK.go (X:=Nat×Nat) (fun x=>([(0,true,.v y),(2,true,.fn f []),(4,true,.ptr 32 0 0 0),(8,true,.v (.int .i64 l.length)),(9,true,.v (.int .i64 x.1)),(10,true,.v (.int .i64 x.2))],[(32,.box [.v t0,.v t1,.v t2,.v t3] none)],M))
  (fun x=>(x.1≤x.2∧x.2≤l.length)∧(∀ q x',q < x.1→l[q]? = some x'→cf x' < 0) ∧ ∀ q x',x.2≤q→l[q]? = some x'→0≤cf x') (fun x=>x.2 - x.1) (0,l.length)
  ⟨⟨by simp,by simp⟩,fun q x' hq=>by simp at hq,fun q x' hq hx=>by rw [List.getElem?_eq_none (by simpa using hq)] at hx; cases hx⟩ (Ent.of ?_) ?_
 · simp only [zq,↓reduceIte,zx,zj,zy,zk,zw,zb,reduceCtorEq,zd,zf,zp,zm,zh,zu,zt,zn,zc,zl,za,ze,zo,zg,za]
 rintro ⟨i,j⟩ ⟨⟨h1,h2⟩,h3,h4⟩
 simp only at h1 h2 h3 h4
 by_cases hij:i < j
 · have c1:((i:Int) < (j:Int))=True:=eq_true (by omega)
   have w1:IntKind.wrap .u64 ((i:Int)+(j:Int))=(i:Int)+(j:Int):=wrap_in ⟨by simp only [lo]; omega,by simp only [hi]; omega⟩
   have w2:IntKind.wrap .i64 (((i:Int)+(j:Int)) / 2 ^ 1)=(((i+j) / 2:Nat):Int):=by
    rw [show (2:Int) ^ 1=2 from rfl,wrap_in]
    · omega
    · exact ⟨by simp only [lo]; omega,by simp only [hi]; omega⟩
   have hh:(i+j) / 2 < l.length:=by omega
   obtain ⟨x,hx,_⟩:=l_drop_at (l:=l) hh
   have g0:=hy.cell (i:=(i+j) / 2) (e:=[q0 x,q1 x,q2 x,q3 x]) (by rw [List.getElem?_map,hx]; rfl) (off:=0) (by omega)
   have g1:=hy.cell (i:=(i+j) / 2) (e:=[q0 x,q1 x,q2 x,q3 x]) (by rw [List.getElem?_map,hx]; rfl) (off:=1) (by omega)
   have g2:=hy.cell (i:=(i+j) / 2) (e:=[q0 x,q1 x,q2 x,q3 x]) (by rw [List.getElem?_map,hx]; rfl) (off:=2) (by omega)
   have g3:=hy.cell (i:=(i+j) / 2) (e:=[q0 x,q1 x,q2 x,q3 x]) (by rw [List.getElem?_map,hx]; rfl) (off:=3) (by omega)
   have i0:=hy.ix (i:=(((i+j) / 2:Nat):Int)) (by omega) (by rw [List.length_map]; omega)
   simp only [List.getD_cons_zero,List.getD_cons_succ] at g0 g1 g2 g3
   generalize hhd:(i+j) / 2=h at *
   simp only [zz,zq,↓reduceIte,zx,zj,zy,zk,zw,zb,reduceCtorEq,zd,zf,zp,zm,zh,zu,zt,zn,zc,zl,za,ze,zo,zg,nzs,c1,w1,w2,inK,lo,hi]
   refine ⟨by omega,by decide,DrawK.quiet (by kernel_rfl) (by kernel_rfl) ?_⟩
   simp only [zz,zq,↓reduceIte,zx,zj,zy,zk,zw,zb,reduceCtorEq,zd,zf,zp,zm,zh,zu,zt,zn,zc,zl,za,ze,zo,zg,nzs,i0,i0.2,g0.1,g0.2.1,g1.1,g1.2.1,g2.1,g2.2.1,g3.1,g3.2.1]
   refine ⟨_,⟨⟨rfl,rfl⟩,hf x (List.mem_of_getElem? hx)⟩,?_⟩
   by_cases hc:cf x < 0
   · have c2:(cf x < 0)=True:=eq_true hc
     simp only [zz,zq,↓reduceIte,zx,zj,zy,zk,zw,zb,reduceCtorEq,zd,zf,zp,zm,zh,zu,zt,zn,zc,zl,za,ze,zo,zg,nzs,c2,inK,lo,hi]
     refine ⟨by omega,(h+1,j),⟨⟨⟨by simp only; omega,h2⟩,fun q x' hq hx'=>hmono q h x' x (by simp only at hq; omega) hx' hx hc,h4⟩,by simp only; omega⟩,Ent.of ?_⟩
     simp only [zq,↓reduceIte,zx,zj,zy,zk,zw,zb,reduceCtorEq,zd,zf,zp,zm,zh,zu,zt,zn,zc,zl,za,ze,zo,zg,Int.natCast_add]
   · have c2:(cf x < 0)=False:=eq_false hc
     simp only [zz,zq,↓reduceIte,zx,zj,zy,zk,zw,zb,reduceCtorEq,zd,zf,zp,zm,zh,zu,zt,zn,zc,zl,za,ze,zo,zg,nzs,c2,inK,lo,hi]
     refine ⟨(i,h),⟨⟨⟨by simp only; omega,by simp only; omega⟩,h3,fun q x' hq hx'=>Int.not_lt.1 fun hc'=>hc (hmono h q x x' hq hx hx' hc')⟩,by simp only; omega⟩,Ent.of ?_⟩
     simp only [zq,↓reduceIte,zx,zj,zy,zk,zw,zb,reduceCtorEq,zd,zf,zp,zm,zh,zu,zt,zn,zc,zl,za,ze,zo,zg]
 · have c1:((i:Int) < (j:Int))=False:=eq_false (by omega)
   have ej:i=j:=by omega
   subst ej
   have hbk:bk cf l=i:=bk_eq cf l i h2 h3 (fun x hx=>Int.not_lt.2 (h4 i x (Nat.le_refl _) hx))
   simp only [zz,zq,↓reduceIte,zx,zj,zy,zk,zw,zb,reduceCtorEq,zd,zf,zp,zm,zh,zu,zt,zn,zc,zl,za,ze,zo,zg,nzs,c1]
   refine DrawK.quiet (by kernel_rfl) (by kernel_rfl) ?_
   by_cases hil:i < l.length
   · have c2:((i:Int) < (l.length:Int))=True:=eq_true (by omega)
     obtain ⟨x,hx,_⟩:=l_drop_at (l:=l) hil
     have g0:=hy.cell (i:=i) (e:=[q0 x,q1 x,q2 x,q3 x]) (by rw [List.getElem?_map,hx]; rfl) (off:=0) (by omega)
     have g1:=hy.cell (i:=i) (e:=[q0 x,q1 x,q2 x,q3 x]) (by rw [List.getElem?_map,hx]; rfl) (off:=1) (by omega)
     have g2:=hy.cell (i:=i) (e:=[q0 x,q1 x,q2 x,q3 x]) (by rw [List.getElem?_map,hx]; rfl) (off:=2) (by omega)
     have g3:=hy.cell (i:=i) (e:=[q0 x,q1 x,q2 x,q3 x]) (by rw [List.getElem?_map,hx]; rfl) (off:=3) (by omega)
     have i0:=hy.ix (i:=(i:Int)) (by omega) (by rw [List.length_map]; omega)
     simp only [List.getD_cons_zero,List.getD_cons_succ] at g0 g1 g2 g3
     have hbf:bf cf l=decide (cf x=0):=by simp only [bf,hbk,hx]
     simp only [zz,zq,↓reduceIte,zx,zj,zy,zk,zw,zb,reduceCtorEq,zd,zf,zp,zm,zh,zu,zt,zn,zc,zl,za,ze,zo,zg,nzs,c2,i0,i0.2,g0.1,g0.2.1,g1.1,g1.2.1,g2.1,g2.2.1,g3.1,g3.2.1]
     refine ⟨_,⟨⟨rfl,rfl⟩,hf x (List.mem_of_getElem? hx)⟩,?_⟩
     simp only [zz,zq,↓reduceIte,zx,zj,zy,zk,zw,zb,reduceCtorEq,zd,zf,zp,zm,zh,zu,zt,zn,zc,zl,za,ze,zo,zg,nzs,hbk,hbf]
   · have c2:((i:Int) < (l.length:Int))=False:=eq_false (by omega)
     have hbf:bf cf l=false:=by simp only [bf,hbk,List.getElem?_eq_none (show l.length≤i by omega)]
     simp only [zz,zq,↓reduceIte,zx,zj,zy,zk,zw,zb,reduceCtorEq,zd,zf,zp,zm,zh,zu,zt,zn,zc,zl,za,ze,zo,zg,nzs,c2,hbk,hbf]
     refine ⟨.v (.int .i64 0),?_⟩
     simp only [zz,zq,↓reduceIte,zx,zj,zy,zk,zw,zb,reduceCtorEq,zd,zf,zp,zm,zh,zu,zt,zn,zc,zl,za,ze,zo,zg,nzs,c2,hbk,hbf]

theorem deleteB (es:List (List Value)) (i j:Nat) (M:Mem) (hij:i≤j) (hj:j≤es.length) (hb:es.length≤1000000) :
  MeetsH qz 327 [.own 8000,.v (.int .i64 i),.v (.int .i64 j)] [(8000,.row 4 es)] M (OwnR (fun s=>s) 4 (es.take i++es.drop j)):=by
 refine MeetsH.openRow (A:=fun s=>[s,.v (.int .i64 i),.v (.int .i64 j)]) 8000 (Ctxs.cons0 _ rfl) (fun he=>?_) (fun b cap sp h1 h2 h3 h4=>MeetsH.closeR Ctx.id (fun e he=>?_) ?_) ⟨_,Proofs.Tryz.func327,by kernel_rfl,by kernel_rfl⟩
 · subst he
   have e1:i=0:=by simp at hj; omega
   have e2:j=0:=by simpa using hj
   subst e1 e2
   refine MeetsH.closeR Ctx.id (fun e he=>by cases he) ?_
   refine MeetsH.of_body [0,1,2,6,7,16] Proofs.Tryz.func327 rfl (by kernel_rfl) fun w M0=>?_
   simp only [Proofs.Tryz.f327,zz,zq,↓reduceIte,zx,zj,zy,zk,zw,zb,reduceCtorEq,zd,zf,zp,zm,zh,zu,zt,zn,zc,zl,za,ze,zo,zg,lenV,capV,isSl]
   exact .inr trivial
 · rcases List.mem_append.1 he with he | he
   · exact h4 e (List.mem_of_mem_take he)
   · exact h4 e (List.mem_of_mem_drop he)
 refine MeetsH.of_body [0,1,2,6,7,16] Proofs.Tryz.func327 rfl (by kernel_rfl) fun w M0=>?_
 have hm:(cap:Int)≤9223372036854775807:=by simp only [maxLen] at h2; omega
 by_cases h0:i=j
 · subst h0
   have c1:((i:Int)=(i:Int))=True:=eq_true rfl
   simp only [Proofs.Tryz.f327,zz,zq,↓reduceIte,zx,zj,zy,zk,zw,zb,reduceCtorEq,zd,zf,zp,zm,zh,zu,zt,zn,zc,zl,za,ze,zo,zg,lenV,capV,isSl,c1]
   exact ⟨⟨by omega,by omega,by omega⟩,.inl ⟨b,8000,cap,sp,by simp,by rw [List.take_append_drop]; rfl,by simpa using h1,h2,by simpa using h3⟩⟩
 have c1:((i:Int)=(j:Int))=False:=eq_false (by omega)
 simp only [Proofs.Tryz.f327,zz,zq,↓reduceIte,zx,zj,zy,zk,zw,zb,reduceCtorEq,zd,zf,zp,zm,zh,zu,zt,zn,zc,zl,za,ze,zo,zg,lenV,capV,isSl,c1]
 refine ⟨⟨by omega,by omega,by omega⟩,DrawK.tail 6 (by kernel_rfl) (by kernel_rfl) ?_⟩
 have hlen : ∀ e ∈ es,e.length=4:=fun e he=>(h4 e he).1
 have hfl:=flatten_len hlen
 have hfd:=flatten_len (fun e he=>hlen e (List.mem_of_mem_drop (i:=j) he))
 have hft:=flatten_len (fun e he=>hlen e (List.mem_of_mem_take (i:=i) he))
 rw [List.length_drop] at hfd
 rw [List.length_take,Nat.min_eq_left (by omega)] at hft
 simp only [zz,zq,↓reduceIte,zx,zj,zy,zk,zw,zb,reduceCtorEq,zd,zf,zp,zm,zh,zu,zt,zn,zc,zl,za,ze,zo,zg,lenV,capV,isSl,nzs,subV_open0,subV_open b es.length cap 4 j]
 refine ⟨by omega,⟨by omega,by omega⟩,OpK.appIn (e2:=181) (k:=8000) (cs:=es.flatten++sp) (m:=es.length - j) (news:=(es.drop j).flatten) rfl rfl rfl sl27 (by kernel_rfl) rfl rfl rfl hfd (Reads.sub (k:=8000) (cs:=es.flatten++sp) rfl fun q u hq=>?_) (fun u hu=>?_) (by omega) ?_ ?_⟩
 · by_cases hc:cap=j
   · rw [List.drop_of_length_le (by omega)] at hq
     simp at hq
   · rw [if_neg hc]
     exact get_of_drop (flat_drop hlen j).symm hq
 · obtain ⟨e,he,hu⟩:=List.mem_flatten.1 hu
   exact (h4 e (List.mem_of_mem_drop he)).2 u hu
 · rw [hfd,List.length_append,hfl]
   omega
 have hp:putV (es.flatten++sp) (0+i * 4) (es.drop j).flatten=(es.take i++es.drop j).flatten++(es.flatten++sp).drop (i * 4+(es.drop j).flatten.length):=by
  unfold putV
  rw [Nat.zero_add,List.take_append_of_le_length (by omega),flat_take hlen,List.flatten_append]
 have hl2:(es.take i++es.drop j).length=i+(es.length - j):=by rw [List.length_append,List.length_take,List.length_drop,Nat.min_eq_left (by omega)]
 have hf2:(es.take i++es.drop j).flatten.length=(i+(es.length - j)) * 4:=by rw [List.flatten_append,List.length_append,hft,hfd]; omega
 rw [hp]
 generalize hsp:(es.flatten++sp).drop (i * 4+(es.drop j).flatten.length)=sp1
 have hsl:sp1.length=(cap - (i+(es.length - j))) * 4:=by rw [← hsp,List.length_drop,List.length_append,hfl,hfd]; omega
 generalize hes':es.take i++es.drop j=es' at *
 simp only [zz,zq,↓reduceIte,zx,zj,zy,zk,zw,zb,reduceCtorEq,zd,zf,zp,zm,zh,zu,zt,zn,zc,zl,za,ze,zo,zg,lenV,capV,isSl,nzs,subV_open]
 refine ⟨⟨by omega,by omega⟩,⟨rfl,OpK.clearIn (k:=8000) rfl rfl sl27 rfl rfl rfl rfl ?_ ?_⟩⟩
 · rw [List.length_append,hf2]
   split <;> omega
 have hp2 : ∃ sp2:List Value,sp2.length=sp1.length∧putV (es'.flatten++sp1) (if cap=i+(es.length - j) then 0 else (i+(es.length - j)) * 4) (List.replicate (es.length - (i+(es.length - j))) [Value.int IntKind.i64 0,Value.int IntKind.i64 0,Value.string ⟨([]:List UInt8).toArray⟩,Value.int IntKind.i64 0]).flatten=es'.flatten++sp2:=by
  by_cases hc:cap=i+(es.length - j)
  · have:es.length - (i+(es.length - j))=0:=by omega
    exact ⟨sp1,rfl,by rw [this,List.replicate_zero,List.flatten_nil,putV_nil]⟩
  · rw [if_neg hc,← hf2,putV_keep]
    refine ⟨_,?_,rfl⟩
    rw [List.length_append,List.length_drop,hsl]
    simp
    omega
 obtain ⟨sp2,hs2,hp2⟩:=hp2
 rw [hp2]
 simp only [zz,zq,↓reduceIte,zx,zj,zy,zk,zw,zb,reduceCtorEq,zd,zf,zp,zm,zh,zu,zt,zn,zc,zl,za,ze,zo,zg,lenV,capV,isSl,nzs]
 exact .inl ⟨b,8000,cap,sp2,by rw [hl2],rfl,by omega,h2,by rw [hs2,hsl,hl2]⟩

end Go.X.Sb

