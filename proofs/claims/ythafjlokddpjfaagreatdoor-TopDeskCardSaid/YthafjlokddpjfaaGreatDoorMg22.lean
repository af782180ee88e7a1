/- Contracts of functions and the logic that they are proved in (2 texts in one). Conditions: none. -/
import Derived.Test.YthafjlokddpjfaaGreatDoorMg7
import Derived.Test.YthafjlokddpjfaaGreatDoorMg21
open Go.Proofs.Tryz renaming prog → qz
open Nat renaming reduceAdd→zx,reduceMul→zj,reduceDiv→zy,reduceEqDiff→zk,reduceLT→zw,reduceLeDiff→zb,reduceBEq→zg
open Int renaming reduceEq→zd,reduceNe→zf,reduceLT→zp,reduceLE→zm,reduceAdd→zh,reduceSub→zu,reduceMul→zt,reduceNeg→zn,reduceToNat→zc,cast_ofNat_Int→zl,natCast_zero→za,natCast_one→ze,toNat_natCast→zo
namespace Go.X.Rp
end Go.X.Rp
namespace Go.X.Sl
end Go.X.Sl
set_option linter.unusedSimpArgs false
set_option linter.unusedVariables false
set_option maxHeartbeats 4000000
set_option maxRecDepth 20000
namespace Go.X.Sl
open Go Go.X Go.RowKit

theorem insertR (es:List (List Value)) (x:List Value) (i:Nat) (M:Mem) (hin:i≤es.length) (hb:es.length≤1000000) (hes : ∀ e ∈ es,e.length=2 ∧ ∀ c ∈ e,c.oneCell'=true) (hx:x.length=2 ∧ ∀ c ∈ x,c.oneCell'=true) :
  MeetsH qz 234 [.own 8000,.v (.int .i64 i),.own 8008] [(8000,.row 2 es),(8008,.row 2 [x])] M (OwnR (fun s=>s) 2 (es.take i++x :: es.drop i)):=by
 refine MeetsH.closeR Ctx.id (fun e he=>?_) ?_
 · rcases List.mem_append.1 he with he | he
   · exact hes e (List.mem_of_mem_take he)
   · rcases List.mem_cons.1 he with rfl | he
     · exact hx
     · exact hes e (List.mem_of_mem_drop he)
 refine MeetsH.of_bodyS Proofs.Tryz.func234 rfl (by kernel_rfl) fun w M0=>?_
 refine CodeK.openRow (k:=8000) 1002 rfl (fun _=>rfl) (fun he=>?_) (fun b cap sp h1 h2=>?_)
 · subst he
   have e1:i=0:=by simpa using hin
   subst e1
   refine CodeK.ofW (live:=[0,1,2,6,7,8,9,16,22,31,68]) ?_
   simp only [Proofs.Tryz.f234,zz,zq,↓reduceIte,zx,zj,zy,zk,zw,zb,reduceCtorEq,zd,zf,zp,zm,zh,zu,zt,zn,zc,zl,za,ze,zo,zg,sp1,sp2,sp3,nzs,lenV,capV,isSl]
   exact .inr ⟨200,rfl,rfl⟩
 refine CodeK.ofW (live:=[0,1,2,6,7,8,9,16,22,31,68]) ?_
 have hm:(cap:Int)≤9223372036854775807:=by have:=h1.2.1; simp only [maxLen] at this; omega
 by_cases hn:i=es.length
 · have c1:((i:Int)=(es.length:Int))=True:=eq_true (by omega)
   simp only [Proofs.Tryz.f234,zz,zq,↓reduceIte,zx,zj,zy,zk,zw,zb,reduceCtorEq,zd,zf,zp,zm,zh,zu,zt,zn,zc,zl,za,ze,zo,zg,sp1,sp2,sp3,nzs,lenV,capV,isSl,c1]
   refine ⟨⟨⟨by omega,by omega⟩,by omega⟩,show OpK _ _ _ _ _ _ from OpK.reown (es:=es) (sp:=sp) (cap:=cap) (b:=b) 23 8016 1003 rfl rfl rfl h1 h2 rfl (OpK.step ?_)⟩
   simp only [zz,zq,↓reduceIte,zx,zj,zy,zk,zw,zb,reduceCtorEq,zd,zf,zp,zm,zh,zu,zt,zn,zc,zl,za,ze,zo,zg,sp1,sp2,sp3,nzs]
   refine ⟨⟨by omega,by omega⟩,.inr ⟨200,rfl,?_⟩⟩
   simp [hn]
 have c1:((i:Int)=(es.length:Int))=False:=eq_false (by omega)
 have hlen : ∀ e ∈ es,e.length=2:=fun e he=>(hes e he).1
 have hfl:=flatten_len hlen
 have hft:=flatten_len (fun e he=>hlen e (List.mem_of_mem_take (i:=i) he))
 have hfd:=flatten_len (fun e he=>hlen e (List.mem_of_mem_drop (i:=i) he))
 rw [List.length_take,Nat.min_eq_left hin] at hft
 rw [List.length_drop] at hfd
 have hol : ∀ u ∈ (es.drop i).flatten,u.oneCell'=true:=fun u hu=>by
  obtain ⟨e,he,hu⟩:=List.mem_flatten.1 hu
  exact (hes e (List.mem_of_mem_drop he)).2 u hu
 have htl:es.flatten.take (i * 2)=(es.take i).flatten:=flat_take hlen i
 have hdl:es.flatten.drop (i * 2)=(es.drop i).flatten:=flat_drop hlen i
 by_cases hr:es.length+1 > cap
 · have c2:((cap:Int) < (es.length:Int)+1)=True:=eq_true (by omega)
   simp only [Proofs.Tryz.f234,zz,zq,↓reduceIte,zx,zj,zy,zk,zw,zb,reduceCtorEq,zd,zf,zp,zm,zh,zu,zt,zn,zc,zl,za,ze,zo,zg,sp1,sp2,sp3,nzs,lenV,capV,isSl,c1,inK,lo,hi]
   refine ⟨⟨⟨by omega,by omega⟩,by omega⟩,⟨by omega,by omega⟩,⟨rfl,OpK.cap (e:=185) rfl rfl rfl (by kernel_rfl) rfl rfl ?_⟩⟩
   simp only [zz,zq,↓reduceIte,zx,zj,zy,zk,zw,zb,reduceCtorEq,zd,zf,zp,zm,zh,zu,zt,zn,zc,zl,za,ze,zo,zg,sp1,sp2,sp3,nzs,lenV,capV,isSl,c1,c2,inK,lo,hi,subV_open0]
   have em:(es.length:Int)+1 - (i:Int)=((es.length+1 - i:Nat):Int):=by omega
   simp only [em]
   refine ⟨⟨by omega,by omega⟩,⟨by omega,by omega⟩,⟨by omega,by omega⟩,show OpK _ _ _ _ _ _ from OpK.appMake (base:=some ⟨b,0,none⟩) (n:=i) (m:=es.length+1 - i) (c:=cap) (olds:=(es.take i).flatten) rfl rfl rfl sl31 (kn:=.i64) (by kernel_rfl) rfl rfl
    (.inr ⟨⟨b,0,none⟩,rfl,hft,Reads.sub (k:=8016) (cs:=es.flatten++sp) rfl fun j u hj=>get_of_take htl.symm hj⟩) (by omega) (by decide) rfl (by omega) (by omega) (by simp [hdel,hNoKey,poNoKey,opn_noKeys]) fun b2 cap2 tp2 q1 q2 q3=>?_⟩
   have eim:i+(es.length+1 - i)=es.length+1:=by omega
   rw [eim] at q1 q3
   have hz:(List.replicate (es.length+1 - i) [Value.int IntKind.i64 0,Value.int IntKind.i64 0]).flatten.length=(es.length+1 - i) * 2:=by simp
   have d1:(cap2=i)=False:=eq_false (by omega)
   simp only [zz,zq,↓reduceIte,zx,zj,zy,zk,zw,zb,reduceCtorEq,zd,zf,zp,zm,zh,zu,zt,zn,zc,zl,za,ze,zo,zg,sp1,sp2,sp3,nzs,lenV,capV,isSl,inK,lo,hi,subV_open b2 (es.length+1) cap2 2 i,eim,d1]
   refine ⟨⟨by omega,by omega⟩,⟨rfl,OpK.openRow (k:=8008) 1003 rfl (fun _=>by simp [hpub,poPub,hNoKey,poNoKey,opn_noKeys,opn_pubs]) (fun h=>by cases h) fun b3 cap3 tp3 r1 r2=>?_⟩⟩
   simp only [zz,zq,↓reduceIte,zx,zj,zy,zk,zw,zb,reduceCtorEq,zd,zf,zp,zm,zh,zu,zt,zn,zc,zl,za,ze,zo,zg,sp1,sp2,sp3,nzs,so0]
   refine OpK.copyIn (k:=320) (cs:=(es.take i).flatten++(List.replicate (es.length+1 - i) [Value.int IntKind.i64 0,Value.int IntKind.i64 0]).flatten++tp2) (news:=x) (m:=1) (ad:=⟨b3,0,none⟩) rfl rfl sl31 rfl rfl rfl ?_ (Reads.sub (k:=8024) (cs:=[x].flatten++tp3) rfl fun j u hj=>?_) hx.2 ?_ ?_
   · rw [hx.1]
     have:Nat.min 1 (es.length+1 - i)=1:=Nat.min_eq_left (by omega)
     rw [this]
   · rw [Nat.zero_add,List.getElem?_append_left (by have:=(List.getElem?_eq_some_iff.1 hj).1; simpa using this)]
     simpa using hj
   · rw [List.length_append,List.length_append,hft,hz,hx.1]
     omega
   rw [← hft,List.append_assoc,putV_keep]
   generalize hR:((List.replicate (es.length+1 - i) [Value.int IntKind.i64 0,Value.int IntKind.i64 0]).flatten++tp2).drop x.length=R
   have hRl:R.length=(cap2 - i - 1) * 2:=by rw [← hR,List.length_drop,List.length_append,hz,hx.1,q3]; omega
   simp only [putD,zz,zq,↓reduceIte,zx,zj,zy,zk,zw,zb,reduceCtorEq,zd,zf,zp,zm,zh,zu,zt,zn,zc,zl,za,ze,zo,zg,sp1,sp2,sp3,nzs,so0]
   refine DrawK.tail 8 (by kernel_rfl) (by kernel_rfl) ?_
   have d2:(cap2=i+1)=False:=eq_false (by omega)
   have d3:(cap=i)=False:=eq_false (by omega)
   have e4:((i:Int)+1).toNat=i+1:=by omega
   simp only [zz,zq,↓reduceIte,zx,zj,zy,zk,zw,zb,reduceCtorEq,zd,zf,zp,zm,zh,zu,zt,zn,zc,zl,za,ze,zo,zg,sp1,sp2,sp3,nzs,lenV,capV,isSl,inK,lo,hi,e4,subV_open b2 (es.length+1) cap2 2 (i+1),subV_open b es.length cap 2 i,d2,d3]
   refine ⟨⟨by omega,by omega⟩,⟨⟨by omega,by omega⟩,by omega⟩,⟨⟨by omega,by omega⟩,by omega⟩,⟨rfl,OpK.copyIn (k:=320) (cs:=(es.take i).flatten++(x++R)) (news:=(es.drop i).flatten) (m:=es.length - i) (ad:=⟨b,i * 2,none⟩) rfl rfl sl31 rfl rfl rfl ?_ (Reads.sub (k:=8016) (cs:=es.flatten++sp) rfl fun j u hj=>get_of_drop hdl.symm hj) hol ?_ ?_⟩⟩
   · have:Nat.min (es.length - i) (es.length+1 - (i+1))=es.length - i:=Nat.min_eq_left (by omega)
     rw [this,hfd]
   · rw [List.length_append,List.length_append,hft,hfd,hRl,hx.1]
     omega
   have eo:(i+1) * 2=((es.take i).flatten++x).length:=by rw [List.length_append,hft,hx.1]; omega
   rw [eo,← List.append_assoc,putV_keep]
   have ef:(es.take i).flatten++x++((es.drop i).flatten++R.drop (es.drop i).flatten.length)=(es.take i++x :: es.drop i).flatten++R.drop (es.drop i).flatten.length:=by simp
   rw [ef]
   have hl2:(es.take i++x :: es.drop i).length=es.length+1:=by simp; omega
   simp only [putD,zz,zq,↓reduceIte,zx,zj,zy,zk,zw,zb,reduceCtorEq,zd,zf,zp,zm,zh,zu,zt,zn,zc,zl,za,ze,zo,zg,sp1,sp2,sp3,nzs,so0]
   refine .inl ⟨b2,320,cap2,R.drop (es.drop i).flatten.length,by rw [hl2],rfl,by omega,q2,?_⟩
   rw [List.length_drop,hRl,hfd,hl2]
   omega
 · have c2:((cap:Int) < (es.length:Int)+1)=False:=eq_false (by omega)
   have e3:((es.length:Int)+1).toNat=es.length+1:=by omega
   have e4:((i:Int)+1).toNat=i+1:=by omega
   have d1:(cap=i+1)=False:=eq_false (by omega)
   simp only [Proofs.Tryz.f234,zz,zq,↓reduceIte,zx,zj,zy,zk,zw,zb,reduceCtorEq,zd,zf,zp,zm,zh,zu,zt,zn,zc,zl,za,ze,zo,zg,sp1,sp2,sp3,nzs,lenV,capV,isSl,c1,inK,lo,hi]
   refine ⟨⟨⟨by omega,by omega⟩,by omega⟩,⟨by omega,by omega⟩,⟨rfl,OpK.cap (e:=185) rfl rfl rfl (by kernel_rfl) rfl rfl ?_⟩⟩
   simp only [zz,zq,↓reduceIte,zx,zj,zy,zk,zw,zb,reduceCtorEq,zd,zf,zp,zm,zh,zu,zt,zn,zc,zl,za,ze,zo,zg,sp1,sp2,sp3,nzs,lenV,capV,isSl,c1,c2,inK,lo,hi,subV_open0,e3,e4,subV_open b (es.length+1) cap 2 (i+1),d1]
   refine ⟨⟨by omega,by omega⟩,⟨by omega,by omega⟩,⟨by omega,by omega⟩,⟨⟨by omega,by omega⟩,by omega⟩,CallK.openRow (k:=8008) 1003 rfl (fun _=>by simp [hpub,poPub,hNoKey,poNoKey,opn_noKeys,opn_pubs]) (fun h=>by cases h) (fun b3 cap3 tp3 r1 r2=>?_) (fun _=>rfl)⟩
   simp only [zz,zq,↓reduceIte,zx,zj,zy,zk,zw,zb,reduceCtorEq,zd,zf,zp,zm,zh,zu,zt,zn,zc,zl,za,ze,zo,zg,sp1,sp2,sp3,nzs,so0]
   refine CallK.overlaps (k:=8024) (k2:=8016) (cs:=[x].flatten++tp3) (cs2:=es.flatten++sp) (tS:=31) (tR:=4) (e:=185) (sz:=2) rfl (by kernel_rfl) Proofs.Tryz.sizeOf185 (fun w x y v h=>by rw [run_callFunc_extern Proofs.Tryz.func284 (by kernel_rfl) (by kernel_rfl) (by kernel_rfl) (e:=Extern.SlicesOverlaps.overlaps #[31,31] #[4]) (by kernel_rfl),h]; rfl) rfl rfl rfl ?_ ?_
   · rw [List.length_append,hfl]; omega
   simp only [zz,zq,↓reduceIte,zx,zj,zy,zk,zw,zb,reduceCtorEq,zd,zf,zp,zm,zh,zu,zt,zn,zc,zl,za,ze,zo,zg,sp1,sp2,sp3,nzs,so0]
   refine DrawK.tail 8 (by kernel_rfl) (by kernel_rfl) ?_
   have d3:(cap=i)=False:=eq_false (by omega)
   simp only [zz,zq,↓reduceIte,zx,zj,zy,zk,zw,zb,reduceCtorEq,zd,zf,zp,zm,zh,zu,zt,zn,zc,zl,za,ze,zo,zg,sp1,sp2,sp3,nzs,lenV,capV,isSl,inK,lo,hi,e4,subV_open b (es.length+1) cap 2 (i+1),subV_open b (es.length+1) cap 2 i,d1,d3]
   refine ⟨⟨by omega,by omega⟩,⟨⟨by omega,by omega⟩,by omega⟩,⟨⟨by omega,by omega⟩,by omega⟩,⟨rfl,OpK.copyIn (k:=8016) (cs:=es.flatten++sp) (news:=(es.drop i).flatten) (m:=es.length+1 - i) (ad:=⟨b,i * 2,none⟩) rfl rfl sl31 rfl rfl rfl ?_ (Reads.sub (k:=8016) (cs:=es.flatten++sp) rfl fun j u hj=>get_of_drop hdl.symm hj) hol ?_ ?_⟩⟩
   · have:Nat.min (es.length+1 - i) (es.length+1 - (i+1))=es.length - i:=by
      rw [show es.length+1 - (i+1)=es.length - i by omega]
      exact Nat.min_eq_right (by omega)
     rw [this,hfd]
   · rw [List.length_append,hfl,hfd]
     omega
   simp only [putD,zz,zq,↓reduceIte,zx,zj,zy,zk,zw,zb,reduceCtorEq,zd,zf,zp,zm,zh,zu,zt,zn,zc,zl,za,ze,zo,zg,sp1,sp2,sp3,nzs,so0,lenV,capV,isSl,subV_open b (es.length+1) cap 2 i,d3]
   have hcl:(putV (es.flatten++sp) ((i+1) * 2) (es.drop i).flatten).length=(es.flatten++sp).length:=by
    unfold putV
    rw [List.length_append,List.length_append,List.length_take,List.length_drop,List.length_append,hfl,hfd]
    omega
   refine ⟨⟨by omega,by omega⟩,⟨rfl,OpK.copyIn (k:=8016) (cs:=putV (es.flatten++sp) ((i+1) * 2) (es.drop i).flatten) (news:=x) (m:=1) (ad:=⟨b3,0,none⟩) rfl rfl sl31 rfl rfl rfl ?_ (Reads.sub (k:=8024) (cs:=[x].flatten++tp3) rfl fun j u hj=>?_) hx.2 ?_ ?_⟩⟩
   · rw [hx.1]
     have:Nat.min 1 (es.length+1 - i)=1:=Nat.min_eq_left (by omega)
     rw [this]
   · rw [Nat.zero_add,List.getElem?_append_left (by have:=(List.getElem?_eq_some_iff.1 hj).1; simpa using this)]
     simpa using hj
   · rw [hcl,List.length_append,hfl,hx.1]
     omega
   have hps:=putV_shift (es.flatten++sp) (es.drop i).flatten x (i * 2) (by rw [List.length_append,hfl,hx.1]; omega)
   rw [hx.1,show i * 2+2=(i+1) * 2 by omega,List.take_append_of_le_length (by omega),htl] at hps
   rw [hps]
   have ef:(es.take i).flatten++x++((es.drop i).flatten++(es.flatten++sp).drop ((i+1) * 2+(es.drop i).flatten.length))=(es.take i++x :: es.drop i).flatten++(es.flatten++sp).drop ((i+1) * 2+(es.drop i).flatten.length):=by simp
   rw [ef]
   have hl2:(es.take i++x :: es.drop i).length=es.length+1:=by simp; omega
   simp only [putD,zz,zq,↓reduceIte,zx,zj,zy,zk,zw,zb,reduceCtorEq,zd,zf,zp,zm,zh,zu,zt,zn,zc,zl,za,ze,zo,zg,sp1,sp2,sp3,nzs,so0]
   refine .inl ⟨b,8016,cap,_,by rw [hl2],rfl,by omega,h1.2.1,?_⟩
   rw [List.length_drop,List.length_append,hfl,hfd,hl2,h1.2.2]
   omega

def bk {α:Type} (cf:α→Int):List α→Nat
 | []=>0
 | x :: l=>if cf x < 0 then bk cf l+1 else 0
def bf {α:Type} (cf:α→Int) (l:List α):Bool:=match l[bk cf l]? with
 | some x=>decide (cf x=0)
 | none=>false
theorem bk_eq {α:Type} (cf:α→Int) : ∀ (l:List α) (i:Nat),i≤l.length→(∀ q x,q < i→l[q]? = some x→cf x < 0)→(∀ x,l[i]? = some x → ¬ cf x < 0)→bk cf l=i
 | [],i,h,_,_=>by simp at h; subst h; rfl
 | a :: l,0,_,_,h2=>by
   have:=h2 a rfl
   rw [bk,if_neg this]
 | a :: l,i+1,h,h1,h2=>by
   have:=h1 0 a (by omega) rfl
   rw [bk,if_pos this,bk_eq cf l i (by simpa using h) (fun q x hq hx=>h1 (q+1) x (by omega) (by simpa using hx)) (fun x hx=>h2 x (by simpa using hx))]
theorem fidx_spec {α:Type} (p:α→Bool) : ∀ (l:List α) (i:Nat),(fidx p l i = -1 ∧ ∀ x ∈ l,p x=false) ∨ ∃ j x,fidx p l i=((i+j:Nat):Int)∧l[j]? = some x∧p x=true ∧ ∀ q y,q < j→l[q]? = some y→p y=false
 | [],i=>.inl ⟨rfl,fun x hx=>by cases hx⟩
 | a :: l,i=>by
   cases ha:p a with
   | true=>exact .inr ⟨0,a,by simp [fidx,ha],rfl,ha,fun q y hq=>by omega⟩
   | false=>
     rcases fidx_spec p l (i+1) with ⟨h1,h2⟩ | ⟨j,x,h1,h2,h3,h4⟩
     · refine .inl ⟨by simp [fidx,ha,h1],fun x hx=>?_⟩
       rcases List.mem_cons.1 hx with rfl | hx
       · exact ha
       · exact h2 x hx
     · refine .inr ⟨j+1,x,by simp only [fidx,ha]; simp; rw [h1]; omega,h2,h3,fun q y hq hy=>?_⟩
       cases q with
       | zero=>simp at hy; subst hy; exact ha
       | succ q=>exact h4 q y (by omega) hy
theorem bsR {α:Type} (q0 q1:α→Value) (cf:α→Int) (f:Nat) (tv y:Value) (l:List α) (M:Mem) (hy:RowM M y 2 (l.map fun x=>[q0 x,q1 x])) (hb:l.length≤1000000)
  (hf : ∀ x ∈ l,Meets qz f [.agg [.v (q0 x),.v (q1 x)],.v tv] M fun r _ _=>r = .v (.int .i64 (cf x)))
  (hmono : ∀ (i j:Nat) (x y:α),i≤j→l[i]? = some x→l[j]? = some y→cf y < 0→cf x < 0) :
  Meets qz 232 [.v y,.v tv,.fn f []] M fun r _ _=>r = .tup [.v (.int .i64 (bk cf l)),.v (.bool (bf cf l))]:=by
 refine Meets.of_body [0,1,2,6,7,8,9,10,11,17,31] Proofs.Tryz.func232 rfl (by kernel_rfl) rfl fun w=>?_
 simp only [Proofs.Tryz.f232,zz,zq,↓reduceIte,zx,zj,zy,zk,zw,zb,reduceCtorEq,zd,zf,zp,zm,zh,zu,zt,zn,zc,zl,za,ze,zo,zg,nzs,hy.len,hy.sl,List.length_map]
 refine LoopK.go (X:=Nat×Nat) (fun x=>([(0,true,.v y),(1,true,.v tv),(2,true,.fn f []),(8,true,.v (.int .i64 l.length)),(9,true,.v (.int .i64 x.1)),(10,true,.v (.int .i64 x.2))],[],M))
  (fun x=>(x.1≤x.2∧x.2≤l.length)∧(∀ q x',q < x.1→l[q]? = some x'→cf x' < 0) ∧ ∀ q x',x.2≤q→l[q]? = some x'→0≤cf x') (fun x=>x.2 - x.1) (0,l.length)
  ⟨⟨by simp,by simp⟩,fun q x' hq=>by simp at hq,fun q x' hq hx=>by rw [List.getElem?_eq_none (by simpa using hq)] at hx; cases hx⟩ (Ent.of ?_) ?_
 · simp only [zq,↓reduceIte,zx,zj,zy,zk,zw,zb,reduceCtorEq,zd,zf,zp,zm,zh,zu,zt,zn,zc,zl,za,ze,zo,zg]
 rintro ⟨i,j⟩ ⟨⟨h1,h2⟩,h3,h4⟩
 simp only at h1 h2 h3 h4
 by_cases hij:i < j
 · have c1:((i:Int) < (j:Int))=True:=eq_true (by omega)
   have w1:IntKind.wrap .u64 ((i:Int)+(j:Int))=(i:Int)+(j:Int):=wrap_in ⟨by simp only [lo]; omega,by simp only [hi]; omega⟩
   have w2:IntKind.wrap .i64 (((i:Int)+(j:Int)) / 2 ^ 1)=(((i+j) / 2:Nat):Int):=by
    rw [show (2:Int) ^ 1=2 from rfl,wrap_in]
    · omega
    · exact ⟨by simp only [lo]; omega,by simp only [hi]; omega⟩
   have hh:(i+j) / 2 < l.length:=by omega
   obtain ⟨x,hx,_⟩:=l_drop_at (l:=l) hh
   have g0:=hy.cell (i:=(i+j) / 2) (e:=[q0 x,q1 x]) (by rw [List.getElem?_map,hx]; rfl) (off:=0) (by omega)
   have g1:=hy.cell (i:=(i+j) / 2) (e:=[q0 x,q1 x]) (by rw [List.getElem?_map,hx]; rfl) (off:=1) (by omega)
   have i0:=hy.ix (i:=(((i+j) / 2:Nat):Int)) (by omega) (by rw [List.length_map]; omega)
   simp only [List.getD_cons_zero,List.getD_cons_succ] at g0 g1
   generalize hhd:(i+j) / 2=h at *
   simp only [zz,zq,↓reduceIte,zx,zj,zy,zk,zw,zb,reduceCtorEq,zd,zf,zp,zm,zh,zu,zt,zn,zc,zl,za,ze,zo,zg,nzs,c1,w1,w2,inK,lo,hi,i0,i0.2,g0.1,g0.2.1,g1.1,g1.2.1]
   refine ⟨by omega,by decide,CallK.pure ⟨rfl,rfl⟩ rfl (hf x (List.mem_of_getElem? hx)) ?_⟩
   by_cases hc:cf x < 0
   · have c2:(cf x < 0)=True:=eq_true hc
     simp only [zz,zq,↓reduceIte,zx,zj,zy,zk,zw,zb,reduceCtorEq,zd,zf,zp,zm,zh,zu,zt,zn,zc,zl,za,ze,zo,zg,nzs,c2,inK,lo,hi]
     refine ⟨by omega,(h+1,j),⟨⟨⟨by simp only; omega,h2⟩,fun q x' hq hx'=>hmono q h x' x (by simp only at hq; omega) hx' hx hc,h4⟩,by simp only; omega⟩,Ent.of ?_⟩
     simp only [zq,↓reduceIte,zx,zj,zy,zk,zw,zb,reduceCtorEq,zd,zf,zp,zm,zh,zu,zt,zn,zc,zl,za,ze,zo,zg,Int.natCast_add]
   · have c2:(cf x < 0)=False:=eq_false hc
     simp only [zz,zq,↓reduceIte,zx,zj,zy,zk,zw,zb,reduceCtorEq,zd,zf,zp,zm,zh,zu,zt,zn,zc,zl,za,ze,zo,zg,nzs,c2,inK,lo,hi]
     refine ⟨(i,h),⟨⟨⟨by simp only; omega,by simp only; omega⟩,h3,fun q x' hq hx'=>Int.not_lt.1 fun hc'=>hc (hmono h q x x' hq hx hx' hc')⟩,by simp only; omega⟩,Ent.of ?_⟩
     simp only [zq,↓reduceIte,zx,zj,zy,zk,zw,zb,reduceCtorEq,zd,zf,zp,zm,zh,zu,zt,zn,zc,zl,za,ze,zo,zg]
 · have c1:((i:Int) < (j:Int))=False:=eq_false (by omega)
   have ej:i=j:=by omega
   subst ej
   have hbk:bk cf l=i:=bk_eq cf l i h2 h3 (fun x hx=>Int.not_lt.2 (h4 i x (Nat.le_refl _) hx))
   simp only [zz,zq,↓reduceIte,zx,zj,zy,zk,zw,zb,reduceCtorEq,zd,zf,zp,zm,zh,zu,zt,zn,zc,zl,za,ze,zo,zg,nzs,c1]
   by_cases hil:i < l.length
   · have c2:((i:Int) < (l.length:Int))=True:=eq_true (by omega)
     obtain ⟨x,hx,_⟩:=l_drop_at (l:=l) hil
     have g0:=hy.cell (i:=i) (e:=[q0 x,q1 x]) (by rw [List.getElem?_map,hx]; rfl) (off:=0) (by omega)
     have g1:=hy.cell (i:=i) (e:=[q0 x,q1 x]) (by rw [List.getElem?_map,hx]; rfl) (off:=1) (by omega)
     have i0:=hy.ix (i:=(i:Int)) (by omega) (by rw [List.length_map]; omega)
     simp only [List.getD_cons_zero,List.getD_cons_succ] at g0 g1
     have hbf:bf cf l=decide (cf x=0):=by simp only [bf,hbk,hx]
     simp only [zz,zq,↓reduceIte,zx,zj,zy,zk,zw,zb,reduceCtorEq,zd,zf,zp,zm,zh,zu,zt,zn,zc,zl,za,ze,zo,zg,nzs,c2,i0,i0.2,g0.1,g0.2.1,g1.1,g1.2.1]
     refine ⟨CallK.pure ⟨rfl,rfl⟩ rfl (hf x (List.mem_of_getElem? hx)) ?_,fun h=>by omega⟩
     simp only [zz,zq,↓reduceIte,zx,zj,zy,zk,zw,zb,reduceCtorEq,zd,zf,zp,zm,zh,zu,zt,zn,zc,zl,za,ze,zo,zg,nzs,hbk,hbf]
   · have c2:((i:Int) < (l.length:Int))=False:=eq_false (by omega)
     have hbf:bf cf l=false:=by simp only [bf,hbk,List.getElem?_eq_none (show l.length≤i by omega)]
     simp only [zz,zq,↓reduceIte,zx,zj,zy,zk,zw,zb,reduceCtorEq,zd,zf,zp,zm,zh,zu,zt,zn,zc,zl,za,ze,zo,zg,nzs,c2,hbk,hbf]

theorem idxR {α:Type} (q0 q1:α→Value) (p:α→Bool) (f:Nat) (caps:List SV) (hcaps:SV.concs caps=true) (y:Value) (l:List α) (M:Mem) (hy:RowM M y 2 (l.map (fun x=>[q0 x,q1 x])))
  (hf : ∀ x ∈ l,Meets qz f (.agg [.v (q0 x),.v (q1 x)] :: caps) M fun r _ _=>r = .v (.bool (p x))) :
  Meets qz 269 [.v y,.fn f caps] M fun r _ _=>r = .v (.int .i64 (fidx p l 0)):=by
 refine Meets.of_body [0,1,4,5,7,8,9,16] Proofs.Tryz.func269 rfl (by kernel_rfl) (by simp only [SV.concs,SV.conc,hcaps,Bool.and_self]) fun w=>?_
 generalize hc:fidx p l 0=c
 have hyl:=hy.len_le
 rw [List.length_map] at hyl
 simp only [Proofs.Tryz.f269,zz,zq,↓reduceIte,zx,zj,zy,zk,zw,zb,reduceCtorEq,zd,zf,zp,zm,zh,zu,zt,zn,zc,zl,za,ze,zo,zg,hy.len,hy.sl,List.length_map]
 refine LoopK.go (X:=Nat×Nat) (fun x=>([(0,true,.v y),(1,true,.fn f caps),(7,true,.v (.int .i64 l.length)),(8,true,.v (.int .i64 x.2))],[],M))
  (fun x=>x.1+x.2=l.length∧fidx p (l.drop x.2) x.2=c) (fun x=>x.1) (l.length,0) ⟨rfl,hc⟩ (Ent.of ?_) ?_
 · simp only [zq,↓reduceIte,zx,zj,zy,zk,zw,zb,reduceCtorEq,zd,zf,zp,zm,zh,zu,zt,zn,zc,zl,za,ze,zo,zg]
 rintro ⟨fu,i⟩ ⟨h1,h2⟩
 simp only at h1 h2
 by_cases hil:i < l.length
 · have c1:((i:Int) < (l.length:Int))=True:=eq_true (by omega)
   obtain ⟨a,hx,hd⟩:=l_drop_at (l:=l) (i:=i) hil
   rw [hd] at h2
   simp only [fidx] at h2
   have g0:=hy.cell (i:=i) (e:=[q0 a,q1 a]) (by rw [List.getElem?_map,hx]; rfl) (off:=0) (by omega)
   have g1:=hy.cell (i:=i) (e:=[q0 a,q1 a]) (by rw [List.getElem?_map,hx]; rfl) (off:=1) (by omega)
   have i0:=hy.ix (i:=(i:Int)) (by omega) (by rw [List.length_map]; omega)
   simp only [List.getD_cons_zero,List.getD_cons_succ] at g0 g1
   simp only [zz,zq,↓reduceIte,zx,zj,zy,zk,zw,zb,reduceCtorEq,zd,zf,zp,zm,zh,zu,zt,zn,zc,zl,za,ze,zo,zg,nzs,c1,hy.len,hy.sl,List.length_map,i0,i0.2,g0.1,g0.2.1,g1.1,g1.2.1]
   refine CallK.pure ⟨by simp only [SV.concs,SV.conc,hcaps,Bool.and_self],rfl⟩ rfl (hf a (List.mem_of_getElem? hx)) ?_
   cases hp:p a with
   | true=>
     rw [hp,if_pos rfl] at h2
     subst h2
     simp only [zz,zq,↓reduceIte,zx,zj,zy,zk,zw,zb,reduceCtorEq,zd,zf,zp,zm,zh,zu,zt,zn,zc,zl,za,ze,zo,zg,nzs]
   | false=>
     rw [hp,if_neg (by simp)] at h2
     simp only [zz,zq,↓reduceIte,zx,zj,zy,zk,zw,zb,reduceCtorEq,zd,zf,zp,zm,zh,zu,zt,zn,zc,zl,za,ze,zo,zg,nzs,inK,lo,hi]
     refine ⟨by omega,(fu - 1,i+1),⟨⟨by simp only; omega,h2⟩,by simp only; omega⟩,Ent.of ?_⟩
     simp only [zq,↓reduceIte,zx,zj,zy,zk,zw,zb,reduceCtorEq,zd,zf,zp,zm,zh,zu,zt,zn,zc,zl,za,ze,zo,zg,Int.natCast_add]
 · have c1:((i:Int) < (l.length:Int))=False:=eq_false (by omega)
   have hd:l.drop i=[]:=List.drop_eq_nil_of_le (by omega)
   rw [hd] at h2
   simp only [fidx] at h2
   subst h2
   simp only [zz,zq,↓reduceIte,zx,zj,zy,zk,zw,zb,reduceCtorEq,zd,zf,zp,zm,zh,zu,zt,zn,zc,zl,za,ze,zo,zg,c1]

theorem delR {α:Type} (q0 q1:α→Value) (p:α→Bool) (f:Nat) (cp:Value) (l:List α) (M:Mem) (hb:l.length≤1000000) (h1 : ∀ x ∈ l,(q0 x).oneCell'=true∧(q1 x).oneCell'=true)
  (hf : ∀ M',M.le M' → ∀ x ∈ l,Meets qz f [.agg [.v (q0 x),.v (q1 x)],.v cp] M' fun r _ _=>r = .v (.bool (p x))) :
  MeetsH qz 282 [.own 8000,.fn f [.v cp]] [(8000,.row 2 (l.map fun x=>[q0 x,q1 x]))] M (OwnR (fun s=>s) 2 ((l.filter fun x=>!p x).map fun x=>[q0 x,q1 x])):=by
 have hes : ∀ x ∈ l,([q0 x,q1 x]:List Value).length=2 ∧ ∀ c ∈ [q0 x,q1 x],c.oneCell'=true:=fun x hx=>⟨rfl,fun c hc=>by
  simp only [List.mem_cons,List.not_mem_nil,or_false] at hc
  rcases hc with rfl | rfl
  · exact (h1 x hx).1
  · exact (h1 x hx).2⟩
 refine MeetsH.closeR Ctx.id (fun e he=>?_) ?_
 · obtain ⟨x,hx,rfl⟩:=List.mem_map.1 he
   exact hes x (List.mem_filter.1 hx).1
 refine MeetsH.of_body [0,1,4,5,6,7,12,19,29] Proofs.Tryz.func282 rfl (by kernel_rfl) fun w M0=>?_
 simp only [Proofs.Tryz.f282,zz,zq,↓reduceIte,zx,zj,zy,zk,zw,zb,reduceCtorEq,zd,zf,zp,zm,zh,zu,zt,zn,zc,zl,za,ze,zo,zg,nzs]
 refine CallK.lend (k:=8000) rfl rfl rfl (fun _=>rfl) (fun v2 M2 hM2 hv2=>idxR q0 q1 p f [.v cp] rfl v2 l M2 hv2 (fun x hx=>hf M2 hM2 x hx)) ?_
 rcases fidx_spec p l 0 with ⟨hf1,hf2⟩ | ⟨j0,x0,hf1,hx0,hp0,hlt⟩
 · rw [hf1]
   have ef:(l.filter fun x=>!p x)=l:=List.filter_eq_self.2 (fun x hx=>by rw [hf2 x hx]; rfl)
   rw [ef]
   simp only [zz,zq,↓reduceIte,zx,zj,zy,zk,zw,zb,reduceCtorEq,zd,zf,zp,zm,zh,zu,zt,zn,zc,zl,za,ze,zo,zg,sp1,sp2,sp3,nzs]
   exact .inr ⟨8000,rfl,rfl⟩
 rw [Nat.zero_add] at hf1
 rw [hf1]
 have hjl:j0 < l.length:=(List.getElem?_eq_some_iff.1 hx0).1
 have c0:((j0:Int) = -1)=False:=eq_false (by omega)
 simp only [zz,zq,↓reduceIte,zx,zj,zy,zk,zw,zb,reduceCtorEq,zd,zf,zp,zm,zh,zu,zt,zn,zc,zl,za,ze,zo,zg,nzs,c0,inK,lo,hi]
 refine ⟨by omega,?_⟩
 have hinit:((l.take (j0+1)).filter fun x=>!p x)=l.take j0:=by
  rw [List.take_add_one,hx0,List.filter_append]
  have e1:((l.take j0).filter fun x=>!p x)=l.take j0:=List.filter_eq_self.2 (fun x hx=>by
   obtain ⟨q,hq⟩:=List.mem_iff_getElem?.1 hx
   rw [List.getElem?_take] at hq
   split at hq
   · rw [hlt q x (by assumption) hq]; rfl
   · cases hq)
  rw [e1]
  simp [hp0]
 refine LoopK.goS (X:=Nat×Nat×Nat×List (List Value)) (fun x=>([(0,true,.own 8000),(1,true,.fn f [.v cp]),(5,true,.v (.int .i64 x.2.1)),(6,true,.v (.int .i64 x.2.2.1))],[(8000,.row 2 x.2.2.2)],M))
  (fun x=>((x.1+x.2.2.1=l.length∧x.2.1 < x.2.2.1)∧x.2.2.2.length=l.length)∧x.2.2.2.take x.2.1=((l.take x.2.2.1).filter fun x=>!p x).map (fun x=>[q0 x,q1 x])∧x.2.2.2.drop x.2.2.1=(l.drop x.2.2.1).map (fun x=>[q0 x,q1 x])) (fun x=>x.1) (l.length - (j0+1),j0,j0+1,l.map fun x=>[q0 x,q1 x])
  ⟨⟨⟨by simp only; omega,by simp⟩,by simp⟩,by simp only; rw [hinit,List.map_take],by simp only; rw [List.map_drop]⟩ (Ent.of ?_) ?_
 · simp only [zq,↓reduceIte,zx,zj,zy,zk,zw,zb,reduceCtorEq,zd,zf,zp,zm,zh,zu,zt,zn,zc,zl,za,ze,zo,zg,Int.natCast_add]
 rintro ⟨fu,i,j,cur⟩ ⟨⟨⟨g1,g2⟩,g3⟩,g4,g5⟩
 simp only at g1 g2 g3 g4 g5
 by_cases hj:j < l.length
 · refine CodeK.ofW (live:=[0,1,4,5,6,7,12,19,29]) ?_
   have c1:((j:Int) < (l.length:Int))=True:=eq_true (by omega)
   obtain ⟨x,hx,hd⟩:=l_drop_at (l:=l) hj
   have hcx:cur[j]? = some [q0 x,q1 x]:=by
    have:=congrArg (fun l=>l[0]?) g5
    simp only [List.getElem?_drop,Nat.add_zero] at this
    rw [this,List.getElem?_map,List.getElem?_drop,Nat.add_zero,hx]
    rfl
   have hgj:cur.getD j []=[q0 x,q1 x]:=by rw [List.getD_eq_getElem?_getD,hcx]; rfl
   simp only [zz,zq,↓reduceIte,zx,zj,zy,zk,zw,zb,reduceCtorEq,zd,zf,zp,zm,zh,zu,zt,zn,zc,zl,za,ze,zo,zg,nzs,g3,c1,hgj,inK,lo,hi,List.getD_cons_zero,List.getD_cons_succ,List.drop_zero,List.take_succ_cons,List.take_zero,List.map_cons,List.map_nil]
   have ho:=h1 x (List.mem_of_getElem? hx)
   refine ⟨by omega,hj,ho,CallK.pure ⟨rfl,rfl⟩ rfl (hf M (Mem.le.refl M) x (List.mem_of_getElem? hx)) ?_⟩
   have etk:(l.take (j+1)).filter (fun x=>!p x)=(l.take j).filter (fun x=>!p x)++(if p x=true then [] else [x]):=by
    rw [List.take_add_one,hx,List.filter_append]
    congr 1
    cases hpx:p x <;> simp [hpx]
   have edr:cur.drop (j+1)=(l.drop (j+1)).map (fun x=>[q0 x,q1 x]):=by
    have:=congrArg (List.drop 1) g5
    rwa [List.drop_drop,← List.map_drop,List.drop_drop] at this
   cases hpx:p x with
   | true=>
     rw [hpx,if_pos rfl,List.append_nil] at etk
     simp only [zz,zq,↓reduceIte,zx,zj,zy,zk,zw,zb,reduceCtorEq,zd,zf,zp,zm,zh,zu,zt,zn,zc,zl,za,ze,zo,zg,nzs,inK,lo,hi]
     refine ⟨by omega,(fu - 1,i,j+1,cur),⟨⟨⟨⟨by simp only; omega,by simp only; omega⟩,g3⟩,by simp only; rw [etk]; exact g4,edr⟩,by simp only; omega⟩,Ent.of ?_⟩
     simp only [zq,↓reduceIte,zx,zj,zy,zk,zw,zb,reduceCtorEq,zd,zf,zp,zm,zh,zu,zt,zn,zc,zl,za,ze,zo,zg,Int.natCast_add]
   | false=>
     rw [hpx,if_neg (by simp)] at etk
     simp only [zz,zq,↓reduceIte,zx,zj,zy,zk,zw,zb,reduceCtorEq,zd,zf,zp,zm,zh,zu,zt,zn,zc,zl,za,ze,zo,zg,nzs,g3,inK,lo,hi]
     refine ⟨⟨by omega,by omega⟩,⟨ho,by omega⟩,by omega,by omega,(fu - 1,i+1,j+1,cur.set i [q0 x,q1 x]),⟨⟨⟨⟨by simp only; omega,by simp only; omega⟩,by simp only; rw [List.length_set]; exact g3⟩,?_,?_⟩,by simp only; omega⟩,Ent.of ?_⟩
     · simp only
       rw [etk,List.map_append,← g4,List.take_add_one,List.take_set_of_le (by omega),List.getElem?_set_self (by omega)]
       rfl
     · simp only
       rw [List.drop_set_of_lt (by omega)]
       exact edr
     · simp only [zq,↓reduceIte,zx,zj,zy,zk,zw,zb,reduceCtorEq,zd,zf,zp,zm,zh,zu,zt,zn,zc,zl,za,ze,zo,zg,Int.natCast_add]
 · have c1:((j:Int) < (l.length:Int))=False:=eq_false (by omega)
   have ej:j=l.length:=by omega
   refine CodeK.weak (σ':=[(0,true,.own 8000),(5,true,.v (.int .i64 i)),(6,true,.v (.int .i64 j))]) ?_ (by simp only [zq,↓reduceIte,zx,zj,zy,zk,zw,zb,reduceCtorEq,zd,zf,zp,zm,zh,zu,zt,zn,zc,zl,za,ze,zo,zg])
   refine CodeK.openRow (k:=8000) 1002 rfl (fun _=>rfl) (fun h=>by simp only at h; rw [h] at g3; simp at g3; omega) fun b cap tp q1' q2'=>?_
   refine CodeK.ofW (live:=[0,1,4,5,6,7,12,19,29]) ?_
   simp only [zz,zq,↓reduceIte,zx,zj,zy,zk,zw,zb,reduceCtorEq,zd,zf,zp,zm,zh,zu,zt,zn,zc,zl,za,ze,zo,zg,sp1,sp2,sp3,nzs,g3,c1,lenV,capV,isSl,inK,lo,hi]
   have hq:=g3 ▸ q1'
   have d1:(cap=i)=False:=eq_false (by omega)
   have hfl:=flatten_len (fun e he=>(q2' e he).1)
   have hft:=flatten_len (fun e he=>(q2' e (List.mem_of_mem_take (i:=i) he)).1)
   rw [List.length_take,Nat.min_eq_left (by omega)] at hft
   simp only at hfl hft hq
   simp only [subV_open b l.length cap 2 i,d1,if_false]
   refine ⟨⟨⟨by omega,by omega⟩,by omega⟩,⟨rfl,OpK.clearIn (k:=8016) (cs:=cur.flatten++tp) rfl rfl sl31 rfl rfl rfl rfl (by rw [List.length_append,hfl,g3,hq.2.2]; omega) ?_⟩⟩
   have ep:putV (cur.flatten++tp) (i * 2) (List.replicate (l.length - i) [Value.int IntKind.i64 0,Value.int IntKind.i64 0]).flatten=(cur.take i).flatten++((List.replicate (l.length - i) [Value.int IntKind.i64 0,Value.int IntKind.i64 0]).flatten++(cur.flatten++tp).drop (i * 2+(List.replicate (l.length - i) [Value.int IntKind.i64 0,Value.int IntKind.i64 0]).flatten.length)):=by
    unfold putV
    rw [List.take_append_of_le_length (by rw [hfl,g3]; omega),flat_take (fun e he=>(q2' e he).1),List.append_assoc]
   rw [ep]
   have hzl:(List.replicate (l.length - i) [Value.int IntKind.i64 0,Value.int IntKind.i64 0]).flatten.length=(l.length - i) * 2:=by simp
   simp only [zz,zq,↓reduceIte,zx,zj,zy,zk,zw,zb,reduceCtorEq,zd,zf,zp,zm,zh,zu,zt,zn,zc,zl,za,ze,zo,zg,sp1,sp2,sp3,nzs,so0,lenV,capV,isSl,subV_open0]
   rw [ej,List.take_length] at g4
   have hl2:((l.filter fun x=>!p x).map fun x=>[q0 x,q1 x]).length=i:=by rw [← g4,List.length_take]; omega
   rw [g4]
   refine ⟨by omega,.inl ⟨b,8016,cap,_,by rw [hl2],rfl,by omega,hq.2.1,?_⟩⟩
   rw [List.length_append,List.length_drop,List.length_append,hzl,hfl,g3,hq.2.2,hl2]
   omega
end Go.X.Sl

namespace Go.X.Rv
open Go Go.X Go.X.Rp Go.X.Sl

/-- sorted by hands from a to 7, keys from 1 to 1000 -/
def srt:Int→List (Int×Int)→Prop
 | _,[]=>True
 | a,x :: l=>(a≤x.1∧x.1≤7)∧(1≤x.2∧x.2≤1000)∧srt (x.1+1) l
theorem srt_mono {a b:Int} : ∀ {l:List (Int×Int)},a≤b→srt b l→srt a l
 | [],_,_=>trivial
 | x :: l,h,⟨h1,h2,h3⟩=>⟨⟨by omega,h1.2⟩,h2,h3⟩
theorem srt_ck : ∀ {l:List (Int×Int)} {last:Int},-1≤last→ck l last=0→srt (last+1) l
 | [],_,_,_=>trivial
 | x :: l,last,h0,h=>by
   simp only [ck] at h
   split at h
   · cases h
   · split at h
     · cases h
     · exact ⟨by omega,by omega,srt_ck (by omega) h⟩
theorem ky_lt {w:Int} : ∀ {l:List (Int×Int)} {a:Int},srt a l→w < a→ky w l=0
 | [],_,_,_=>rfl
 | x :: l,a,⟨h1,h2,h3⟩,h=>by
   rw [ky,if_neg (by omega)]
   exact ky_lt h3 (by omega)
theorem ky_pos {w:Int} : ∀ {l:List (Int×Int)} {a:Int},srt a l→0≤ky w l∧ky w l≤1000
 | [],_,_=>⟨by simp [ky],by simp [ky]⟩
 | x :: l,a,⟨h1,h2,h3⟩=>by
   rw [ky]
   split
   · omega
   · exact ky_pos h3
/-- what is listed of a table of keys -/
def gen (f:Int→Int):Nat→Int→List (Int×Int)
 | 0,_=>[]
 | n+1,a=>if 0 < f a then (a,f a) :: gen f n (a+1) else gen f n (a+1)
theorem gen_congr {f g:Int→Int} : ∀ {n:Nat} {a:Int},(∀ h,a≤h→h < a+n→f h=g h)→gen f n a=gen g n a
 | 0,_,_=>rfl
 | n+1,a,h=>by
   rw [gen,gen,h a (by omega) (by omega),gen_congr (n:=n) (a:=a+1) (fun q h1 h2=>h q (by omega) (by omega))]
theorem gen_srt : ∀ {n:Nat} {a:Int} {l:List (Int×Int)},a+n=8→srt a l→gen (fun h=>ky h l) n a=l
 | 0,a,[],_,_=>rfl
 | 0,a,x :: l,h,⟨h1,_,_⟩=>by omega
 | n+1,a,[],h,_=>by
   rw [gen,if_neg (by simp [ky])]
   exact gen_srt (by omega) trivial
 | n+1,a,x :: l,h,⟨h1,h2,h3⟩=>by
   by_cases hx:x.1=a
   · rw [gen]
     have e1:ky a (x :: l)=x.2:=by rw [ky,if_pos hx]
     rw [e1,if_pos (by omega),gen_congr (g:=fun h=>ky h l) (fun q h4 h5=>by simp only [ky]; rw [if_neg (by omega)]),gen_srt (by omega) (srt_mono (by omega) h3)]
     rw [← hx]
   · rw [gen]
     have e1:ky a (x :: l)=0:=ky_lt (a:=a+1) ⟨⟨by omega,h1.2⟩,h2,h3⟩ (by omega)
     rw [e1,if_neg (by omega)]
     exact gen_srt (by omega) ⟨⟨by omega,h1.2⟩,h2,h3⟩
/-- the listed keys, one hand's turned -/
def kr (l:List (Int×Int)) (w key:Int):List (Int×Int):=gen (fun h=>if h=w then key else ky h l) 8 0
theorem kr_of {l l':List (Int×Int)} {w key:Int} (hs:srt 0 l') (h : ∀ q,0≤q→q≤7→ky q l'=if q=w then key else ky q l):kr l w key=l':=by
 unfold kr
 rw [gen_congr (g:=fun q=>ky q l') (fun q h1 h2=>(h q h1 (by omega)).symm)]
 exact gen_srt rfl hs
/-- struck -/
theorem srt_filter {w:Int} : ∀ {l:List (Int×Int)} {a:Int},srt a l→srt a (l.filter fun x=>!decide (x.1=w))
 | [],_,_=>trivial
 | x :: l,a,⟨h1,h2,h3⟩=>by
   by_cases hx:x.1=w
   · rw [List.filter_cons_of_neg (by simp [hx])]
     exact srt_mono (by omega) (srt_filter h3)
   · rw [List.filter_cons_of_pos (by simp [hx])]
     exact ⟨h1,h2,srt_filter h3⟩
theorem ky_filter {w q:Int} : ∀ {l:List (Int×Int)} {a:Int},srt a l→ky q (l.filter fun x=>!decide (x.1=w))=if q=w then 0 else ky q l
 | [],_,_=>by simp [ky]
 | x :: l,a,⟨h1,h2,h3⟩=>by
   have ih:=ky_filter (w:=w) (q:=q) h3
   by_cases hx:x.1=w
   · rw [List.filter_cons_of_neg (by simp [hx]),ih]
     by_cases hq:q=w
     · rw [if_pos hq,if_pos hq]
     · rw [if_neg hq,if_neg hq,ky,if_neg (by omega)]
   · rw [List.filter_cons_of_pos (by simp [hx]),ky]
     by_cases hxq:x.1=q
     · rw [if_pos hxq,if_neg (by omega),ky,if_pos hxq]
     · rw [if_neg hxq,ih]
       by_cases hq:q=w
       · rw [if_pos hq,if_pos hq]
       · rw [if_neg hq,if_neg hq,ky,if_neg hxq]
theorem kr_del {l:List (Int×Int)} (w:Int) (hs:srt 0 l):kr l w 0=l.filter fun x=>!decide (x.1=w):=kr_of (srt_filter hs) (fun _ _ _=>ky_filter hs)
/-- turned -/
theorem fi_some {w:Int} : ∀ {l:List (Int×Int)} {i:Nat},(fi w l i = -1 ∧ ∀ x ∈ l,x.1≠w) ∨ ∃ j x,fi w l i=((i+j:Nat):Int)∧l[j]? = some x∧x.1=w∧ky w l=x.2
 | [],i=>.inl ⟨rfl,fun x hx=>by cases hx⟩
 | y :: l,i=>by
   by_cases hy:y.1=w
   · exact .inr ⟨0,y,by simp [fi,hy],rfl,hy,by simp [ky,hy]⟩
   · rcases fi_some (w:=w) (l:=l) (i:=i+1) with ⟨h1,h2⟩ | ⟨j,x,h1,h2,h3,h4⟩
     · refine .inl ⟨by rw [fi,if_neg hy]; exact h1,fun x hx=>?_⟩
       rcases List.mem_cons.1 hx with rfl | hx
       · exact hy
       · exact h2 x hx
     · exact .inr ⟨j+1,x,by rw [fi,if_neg hy,h1]; omega,h2,h3,by rw [ky,if_neg hy]; exact h4⟩
theorem srt_set {w key k0:Int} (hk:1≤key∧key≤1000) : ∀ {l:List (Int×Int)} {a:Int} {j:Nat},srt a l→l[j]? = some (w,k0)→srt a (l.set j (w,key)) ∧ ∀ q,ky q (l.set j (w,key))=if q=w then key else ky q l
 | [],_,_,_,h=>by simp at h
 | x :: l,a,0,⟨h1,h2,h3⟩,h=>by
   simp only [List.getElem?_cons_zero,Option.some.injEq] at h
   subst h
   refine ⟨⟨h1,hk,h3⟩,fun q=>?_⟩
   rw [List.set_cons_zero,ky,ky]
   by_cases hq:w=q
   · simp only [hq,if_true]
   · simp only [hq,if_false]
     rw [if_neg (fun e=>hq e.symm)]
 | x :: l,a,j+1,⟨h1,h2,h3⟩,h=>by
   obtain ⟨g1,g2⟩:=srt_set (w:=w) (k0:=k0) (j:=j) hk h3 (by simpa using h)
   refine ⟨⟨h1,h2,g1⟩,fun q=>?_⟩
   rw [List.set_cons_succ,ky,ky,g2 q]
   by_cases hq:x.1=q
   · rw [if_pos hq,if_pos hq]
     have hlt:x.1 < w:=by
      have hm : ∀ {m:List (Int×Int)} {b:Int},srt b m → ∀ y ∈ m,b≤y.1:=by
       intro m
       induction m with
       | nil=>intro b _ y hy; cases hy
       | cons z m ih=>
         intro b ⟨g3,_,g5⟩ y hy
         rcases List.mem_cons.1 hy with rfl | hy
         · exact g3.1
         · have:=ih g5 y hy; omega
      have:=hm h3 (w,k0) (List.mem_of_getElem? (by simpa using h))
      simp only at this
      omega
     rw [if_neg (by omega)]
   · rw [if_neg hq,if_neg hq]
/-- laid in -/
theorem srt_ins {w key:Int} (hk:1≤key∧key≤1000) : ∀ {l:List (Int×Int)} {a:Int},srt a l→a≤w→w≤7→(∀ x ∈ l,x.1≠w) →
  srt a (l.take (bk (fun x=>x.1 - w) l)++(w,key) :: l.drop (bk (fun x=>x.1 - w) l)) ∧ ∀ q,ky q (l.take (bk (fun x=>x.1 - w) l)++(w,key) :: l.drop (bk (fun x=>x.1 - w) l))=if q=w then key else ky q l
 | [],a,_,h1,h2,_=>by
   refine ⟨⟨⟨h1,h2⟩,hk,trivial⟩,fun q=>?_⟩
   simp only [bk,List.take_nil,List.drop_nil,List.nil_append,ky]
   by_cases hq:w=q
   · simp [hq]
   · rw [if_neg hq,if_neg (fun e=>hq e.symm)]
 | x :: l,a,⟨g1,g2,g3⟩,h1,h2,h3=>by
   have hx:=h3 x List.mem_cons_self
   by_cases hlt:x.1 - w < 0
   · have ⟨i1,i2⟩:=srt_ins hk g3 (a:=x.1+1) (by omega) h2 (fun y hy=>h3 y (List.mem_cons_of_mem _ hy))
     rw [bk,if_pos hlt]
     refine ⟨⟨g1,g2,i1⟩,fun q=>?_⟩
     have:=i2 q
     simp only [List.take_succ_cons,List.drop_succ_cons,List.cons_append,ky]
     rw [this]
     by_cases hq:x.1=q
     · rw [if_pos hq,if_neg (fun e=>hx (by omega)),if_pos hq]
     · rw [if_neg hq,if_neg hq]
   · rw [bk,if_neg hlt]
     simp only [List.take_zero,List.drop_zero,List.nil_append]
     refine ⟨⟨⟨h1,h2⟩,hk,⟨⟨by simp only; omega,g1.2⟩,g2,g3⟩⟩,fun q=>?_⟩
     rw [ky]
     simp only
     by_cases hq:w=q
     · simp [hq]
     · rw [if_neg hq,if_neg (fun e=>hq e.symm)]
theorem srt_cmp {w:Int} : ∀ {l:List (Int×Int)} {a:Int},srt a l → ∀ (i j:Nat) (x y:Int×Int),i≤j→l[i]? = some x→l[j]? = some y→x.1≤y.1
 | [],_,_,_,_,_,_,_,h,_=>by simp at h
 | z :: l,a,⟨g1,g2,g3⟩,0,0,x,y,_,hx,hy=>by rw [hx] at hy; cases hy; exact Int.le_refl _
 | z :: l,a,⟨g1,g2,g3⟩,0,j+1,x,y,_,hx,hy=>by
   simp only [List.getElem?_cons_zero,Option.some.injEq] at hx
   subst hx
   have hm : ∀ {m:List (Int×Int)} {b:Int},srt b m → ∀ y ∈ m,b≤y.1:=by
    intro m
    induction m with
    | nil=>intro b _ y hy; cases hy
    | cons z m ih=>
      intro b ⟨g3,_,g5⟩ y hy
      rcases List.mem_cons.1 hy with rfl | hy
      · exact g3.1
      · have:=ih g5 y hy; omega
   have:=hm g3 y (List.mem_of_getElem? (by simpa using hy))
   omega
 | z :: l,a,_,i+1,0,_,_,h,_,_=>by omega
 | z :: l,a,⟨_,_,g3⟩,i+1,j+1,x,y,h,hx,hy=>srt_cmp (w:=w) g3 i j x y (by omega) (by simpa using hx) (by simpa using hy)
theorem srt_len : ∀ {l:List (Int×Int)} {a:Int},0≤a→srt a l→(l.length:Int)+a≤8∨l=[]
 | [],_,_,_=>.inr rfl
 | x :: l,a,h0,⟨h1,h2,h3⟩=>by
   rcases srt_len (a:=x.1+1) (by omega) h3 with h | rfl
   · exact .inl (by simp only [List.length_cons]; omega)
   · exact .inl (by simp; omega)
end Go.X.Rv

