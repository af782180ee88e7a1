/- Contracts of functions, and the logic in which they are proved. Conditions: none. -/
import Derived.Test.YthafjlokddpjfaaGreatDoorMb
import Derived.Test.YthafjlokddpjfaaGreatDoorMe
import Derived.Lib.LaidTab
import Derived.LaidSub
import Derived.MakeChecks
import Derived.Stop.LaidErr
import Derived.Shelf.Vars
import Derived.SizedLaws
import Derived.HandedShaped
import Derived.Test.YthafjlokddpjfaaGreatDoorMa
import Derived.Test.YthafjlokddpjfaaGreatDoorMc
import Derived.Test.YthafjlokddpjfaaGreatDoorMd
set_option linter.all false
set_option maxHeartbeats 4000000
set_option maxRecDepth 20000
open Classical renaming byContradiction->kx
open Decidable renaming decide->aU
open Go renaming Addr->qz,FuncId->kH,Program->bZ,TypeId->bL,Value->ay,World->bQ
open Go.Lib renaming cut->yR,decDigits_one->nu
open Go.Proofs.Tryz renaming prog->ab,underlying103->Oj,underlying234->Ke,underlying3->jk,underlying319->DM,underlying321->DN,underlying54->DL,underlying9->gX
open Go.World renaming cell?->qv
open Int renaming natCast_add->aJ,natCast_one->cB,natCast_zero->aZ
open List renaming append_assoc->bN,append_nil->cS,drop_eq_getElem_cons->ft,drop_eq_nil_of_le->bh,drop_zero->cQ,filter_cons->nH,flatMap_cons->lq,getElem?_eq_getElem->aP,getElem?_map->aN,length_append->aG,length_cons->aM,length_drop->aT,length_map->ae,length_nil->bM,length_singleton->bG,map_append->bq,map_cons->ca,map_nil->cr,mem_append->bU,mem_filter->BI,mem_map->dq,mem_of_getElem?->aL,mem_singleton->bD,nil_append->eX
open Nat renaming add_zero->eJ,le_refl->bc,le_trans->b6,zero_le->bJ
open Option renaming bind_some->b_
open Option.some renaming inj->d_
open UInt8 renaming toNat_inj->rJ
namespace Go.X.Dk
open Go Go.X Go.RowKit
structure LinM(M:Mem)(v:ay)(L:List (ay×List Tx)):Prop where
 row:RowM M v 1 (L.map λx=>[x.1])
 each:∀x∈L,RowM M x.1 1 (x.2.map dG)
theorem LinM.le{M N:Mem}{v:ay}{L:List (ay×List Tx)}(h:LinM M v L)(a:M.le N):LinM N v L:=⟨h.row.le a,λx b=>(h.each x b).le a⟩
theorem Ws{l:Tx}(h:10∉l)(a:l≠[]):gY l=[lh l].filter uQ:=by unfold gY;rw[EU h a];rfl
theorem Wt{p r:Tx}(h:10∉p):gY (p++10::r)=[lh p].filter uQ++gY r:=by unfold gY;rw[EV h,ca,nH,nH,List.filter_nil];split<;>rfl
theorem TH{r:Tx}(h:r≠[]):∃p q f,yR r [10]=(p,q,f)/\(dY r).length=(dY q).length+1/\gY r=[lh p].filter uQ++gY q/\p.length<=r.length/\q.length<r.length:=by
 by_cases c:10∈r;·obtain⟨p,q,rfl,d⟩:=Ba c;exact⟨p,q,true,K3 d,by rw[EV d];rfl,Wt d,by simp,by simp;omega⟩
 ·refine⟨r,[],false,XW c,by rw[EU c h];rfl,?_,bc _,by cases r with|nil=>exact absurd rfl h|cons a b=>simp⟩;rw[Ws c h];simp[gY,wM]
theorem Wu{s:Tx}{M:Mem}(hG:GlobM M)(hs:s.length<=4194304):Meets ab 6 [.v (.string ⟨s.toArray⟩)] M λr H Z=>∃q es,r=.tup [q,.v (.bool (aU ((dY s).length<=200)))]/\IsRow H Z q 1 es/\∃L:List (ay×List Tx),es=L.map (λx=>[x.1])/\L.map (·.2)=gY s/\∀x∈L,RowM Z x.1 1 (x.2.map dG):=by
 refine aH [0,2,3,4,5,6,7,9,10,11,13,26,38,47,60] Proofs.Tryz.func6 rfl (by kernel_rfl) rfl λw0=>?_;simp only[Proofs.Tryz.f6,zW,seval];refine eI 4 100 1 rfl rfl rfl ?_;refine bE (X:=Tx×Nat×List (ay×List Tx)×Mem) (λx=>([(0,true,.v (.string ⟨x.1.toArray⟩)),(4,true,.own 800),(5,true,.v (.int .i64 (x.2.1:Int)))],[(800,.row 1 (x.2.2.1.map λx=>[x.1]))],x.2.2.2)) (λx=>((M.le x.2.2.2/\x.1.length<=s.length)/\(x.2.2.1.length<=x.2.1/\x.2.1+x.1.length<=s.length))/\(x.2.1+(dY x.1).length=(dY s).length/\x.2.2.1.map (·.2)++gY x.1=gY s)/\∀y∈x.2.2.1,RowM x.2.2.2 y.1 1 (y.2.map dG)) (λx=>x.1.length) (s,0,[],M) ⟨⟨⟨cg M,bc _⟩,bc _,by simp⟩,⟨by simp,rfl⟩,λy j=>by cases j⟩ (aR ?_) ?_;·simp only[zV,seval,aZ,cr]
 rintro⟨r,n,L,O⟩⟨⟨⟨b,r1⟩,n1,n2⟩,⟨P,z⟩,C⟩;simp only at b r1 n1 n2 P z C;by_cases Q:r=[]
 ·subst Q;have e:(aU ((n:Int)<=200))=aU ((dY s).length<=200):=by rw[wM,bM,eJ]at P;rw[<-P];exact decide_eq_decide.2 (by omega)
  simp only[zW,seval,e];exact⟨_,_,rfl,rfl,L,rfl,by rw[<-z];simp[gY,wM],C⟩
 have e1:(r=[])=False:=ax Q;obtain⟨p,q,f,c1,c2,K,c4,c5⟩:=TH Q;have A:=QK (s:=r) (sep:=[10]) (hG.le b) (by omega);rw[c1]at A;simp only[zW,seval,e1,gy,c_,cZ,fL,dz];refine az ⟨rfl,rfl⟩ rfl A ?_;simp only[zW,seval];refine⟨eV (by omega) (by omega),eI 9 101 1 rfl rfl rfl ?_⟩;refine bE (X:=Nat×Tx×List Tx) (λx=>([(0,true,.v (.string ⟨q.toArray⟩)),(4,true,.own 800),(5,true,.v (.int .i64 ((n+1:Nat):Int))),(6,true,.v (.string ⟨p.toArray⟩)),(9,true,.own 808),(10,true,.v (.string ⟨x.2.1.toArray⟩)),(11,true,.v (.int .i64 (x.1:Int)))],[(808,.row 1 (x.2.2.map dG)),(800,.row 1 (L.map λx=>[x.1]))],O)) (λx=>(x.2.1.length<=x.1/\x.2.2.length<=x.1)/\((x.1<=p.length/\x.2.2++wl x.2.1 (p.drop x.1)=lh p)\/(x.1=p.length+1/\x.2.2=lh p))) (λx=>p.length+1-x.1) (0,[],[]) ⟨⟨bc _,bc _⟩,.inl ⟨bJ _,QH p⟩⟩ (aR ?_) ?_;·simp only[zV,seval,aZ,cr,aJ,cB]
 rintro⟨i,w,d⟩⟨⟨i1,i2⟩,R⟩;simp only at i1 i2 R;have g:(d.map dG).length=d.length:=ae ..;have D:d.map dG++[[.string ⟨w.toArray⟩]]=(d++[w]).map dG:=by rw[bq];rfl
 by_cases hi1:i<=p.length
 ·have B:((i:Int)<=(p.length:Int))=True:=aK (by omega);rcases R with⟨_,a⟩|⟨h,_⟩;rotate_left;·omega
  by_cases l:i<p.length
  ·have S:((i:Int)<(p.length:Int))=True:=aK (by omega);obtain⟨c,A⟩:∃c,p[i]?=some c:=⟨_,aP l⟩;have hd:p.drop i=c::p.drop (i+1):=by rw[ft l];congr 1;rw[aP l]at A;exact d_ A
   have E:fc p (i:Int)=((c.toNat:Nat):Int):=by unfold fc;simp[A]
   have T:(p.drop i).take (((i:Int)+1).toNat-i)=[c]:=by
    have :((i:Int)+1).toNat-i=1:=by omega
    rw[this,hd];rfl
   rw[hd,wl]at a;simp only[zW,seval,B,S,E,T];refine⟨by omega,λh=>?_,λh=>?_⟩;·rw[ai (λe=>h (by rw[e];rfl))]at a;refine⟨eV (by omega) (by omega),⟨⟨by omega,by omega⟩,by omega⟩,by omega,eV (by omega) (by omega),(i+1,w++[c],d),⟨⟨⟨by simp only[aG,bG];omega,by simp only;omega⟩,.inl ⟨by simp only;omega,a⟩⟩,by simp only;omega⟩,aR ?_⟩;simp only[zV,seval,aJ]
   ·rw[aF (rJ.1 (by show c.toNat=32;omega)),<-bN]at a;refine⟨λm=>?_,λm=>?_⟩;·rw[uR,ai m]at a;refine⟨⟨by rw[g];omega,by rw[g];omega⟩,eV (by omega) (by omega),(i+1,[],d++[w]),⟨⟨⟨bJ _,by simp only[aG,bG];omega⟩,.inl ⟨by simp only;omega,a⟩⟩,by simp only;omega⟩,?_⟩;rw[D];refine i6 9 101 408 1 _ rfl rfl rfl rfl (aR ?_);simp only[zV,seval,aJ]
    ·rw[uR,aF m,cS]at a;refine⟨eV (by omega) (by omega),(i+1,[],d),⟨⟨⟨bJ _,by simp only;omega⟩,.inl ⟨by simp only;omega,a⟩⟩,by simp only;omega⟩,aR ?_⟩;simp only[zV,seval,aJ]
  ·have S:((i:Int)<(p.length:Int))=False:=ax (by omega);rw[bh (by omega),wl]at a;simp only[zW,seval,B,S];refine⟨λm=>?_,λm=>?_⟩;·rw[uR,ai m]at a;refine⟨⟨by rw[g];omega,by rw[g];omega⟩,eV (by omega) (by omega),(i+1,[],d++[w]),⟨⟨⟨bJ _,by simp only[aG,bG];omega⟩,.inr ⟨by simp only;omega,a⟩⟩,by simp only;omega⟩,?_⟩;rw[D];refine i6 9 101 408 1 _ rfl rfl rfl rfl (aR ?_);simp only[zV,seval,aJ]
   ·rw[uR,aF m,cS]at a;refine⟨eV (by omega) (by omega),(i+1,[],d),⟨⟨⟨bJ _,by simp only;omega⟩,.inr ⟨by simp only;omega,a⟩⟩,by simp only;omega⟩,aR ?_⟩;simp only[zV,seval,aJ]
 have B:((i:Int)<=(p.length:Int))=False:=ax (by omega);rcases R with⟨h,_⟩|⟨_,a⟩;·omega
 subst a;have hpl:(lh p).length<=p.length+1:=by omega
 generalize lh p=W at*;by_cases F:uQ W=true;rotate_left
 ·have U:[W].filter uQ=[]:=by rw[nH,ai F];rfl
  rw[U,eX]at K;rw[K]at z;cases W with
   |nil=>simp only[zW,seval,B,cr,bM,aZ];refine⟨(q,n+1,L,O),⟨⟨⟨⟨b,by simp only;omega⟩,by simp only;omega,by simp only;omega⟩,⟨by simp only;omega,z⟩,C⟩,by simp only;omega⟩,aR ?_⟩;simp only[zV,seval,aJ,cB]
   |cons x t=>
    have E:x=[35]:=by have :=mj (Bool.eq_false_iff.2 F);exact kx this
    subst E;have o:((0:Int)<(((t.map dG).length+1:Nat):Int))=True:=aK (by omega);have u:(0<(t.map dG).length+1)=True:=aK (by omega);simp only[zW,seval,B,o,u,dG];refine⟨(q,n+1,L,O),⟨⟨⟨⟨b,by simp only;omega⟩,by simp only;omega,by simp only;omega⟩,⟨by simp only;omega,z⟩,C⟩,by simp only;omega⟩,aR ?_⟩;simp only[zV,seval,aJ,cB]
 have V:[W].filter uQ=[W]:=by rw[nH,aF F];rfl
 rw[V]at K;cases W with
  |nil=>cases F
  |cons x t=>
   have E:x≠[35]:=aW F;have o:((0:Int)<(((t.map dG).length+1:Nat):Int))=True:=aK (by omega);have u:(0<(t.map dG).length+1)=True:=aK (by omega);have ex:(x=[35])=False:=ax E;simp only[zW,seval,B,o,u,ex,dG];refine A9 (k:=808) rfl λN M2 G I=>?_;have J:RowM M2 N 1 ((x::t).map dG):=I;simp only[zV,seval,im,iq,ir,nzs];refine HJ rfl ?_;simp only[zW,seval,I.dj];have Y:(L.map λx:ay×List Tx=>[x.1]).length=L.length:=ae ..;have eL:(L.map λx:ay×List Tx=>[x.1])++[[N]]=(L++[(N,x::t)]).map λx=>[x.1]:=by rw[bq];rfl
   rw[Y,eL];refine⟨⟨by omega,by omega⟩,(q,n+1,L++[(N,x::t)],M2),⟨⟨⟨⟨b.dC G,by simp only;omega⟩,by simp only[aG,bG];omega,by simp only;omega⟩,⟨by simp only;omega,?_⟩,λy j=>?_⟩,by simp only;omega⟩,?_⟩;·rw[<-z,K,bq,bN];rfl
   ·rcases bU.1 j with j|j;·exact(C y j).le G
    ·simp only[bD]at j;subst j;exact J
   ·refine i6 4 100 512 1 _ rfl rfl rfl rfl (aR ?_);simp only[zV,seval,aJ,cB]
theorem TI{s:Tx}{M:Mem}(f:GlobM M)(g:s.length<=4194304):Meets ab 6 [.v (.string ⟨s.toArray⟩)] M λr _ N=>∃v L,r=.tup [.v v,.v (.bool (aU ((dY s).length<=200)))]/\LinM N v L/\L.map (·.2)=gY s:=(vz (sz:=1) (Φ:=λa N=>∃L:List (ay×List Tx),a=L.map (λx=>[x.1])/\L.map (·.2)=gY s/\∀x∈L,RowM N x.1 1 (x.2.map dG)) (ku _) (λa M N h⟨L,b,c,d⟩=>⟨L,b,c,λx i=>(d x i).le h⟩) (Wu f g)).sS λr _ _ _⟨v,a,e,j,L,b,c,d⟩=>⟨v,L,e,⟨b▸j,d⟩,c⟩
end Go.X.Dk
namespace Go.X
open Go Go.RowKit
theorem A2{P:bZ}{f:kH}{H:HS}{M:Mem}{R:RP}{X:XP}{A:SV->List SV}(d:Ctxs A)(k:Nat){b:Nat}{cs:List SV}(e:hget H k=some (.box cs (some (bT b))))(h:MeetsX P f (A (.ptr k 0 0 0)) H M R X):MeetsX P f (A (.v (bT b))) H M R X:=⟨h.1,λg i V w c=>by have a:V k=bT b:=(c.holds _ (bP e)).2 _ rfl;have :=h.2 g i V w c;rw[d (.ptr k 0 0 0) (.v (bT b)) V V (tz a)]at this;exact this⟩
theorem DI{E:Env}{s:dp}{H:HS}{M:Mem}{K:KP}{f d:Nat}{A:SV->List SV}{cs:List SV}(k:Nat){b:Nat}(g:Ctxs A)(i:hget H k=some (.box cs (some (bT b))))(h:CallK E f (A (.v (bT b))) d K s H M):CallK E f (A (.ptr k 0 0 0)) d K s H M:=by intro V a w j e;have c:V k=bT b:=(e.holds _ (bP i)).2 _ rfl;have :=h V a w j e;rw[<-g (.ptr k 0 0 0) (.v (bT b)) V V (tz c)]at this;exact this
end Go.X
namespace Go.X.Dk
open Go Go.X Go.RowKit Go.X.Vo Go.X.Tg Go.X.Th
theorem J3(v:ay):Ctxs λs=>[s,.v v]:=λs a V u h=>by simp only[aS,SV.cL,h]
theorem aaY:Ep gV [103,99,100,32,54,32,53,10]=[111,107,32,51,10]:=by
 have a:gY [103,99,100,32,54,32,53,10]=[[[103,99,100],[54],[53]]]:=by decide
 have b:dY [103,99,100,32,54,32,53,10]=[[103,99,100,32,54,32,53]]:=by decide
 have c:nL [54]=some 6:=qd.2 ⟨by rw[nu (by decide)];rfl,by decide⟩;have d:nL [53]=some 5:=qd.2 ⟨by rw[nu (by decide)];rfl,by decide⟩;have e:JN 6 5=3:=by decide
 have f:gV [[103,99,100],[54],[53]]=some (3,Pn 6 5):=by rw[GW rfl];show(nL [54]).bind _=_;rw[c];show(nL [53]).bind _=_;rw[d];rfl
 have g:dL [3]=[111,107,32,51]:=by unfold dL;rw[lq,nu (by decide)];rfl
 unfold Ep;rw[ai (by rw[b];decide),a];unfold uc kG;rw[f];simp only[Pn,LX,e,g];rfl
theorem Px(s:Tx)(M:Mem)(hs:s.length<=1048576)(j:GlobM M):Meets ab 3 [.v (.string ⟨s.toArray⟩)] M λr _ _=>r=.v (.bool true):=by
 refine aH [0,2,3,4,5,6,8,9,10,11,12,26,31,32,33,34,52] Proofs.Tryz.func3 rfl (by kernel_rfl) rfl λw=>?_;simp only[Proofs.Tryz.f3,zW,seval];refine az ⟨rfl,rfl⟩ rfl (Xv j (by omega)) ?_;simp only[zW,seval];refine jQ rfl rfl (TI j (by omega)) (λr N⟨v,L,h,_⟩=>by subst h;rfl) λr C e⟨lv,L,hr,F,m⟩=>?_;subst hr;by_cases hb:65536<s.length\/200<(dY s).length
 ·have D:Ep gV s=[101,114,114,111,114,32,50,10]:=aF hb;by_cases E:65536<s.length;·have n:((65536:Int)<(s.length:Int))=True:=aK (by omega);simp only[zW,seval,n,D]
  ·have n:((65536:Int)<(s.length:Int))=False:=ax (by omega);have G:aU ((dY s).length<=200)=false:=bI (by omega);simp only[zW,seval,n,G,D]
 have D:Ep gV s=uc gV Ue (gY s):=ai hb;have n:((65536:Int)<(s.length:Int))=False:=ax (by omega);have G:aU ((dY s).length<=200)=true:=cy (by omega);have H:eB lv=L.length:=by rw[F.row.gC,ae]
 rw[D];simp only[zW,seval,n,G,H,F.row.sl];have hLl:L.length=(gY s).length:=by rw[<-m,ae]
 have hsl:(gY s).length<=200:=by
  have :(gY s).length<=(dY s).length:=by unfold gY;exact b6 (List.length_filter_le _ _) (by rw[ae];exact bc _)
  omega
 refine bE (X:=Nat×TG×(ay×ay×ay×List WV)×Mem) (λy=>([(3,true,.v (.string ⟨(uc gV y.2.1 ((gY s).drop y.1)).toArray⟩)),(6,true,.ptr 240 0 0 0),(31,true,.v lv),(32,true,.v (.int .i64 (L.length:Int))),(33,true,.v (.int .i64 (y.1:Int)))],[(240,.box (fh y.2.1 y.2.2.1.1 y.2.2.1.2.1 y.2.2.1.2.2.1) none)],y.2.2.2)) (λy=>(y.1<=L.length/\C.le y.2.2.2)/\TgM y.2.2.2 y.2.1 y.2.2.1.1 y.2.2.1.2.1 y.2.2.1.2.2.1 y.2.2.1.2.2.2/\TgR y.2.1) (λy=>L.length-y.1) (0,Ue,(z0,z0,z0,[]),C) ⟨⟨bJ _,cg C⟩,Oe C,Fw⟩ (aR ?_) ?_;·simp only[zV,seval,aZ,cQ];rfl
 rintro⟨k,T,⟨x1,x2,x3,wv⟩,M2⟩⟨⟨k1,c⟩,o,d⟩;simp only at k1 c o d;by_cases hk:k<L.length;rotate_left;·have I:((k:Int)<(L.length:Int))=False:=ax (by omega);have J:(gY s).drop k=[]:=bh (by omega);simp only[zW,seval,I,J,uc];refine az ⟨rfl,rfl⟩ rfl (Xv (s:=[103,99,100,32,54,32,53,10]) ((j.le e).le c) (by decide)) ?_;simp only[zW,seval,aaY]
 have I:((k:Int)<(L.length:Int))=True:=aK (by omega);obtain⟨p,K,_⟩:=Rp.jX (l:=L) hk;have O:=aL K;have f:=F.le c;obtain⟨i0,J,_,o0⟩:=jM f.row K rfl;have g:(gY s)[k]?=some p.2:=by rw[<-m,aN,K];rfl
 obtain⟨q,hq,P⟩:=Rp.jX (l:=gY s) (i:=k) (by omega);obtain rfl:q=p.2:=by rw[g]at hq;exact(d_ hq).symm
 rw[P];simp only[zW,seval,I,f.row.sl,J];have Q:∀u∈p.2,u.length<=70000:=λu hu=>by have E:p.2∈gY s:=aL g;obtain⟨l,S,U⟩:=dq.1 (BI.1 E).1;rw[<-U]at hu;have :=JY hu;have :=JX S;omega
 have V:1<=p.2.length:=by have :=(BI.1 (aL g)).2;generalize p.2=l at*;cases l with|nil=>cases this|cons a l=>simp
 refine⟨i0.1,i0.2,OH 240 rfl λbt=>DI (A:=λs=>[s,.v p.1]) 240 (J3 _) rfl (DE (X:=λ_ _ _=>False) 240 (bt:=bt) (R:=λs t N=>s=.v (.string ⟨(kG gV T p.2).2.toArray⟩)/\∃b v rg ws,t=fh (kG gV T p.2).1 b v rg/\TgM N (kG gV T p.2).1 b v rg ws/\TgR (kG gV T p.2).1) rfl rfl rfl rfl ((w6 (X:=λ_ _ _=>False) (A2 (A:=λs=>[s,.v p.1]) (J3 _) 248 rfl (Wn ((j.le e).le c) o d (f.each p O) V Q))).Ij ?_ ?_) λr t M3 x⟨W,y1,y2,y3,Y,Z,hT3,hR3⟩=>?_)⟩;·rintro r H' N⟨rfl,b',v',rg',ws',rfl,E,h2⟩;exact⟨rfl,_,rfl,rfl,rfl,_,_,_,_,rfl,E,h2⟩
 ·exactλ_ _ _ h=>h
 subst W Z;have z:uc gV T (p.2::(gY s).drop (k+1))=(kG gV T p.2).2++10::uc gV (kG gV T p.2).1 ((gY s).drop (k+1)):=rfl;have B:=J2 (p.2::(gY s).drop (k+1)) T d;rw[aM,aT]at B;have hc:=QK (s:=uc gV T (p.2::(gY s).drop (k+1))) (sep:=[10]) (((j.le e).le c).le x) (by omega);rw[z,K3 (Zl d p.2)]at hc;rw[z];simp only[zW,seval];refine az ⟨rfl,rfl⟩ rfl hc ?_;simp only[zW,seval];exact⟨eV (by omega) (by omega),(k+1,(kG gV T p.2).1,(y1,y2,y3,Y),M3),⟨⟨⟨by simp only;omega,c.dC x⟩,hT3,hR3⟩,by simp only;omega⟩,dO (df (k:=240) rfl) (aR (by simp only[zV,seval,hset,aJ,cB]))⟩
end Go.X.Dk
namespace Go.X
open Go Go.RowKit
variable{H:Type}{enc:bL×ay->H}
end Go.X
namespace Go.X.Dk
open Go Go.X Go.RowKit Go.Lib
theorem G3{W w:bQ}(h:Mem.on (λb=>W.heap[b]?) w){a:qz}{v:ay}(c:W.cell? a=some v):w.cell? a=some v:=by unfold qv at c⊢;cases d:W.heap[a.block]? with|none=>rw[d]at c;cases c|some o=>rw[d]at c;rw[h a.block o d];exact c
theorem Zm{P:bZ}{W w:bQ}(h:Mem.on (λb=>W.heap[b]?) w){n:String}{cs:Array ay}(a:W.var? P n=some cs):w.var? P n=some cs:=by unfold World.var? at a⊢;cases d:P.globalNamed n with|none=>rw[d]at a;cases a|some g=>rw[d]at a;simp only[b_]at a⊢;cases c:W.heap[g]? with|none=>rw[c]at a;cases a|some o=>rw[c]at a;rw[h g o c];exact a
theorem aaZ:ab.globalNamed "strconv.ErrSyntax"=some 4:=by kernel_rfl
theorem aa0:ab.globalNamed "strconv.ErrRange"=some 5:=by kernel_rfl
theorem abJ:ab.globalNamed "internal/strconv.uint64pow10"=some 3:=by kernel_rfl
theorem aa1: "*"++ "errors.errorString"= "*errors.errorString":=by decide
theorem aa2(u:bL)(h:ab.typeName? 3 u=some "*errors.errorString"):u=319:=typeName_ptr_named (nm:= "errors.errorString") (by rw[aa1];kernel_rfl) (by kernel_rfl) (by decide) u (by rw[aa1];exact h)
theorem TJ:ab.cellsOf 321=1:=by kernel_rfl
theorem TK:ab.cellsOf 9=1:=by kernel_rfl
theorem Wv{W:bQ}{c d:List UInt8}(e:laidMet ab [("internal/strconv.uint64pow10",tabData .u64 pow10Tab)] W)(f:laidMet ab [("strconv.ErrSyntax",.iface "*errors.errorString" (.ptr (.agg [.lit (.string c)])))] W)(h:laidMet ab [("strconv.ErrRange",.iface "*errors.errorString" (.ptr (.agg [.lit (.string d)])))] W)(i:W.ShapedOpen ab):GlobM (λb=>W.heap[b]?):=by obtain⟨o,p,j,-,-,-⟩:=laid_sentinel f aaZ (by kernel_rfl) DL aa2 DM DN rfl rfl gX TJ TK;obtain⟨q,r,k,-,-,-⟩:=laid_sentinel h aa0 (by kernel_rfl) DL aa2 DM DN rfl rfl gX TJ TK;have l:=tabIs_of_head abJ (by kernel_rfl) Ke Oj (by kernel_rfl) (by kernel_rfl) e;obtain⟨m,n⟩:=Proofs.cell_of_shapedOpen_int (P:=ab) (g:=0) (t:=3) (zero:=#[.int .i64 0]) i (aW (by kernel_rfl)) (by kernel_rfl) rfl (by kernel_rfl) (by kernel_rfl) jk;exact⟨λw a=>Zm a l,⟨m,λw a=>G3 a n⟩,⟨_,.inr ⟨_,_,rfl⟩,λw a=>G3 a (show W.cell? ⟨4,0,none⟩=some _ by simpa using World.var?_cell aaZ j 0)⟩,⟨_,.inr ⟨_,_,rfl⟩,λw a=>G3 a (show W.cell? ⟨5,0,none⟩=some _ by simpa using World.var?_cell aa0 k 0)⟩⟩
end Go.X.Dk
