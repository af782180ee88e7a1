/- Contracts of functions, and the logic in which they are proved. Conditions: none. -/
import Derived.Test.YthafjlokddpjfaaGreatDoorMd
import Derived.Test.YthafjlokddpjfaaGreatDoorMb
import Derived.Test.YthafjlokddpjfaaGreatDoorMa
import Derived.RangeFuncNested
import Derived.RangeFuncBound
import Derived.RangeFuncCalls
import Derived.RangeFuncLeaves
import Derived.Shelf.Abstract
import Derived.Shelf.RegionOpen
import Derived.WalkKit
import Derived.OwnWalkIn
import Derived.TacticsInMore
import Derived.LoopNIn
import Derived.LoopIn
import Derived.Maps.AppendAt
import Derived.Shelf.Strings.Repeat
import Derived.Test.YthafjlokddpjfaaGreatDoorMc
import Derived.KernelRfl
import Derived.Recover
import Derived.Tactics
import Derived.Tactics2
set_option linter.all false
set_option maxHeartbeats 4000000
set_option maxRecDepth 20000
open And renaming intro->aa
open Array renaming getElem?_eq_some_iff->bV,getElem?_modify->gr,getElem?_toList->cu,length_toList->jE,replicate->nV,replicate_succ->PF,replicate_zero->PG
open BitVec renaming getLsbD_allOnes->J',getLsbD_ofNat->Mz,ofInt->dR,ofNat->ki,toNat_allOnes->MA
open Bool renaming and_eq_true->ba,and_true->yI,false_and->jI,false_eq_true->bp,not_eq_true'->np,not_false->nQ,or_eq_true->ug,true_and->fJ,true_eq_false->eT
open ByteArray renaming size->pc
open Classical renaming byContradiction->kx,not_forall->Hq,not_imp->Mw,propDecidable->mR
open Decidable renaming decide->aU
open Function renaming comp_def->wi
open Go renaming Act->xp,Addr->qz,FuncId->kH,Oper->db,Operand->bB,PanicEntry->Uf,Program->bZ,TypeId->bL,Value->ay,World->bQ,eqGuard->Es,execOp->da,maxLen->dB,run_underlying->a8,undef->dN
open Go.Addr renaming add->Ac,add_lit->mg
open Go.Boxed renaming new->Uv
open Go.Code renaming wp_mono->kq
open Go.Exit renaming thenS->T6
open Go.Fence renaming wide->Hc
open Go.IntKind renaming i64->bX,u8->ig
open Go.IntWalk renaming wrap64_in->PE
open Go.Lib renaming cell_of_heap->gI,decDigits->cF,trimS->DR
open Go.Op renaming equal->kI,equalIn->nO,maxDepth->Et
open Go.Oper renaming upon->sF,wp->oC
open Go.OwnFrom renaming and->KB
open Go.Proofs.Tryz renaming f119->KC,f125->xE,f14->kU,f214->xF,f22->ik,f23->sJ,f267->KA,f30->ME,f59->Mx,f61->yT,f68->MB,f70->MC,f72->MD,f78->My,func11->Kf,func119->Hd,func125->ux,func13->AK,func14->Hv,func15->Ki,func16->Uo,func169->J_,func17->jK,func18->DO,func22->gH,func23->pA,func28->Hu,func29->A6,func30->Ht,func42->gO,func57->DP,func59->DT,func61->tI,func63->wj,func66->DQ,func68->DU,func70->DV,func71->PT,func72->Hr,func8->Mc,ntmps28->He,prog->ab,underlying20->xg,underlying58->D0,zeroValue3->dJ
open Go.Result renaming andThen_ok->aQ
open Go.RowKit renaming Below->um
open Go.RowKit.Below renaming heap_setCell->rI,refl->dQ
open Go.Sem renaming run_bind'->my,run_bind->a7,run_pure->bC
open Go.Value renaming int->cz,oneCell'->iR
open Go.World renaming alloc_heap_new->Om,cell?->qv,putObj_heap_other->Ka,setCell->px
open Int renaming cast_ofNat_Int->dI,le_refl->pk,le_trans->oJ,natCast_add->aJ,natCast_one->cB,natCast_zero->aZ,reduceAdd->aq,reduceEq->aB,reduceLE->aE,reduceLT->aD,reduceMul->au,reduceNe->aC,reduceNeg->av,reduceSub->ar,reduceToNat->ah,toNat_natCast->aX,toNat_of_nonneg->pv
open List renaming all_cons->xf,all_eq_true->l7,all_reverse->EA,append_assoc->bN,append_nil->cS,append_toArray->Uu,cons_append->gW,drop->nc,drop_drop->l6,drop_eq_getElem_cons->ft,drop_eq_nil_of_le->bh,drop_zero->cQ,eq_nil_of_length_eq_zero->lB,ext_getElem?->gA,filterMap_cons->bK,filterMap_nil->eu,filter_append->G',filter_cons->nH,flatMap_append->iv,flatMap_cons->lq,flatMap_nil->oE,foldl_cons->lf,foldl_nil->Mg,getD->kJ,getD_cons_succ->bA,getD_cons_zero->a_,getD_eq_getElem?_getD->cN,getElem?_cons_succ->Ae,getElem?_drop->fx,getElem?_eq_getElem->aP,getElem?_eq_some_iff->aI,getElem?_map->aN,getElem?_take->i_,length->dU,length_append->aG,length_cons->aM,length_drop->aT,length_eq_zero_iff->e_,length_map->ae,length_nil->bM,length_replicate->dT,length_singleton->bG,length_take->a6,map_append->bq,map_cons->ca,map_drop->fI,map_map->jB,map_nil->cr,map_take->eH,mem_append->bU,mem_cons->aV,mem_cons_of_mem->bm,mem_cons_self->bn,mem_filter->BI,mem_map->dq,mem_of_getElem?->aL,mem_of_mem_drop->cG,mem_of_mem_take->cq,mem_singleton->bD,nil_append->eX,nodup_cons->gK,nodup_iff_pairwise_ne->Hb,not_mem_nil->cH,pairwise_cons->dt,pairwise_iff_getElem->iI,pairwise_map->kO,range->sE,replicate->bg,size_toArray->dh,take->fH,take_add_one->cm,take_append_drop->iT,take_length->sH,take_of_length_le->bz,take_zero->fE
open Min renaming min->wg
open Nat renaming add_assoc->pd,add_sub_cancel_left->P',add_zero->eJ,div_add_mod->J5,div_le_self->v_,le_refl->bc,le_trans->b6,lt_or_ge->bR,min_eq_left->cT,mod_lt->Af,mul_comm->o8,mul_div_cancel_left->PU,mul_le_mul->Mj,mul_le_mul_right->il,pow_le_pow_right->ew,pow_succ->eK,reduceAdd->aj,reduceBEq->aw,reduceDiv->al,reduceEqDiff->af,reduceLT->aA,reduceLeDiff->ag,reduceMul->ak,shiftRight_eq_div_pow->Kb,strongRecOn->Hk,sub_zero->iS,testBit_and->J8,testBit_eq_decide_div_mod_eq->PV,two_pow_pos->lI,xor_assoc->kN,xor_comm->jL,xor_lt_two_pow->TL,xor_self->yM,xor_zero->nG,zero_add->b7,zero_le->bJ,zero_mul->o7,zero_xor->jD
open Ne renaming symm->wB
open Option renaming bind_eq_some_iff->nv,bind_none->eO,bind_some->b_,getD_none->o6,getD_some->dn,isNone_none->qD,isNone_some->qE,isSome_none->nk,isSome_some->nj,map_eq_some_iff->dy,map_map->Ev,map_none->uo,map_some->cJ,toList_some->PD
open Option.some renaming inj->d_,injEq->aO
open Prod.mk renaming injEq->cD
open UInt8 renaming ofNat->bo,ofNat_toNat->jm,toNat_inj->rJ,toNat_lt->gu,toNat_ofNat'->rP
namespace Go.X.Dk
open Go Go.X Go.RowKit Go.X.Vo Go.X.Tg Go.X.Th
theorem s44:f_ ab 44=.one:=by kernel_rfl
theorem s45:f_ ab 45=.one:=by kernel_rfl
theorem gU{T:TG}(h:TgR T){S:Rv.RS}(a:S.1=0->Rv.fY S.2.1 S.2.2.1 S.2.2.2.1 S.2.2.2.2=0):TgR (lY T S):=by
 unfold lY;split;·exact⟨h.st,a (by assumption),h.tx,h.many⟩
 ·exact h
theorem LK{T:TG}(b:TgR T)(w:Int)(n:Tx)(a:Int):(rC T w n a).1.length<=64:=by
 unfold rC;split;·simp
 ·unfold W2;split
  ·split;·unfold wt;cases h:T.1.1[(fg (Bg.ko (Lf T.1.2 n a)) T.1.1 0).toNat]? with|none=>simp|some x=>exact(Bg.jY ((Nf (lj b.st).1).2 x (aL h))).1.1
   ·simp
  ·simp
theorem vS:∀(l:List Nat),(∀n∈l,n<=9223372036854775807)->(dL l).length<=2+20*l.length|[],_=>by simp[dL,yP]|n::l,h=>by have a:=vS l (λm b=>h m (by simp[b]));have c:=h n (by simp);have d:=jw 18 n (by have :(10:Nat)^19=10000000000000000000:=(by decide);omega);simp only[dL,lq,aG,aM]at a⊢;omega
theorem yw{bag:List Bg.It}:∀{l:List fy},(∀v∈l,v.2.length<=32/\Nm.uX v.1=true/\Ga bag v.2=0)->∀k,((l.take k).flatMap pK).length<=40*l.length|[],_,k=>by simp|x::l,h,0=>by simp|x::l,h,k+1=>by have a:=yw (λv b=>h v (bm _ b)) k;obtain⟨d,c,_⟩:=h x (by simp);have e:=Lg.yl c;have f:=jw 1 x.2.length (by have :(10:Nat)^(1+1)=100:=(by decide);omega);simp only[List.take_succ_cons,lq,aG,aM,pK,bM]at a⊢;omega
theorem yx{bt i k l m w:Nat}{o:AV}{M:Mem}(n:BoxM M i [bT bt])(f:BoxM M k [bT i])(u:BoxM M l [.int .i64 w])(c:BoxM M m [.int .i64 o.1,.string ⟨o.2.1.toArray⟩,.string ⟨o.2.2.1.toArray⟩,.int .i64 o.2.2.2.1,.string ⟨o.2.2.2.2.toArray⟩]):zN bt 122 [.v (bT k),.v (bT l),.v (bT m)] M (GF w o):=by
 refine⟨rfl,λT b v p L N a x g=>?_⟩;have y:=(n.le a).at (j:=0) rfl;have z:=(f.le a).at (j:=0) rfl;have B:=(u.le a).at (j:=0) rfl;have C:=(c.le a).at (j:=0) rfl;have D:=(c.le a).at (j:=1) rfl;have E:=(c.le a).at (j:=2) rfl;have F:=(c.le a).at (j:=3) rfl;have G:=(c.le a).at (j:=4) rfl;have H:=(n.le a).H6 (j:=0) rfl;refine cO [0,1,2,3] Proofs.Tryz.func122 rfl (by kernel_rfl) λO P=>?_;simp only[Proofs.Tryz.f122,zY,seval];refine mF 6 rfl (by kernel_rfl) ?_;simp only[zX,seval,s44,s45,y,z,B,C,D,E,F,G,H,dz];refine kT (A:=λs=>[s,.v (.int .i64 w),Ns o]) 248 (λs Q V U h=>by simp only[Ns,aS,SV.cL,h]) rfl (cV ⟨_,Proofs.Tryz.func124,by kernel_rfl,by kernel_rfl⟩ (aas rfl w o x g λq r d I J e=>?_));simp only[zX,seval];refine g_ rfl rfl (QM (qk T w o).2 I) (λs K=>?_) (λR t=>?_);·obtain⟨f,rfl⟩:=K;simp only[zX,seval];exact⟨⟨f,rfl⟩,q,r,p,d,rfl,e,vR g w o⟩
 ·exact⟨⟨t.1,t.2⟩,q,r,p,d,rfl,e,vR g w o⟩
theorem VX{bt i l m o w a:Nat}{k:Int}{n t x:Tx}{M:Mem}(p:BoxM M i [bT bt])(f:BoxM M l [bT i])(B:BoxM M m [.int .i64 w])(q:BoxM M o [.int .i64 k,.string ⟨n.toArray⟩,.string ⟨t.toArray⟩,.int .i64 a,.string ⟨x.toArray⟩]):zN bt 120 [.v (bT l),.v (bT m),.v (bT o)] M (Xe w n a):=by
 refine⟨rfl,λT b v r u N d g e=>?_⟩;have C:=(p.le d).at (j:=0) rfl;have D:=(f.le d).at (j:=0) rfl;have E:=(B.le d).at (j:=0) rfl;have F:=(q.le d).H6 (j:=1) rfl;have G:=(q.le d).H6 (j:=3) rfl;have H:=(p.le d).H6 (j:=0) rfl;have y:=LK e w n a;refine cO [0,1,2,3,4,5] Proofs.Tryz.func120 rfl (by kernel_rfl) λK L=>?_;simp only[Proofs.Tryz.f120,zY,seval];refine jU (js ((tk [0,4,5,7,1,6,8,2,3] (.one 9 (tk [10,11,12,13,14] .done)))) rfl (by kernel_rfl) ?_);simp only[zX,seval,fl,fm,fP,s44,s45,C,D,E,F,G,H,dz];refine qZ (A:=λs=>[s,.v (.int .i64 w),.v (.string ⟨n.toArray⟩),.v (.int .i64 a)]) 248 (λs O V U h=>by simp only[aS,SV.cL,h]) rfl (VQ rfl w n a g e ?_);have I:Xe w n a T=(T,(rC T w n a).2,p_ (rC T w n a).1):=rfl;rw[I];generalize rC T w n a=S at*;simp only[zX,seval,fl,fm,fP];refine g_ (R:=λs=>S.2=0/\s=.tup []) (X0:=λc=>S.2≠0/\c=jv S.2) rfl rfl ((zb S.2 N).Ij (λs _ _ h=>⟨by rw[h.2];rfl,h⟩) (λ_ _ _ h=>h)) (λs J=>?_) (λP z=>?_);·obtain⟨f,rfl⟩:=J;simp only[zX,seval];refine cV ⟨_,PT,by kernel_rfl,by kernel_rfl⟩ (az ⟨rfl,rfl⟩ rfl (MV (s:=S.1) (by omega)) ?_);simp only[zX,seval];exact⟨f,b,v,r,u,rfl,g,e⟩
 ·exact⟨⟨z.1,z.2⟩,b,v,r,u,rfl,g,e⟩
theorem LL{bt q r t B w x y z:Nat}{M:Mem}{c:Tx}{F:TG->iP}(G:(c=[114,101,103,105,115,116,101,114]/\F=Jo w x y)\/(c=[114,101,115,101,114,118,101]/\F=Jp w x y)\/(c=[114,101,108,101,97,115,101]/\F=Jq w x y)\/(c=[99,108,101,97,114]/\F=Jr w x)\/(c=[112,114,101,101,109,112,116]/\F=Js w x y z))(C:BoxM M q [bT bt])(p:BoxM M r [.string ⟨c.toArray⟩])(H:BoxM M t [bT q])(n:BoxM M B [.int .i64 (w:Nat),.int .i64 (x:Nat),.int .i64 (y:Nat),.int .i64 (z:Nat)]):zN bt 125 [.v (bT r),.v (bT t),.v (bT B)] M F:=by
 refine⟨rfl,λT b v U D W i k l=>?_⟩;have I:=(C.le i).at (j:=0) rfl;have J:=(p.le i).at (j:=0) rfl;have K:=(H.le i).at (j:=0) rfl;have L:=(n.le i).H6 (j:=0) rfl;have N:=(n.le i).H6 (j:=1) rfl;have O:=(n.le i).H6 (j:=2) rfl;have P:=(n.le i).H6 (j:=3) rfl;have Q:=(C.le i).H6 (j:=0) rfl;rcases G with⟨rfl,rfl⟩|⟨rfl,rfl⟩|⟨rfl,rfl⟩|⟨rfl,rfl⟩|⟨rfl,rfl⟩;all_goals refine cO [0,1,2,3,4,5,6,8,9,10,24,38,52,64,80,113,114,115,116] ux rfl (by kernel_rfl) λX Y=>?_;simp only[xE,zX,seval,J,GG,dr,dW,c_,eT,bp,cZ,fL,dz]
 refine mF 10 rfl (by kernel_rfl) ?_;rotate_left;refine mF 10 rfl (by kernel_rfl) ?_;rotate_left;refine mF 10 rfl (by kernel_rfl) ?_;rotate_left;refine mF 8 rfl (by kernel_rfl) ?_;rotate_left;refine mF 12 rfl (by kernel_rfl) ?_;rotate_left;all_goals simp only[zX,seval,s44,s45,I,K,L,N,O,P,Q,dz]
 refine kT (A:=λs=>[s,.v (.int .i64 w),.v (.int .i64 x),.v (.int .i64 y)]) 248 (λs o V u h=>by simp only[aS,SV.cL,h]) rfl (cV ⟨_,Proofs.Tryz.func126,by kernel_rfl,by kernel_rfl⟩ (Jn rfl w x y k λa m f d=>?_));have e:=gU l (S:=Rv.oq T.2.1.1 T.2.1.2.1 T.2.1.2.2.1 T.2.1.2.2.2 w x y) λg=>zI g;unfold Jo;generalize Rv.oq T.2.1.1 T.2.1.2.1 T.2.1.2.2.1 T.2.1.2.2.2 w x y=S at*;rotate_left;refine kT (A:=λs=>[s,.v (.int .i64 w),.v (.int .i64 x),.v (.int .i64 y)]) 248 (λs o V u h=>by simp only[aS,SV.cL,h]) rfl (cV ⟨_,Proofs.Tryz.func127,by kernel_rfl,by kernel_rfl⟩ (LF rfl w x y k λa m f d=>?_));have e:=gU l (S:=Rv.ot T.2.1.1 T.2.1.2.1 T.2.1.2.2.1 T.2.1.2.2.2 w x y) λg=>zJ g;unfold Jp;generalize Rv.ot T.2.1.1 T.2.1.2.1 T.2.1.2.2.1 T.2.1.2.2.2 w x y=S at*;rotate_left;refine kT (A:=λs=>[s,.v (.int .i64 w),.v (.int .i64 x),.v (.int .i64 y)]) 248 (λs o V u h=>by simp only[aS,SV.cL,h]) rfl (cV ⟨_,Proofs.Tryz.func128,by kernel_rfl,by kernel_rfl⟩ (LG rfl w x y k λa m f d=>?_));have e:=gU l (S:=Rv.ou T.2.1.1 T.2.1.2.1 T.2.1.2.2.1 T.2.1.2.2.2 w x y) λg=>zK g;unfold Jq;generalize Rv.ou T.2.1.1 T.2.1.2.1 T.2.1.2.2.1 T.2.1.2.2.2 w x y=S at*;rotate_left;refine kT (A:=λs=>[s,.v (.int .i64 w),.v (.int .i64 x)]) 248 (λs o V u h=>by simp only[aS,SV.cL,h]) rfl (cV ⟨_,Proofs.Tryz.func129,by kernel_rfl,by kernel_rfl⟩ (Sw rfl w x k λa m f d=>?_));have e:=gU l (S:=Rv.ov T.2.1.1 T.2.1.2.1 T.2.1.2.2.1 T.2.1.2.2.2 w x) λg=>zL g;unfold Jr;generalize Rv.ov T.2.1.1 T.2.1.2.1 T.2.1.2.2.1 T.2.1.2.2.2 w x=S at*;rotate_left;refine kT (A:=λs=>[s,.v (.int .i64 w),.v (.int .i64 x),.v (.int .i64 y),.v (.int .i64 z)]) 248 (λs o V u h=>by simp only[aS,SV.cL,h]) rfl (cV ⟨_,Proofs.Tryz.func130,by kernel_rfl,by kernel_rfl⟩ (LH rfl w x y z k λa m f d=>?_));have e:=gU l (S:=Rv.ox T.2.1.1 T.2.1.2.1 T.2.1.2.2.1 T.2.1.2.2.2 w x y z) λg=>zM g;unfold Js;generalize Rv.ox T.2.1.1 T.2.1.2.1 T.2.1.2.2.1 T.2.1.2.2.2 w x y z=S at*;rotate_left;all_goals
  simp only[zX,seval];refine g_ rfl rfl (QM S.1 m) (λs R=>?_) (λZ E=>?_);·obtain⟨p,rfl⟩:=R;simp only[zX,seval];exact⟨p,b,v,a,D,rfl,d,e⟩
  ·exact⟨⟨E.1,E.2⟩,b,v,a,D,rfl,d,e⟩
theorem VY{bt o p q r n:Nat}{M:Mem}(O:n<=9223372036854775807)(u:GlobM M)(t:BoxM M o [bT bt])(w:BoxM M p [.string ⟨([99,114,97,115,104]:Tx).toArray⟩])(x:BoxM M q [bT o])(y:BoxM M r [.int .i64 (n:Nat),.int .i64 0,.int .i64 0,.int .i64 0]):zN bt 125 [.v (bT p),.v (bT q),.v (bT r)] M (Jt n):=by
 refine⟨rfl,λT b v P Q R a z B=>?_⟩;have C:=(t.le a).at (j:=0) rfl;have D:=(w.le a).at (j:=0) rfl;have E:=(x.le a).at (j:=0) rfl;have F:=(y.le a).H6 (j:=0) rfl;have G:=(t.le a).H6 (j:=0) rfl;have H:=(pT T n).2;have c:(xn T n).2.1=(((xn T n).2.1.toNat:Nat):Int):=by omega
 refine w6 ?_;refine cO [0,1,2,3,4,5,6,8,9,10,24,38,52,64,80,113,114,115,116] ux rfl (by kernel_rfl) λV W=>?_;simp only[xE,zX,seval,D,GG,dr,dW,c_,eT,bp,cZ,fL,dz];refine jU (gE 6 rfl (by kernel_rfl) ?_);simp only[zX,seval,s44,s45,C,E,F,G,dz];refine qZ (A:=λs=>[s,.v (.int .i64 n)]) 248 (λs X Y U h=>by simp only[aS,SV.cL,h]) rfl (Sy rfl n (eV (by omega) (by omega)) z B λI J d Z e f=>?_);rw[c];have K:Jt n T=(NC T n,0,dL [(xn T n).2.1.toNat]):=rfl;rw[K];have g:=C' T n;generalize NC T n=S at*;generalize(xn T n).2.1.toNat=m at*;simp only[zX,seval];refine⟨rfl,dP (k:=712) rfl rfl rfl (λ_=>rfl) (λv M3 i L=>r_ (l:=[m]) (((u.le a).le e).le i) L (by simp) (λk N=>by simp only[bD]at N;omega)) ?_⟩;simp only[zX,seval];exact⟨I,J,_,d,rfl,f,g⟩
theorem aav{bt bd b0 b1 b2:Nat}{M:Mem}(hG:GlobM M)(hd:BoxM M bd [bT bt])(h0:BoxM M b0 [.string ⟨([97,108,108]:Tx).toArray⟩])(h1:BoxM M b1 [bT bd])(_:BoxM M b2 [.int .i64 0,.int .i64 0,.int .i64 0,.int .i64 0]):zN bt 125 [.v (bT b0),.v (bT b1),.v (bT b2)] M Ju:=by
 refine⟨rfl,λT b v u ws M' t p i=>?_⟩;have d0:=(hd.le t).at (j:=0) rfl;have p0:=(h0.le t).at (j:=0) rfl;have p1:=(h1.le t).at (j:=0) rfl;have dd:=(hd.le t).H6 (j:=0) rfl;refine w6 ?_;refine cO [0,1,2,3,4,5,6,8,9,10,24,38,52,64,80,113,114,115,116] ux rfl (by kernel_rfl) λw0 M0=>?_;simp only[xE,zX,seval,p0,GG,dr,dW,c_,eT,bp,cZ,fL,dz];have g:SV.concs (fh T b v u)=true:=rfl;have e:∀d,SV.jn d (fh T b v u)=true:=λ_=>rfl;refine jU (lU (X:=ay×ay×List WV×ay×Mem) (λz=>((M'.le z.2.2.2.2/\z.2.2.1.map (·.2)=T.1.2)/\RowM z.2.2.2.2 z.1 4 (T.1.1.map Bg.eG)/\VolsM z.2.2.2.2 z.2.1 z.2.2.1)/\RowM z.2.2.2.2 z.2.2.2.1 2 (T.2.1.2.1.map Rv.iA)) (λz=>([(3,true,.v (.string ⟨#[]⟩)),(4,true,.ptr 32 0 0 0),(5,true,.ptr 40 0 0 0)],[(32,.box [.v z.1,.v z.2.1] none),(40,.box [.v (.int .i64 T.2.1.1),.v z.2.2.2.1,.v (.int .i64 T.2.1.2.2.1),.v (.int .i64 T.2.1.2.2.2)] none),(248,.box (fh T b v u) (some (bT bt)))],z.2.2.2.2)) ?_ ?_)
 ·refine GD 12 [248] ((tk3 [0,5,1,6,2,7,3,8] (.three 4 (.three 9 (.two 10 (.one 11 .done) 11 (.one 10 .done)) 10 (.two 9 (.one 11 .done) 11 (.one 9 .done)) 11 (.two 9 (.one 10 .done) 10 (.one 9 .done))) 10 (.two 4 (.two 9 (.one 11 .done) 11 (.one 9 .done)) 11 (.one 4 (.one 9 .done))) 11 (.two 4 (.two 9 (.one 10 .done) 10 (.one 9 .done)) 10 (.one 4 (.one 9 .done)))))) rfl (by kernel_rfl) λxs hx=>?_;simp only[na]at hx;simp only[zX,seval,fl,fm,se3,RZ,ZB,hx,g,e,s44,s45,d0,p1,dd,dz];repeat' apply aa
  all_goals
   refine qZ (A:=λs=>[s]) 248 (λs s' ν U h=>by simp only[aS,h]) rfl ?_;first|refine Sx rfl p i λI w f J a q l m=>?_|refine VV _ rfl rfl p i λI w f J a q l m=>?_|refine VW _ _ rfl rfl rfl p i λI w f J a q l m=>?_
   simp only[zX,seval,fl,fm,se3,RZ,g,e,a]
  repeat' apply aa
  all_goals
   refine qZ (A:=λs=>[s]) 248 (λs s' ν U h=>by simp only[aS,h]) rfl ?_;first|refine VR rfl (p.le a) i λy K c o=>?_|refine YJ _ rfl rfl (p.le a) i λy K c o=>?_|refine YK _ _ rfl rfl rfl (p.le a) i λy K c o=>?_
   simp only[zX,seval,fl,fm,se3,RZ,g,e,a.dC c,l.dj,m.row.dj,o.dj,and_self,dz];repeat' apply aa
   all_goals exact⟨(I,w,f,y,K),⟨⟨⟨a.dC c,q⟩,l.le c,m.le c⟩,o⟩,aR (by simp only[zV,seval])⟩
 rintro⟨I,w,f,y,J⟩⟨⟨⟨N,O⟩,P,x⟩,m5⟩;simp only at N O P x m5;obtain⟨hB,hV,_⟩:=lj i.st;have hBl:=Bp.lr hB;have B:=gQ hV;obtain⟨r1,r2,r3,r4,r5,r6⟩:=Rv.gq i.rv;have r7:T.2.1.2.2.2<=7:=by
  rcases(C_ i.rv).2.2 with⟨_,h⟩|⟨_,h,_⟩|⟨_,_,_,h⟩;·omega
  ·omega
  ·exact(yr r2 h).2
 have wl:f.length=T.1.2.length:=by rw[<-O,ae]
 have C:([[.int .i64 (T.1.1.length:Int)],[.int .i64 T.2.1.1],[.int .i64 T.2.1.2.2.1],[.int .i64 T.2.1.2.2.2]]:List (List ay))=[T.1.1.length,T.2.1.1.toNat,T.2.1.2.2.1.toNat,T.2.1.2.2.2.toNat].map lD:=by simp only[lD,ca,cr,pv r1.1,pv r3.1,pv r6]
 dsimp only;have D:∀n∈[T.1.1.length,T.2.1.1.toNat,T.2.1.2.2.1.toNat,T.2.1.2.2.2.toNat],n<=9223372036854775807:=λn hn=>by simp only[aV,cH,fK]at hn;omega
 have E:YG T=dL [T.1.1.length,T.2.1.1.toNat,T.2.1.2.2.1.toNat,T.2.1.2.2.2.toNat]++T.1.2.flatMap pK:=rfl;have Q:=vS _ D;simp only[zX,seval,P.gC,P.sl,ae];refine⟨e _,cV ⟨_,wj,by kernel_rfl,by kernel_rfl⟩ (dP (s:=.v (.string ⟨(dL [T.1.1.length,T.2.1.1.toNat,T.2.1.2.2.1.toNat,T.2.1.2.2.2.toNat]).toArray⟩)) (k:=880) rfl rfl rfl (λ_=>rfl) (λv3 K c F=>?_) ?_)⟩;·rw[C]at F;exact r_ (((hG.le t).le N).le c) F (by simp) D
 rw[show(dL [T.1.1.length,T.2.1.1.toNat,T.2.1.2.2.1.toNat,T.2.1.2.2.2.toNat])=dL [T.1.1.length,T.2.1.1.toNat,T.2.1.2.2.1.toNat,T.2.1.2.2.2.toNat]++(T.1.2.take 0).flatMap pK by simp];generalize dL [T.1.1.length,T.2.1.1.toNat,T.2.1.2.2.1.toNat,T.2.1.2.2.2.toNat]=L at*;simp only[zX,seval,x.row.gC,x.row.sl,ae,wl];refine uO (X:=Nat) (λk=>([(6,true,.v (.string ⟨(L++(T.1.2.take k).flatMap pK).toArray⟩)),(113,true,.v w),(114,true,.v (.int .i64 T.1.2.length)),(115,true,.v (.int .i64 k))],[(248,.box (fh T b v u) (some (bT bt)))],J)) (λk=>k<=T.1.2.length) (λk=>T.1.2.length-k) 0 (bJ _) (aR ?_) ?_;·simp only[zV,seval,aZ]
 intro k hk;by_cases hkl:k<T.1.2.length
 ·have R:((k:Int)<(T.1.2.length:Int))=True:=aK (by omega);obtain⟨r,S⟩:∃r,f[k]?=some r:=⟨_,aP (by omega)⟩;have G:T.1.2[k]?=some r.2:=by rw[<-O,aN,S];rfl
  obtain⟨⟨u1,u2⟩,⟨u3,u4⟩,u5⟩:=iM x S;have V:=x.blk r (aL S);obtain⟨w1,w2,_⟩:=B.2 r.2 (aL G);have w3:=Lg.yl w2;have W:Lib.itoa (r.2.2.length:Int)=cF r.2.2.length:=Lib.itoa_nonneg _;have hdl:=jw 1 r.2.2.length (by have :(10:Nat)^(1+1)=100:=(by decide);omega);have Y:(T.1.2.take (k+1)).flatMap pK=(T.1.2.take k).flatMap pK++pK r.2:=by rw[cm,G,PD,iv];simp
  have hsz:=yw B.2 k;simp only[zX,seval,R,u1,u2,u3,u4,u5,e,V.dj];refine jU (ie [64] (tk [0,1,5,2,6,3,7,4] (.one 8 (tk [9,10,11] .done))) rfl (by kernel_rfl) λys o=>?_);simp only[na]at o;simp only[zX,seval,fl,fm,fP,ZB,o,g,e,V.gC,V.sl,ae,dz];have hll:L.length<=100:=b6 Q (by simp);refine⟨by omega,by omega,az ⟨rfl,rfl⟩ rfl (FY (n:=(r.2.2.length:Int)) ((hG.le t).le N) (eV (by omega) (by omega))) ?_⟩;have H:(32::(r.2.1++[58]))++cF r.2.2.length=pK r.2:=by simp[pK]
  simp only[zX,seval,fl,fm,fP,ZB,o,g,e,W,H,dz];have hvl:(pK r.2).length<=40:=by rw[<-H];simp only[aG,aM,bM];omega
  refine⟨by simp only[aG,aM,bM];omega,by rw[aG];omega,eV (by omega) (by omega),k+1,⟨by omega,by omega⟩,aR ?_⟩;simp only[zV,seval,aJ,Y,bN]
 ·have R:((k:Int)<(T.1.2.length:Int))=False:=ax (by omega);simp only[zX,seval,R];have Z:T.1.2.take k=T.1.2:=bz (by omega);rw[Z];exact⟨⟨rfl,by show _=SV.v (.string ⟨(YG T).toArray⟩);rw[E]⟩,b,v,u,ws,rfl,p.le N,i⟩
end Go.X.Dk
namespace Go.X.Dk
open Go Go.X Go.RowKit Go.X.Vo Go.X.Tg
theorem VZ(o:AV):0<=Lg.qu o/\Lg.qu o<=12:=by
 unfold Lg.qu;repeat' split
 all_goals decide
theorem V0(l:List Bg.It)(s:Tx):0<=(Bp.mf l s).2.2/\(Bp.mf l s).2.2<=12:=by
 unfold Bp.mf;repeat' split
 all_goals simp
theorem Fi(l:List fy)(n:Tx):0<=iO l n/\iO l n<=12:=by
 unfold iO;repeat' split
 all_goals decide
theorem SD{bag:List Bg.It}{l:List fy}(h:qp bag l=0)(n:Tx)(a:Int):0<=vH bag l n a/\vH bag l n a<=12:=by
 unfold vH;rw[h,ai (by decide)];repeat' split
 all_goals decide
theorem V1{bag:List Bg.It}{l:List fy}(h:qp bag l=0)(o:AV):0<=(tX bag l o).2/\(tX bag l o).2<=12:=by
 have a:=Fi l o.2.1;have b:=Fi l o.2.2.1;have c:=SD h o.2.1 o.2.2.2.1;unfold tX sr qU nB pq mI;rw[h];repeat' split
 all_goals
  first
   |exact a
   |exact b
   |exact c
   |(simp;done)
   |
    (
     unfold tg;split;·exact V0 _ _
     ·simp;done)
theorem Xh(R:RQ)(w:Int)(b:Bool):0<=hE R w b/\hE R w b<=12:=by
 unfold hE;repeat' split
 all_goals decide
theorem NF{T:TG}(a:TgR T)(w:Int)(o:AV):0<=(qk T w o).2/\(qk T w o).2<=12:=by
 unfold qk;split;·exact Xh _ _ _
 split
 ·show 0<=(Hi T.1.1 T.1.2 o).2/\(Hi T.1.1 T.1.2 o).2<=12;unfold Hi;split;·exact VZ o
  ·exact V1 a.st o
 split;·simp
 ·simp
theorem NG{T:TG}(b:TgR T)(w:Int)(n:Tx)(a:Int):0<=(rC T w n a).2/\(rC T w n a).2<=12:=by
 unfold rC;split;·exact Xh _ _ _
 ·exact SD b.st n a
theorem NH{g:Int}{l:List (Int×Int)}{k h:Int}(a:Rv.fY g l k h=0)(w x y:Int):0<=(Rv.oq g l k h w x y).1/\(Rv.oq g l k h w x y).1<=12:=by
 unfold Rv.oq;rw[a];repeat' split
 all_goals simp[Rv.zr]
theorem Br{g:Int}{l:List (Int×Int)}{k h:Int}(a:Rv.fY g l k h=0)(w x:Int):0<=Rv.jz g l k h w x/\Rv.jz g l k h w x<=12:=by
 unfold Rv.jz;rw[a];repeat' split
 all_goals first|decide|(simp at*;done)
theorem NI{g:Int}{l:List (Int×Int)}{k h:Int}(a:Rv.fY g l k h=0)(w x y:Int):0<=(Rv.ot g l k h w x y).1/\(Rv.ot g l k h w x y).1<=12:=by
 have b:=Br a w x;unfold Rv.ot;repeat' split
 all_goals first|exact b|(simp[Rv.zr];done)
theorem NJ{g:Int}{l:List (Int×Int)}{k h:Int}(a:Rv.fY g l k h=0)(w x y:Int):0<=(Rv.ou g l k h w x y).1/\(Rv.ou g l k h w x y).1<=12:=by
 have b:=Br a w x;unfold Rv.ou;repeat' split
 all_goals first|exact b|(simp[Rv.zr];done)
theorem NK{g:Int}{l:List (Int×Int)}{k h:Int}(a:Rv.fY g l k h=0)(w x:Int):0<=(Rv.ov g l k h w x).1/\(Rv.ov g l k h w x).1<=12:=by
 have b:=Br a w x;unfold Rv.ov;repeat' split
 all_goals first|exact b|(simp[Rv.zr];done)
theorem NL{g:Int}{l:List (Int×Int)}{k h:Int}(a:Rv.fY g l k h=0)(w x y z:Int):0<=(Rv.ox g l k h w x y z).1/\(Rv.ox g l k h w x y z).1<=12:=by
 have b:=Br a w x;unfold Rv.ox;repeat' split
 all_goals first|exact b|(simp[Rv.zr];done)
theorem vT:yP.length<=60000:=by decide
theorem aaw(w:Nat)(o:AV):LJ (GF w o):=λT a=>⟨⟨(NF a w o).1,oJ (NF a w o).2 (by decide)⟩,vT⟩
theorem NM(s:Tx)(h:s.length<=10000):(p_ s).length<=60000:=by
 unfold p_;split;·decide
 ·have :=xX s;omega
theorem aax(w:Nat)(n:Tx)(a:Nat):LJ (Xe w n a):=λT b=>⟨⟨(NG b w n a).1,oJ (NG b w n a).2 (by decide)⟩,NM _ (b6 (LK b w n a) (by decide))⟩
theorem YL(w x y:Nat):LJ (Jo w x y):=λT a=>⟨⟨(NH a.rv w x y).1,oJ (NH a.rv w x y).2 (by decide)⟩,vT⟩
theorem YM(w x y:Nat):LJ (Jp w x y):=λT a=>⟨⟨(NI a.rv w x y).1,oJ (NI a.rv w x y).2 (by decide)⟩,vT⟩
theorem YN(w x y:Nat):LJ (Jq w x y):=λT a=>⟨⟨(NJ a.rv w x y).1,oJ (NJ a.rv w x y).2 (by decide)⟩,vT⟩
theorem YO(w x:Nat):LJ (Jr w x):=λT a=>⟨⟨(NK a.rv w x).1,oJ (NK a.rv w x).2 (by decide)⟩,vT⟩
theorem YP(w x y z:Nat):LJ (Js w x y z):=λT a=>⟨⟨(NL a.rv w x y z).1,oJ (NL a.rv w x y z).2 (by decide)⟩,vT⟩
theorem YQ(n:Nat):LJ (Jt n):=λT b=>by have h:=(pT T n).2;refine⟨⟨pk _,(by decide:(0:Int)<=1000)⟩,b6 (vS [(xn T n).2.1.toNat] (λm a=>?_)) (by simp)⟩;simp only[bD]at a;omega
theorem YR:LJ Ju:=λT a=>by
 obtain⟨c,d,_⟩:=lj a.st;have b:=gQ d;have e:=Bp.lr c;obtain⟨k,f,l,m,o,p⟩:=Rv.gq a.rv;have q:T.2.1.2.2.2<=7:=by
  rcases(C_ a.rv).2.2 with⟨_,h⟩|⟨_,h,_⟩|⟨_,_,_,h⟩;·omega
  ·omega
  ·exact(yr f h).2
 refine⟨⟨pk _,(by decide:(0:Int)<=1000)⟩,?_⟩;show(dL _++T.1.2.flatMap pK).length<=60000;have g:=vS [T.1.1.length,T.2.1.1.toNat,T.2.1.2.2.1.toNat,T.2.1.2.2.2.toNat] (λn i=>by simp only[aV,cH,fK]at i;omega);have j:=yw b.2 T.1.2.length;rw[sH]at j;rw[aG];simp only[aM,bM]at g;omega
def OkP(o:Option (Nat×(TG->iP))):Prop:=∀n F,o=some (n,F)->LJ F
theorem Jw:OkP none:=λ_ _ h=>by cases h
theorem jA{n:Nat}{F:TG->iP}(h:LJ F):OkP (some (n,F)):=λ_ _ e=>by cases e;exact h
theorem Jy{α:Type}{o:Option α}{f:α->Option (Nat×(TG->iP))}(h:∀a,OkP (f a)):OkP (o.bind f):=by cases o with|none=>exact Jw|some a=>exact h a
theorem okT(ws:List Tx):OkP (Df ws):=by
 unfold Df nE iQ;repeat' split
 all_goals repeat'(refine Jy λ_=>?_)
 all_goals first|exact Jw|exact jA (aaw _ _)|exact jA (aax _ _ _)|exact jA (YL _ _ _)|exact jA (YM _ _ _)|exact jA (YN _ _ _)|exact jA (YO _ _)|exact jA (YP _ _ _ _)|exact jA (YQ _)|exact jA YR
end Go.X.Dk
namespace Go.X.Rb
open Go.X.Pol
def dv(d a:Nat):Prop:=∃c,a=cP c d
theorem vU(d:Nat):dv d 0:=⟨0,(dX d).symm⟩
theorem vV(d:Nat):dv d d:=⟨1,(kB d).symm⟩
theorem yy{a b c:Nat}(h:dv a b)(d:dv b c):dv a c:=by obtain⟨x,rfl⟩:=h;obtain⟨y,rfl⟩:=d;exact⟨cP y x,(eM y x a).symm⟩
theorem rD{d a b:Nat}(h:dv d a)(c:dv d b):dv d (a^^^b):=by obtain⟨x,rfl⟩:=h;obtain⟨y,rfl⟩:=c;exact⟨x^^^y,(h_ x y d).symm⟩
theorem rE{d a:Nat}(b:Nat)(h:dv d a):dv d (cP b a):=by obtain⟨x,rfl⟩:=h;exact⟨cP b x,(eM b x d).symm⟩
theorem Bt{d a:Nat}(b:Nat)(h:dv d a):dv d (cP a b):=by rw[jR];exact rE b h
theorem l0(a b:Nat):a^^^(a^^^b)=b:=by rw[<-kN,yM,jD]
theorem Di(a b:Nat):(b^^^a)^^^a=b:=by rw[kN,yM,nG]
theorem Fj{d a b:Nat}(h:dv d (a^^^b))(c:dv d a):dv d b:=by have :=rD c h;rwa[l0]at this
theorem Fk{d a:Nat}(h:dv d a)(b:a≠0):sz d<=sz a:=by obtain⟨c,rfl⟩:=h;have f:c≠0:=λe=>b (by rw[e,dX]);have g:d≠0:=λe=>b (by rw[e,fD]);have :=s8 f g;have :=iL.2 f;omega
theorem pL{d a:Nat}(b:d≠0):dv d a↔dx a d=0:=by
 constructor;·rintro⟨c,rfl⟩;have :=Cs (q:=c) (x:=0) b;rw[nG]at this;rw[this];exact om (by rw[vF];exact iL.2 b)
 ·intro h;have :=(kV (a:=a) b).1;rw[h,nG]at this;exact⟨_,this⟩
theorem AD{d a:Nat}(b:d≠0):dv d (a^^^dx a d):=by
 have :=(kV (a:=a) b).1;refine⟨nA a d,?_⟩;conv=>lhs;lhs;rw[this]
 exact Di _ _
theorem GI{d a b:Nat}(c:d≠0):dx a d=dx b d↔dv d (a^^^b):=by
 rw[pL c,uV c];constructor;·intro h;rw[h,yM]
 ·intro h;exact oP h
def Bu(q:Nat):Prop:=2<=q/\∀d,dv d q->d=1\/d=q
theorem mM{q:Nat}(h:2<=q):2<=sz q:=(xY (k:=1)).2 h
theorem SE:∀(n a b:Nat),sz b<=n->∃u v g,cP u a^^^cP v b=g/\dv g a/\dv g b|n,a,b,h=>by
                                                                          by_cases c:b=0;·subst c;exact⟨1,0,a,by rw[kB,dX,nG],vV a,vU a⟩
                                                                          ·obtain⟨d,j⟩:=kV (a:=a) c;match n,h with
                                                                            |0,h=>have :=iL.2 c;omega
                                                                            |n+1,h=>
                                                                             obtain⟨u,v,g,e,f,i⟩:=SE n b (dx a b) (by omega);refine⟨v,u^^^cP v (nA a b),g,?_,?_,f⟩
                                                                             ·rw[<-e];conv=>lhs;lhs;rw[d]
                                                                              rw[fB,h_,eM];rw[jL (cP u b),<-kN,jL (cP v (cP (nA a b) b)),Di,jL]
                                                                             ·rw[d];exact rD (rE _ f) i
theorem Dj{q a b:Nat}(c:Bu q)(h:dv q (cP a b)):dv q a\/dv q b:=by
 obtain⟨u,v,g,e,d,f⟩:=SE (sz q) a q (bc _);rcases c.2 g f with rfl|rfl
 ·right;have i:cP u (cP a b)^^^cP v (cP q b)=b:=by rw[<-eM,<-eM,<-h_,e,kB]
  rw[<-i];exact rD (rE u h) (rE v (Bt b (vV q)))
 ·exact .inl d
/-!### how many roots -/
def ev:List Nat->Nat->Nat|[],_=>0|c::r,b=>c^^^cP b (ev r b)
def gd(a:Nat):List Nat->List Nat|[]=>[]|[_]=>[]|_::c::r=>ev (c::r) a::gd a (c::r)
theorem Xi(a b:Nat):∀p:List Nat,ev p b^^^ev p a=cP (b^^^a) (ev (gd a p) b)
 |[]=>by simp[ev,gd,fD]
 |[c]=>by simp[ev,gd,fD]
 |c::d::r=>by
  have f:=Xi a b (d::r);generalize g:d::r=p at f;have e:gd a (c::p)=ev p a::gd a p:=by rw[<-g];rfl
  rw[e];simp only[ev];generalize ev (gd a p) b=G at*;have h:cP (b^^^a) (ev p a^^^cP b G)=cP (b^^^a) (ev p a)^^^cP b (cP (b^^^a) G):=by rw[fB,<-eM,jR (b^^^a) b,eM]
  rw[h,<-f,h_,fB];rw[show(c^^^cP b (ev p b))^^^(c^^^cP a (ev p a))=cP b (ev p b)^^^cP a (ev p a)by rw[jL c (cP b (ev p b)),kN,l0]];rw[jL (cP b (ev p a)),kN,jL (cP b (ev p b)) (cP b (ev p a)),l0,jL]
theorem SF(a:Nat):∀p:List Nat,(gd a p).length=p.length-1|[]=>rfl|[_]=>rfl|_::c::r=>by have :=SF a (c::r);simp only[gd,aM]at this⊢;omega
theorem NN(a:Nat):∀p:List Nat,2<=p.length->(gd a p).getLast?=p.getLast?|[],h=>by simp at h|[_],h=>by simp at h|[c,b],_=>by simp[gd,ev,fD]|c::b::d::r,_=>by have f:=NN a (b::d::r) (by simp);rw[show gd a (c::b::d::r)=ev (b::d::r) a::gd a (b::d::r)from rfl];obtain⟨y,e⟩:∃y,(b::d::r).getLast?=some y:=⟨_,List.getLast?_eq_some_getLast (by simp)⟩;rw[List.getLast?_cons,f,e,List.getLast?_cons_cons,e];rfl
theorem Xj{q:Nat}(j:Bu q):∀(N:Nat)(p:List Nat)(c:Nat),p.length=N+1->p.getLast?=some c->¬dv q c->∀L:List Nat,L.Pairwise (λa b=>¬dv q (b^^^a))->(∀a∈L,dv q (ev p a))->L.length<=N|N,p,c,g,d,e,[],_,_=>bJ _|0,p,c,g,d,e,a::L,_,f=>by obtain⟨x,rfl⟩:=List.length_eq_one_iff.1 g;simp only[List.getLast?_singleton,aO]at d;subst d;have :=f a (by simp);simp only[ev,fD,nG]at this;exact(e this).elim|N+1,p,c,g,d,e,a::L,m,f=>by obtain⟨h,i⟩:=dt.1 m;have :=Xj j N (gd a p) c (by rw[SF];omega) (by rw[NN a p (by omega)];exact d) e L i (λb k=>by have l:=rD (f b (bm _ k)) (f a bn);rw[Xi]at l;exact(Dj j l).resolve_left (h b k));simpa using this
/-!### squares -/
def fr:Nat->Nat->Nat|0,a=>a|r+1,a=>cP (fr r a) (fr r a)
theorem YS(a b:Nat):cP (a^^^b) (a^^^b)=cP a a^^^cP b b:=by rw[h_,fB,fB,jR b a,kN,l0]
theorem LM:∀(r a b:Nat),fr r (a^^^b)=fr r a^^^fr r b|0,_,_=>rfl|r+1,a,b=>by simp only[fr];rw[LM r,YS]
theorem SG:∀(r a b:Nat),fr r (cP a b)=cP (fr r a) (fr r b)|0,_,_=>rfl|r+1,a,b=>by simp only[fr];rw[SG r,eM,eM,<-eM (fr r b),jR (fr r b),eM]
theorem SH:∀r,fr r 1=1|0=>rfl|r+1=>by simp only[fr];rw[SH r,kB]
theorem GJ:∀r,fr r 0=0|0=>rfl|r+1=>by simp only[fr];rw[GJ r,dX]
theorem SI:∀(s r a:Nat),fr (r+s) a=fr s (fr r a)|0,_,_=>rfl|s+1,r,a=>by show cP (fr (r+s) a) (fr (r+s) a)=_;rw[SI s r a];rfl
theorem SJ{q a:Nat}:∀r,dv q a->dv q (fr r a)|0,h=>h|r+1,h=>rE _ (SJ r h)
theorem Pc(a:Nat):cP 2 a=2*a:=by have :=Cr 1 a;rw[kB]at this;exact this
theorem YT{q r:Nat}(h:dv q (fr r 2^^^2)):∀a,dv q (fr r a^^^a):=by
 apply uU;·rw[GJ];exact vU q
 ·intro a _ b;have e:a=a%2^^^cP 2 (a/2):=by rw[Pc];exact F6 a
  have c:fr r (a%2)=a%2:=by
   rcases Nat.mod_two_eq_zero_or_one a with h|h<;>rw[h];·exact GJ r
   ·exact SH r
  have d:fr r a^^^a=cP (fr r 2) (fr r (a/2)^^^a/2)^^^cP (fr r 2^^^2) (a/2):=by
   conv=>lhs;rw[e,LM,SG,c]
   rw[fB,h_];rw[show(a%2^^^cP (fr r 2) (fr r (a/2)))^^^(a%2^^^cP 2 (a/2))=cP (fr r 2) (fr r (a/2))^^^cP 2 (a/2)by rw[jL (a%2),kN,l0]];rw[kN,l0]
  rw[d];exact rD (rE _ b) (Bt _ h)
def pp(a:Nat):Nat->Nat|0=>1|n+1=>cP a (pp a n)
theorem SK(a n:Nat):∀m,pp a (m+n)=cP (pp a m) (pp a n)|0=>by rw[b7,pp,kB]|m+1=>by rw[show m+1+n=(m+n)+1 by omega,pp,SK a n m,pp,eM]
theorem SL(a:Nat):∀r,pp a (2^r)=fr r a|0=>by simp[pp,fr,kC]|r+1=>by rw[eK,Nat.mul_two,SK,SL a r];rfl
theorem SM(b:Nat):∀k,ev (bg k 0++[1]) b=pp b k|0=>by simp[ev,pp,fD]|k+1=>by rw[List.replicate_succ,gW,ev,SM b k,pp,jD]
theorem zO{q a d:Nat}(e:sz q=d+1)(b:a≠0)(h:a<2^d):¬dv q a:=λc=>by have :=Fk c b;have :=fA.2 h;omega
theorem SN{a b d:Nat}(c:a<2^d)(e:b<2^d):a^^^b<2^d:=TL c e
theorem aay{q d r:Nat}(g:Bu q)(k:sz q=d+1)(l:1<=r)(h:dv q (fr r 2^^^2)):d<=r:=by
 have t:2<=2^r:=by have :=ew (n:=2) (by omega) l;simpa using this
 have b:=Xj g (2^r) (0::1::(bg (2^r-2) 0++[1])) 1 (by simp;omega) (by show((0::1::bg (2^r-2) 0)++[1]).getLast?=some 1;rw[List.getLast?_append];rfl) (λm=>by
  have :=Fk m (by omega);have c:Bu q:=g;have :=mM c.1;have u:sz 1=1:=by decide
  omega) (sE (2^d)) ?_ ?_
 ·rw[List.length_range]at b;rcases bR r d with f|f;·have :=Nat.pow_lt_pow_right (a:=2) (by omega) f;omega
  ·exact f
 ·rw[iI];intro i j o p s;simp only[List.length_range,List.getElem_range]at*;exact zO k (λe=>by have :=oP e;omega) (SN (by simpa using p) (by simpa using o))
 ·intro a _;have e:ev (0::1::(bg (2^r-2) 0++[1])) a=fr r a^^^a:=by rw[ev,ev,SM,jD,fB,kC,<-SL];rw[show 2^r=(2^r-2)+1+1 by omega];simp only[pp];rw[show 2^r-2+1+1-2=2^r-2 by omega,jL]
  rw[e];exact YT h a
/-!### Fermat -/
def mv:List Nat->Nat|[]=>1|a::l=>cP a (mv l)
theorem AE:∀{l:List Nat}{a:Nat},a∈l->mv l=cP a (mv (l.erase a))|b::l,a,h=>by
                                                                by_cases e:b=a;·subst e;simp[mv]
                                                                ·have c:a∈l:=by
                                                                  rcases aV.1 h with h|h;·exact(e h.symm).elim
                                                                  ·exact h
                                                                 rw[List.erase_cons_tail (by simpa using e),mv,mv,AE c,<-eM,jR b a,eM]
theorem Fl:∀{c l:List Nat},c.Nodup->(∀a∈c,a∈l)->c.length=l.length->mv c=mv l
 |[],l,_,_,h=>by have :l=[]:=e_.1 h.symm;rw[this]
 |a::t,l,j,f,h=>by
  obtain⟨d,e⟩:=gK.1 j;have g:=f a bn;have k:∀b∈t,b∈l.erase a:=λb i=>(List.mem_erase_of_ne (by rintro rfl;exact d i)).2 (f b (bm _ i));have m:t.length=(l.erase a).length:=by rw[List.length_erase_of_mem g,<-h];simp
  rw[AE g,mv,Fl e k m]
theorem Fm{q:Nat}(b:q≠0):∀l:List Nat,dv q (mv (l.map λa=>dx (cP 2 a) q)^^^cP (pp 2 l.length) (mv l))
 |[]=>by simp[mv,pp,kB];exact vU q
 |a::l=>by
  have c:=Fm b l;simp only[ca,mv,aM,pp];generalize mv (l.map λa=>dx (cP 2 a) q)=X at*;generalize mv l=Y at*;generalize pp 2 l.length=Z at*;have e:cP (dx (cP 2 a) q) X^^^cP (cP 2 Z) (cP a Y)=cP (cP 2 a^^^dx (cP 2 a) q) X^^^cP (cP 2 a) (X^^^cP Z Y):=by rw[h_,fB];rw[show cP (cP 2 Z) (cP a Y)=cP (cP 2 a) (cP Z Y)by rw[eM,eM,<-eM Z,jR Z a,eM]];rw[jL (cP (cP 2 a) X),kN,l0]
  rw[e];exact rD (Bt _ (AD b)) (rE _ c)
theorem Fo{q:Nat}(c:Bu q):∀l:List Nat,(∀a∈l,¬dv q a)->¬dv q (mv l)
 |[],_,h=>by
  have :=Fk h (by simp[mv]);have :=mM c.1;have f:sz 1=1:=by decide
  simp only[mv]at*;omega
 |a::l,d,h=>by
  rcases Dj c h with h|h;·exact d a bn h
  ·exact Fo c l (λb e=>d b (bm _ e)) h
theorem SO{q d:Nat}(k:Bu q)(u:sz q=d+1):dv q (fr d 2^^^2):=by
 have f:q≠0:=by have :=k.1;omega
 by_cases o:dv q 2;·exact rD (SJ d o) o
 ·have A:=lI d;let R:=(sE (2^d-1)).map (·+1);have l:∀a,a∈R↔a≠0/\a<2^d:=λa=>by
   simp only[R,dq,List.mem_range];constructor;·rintro⟨b,v,rfl⟩;omega
   ·intro h;exact⟨a-1,by omega,by omega⟩
  have p:R.length=2^d-1:=by simp[R]
  have r:R.Nodup:=by simp only[R];rw[Hb,kO];exact List.Pairwise.imp (λh e=>h (by omega)) (List.nodup_range (n:=2^d-1))
  have g:∀a∈R,¬dv q a:=λa j=>zO u ((l a).1 j).1 ((l a).1 j).2;have i:mv (R.map λa=>dx (cP 2 a) q)=mv R:=by
   refine Fl ?_ ?_ (by simp)
   ·rw[Hb,kO];refine List.Pairwise.imp_of_mem (λ{a b}j v s e=>s ?_) r;have m:=(GI f).1 e;rw[<-fB]at m;have t:=(Dj k m).resolve_left o;by_cases w:a^^^b=0;·exact oP w
    ·exact(zO u w (SN ((l a).1 j).2 ((l b).1 v).2) t).elim
   ·intro c y;obtain⟨a,j,rfl⟩:=dq.1 y;refine(l _).2 ⟨λe=>?_,?_⟩
    ·rcases Dj k ((pL f).2 e)with h|h;·exact o h
     ·exact g a j h
    ·have :=(kV (a:=cP 2 a) f).2;exact fA.1 (by omega)
  have m:=Fm f R;rw[i,p]at m;have t:dv q (cP (1^^^pp 2 (2^d-1)) (mv R)):=by rw[h_,kB];exact m
  have z:=(Dj k t).resolve_right (Fo k R g);have x:=rE 2 z;rw[fB,kC,show cP 2 (pp 2 (2^d-1))=pp 2 (2^d-1+1)from rfl,show 2^d-1+1=2^d by omega,SL,jL]at x;exact x
end Go.X.Rb
namespace Go.X.Rb
open Go.X.Pol Go.X.Pl
theorem YU{q:Nat}(h:Bu q):2<=sz q:=mM h.1
theorem rF{d m:Nat}(f:2<=m)(h:dv d m)(j:d≠1)(g:d≠m):2<=d/\∃c,m=cP c d/\2<=c/\sz c+sz d=sz m+1:=by
 obtain⟨c,rfl⟩:=h;have a:c≠0:=λe=>by rw[e,dX]at f;omega
 have b:d≠0:=λe=>by rw[e,fD]at f;omega
 have i:c≠1:=λe=>g (by rw[e,kB]);exact⟨by omega,c,rfl,by omega,(s8 a b).symm⟩
theorem Dl:∀(n m:Nat),sz m<=n->2<=m->∃q,Bu q/\dv q m
 |0,m,h,b=>by have :=mM b;omega
 |n+1,m,h,b=>by
  by_cases i:Bu m;·exact⟨m,i,vV m⟩
  ·obtain⟨d,f,k,l⟩:∃d,dv d m/\d≠1/\d≠m:=by have o:¬∀d,dv d m->d=1\/d=m:=λh=>i ⟨b,h⟩;obtain⟨d,f⟩:=Hq.1 o;obtain⟨p,j⟩:=Mw.1 f;exact⟨d,p,λe=>j (.inl e),λe=>j (.inr e)⟩
   obtain⟨r,c,e,s,u⟩:=rF b f k l;have :=mM s;obtain⟨q,t,g⟩:=Dl n d (by omega) r;exact⟨q,t,yy g f⟩
theorem zP:∀(f a b:Nat),sz b<=f->dv (qe f a b) a/\dv (qe f a b) b/\∀c,dv c a->dv c b->dv c (qe f a b)
 |0,a,b,h=>by
  have d:b=0:=kx λe=>by have :=iL.2 e;omega
  subst d;exact⟨vV a,vU a,λc h _=>h⟩
 |f+1,a,b,h=>by
  simp only[qe];split;·rename_i d;subst d;exact⟨vV a,vU a,λc h _=>h⟩
  ·rename_i d;obtain⟨g,o⟩:=kV (a:=a) d;obtain⟨i,k,l⟩:=zP f b (dx a b) (by omega);refine⟨?_,i,λc m j=>l c j ?_⟩;·have :=rD (rE (nA a b) i) k;rwa[<-g]at this
   ·have n:dv c (cP (nA a b) b^^^dx a b):=by rw[<-g];exact m
    exact Fj n (rE _ j)
def Ub(n:Nat):Bool:=aU (1<n)&&(sE n).all λd=>aU (d<2)||(aU (n<d*d)||aU (n%d≠0))
theorem YV:∀k,k<31->2<=k->∃p,p<31/\2<=p/\k%p=0/\Ub p=true:=by decide+kernel
theorem GK{q d s:Nat}(h:dv q (fr d 2^^^2)):∀k,dv q (fr (d*k+s) 2^^^fr s 2)
 |0=>by rw[Nat.mul_zero,b7,yM];exact vU q
 |k+1=>by
  have b:=GK (s:=s) h k;rw[show d*(k+1)+s=d+(d*k+s)by rw[Nat.mul_succ];omega,SI];have c:dv q (fr (d*k+s) (fr d 2)^^^fr (d*k+s) 2):=by rw[<-LM];exact SJ _ h
  have a:=rD c b;rw[kN,l0]at a;exact a
theorem aaz{m n:Nat}(h:Bu m)(a:sz m=n+1):dx (fr n 2) m=dx 2 m:=(GI (by have :=h.1;omega)).2 (SO h a)
theorem aaA{m n p:Nat}(h:Bu m)(d:sz m=n+1)(k:2<=p)(f:p<=n):qe (sz m) (dx (fr (n/p) 2) m^^^dx 2 m) m=1:=by
 have a:m≠0:=by have :=h.1;omega
 obtain⟨b,g,_⟩:=zP (sz m) (dx (fr (n/p) 2) m^^^dx 2 m) m (bc _);rcases h.2 _ g with e|e;·exact e
 ·rw[e,<-uV a]at b;have c:=(pL a).1 b;rw[QZ a]at c;have i:=(pL a).2 c;have j:1<=n/p:=(Nat.le_div_iff_mul_le (by omega)).2 (by omega);have l:=aay h d j i;have o:n/p<n:=Nat.div_lt_self (by omega) (by omega);omega
theorem YW{m n:Nat}(C:2<=m)(D:sz m=n+1)(H:n<=30)(I:dx (fr n 2) m=dx 2 m)(J:∀p,2<=p->p<=n->n%p=0->Ub p=true->qe (sz m) (dx (fr (n/p) 2) m^^^dx 2 m) m=1):Bu m:=by
 refine kx λK=>?_;have b:m≠0:=by omega
 obtain⟨q,l,f,L⟩:∃q,Bu q/\dv q m/\sz q<sz m:=by
  obtain⟨d,g,E,M⟩:∃d,dv d m/\d≠1/\d≠m:=by have D:¬∀d,dv d m->d=1\/d=m:=λh=>K ⟨C,h⟩;obtain⟨d,g⟩:=Hq.1 D;obtain⟨i,o⟩:=Mw.1 g;exact⟨d,i,λe=>o (.inl e),λe=>o (.inr e)⟩
  obtain⟨N,c,e,O,V⟩:=rF C g E M;have :=mM O;obtain⟨q,l,r⟩:=Dl (sz d) d (bc _) N;have :=Fk r (by omega);exact⟨q,l,yy r g,by omega⟩
 have P:=YU l;obtain⟨d,g⟩:∃d,sz q=d+1:=⟨sz q-1,by omega⟩;have F:=SO l g;have v:=yy f ((GI b).1 I);have W:n%d=0:=by refine kx λX=>?_;have t:=GK (s:=n%d) F (n/d);rw[J5]at t;have i:=rD t v;rw[jL (fr n 2),kN,l0]at i;have o:=aay l g (by omega) i;have w:=Af n (show 0<d by omega);omega
 obtain⟨k,G⟩:∃k,n=d*k:=⟨n/d,by have :=J5 n d;omega⟩;have x:2<=k:=by
  rcases bR k 2 with h|h
  ·have :k=0\/k=1:=by omega
   rcases this with rfl|rfl;·omega
   ·omega
  ·exact h
 have Q:k<=n:=by rw[G];exact Nat.le_mul_of_pos_left k (by omega)
 obtain⟨p,_,R,S,y⟩:=YV k (by omega) x;obtain⟨j,z⟩:∃j,k=p*j:=⟨k/p,by have :=J5 k p;omega⟩;have A:0<j:=Nat.pos_of_ne_zero λe=>by rw[e]at z;omega
 have T:p<=k:=by rw[z];exact Nat.le_mul_of_pos_right p A
 have u:n=p*(d*j):=by rw[G,z,<-Nat.mul_assoc,o8 d p,Nat.mul_assoc]
 have B:n/p=d*j:=by rw[u];exact PU _ (by omega)
 have t:=GK (s:=0) F j;rw[eJ,<-B]at t;have i:=J p R (by omega) (by rw[u];exact Nat.mul_mod_right _ _) y;obtain⟨_,_,U⟩:=zP (sz m) (dx (fr (n/p) 2) m^^^dx 2 m) m (bc _);have o:dv q (dx (fr (n/p) 2) m^^^dx 2 m):=by rw[<-uV b];have :=AD (a:=fr (n/p) 2^^^2) b;exact Fj (yy f this) t
 have w:=U q o f;rw[i]at w;have :=Fk w (by omega);have E:sz 1=1:=by decide
 omega
theorem SP{m:Nat}(h:m<2):¬Bu m:=λa=>by have :=a.1;omega
noncomputable def Uc(m:Nat):Bool:=@aU (Bu m) (mR _)
theorem yz{m:Nat}(h:Bu m):Uc m=true:=by unfold Uc;exact@cy _ (mR _) h
theorem sB{m:Nat}(h:¬Bu m):Uc m=false:=by unfold Uc;exact@bI _ (mR _) h
theorem NO{m:Nat}:Uc m=true↔Bu m:=by unfold Uc;exact@decide_eq_true_iff _ (mR _)
end Go.X.Rb
namespace Go.X.Rb
open Go Go.X Go.X.Pol Go.X.Pl Go.X.Rp Go.X.Md
theorem SQ{n:Nat}(h:∀d,2<=d->d*d<=n->n%d≠0):Ub n=aU (1<n):=by
 unfold Ub;rw[l7.2 (λd _=>?_),yI];simp only[ug,br];rcases bR d 2 with a|a;·exact .inl a
 ·rcases bR n (d*d)with b|b;·exact .inr (.inl b)
  ·exact .inr (.inr (h d a b))
theorem Pe{n d:Nat}(b:2<=d)(e:d*d<=n)(f:n%d=0):Ub n=false:=by
 cases a:Ub n with
  |false=>rfl
  |true=>
   unfold Ub at a;rw[ba]at a;have c:d<n:=by have :=il d b;omega
   have :=l7.1 a.2 d (List.mem_range.2 c);simp only[ug,br]at this;omega
theorem tmN(a b:Nat):(a:Int).tmod (b:Int)=((a%b:Nat):Int):=(Int.ofNat_tmod a b).symm
theorem tdN(a b:Nat):(a:Int).tdiv (b:Int)=((a/b:Nat):Int):=(Int.ofNat_tdiv a b).symm
theorem aaB(n:Nat)(M:Mem)(u:n<=30):Meets ab 167 [.v (.int .i64 (n:Int))] M λr _ _=>r=.v (.bool (Ub n)):=by
 refine aH [0,2,3,8,14] Proofs.Tryz.func167 rfl (by kernel_rfl) rfl λw=>?_;simp only[Proofs.Tryz.f167,zV,seval];refine bE (X:=Nat) (λd=>([(0,true,.v (.int .i64 (n:Int))),(3,true,.v (.int .i64 (d:Int)))],[],M)) (λd=>(2<=d/\d<=6)/\∀e,2<=e->e<d->n%e≠0) (λd=>6-d) 2 ⟨⟨by omega,by omega⟩,λe _ _=>by omega⟩ (aR ?_) ?_;·simp only[zV,seval]
 rintro d⟨⟨m,j⟩,k⟩;have c:(d:Int)*(d:Int)=((d*d:Nat):Int):=by simp
 have o:d*d<=36:=Mj j j;have f:cY .i64 ((d*d:Nat):Int):=⟨by simp only[lo];omega,by simp only[hi];omega⟩;have p:cY .i64 ((d:Int)+1):=⟨by simp only[lo];omega,by simp only[hi];omega⟩;by_cases q:d*d<=n
 ·have b:(((d*d:Nat):Int)<=(n:Int))=True:=aK (by omega);have s:d<=5:=by
   rcases bR 5 d with h|h;·have :=Mj (show 6<=d by omega) (show 6<=d by omega);omega
   ·exact h
  by_cases l:n%d=0;·have g:(((n%d:Nat):Int)=0)=True:=aK (by omega);rw[Pe m q l];simp only[zV,seval,c,f,b,tmN,g];omega
  ·have g:(((n%d:Nat):Int)=0)=False:=ax (by omega);simp only[zV,seval,c,f,p,b,tmN,g];refine⟨by omega,d+1,⟨⟨⟨by omega,by omega⟩,λe a i=>?_⟩,by omega⟩,aR ?_⟩
   ·rcases bR e d with h|h;·exact k e a h
    ·have :e=d:=by omega
     rw[this];exact l
   ·simp only[zV,seval,aJ]
 ·have b:(((d*d:Nat):Int)<=(n:Int))=False:=ax (by omega);rw[SQ (n:=n) (λe a i=>by
   rcases bR e d with h|h;·exact k e a h
   ·have :=Mj h h;omega)];have t:(1<(n:Int))=(1<n):=by apply propext;omega
  simp only[zV,seval,c,f,b,t]
theorem V2{m:Nat}(a:m≠0)(i:Nat):dx (cP (dx (fr i 2) m) (dx (fr i 2) m)) m=dx (fr (i+1) 2) m:=by rw[rr a,Ct a];rfl
theorem NP(n m:Nat)(M:Mem)(l:n<=1000)(c:m<=2147483647)(b:m≠0):Meets ab 166 [.v (.int .i64 (n:Int)),.v (.int .i64 (m:Int))] M λr _ _=>r=.v (.int .i64 ((dx (fr n 2) m:Nat):Int)):=by
 refine aH [0,1,4,5,12,13,14] Proofs.Tryz.func166 rfl (by kernel_rfl) rfl λw=>?_;have e:=Lb 2 1 m M (by omega) (by omega) c b;rw[kC]at e;simp only[Proofs.Tryz.f166,zV,seval];refine az ⟨rfl,rfl⟩ rfl e ?_;simp only[zV,seval];refine bE (X:=Nat×Nat) (λx=>([(1,true,.v (.int .i64 (m:Int))),(5,true,.v (.int .i64 ((dx (fr x.2 2) m:Nat):Int))),(12,true,.v (.int .i64 (n:Int))),(13,true,.v (.int .i64 (x.2:Int)))],[],M)) (λx=>x.1+x.2=n) (λx=>x.1) (n,0) rfl (aR ?_) ?_;·simp only[zV,seval,fr]
 rintro⟨f,i⟩j;simp only at j;by_cases o:i<n;·have d:((i:Int)<(n:Int))=True:=aK (by omega);have k:cY .i64 ((i:Int)+1):=⟨by simp only[X.lo];omega,by simp only[X.hi];omega⟩;have g:=vG (a:=fr i 2) b c;have h:=Lb (dx (fr i 2) m) (dx (fr i 2) m) m M g g c b;rw[V2 b]at h;simp only[zV,seval,d];refine az ⟨rfl,rfl⟩ rfl h ?_;simp only[zV,seval,k];refine⟨(f-1,i+1),⟨by simp only;omega,by simp only;omega⟩,aR ?_⟩;simp only[zV,seval,aJ]
 ·have d:((i:Int)<(n:Int))=False:=ax (by omega);have :i=n:=by omega
  simp only[zV,seval,d];rw[this]
theorem isP(m:Nat)(M:Mem)(b:m<=2147483647):Meets ab 113 [.v (.int .i64 (m:Int))] M λr _ _=>r=.v (.bool (Uc m)):=by
 refine aH [0,2,3,5,7,8,16,26,29,40,54] Proofs.Tryz.func113 rfl (by kernel_rfl) rfl λw=>?_;simp only[Proofs.Tryz.f113,zV,seval];refine az ⟨rfl,rfl⟩ rfl (Deg m M b) ?_;have f:=s9 b;by_cases C:m<2
 ·rw[sB (SP C)];have D:sz m<=1:=fA.2 (by omega);have l:((sz m:Nat):Int)-1<1:=by omega
  simp only[zV,seval,aK l]
 ·have D:=mM (q:=m) (by omega);obtain⟨n,i⟩:∃n,sz m=n+1:=⟨sz m-1,by omega⟩;have g:m≠0:=by omega
  have E:((sz m:Nat):Int)-1=(n:Int):=by omega
  have l:((n:Int)<1)=False:=ax (by omega);have z:=Lb 2 1 m M (by omega) (by omega) b g;rw[kC]at z;rw[i]at f;simp only[zV,seval,E,l];refine az ⟨rfl,rfl⟩ rfl z ?_;simp only[zV,seval];refine az ⟨rfl,rfl⟩ rfl (NP n m M (by omega) b g) ?_;have N:=vG (a:=2) g b;by_cases A:dx (fr n 2) m=dx 2 m
  ·have o:(((dx (fr n 2) m:Nat):Int)=((dx 2 m:Nat):Int))=True:=aK (by omega);simp only[zV,seval,o];refine bE (X:=Nat) (λp=>([(0,true,.v (.int .i64 (m:Int))),(3,true,.v (.int .i64 (n:Int))),(5,true,.v (.int .i64 ((dx 2 m:Nat):Int))),(7,true,.v (.int .i64 (p:Int)))],[],M)) (λp=>(2<=p/\p<=32)/\∀q,2<=q->q<p->n%q=0->Ub q=true->qe (sz m) (dx (fr (n/q) 2) m^^^dx 2 m) m=1) (λp=>33-p) 2 ⟨⟨by omega,by omega⟩,λq _ _=>by omega⟩ (aR ?_) ?_;·simp only[zV,seval]
   rintro p⟨⟨F,O⟩,j⟩;by_cases G:p<=n
   ·have k:((p:Int)<=(n:Int))=True:=aK (by omega);have s:cY .i64 ((p:Int)+1):=⟨by simp only[lo];omega,by simp only[hi];omega⟩;by_cases H:n%p=0
    ·have t:(0<((n%p:Nat):Int))=False:=ax (by omega);simp only[zV,seval,k,tmN,t];refine⟨by omega,az ⟨rfl,rfl⟩ rfl (aaB p M (by omega)) ?_⟩;cases I:Ub p with
      |false=>
       simp only[zV,seval,s];refine⟨p+1,⟨⟨⟨by omega,by omega⟩,λq c u d e=>?_⟩,by omega⟩,aR ?_⟩
       ·rcases bR q p with h|h;·exact j q c h d e
        ·have :q=p:=by omega
         rw[this,I]at e;cases e
       ·simp only[zV,seval,aJ]
      |true=>
       have J:n/p<=n:=v_ n p;have K:cY .i64 ((n/p:Nat):Int):=CB (by omega);have P:=vG (a:=fr (n/p) 2) g b;have L:dx (fr (n/p) 2) m^^^dx 2 m<2^31:=TL (by omega) (by omega);simp only[zV,seval,tdN,K];refine⟨by omega,az ⟨rfl,rfl⟩ rfl (NP (n/p) m M (by omega) b g) ?_⟩;simp only[zV,seval];refine⟨⟨⟨by omega,by simp only[hi];omega⟩,⟨by omega,by simp only[hi];omega⟩⟩,az ⟨rfl,rfl⟩ rfl (Gcd (dx (fr (n/p) 2) m^^^dx 2 m) m M (by omega) b) ?_⟩;by_cases B:qe (sz m) (dx (fr (n/p) 2) m^^^dx 2 m) m=1
       ·have x:(((qe (sz m) (dx (fr (n/p) 2) m^^^dx 2 m) m:Nat):Int)=1)=True:=aK (by omega);simp only[zV,seval,x,s];refine⟨p+1,⟨⟨⟨by omega,by omega⟩,λq c u d e=>?_⟩,by omega⟩,aR ?_⟩
        ·rcases bR q p with h|h;·exact j q c h d e
         ·have :q=p:=by omega
          rw[this];exact B
        ·simp only[zV,seval,aJ]
       ·have x:(((qe (sz m) (dx (fr (n/p) 2) m^^^dx 2 m) m:Nat):Int)=1)=False:=ax (by omega);rw[sB (λy=>B (aaA y i F G))];simp only[zV,seval,x]
    ·have t:(0<((n%p:Nat):Int))=True:=aK (by omega);simp only[zV,seval,k,tmN,t,s];refine⟨by omega,p+1,⟨⟨⟨by omega,by omega⟩,λq c u d e=>?_⟩,by omega⟩,aR ?_⟩
     ·rcases bR q p with h|h;·exact j q c h d e
      ·have :q=p:=by omega
       rw[this]at d;exact(H d).elim
     ·simp only[zV,seval,aJ]
   ·have k:((p:Int)<=(n:Int))=False:=ax (by omega);rw[yz (YW (by omega) i (by omega) A (λq c u=>j q c (by omega)))];simp only[zV,seval,k]
  ·have o:(((dx (fr n 2) m:Nat):Int)=((dx 2 m:Nat):Int))=False:=ax (by omega);rw[sB (λy=>A (aaz y i))];simp only[zV,seval,o]
def NextP(m v:Nat):Prop:=(v≠0/\m<=v/\v<=2147483647/\Bu v/\∀u,m<=u->u<v->¬Bu u)\/(v=0/\∀u,m<=u->u<=2147483647->¬Bu u)
theorem NextP.abx{m v a:Nat}(h:NextP m v)(i:NextP m a):v=a:=by
 rcases h with⟨d,b,j,e,k⟩|⟨d,b⟩<;>rcases i with⟨f,c,l,g,n⟩|⟨f,c⟩
 ·rcases Nat.lt_trichotomy v a with h|h|h;·exact(n v b h e).elim
  ·exact h
  ·exact(k a c h g).elim
 ·exact(c v b j e).elim
 ·exact(b a c l g).elim
 ·rw[d,f]
def Dm(v:Nat):Int:=if v=0 then 4 else 0
theorem aby(m:Nat)(M:Mem)(l:m<=2147483647):Meets ab 59 [.v (.int .i64 (m:Int))] M λr _ _=>∃v:Nat,r=.tup [.v (.int .i64 (v:Int)),.v (.int .i64 (Dm v))]/\NextP m v:=by
 refine aH [0,2,3,4,8,11,15] DT rfl (by kernel_rfl) rfl λw=>?_;have g:=xZ (m:Int) M;rw[Av (by omega)]at g;simp only[Mx,zV,seval];refine az ⟨rfl,rfl⟩ rfl g ?_;simp only[zV,seval];refine bE (X:=Nat) (λu=>([(0,true,.v (.int .i64 (u:Int)))],[],M)) (λu=>(m<=u/\u<=2147483648)/\∀x,m<=x->x<u->¬Bu x) (λu=>2147483649-u) m ⟨⟨by omega,by omega⟩,λx _ _=>by omega⟩ (aR ?_) ?_;·simp only[zV,seval]
 rintro u⟨⟨j,n⟩,c⟩;by_cases i:u<=2147483647
 ·have d:((u:Int)<=2147483647)=True:=aK (by omega);have k:cY .i64 ((u:Int)+1):=⟨by simp only[lo];omega,by simp only[hi];omega⟩;simp only[zV,seval,d];refine az ⟨rfl,rfl⟩ rfl (isP u M i) ?_;cases e:Uc u with
   |true=>have b:=NO.1 e;simp only[zV,seval];exact⟨u,by rw[Dm,ai (by have :=b.1;omega)],.inl ⟨by have :=b.1;omega,j,i,b,c⟩⟩
   |false=>
    simp only[zV,seval,k];refine⟨u+1,⟨⟨⟨by omega,by omega⟩,λx a f=>?_⟩,by omega⟩,aR ?_⟩
    ·rcases bR x u with h|h;·exact c x a h
     ·have :x=u:=by omega
      rw[this];intro b;rw[yz b]at e;cases e
    ·simp only[zV,seval,aJ]
 ·have d:((u:Int)<=2147483647)=False:=ax (by omega);simp only[zV,seval,d];exact⟨0,rfl,.inr ⟨rfl,λx a f=>c x a (by omega)⟩⟩
theorem SR(m:Int)(M:Mem)(b:m<0\/2147483647<m):Meets ab 59 [.v (.int .i64 m)] M λr _ _=>r=.tup [.v (.int .i64 0),.v (.int .i64 1)]:=by refine aH [0,2,3,4,8,11,15] DT rfl (by kernel_rfl) rfl λw=>?_;have a:=xZ m M;rw[CA b]at a;simp only[Mx,zV,seval];refine az ⟨rfl,rfl⟩ rfl a ?_;simp only[zV,seval]
end Go.X.Rb
namespace Go.X.Rb
open Go Go.X Go.X.Pol Go.X.Pl Go.X.Rp Go.X.Md
theorem NQ{a b:Nat}(h:a<=b):sz a<=sz b:=fA.2 (Nat.lt_of_le_of_lt h (od b))
def LeastP(m v:Nat):Prop:=(v=m/\∀f,2<=f->2*sz f<=sz m+1->¬dv f m)\/(2<=v/\2*sz v<=sz m+1/\dv v m/\∀f,2<=f->f<v->¬dv f m)
theorem LeastP.abz{m v a:Nat}(h:LeastP m v)(i:LeastP m a):v=a:=by
 rcases h with⟨b,d⟩|⟨b,d,f,j⟩<;>rcases i with⟨c,e⟩|⟨c,e,g,k⟩;·rw[b,c]
 ·exact(d a c e g).elim
 ·exact(e v b d f).elim
 ·rcases Nat.lt_trichotomy v a with h|h|h;·exact(k v b h f).elim
  ·exact h
  ·exact(j a c h g).elim
theorem LeastP.two{m v:Nat}(h:LeastP m v)(b:2<=m):2<=v/\dv v m:=by
 rcases h with⟨a,c⟩|⟨a,c,d,e⟩;·rw[a];exact⟨b,vV m⟩
 ·exact⟨a,d⟩
theorem LeastP.irr{m v:Nat}(h:LeastP m v)(b:2<=m):v=m↔Bu m:=by
 constructor
 ·intro e;rcases h with⟨_,a⟩|⟨f,a,g,p⟩
  ·refine⟨b,λd i=>kx λj=>?_⟩;obtain⟨k,c,l,n,q⟩:=rF b i (λe=>j (.inl e)) (λe=>j (.inr e));by_cases r:sz d<=sz c;·exact a d k (by omega) i
   ·exact a c n (by omega) ⟨d,by rw[jR];exact l⟩
  ·have :=mM b;rw[e]at a;omega
 ·intro o;rcases h with⟨f,_⟩|⟨f,a,g,_⟩;·exact f
  ·rcases o.2 v g with e|e;·omega
   ·exact e
theorem V3(x:Nat)(M:Mem)(a:x<18446744073709551616):Meets ab 136 [.v (.int .u64 (x:Int))] M λr _ _=>r=.v (.int .i64 ((sz x:Nat):Int)):=by refine aH [0,2] Proofs.Tryz.func136 rfl (by kernel_rfl) rfl λw=>?_;simp only[Proofs.Tryz.f136,zV,seval,uw a];refine az ⟨rfl,rfl⟩ rfl (Q5 x M a) ?_;simp only[zV,seval]
theorem aaC(f m:Nat)(M:Mem)(p:2<=f)(d:f<=2147483647)(q:m<=2147483647):Meets ab 137 [.v (.int .i64 (f:Int)),.v (.int .i64 (m:Int))] M λr _ _=>r=.v (.bool (aU (dx m f=0))):=by
 refine aH [0,1,4,5,6,15] Proofs.Tryz.func137 rfl (by kernel_rfl) rfl λw=>?_;have b:f≠0:=by omega
 have s:=mM p;have n:=s9 d;generalize t:dx m f=c;simp only[Proofs.Tryz.f137,zV,seval,uw (show f<18446744073709551616 by omega)];refine⟨(λh=>by cases h),az ⟨rfl,rfl⟩ rfl (V3 f M (by omega)) ?_⟩;simp only[zV,seval];refine bE (X:=Nat) (λx=>([(0,true,.v (.int .i64 (f:Int))),(1,true,.v (.int .i64 (x:Int))),(5,true,.v (.int .i64 ((sz f:Nat):Int)))],[],M)) (λx=>x<=2147483647/\dx x f=c) (λx=>sz x) m ⟨q,t⟩ (aR ?_) ?_;·simp only[zV,seval]
 rintro x⟨u,e⟩;have y:=s9 u;simp only[zV,seval,uw (show x<18446744073709551616 by omega)];refine⟨(λh=>by cases h),az ⟨rfl,rfl⟩ rfl (V3 x M (by omega)) ?_⟩;by_cases z:sz x<sz f
 ·have g:(((sz x:Nat):Int)<((sz f:Nat):Int))=True:=aK (by omega);rw[om z]at e;subst e;have A:((x:Int)=0)=(x=0):=by apply propext;omega
  simp only[zV,seval,g,A]
 ·have g:(((sz x:Nat):Int)<((sz f:Nat):Int))=False:=ax (by omega);have B:((sz x:Nat):Int)-((sz f:Nat):Int)=((sz x-sz f:Nat):Int):=by omega
  have C:cY .i64 ((sz x-sz f:Nat):Int):=CB (by omega);have i:=Be b (a:=x) (by omega);have D:=wO (k:=sz x-sz f) b;have j:f*2^(sz x-sz f)<2^31:=fA.1 (by omega);have o:x^^^f*2^(sz x-sz f)<2^31:=TL (by omega) j;have l:dx (x^^^f*2^(sz x-sz f)) f=c:=by rw[<-oh f (sz x-sz f),jL,Cs b];exact e
  have E:cY .i64 ((f*2^(sz x-sz f):Nat):Int):=CB (by omega);simp only[zV,seval,g,B,C,mw,E];refine⟨⟨by omega,by rw[X9];omega⟩,⟨⟨by omega,by simp only[hi];omega⟩,⟨by omega,by simp only[hi];omega⟩⟩,x^^^f*2^(sz x-sz f),⟨⟨by omega,l⟩,i⟩,aR ?_⟩;simp only[zV,seval]
theorem Xk(m:Nat)(M:Mem)(u:2<=m)(i:m<=2147483647):Meets ab 79 [.v (.int .i64 (m:Int))] M λr _ _=>∃v:Nat,r=.v (.int .i64 (v:Int))/\LeastP m v:=by
 refine aH [0,2,3,12,17] Proofs.Tryz.func79 rfl (by kernel_rfl) rfl λw=>?_;have n:=s9 i;simp only[Proofs.Tryz.f79,zV,seval];refine bE (X:=Nat) (λf=>([(0,true,.v (.int .i64 (m:Int))),(3,true,.v (.int .i64 (f:Int)))],[],M)) (λf=>(2<=f/\f<=65536)/\∀g,2<=g->g<f->¬dv g m) (λf=>65537-f) 2 ⟨⟨by omega,by omega⟩,λg _ _=>by omega⟩ (aR ?_) ?_;·simp only[zV,seval]
 rintro f⟨⟨j,x⟩,b⟩;have o:sz f<=17:=fA.2 (by omega);simp only[zV,seval,uw (show f<18446744073709551616 by omega)];refine⟨(λh=>by cases h),az ⟨rfl,rfl⟩ rfl (V3 f M (by omega)) ?_⟩;simp only[zV,seval,uw (show m<18446744073709551616 by omega)];have p:cY .i64 (2*((sz f:Nat):Int)):=⟨by simp only[lo];omega,by simp only[hi];omega⟩;have k:cY .i64 (((sz m:Nat):Int)+1):=⟨by simp only[lo];omega,by simp only[hi];omega⟩;refine⟨p,(λh=>by cases h),az ⟨rfl,rfl⟩ rfl (V3 m M (by omega)) ?_⟩;by_cases q:2*sz f<=sz m+1
 ·have c:(2*((sz f:Nat):Int)<=((sz m:Nat):Int)+1)=True:=aK (by omega);have l:f<65536:=fA.1 (show sz f<=16 by omega);have s:cY .i64 ((f:Int)+1):=⟨by simp only[lo];omega,by simp only[hi];omega⟩;simp only[zV,seval,c,k];refine az ⟨rfl,rfl⟩ rfl (aaC f m M j (by omega) i) ?_;by_cases a:dx m f=0;·have d:(dx m f=0)=True:=aK a;simp only[zV,seval,d];exact⟨f,rfl,.inr ⟨j,q,(pL (by omega)).2 a,b⟩⟩
  ·have d:(dx m f=0)=False:=ax a;simp only[zV,seval,d,s];refine⟨f+1,⟨⟨⟨by omega,by omega⟩,λg e t=>?_⟩,by omega⟩,aR ?_⟩
   ·rcases bR g f with h|h;·exact b g e h
    ·have :g=f:=by omega
     rw[this];exactλh=>a ((pL (by omega)).1 h)
   ·simp only[zV,seval,aJ]
 ·have c:(2*((sz f:Nat):Int)<=((sz m:Nat):Int)+1)=False:=ax (by omega);simp only[zV,seval,c,k];refine⟨m,rfl,.inl ⟨rfl,λg e t=>?_⟩⟩;rcases bR g f with h|h;·exact b g e h
  ·have :=NQ h;omega
theorem YX(m:Nat)(M:Mem)(f:m<=2147483647):Meets ab 78 [.v (.int .i64 (m:Int))] M λr _ _=>r=.v (.bool (Uc m)):=by
 refine aH [0,2] Proofs.Tryz.func78 rfl (by kernel_rfl) rfl λw=>?_;by_cases d:2<=m
 ·have b:(2<=(m:Int))=True:=aK (by omega);simp only[My,zV,seval,b];refine jQ rfl rfl (Xk m M d f) (λr N⟨v,h,_⟩=>by subst h;rfl) λr N j⟨v,g,i⟩=>?_;subst g;have e:=i.irr d;by_cases a:v=m;·have c:((v:Int)=(m:Int))=True:=aK (by omega);rw[yz (e.1 a)];simp only[zV,seval,c]
  ·have c:((v:Int)=(m:Int))=False:=ax (by omega);rw[sB (λh=>a (e.2 h))];simp only[zV,seval,c]
 ·have b:(2<=(m:Int))=False:=ax (by omega);rw[sB (SP (by omega))];simp only[My,zV,seval,b]
theorem aaD(m:Nat)(M:Mem)(k:m<=2147483647):Meets ab 35 [.v (.int .i64 (m:Int))] M λr _ _=>∃v:Nat,r=.v (.int .i64 (v:Int))/\NextP m v:=by
 refine aH [0,2,4,8] Proofs.Tryz.func35 rfl (by kernel_rfl) rfl λw=>?_;simp only[Proofs.Tryz.f35,zV,seval];refine bE (X:=Nat) (λu=>([(0,true,.v (.int .i64 (u:Int)))],[],M)) (λu=>(m<=u/\u<=2147483648)/\∀x,m<=x->x<u->¬Bu x) (λu=>2147483649-u) m ⟨⟨by omega,by omega⟩,λx _ _=>by omega⟩ (aR ?_) ?_;·simp only[zV,seval]
 rintro u⟨⟨i,l⟩,c⟩;by_cases g:u<=2147483647
 ·have d:((u:Int)<=2147483647)=True:=aK (by omega);have j:cY .i64 ((u:Int)+1):=⟨by simp only[lo];omega,by simp only[hi];omega⟩;simp only[zV,seval,d];refine az ⟨rfl,rfl⟩ rfl (YX u M g) ?_;cases e:Uc u with
   |true=>have b:=NO.1 e;simp only[zV,seval];exact⟨u,rfl,.inl ⟨by have :=b.1;omega,i,g,b,c⟩⟩
   |false=>
    simp only[zV,seval,j];refine⟨u+1,⟨⟨⟨by omega,by omega⟩,λx a f=>?_⟩,by omega⟩,aR ?_⟩
    ·rcases bR x u with h|h;·exact c x a h
     ·have :x=u:=by omega
      rw[this];intro b;rw[yz b]at e;cases e
    ·simp only[zV,seval,aJ]
 ·have d:((u:Int)<=2147483647)=False:=ax (by omega);simp only[zV,seval,d];exact⟨0,rfl,.inr ⟨rfl,λx a f=>c x a (by omega)⟩⟩
end Go.X.Rb
namespace Go.X.Ts
open Go Go.X Go.X.Pol Go.X.Pl Go.X.Rp Go.X.Md Go.X.Mv Go.X.Pt Go.X.Tv
/-!### Check -/
/-!### Levels -/
end Go.X.Ts
namespace Go.X.Rb
open Go Go.X Go.X.Pol Go.X.Pl Go.X.Rp Go.X.Md
def Eh(k:Nat):List ay:=[.int .i64 (k:Int)]
inductive FacP:Nat->List Nat->Prop|nil{m:Nat}(h:m<=1):FacP m []|cons{m v:Nat}{l:List Nat}(h:2<=m)(hv:LeastP m v)(hl:FacP (nA m v) l):FacP m (v::l)
theorem FacP.abA{m:Nat}{l a:List Nat}(h:FacP m l)(d:FacP m a):l=a:=by induction h generalizing a with
                                                                       |nil h=>cases d with|nil _=>rfl|cons f _ _=>omega
                                                                       |cons h g j i=>cases d with|nil _=>omega|cons f b c=>have e:=g.abz b;subst e;rw[i c]
theorem zQ{m v:Nat}(j:2<=m)(f:2<=v)(h:dv v m):m=cP (nA m v) v/\1<=nA m v/\sz (nA m v)<sz m/\dx m v=0:=by
 have b:v≠0:=by omega
 have d:=(pL b).1 h;have c:=(kV (a:=m) b).1;rw[d,nG]at c;have g:nA m v≠0:=λe=>by rw[e,dX]at c;omega
 have i:=s8 g b;rw[<-c]at i;have :=mM f;exact⟨c,by omega,by omega,d⟩
theorem Dn{x:Nat}(h:sz x<=31):x<=2147483647:=by have :=fA.1 h;omega
theorem Pf{m:Nat}(a:2<=m):nA m m=1:=(kR (q:=1) (r:=0) (by rw[kB,nG]) (by rw[vF];have :=mM a;omega)).1
theorem SS(m:Nat)(M:Mem)(p:m<=2147483647)(A:1<=m):Meets ab 36 [.v (.int .i64 (m:Int))] M λr H N=>∃l,FacP m l/\RowR (λs=>s) 1 (l.map Eh) r H N:=by
 refine aH [0,2,3,4,5,8] Proofs.Tryz.func36 rfl (by kernel_rfl) rfl λw=>?_;simp only[Proofs.Tryz.f36,zV,seval];refine eI 3 14 1 rfl rfl rfl ?_;simp only[zV,seval];refine bE (X:=Nat×List Nat×Mem) (λx=>([(0,true,.v (.int .i64 (x.1:Int))),(3,true,.own 112)],[(112,.row 1 (x.2.1.map Eh))],x.2.2)) (λx=>((1<=x.1/\x.1<=2147483647)/\x.2.1.length+sz x.1<=32)/\∀l,FacP x.1 l->FacP m (x.2.1++l)) (λx=>sz x.1) (m,[],M) ⟨⟨⟨A,p⟩,by have :=s9 p;simp;omega⟩,λl h=>h⟩ (aR ?_) ?_;·simp only[zV,seval,cr]
 rintro⟨x,a,B⟩⟨⟨⟨C,e⟩,D⟩,f⟩;simp only at C e D f;by_cases b:2<=x
 ·have g:(1<(x:Int))=True:=aK (by omega);have E:=mM b;have q:=s9 e;simp only[zV,seval,g];refine jQ rfl rfl (Xk x B b e) (λr N⟨v,h,_⟩=>by subst h;rfl) λr F G⟨v,I,t⟩=>?_;subst I;obtain⟨J,c⟩:=t.two b;obtain⟨V,K,W,Y⟩:=zQ b J c;have L:=Fk c (by omega);have u:=Dn (x:=v) (by omega);have d:=Dn (x:=nA x v) (by omega);simp only[zW,seval,ae];refine⟨⟨by omega,by omega⟩,?_⟩;refine gS eh rfl rfl (U1 x F (by omega)) λO P Q i=>?_;simp only[zV,seval];refine gS eh rfl rfl (U1 v P (by omega)) λj R k n=>?_;simp only[zV,seval];refine B4 rfl rfl (WZ O j (sz x) x v R (i.le k) n (od x) (by omega) (by omega)) λS Z y T o U=>?_;simp only[zV,seval];refine az ⟨rfl,rfl⟩ rfl (num S _ (nA x v) y o (by omega) (od _)) ?_;simp only[zV,seval];refine⟨(nA x v,a++[v],y),⟨⟨⟨⟨K,d⟩,by simp only[aG,bG];omega⟩,λl z=>?_⟩,by simp only;omega⟩,aR ?_⟩;·simp only at z⊢;rw[bN];exact f _ (.cons b t z)
  ·simp only[zV,seval,bq,Eh]
 ·have g:(1<(x:Int))=False:=ax (by omega);have :=f [] (.nil (by omega));rw[cS]at this;simp only[zV,seval,g];exact⟨a,this,.own 112,rfl,rfl⟩
theorem V4(m:Nat)(M:Mem)(z:m<=2147483647)(O:1<=m):Meets ab 61 [.v (.int .i64 (m:Int))] M λr H P=>∃l,FacP m l/\RowR (λs=>.tup [s,.v (.int .i64 0)]) 1 (l.map Eh) r H P:=by
 refine aH [0,2,3,4,5,6,7,9,11,12,17,20,22,36,49] tI rfl (by kernel_rfl) rfl λw=>?_;have A:=xZ (m:Int) M;rw[Av (by omega)]at A;have p:((m:Int)=0)=False:=ax (by omega);simp only[yT,zV,seval];refine az ⟨rfl,rfl⟩ rfl A ?_;simp only[zV,seval,p];refine eI 5 53 1 rfl rfl rfl ?_;simp only[zV,seval];refine bE (X:=Nat×Nat×List Nat) (λx=>([(0,true,.v (.int .i64 (x.1:Int))),(5,true,.own 424),(6,true,.v (.int .i64 (x.2.1:Int)))],[(424,.row 1 (x.2.2.map Eh))],M)) (λx=>(((1<=x.1/\x.1<=2147483647)/\x.2.2.length+sz x.1<=32)/\(2<=x.2.1/\x.2.1<=65536))/\(∀g,2<=g->g<x.2.1->¬dv g x.1)/\∀l,FacP x.1 l->FacP m (x.2.2++l)) (λx=>sz x.1*70000+(65536-x.2.1)) (m,2,[]) ⟨⟨⟨⟨O,z⟩,by have :=s9 z;simp;omega⟩,by simp⟩,λg _ _=>by simp only at*;omega,λl h=>h⟩ (aR ?_) ?_;·simp only[zV,seval,cr]
 rintro⟨x,f,a⟩⟨⟨⟨⟨B,b⟩,C⟩,c,D⟩,d,e⟩;simp only at B b C e c D d;by_cases i:2<=x
 ·have q:(1<(x:Int))=True:=aK (by omega);have Q:=mM i;have E:=s9 b;have R:=mM c;have F:sz f<=17:=fA.2 (by omega);simp only[zV,seval,q];refine az ⟨rfl,rfl⟩ rfl (Deg f M (by omega)) ?_;simp only[zV,seval];refine az ⟨rfl,rfl⟩ rfl (Deg x M b) ?_;have G:cY .i64 (2*(((sz f:Nat):Int)-1)):=⟨by simp only[lo];omega,by simp only[hi];omega⟩;by_cases W:2*(sz f-1)>sz x-1
  ·have t:(((sz x:Nat):Int)-1<2*(((sz f:Nat):Int)-1))=True:=aK (by omega);have u:LeastP x x:=.inl ⟨rfl,λg j o=>by
    rcases bR g f with h|h;·exact d g j h
    ·have :=NQ h;omega⟩;have S:=e [x] (.cons i u (by rw[Pf i];exact .nil (by omega)));simp only[zW,seval,G,t,ae];refine⟨⟨by omega,by omega⟩,a++[x],S,.own 320,rfl,?_⟩;simp only[IsRow,zV,seval,bq,Eh]
  ·have t:(((sz x:Nat):Int)-1<2*(((sz f:Nat):Int)-1))=False:=ax (by omega);have I:=Div x f M b (by omega);rw[ai (by omega:¬f=0)]at I;simp only[zW,seval,G,t];refine az ⟨rfl,rfl⟩ rfl I ?_;by_cases J:dx x f=0
   ·have y:(((dx x f:Nat):Int)=0)=True:=aK (by omega);have k:=(pL (by omega:f≠0)).2 J;have u:LeastP x f:=.inr ⟨c,by omega,k,d⟩;obtain⟨T,U,Y,Z⟩:=zQ i c k;have n:=Dn (x:=nA x f) (by omega);simp only[zW,seval,y,ae];refine⟨⟨by omega,by omega⟩,(nA x f,f,a++[f]),⟨⟨⟨⟨⟨U,n⟩,by simp only[aG,bG];omega⟩,c,D⟩,λg j o K=>d g j o ?_,λl L=>?_⟩,by simp only;omega⟩,aR ?_⟩;·simp only at K;rw[T];exact Bt _ K
    ·simp only at L⊢;rw[bN];exact e _ (.cons i u L)
    ·simp only[zV,seval,bq,Eh]
   ·have y:(((dx x f:Nat):Int)=0)=False:=ax (by omega);have N:f<65536:=fA.1 (show sz f<=16 by omega);have V:cY .i64 ((f:Int)+1):=⟨by simp only[lo];omega,by simp only[hi];omega⟩;simp only[zW,seval,y,V];refine⟨(x,f+1,a),⟨⟨⟨⟨⟨B,b⟩,C⟩,by simp only;omega,by simp only;omega⟩,λg j o=>?_,e⟩,by simp only;omega⟩,aR ?_⟩
    ·simp only at o;rcases bR g f with h|h;·exact d g j h
     ·have :g=f:=by omega
      rw[this];exactλh=>J ((pL (by omega)).1 h)
    ·simp only[zV,seval,aJ]
 ·have q:(1<(x:Int))=False:=ax (by omega);have :=e [] (.nil (by omega));rw[cS]at this;simp only[zV,seval,q];exact⟨a,this,.own 424,rfl,rfl⟩
theorem Jz(m:Int)(M:Mem)(b:m<0\/2147483647<m):Meets ab 61 [.v (.int .i64 m)] M λr _ _=>r=.tup [.v (.slice none 0 0),.v (.int .i64 1)]:=by refine aH [0,2,3,4,5,6,7,9,11,12,17,20,22,36,49] tI rfl (by kernel_rfl) rfl λw=>?_;have a:=xZ m M;rw[CA b]at a;simp only[yT,zV,seval];refine az ⟨rfl,rfl⟩ rfl a ?_;simp only[zV,seval]
theorem GL(M:Mem):Meets ab 61 [.v (.int .i64 0)] M λr _ _=>r=.tup [.v (.slice none 0 0),.v (.int .i64 10)]:=by refine aH [0,2,3,4,5,6,7,9,11,12,17,20,22,36,49] tI rfl (by kernel_rfl) rfl λw=>?_;have a:=xZ 0 M;rw[Av (by omega)]at a;simp only[yT,zV,seval];refine az ⟨rfl,rfl⟩ rfl a ?_;simp only[zV,seval]
theorem aaE{f:kH}{m:Nat}{args:List SV}{M:Mem}{T:SV->SV}(c:Ctx T)(h:Meets ab f args M λr H N=>∃l,FacP m l/\RowR T 1 (l.map Eh) r H N):Meets ab f args M λr _ N=>∃v l,r=T (.v v)/\RowM N v 1 (l.map Eh)/\FacP m l:=by refine(vz (sz:=1) (Φ:=λb _=>∃l,FacP m l/\b=l.map Eh) c (λ_ _ _ _ h=>h) (h.sS λs H N _⟨l,a,d,e,g⟩=>⟨d,_,e,g,l,a,rfl⟩)).sS λs H N _⟨v,b,e,i,l,a,j⟩=>⟨v,l,e,by rw[<-j];exact i,a⟩
end Go.X.Rb
namespace Go.X.Cu
open Go Go.X Go.X.Pol Go.X.Pl Go.X.Rp Go.X.Md Go.X.Mv Go.X.Pt
def Ei(k:Nat):List ay:=[.int .i64 (k:Int)]
def JA(t:List UInt8)(e:Nat):List UInt8:=if 8<e then(t.drop (e-8)).take 8 else t.take e
def hit(mask:Nat)(t:List UInt8)(e:Nat):Prop:=xl 65581 (JA t e) 1&&&mask=mask
instance(mask:Nat)(t:List UInt8)(e:Nat):Decidable (hit mask t e):=inferInstanceAs(Decidable (_=_))
def fe(most mask:Nat)(t:List UInt8):Nat->Nat->Nat|0,e=>e|f+1,e=>if e<t.length/\e≠most/\¬hit mask t e then fe most mask t f (e+1)else e
def vg(least most mask:Nat)(t:List UInt8):Nat:=fe most mask t (t.length-wg t.length least) (wg t.length least)
theorem Xl(most mask:Nat)(t:List UInt8):∀f e,e<=fe most mask t f e
 |0,e=>bc _
 |f+1,e=>by
  simp only[fe];split;·have :=Xl most mask t f (e+1);omega
  ·exact bc _
theorem Xm(most mask:Nat)(t:List UInt8):∀f e,fe most mask t f e<=e+f
 |0,e=>bc _
 |f+1,e=>by
  simp only[fe];split;·have :=Xm most mask t f (e+1);omega
  ·omega
theorem pM{most mask:Nat}{t:List UInt8}{f e:Nat}(h:¬(e<t.length/\e≠most/\¬hit mask t e)):fe most mask t f e=e:=by cases f with|zero=>rfl|succ f=>simp only[fe,ai h]
def sC(least most mask:Nat):Nat->List UInt8->List Nat|0,_=>[]|f+1,t=>if t=[]then[]else vg least most mask t::(sC least most mask f (t.drop (vg least most mask t))).map (·+vg least most mask t)
theorem JB(least most mask f:Nat):sC least most mask f []=[]:=by cases f<;>rfl
theorem orm{x mask:Nat}(k:x<9223372036854775808)(d:mask<9223372036854775808):(Zn .i64 (x:Int) (-(mask:Int)-1)=-1)=(x&&&mask=mask):=by
 have e:dR 64 (-(mask:Int)-1)= ~~~ki 64 mask:=by rw[show-(mask:Int)-1=Int.negSucc mask by rw[Int.negSucc_eq];omega];exact BitVec.ofInt_negSucc_eq_not_ofNat
 have f:dR 64 (x:Int)=ki 64 x:=BitVec.ofInt_natCast ..;have g:Zn .i64 (x:Int) (-(mask:Int)-1)=bX.wrap ((ki 64 x|||~~~ki 64 mask).toNat:Int):=by show bX.wrap ((dR 64 (x:Int)|||dR 64 (-(mask:Int)-1)).toNat:Int)=_;rw[e,f]
 rw[g];have l:=(ki 64 x|||~~~ki 64 mask).isLt;have a:∀i,i<64->(ki 64 x|||~~~ki 64 mask).getLsbD i=(x.testBit i||!mask.testBit i):=λi b=>by rw[BitVec.getLsbD_or,BitVec.getLsbD_not,Mz,Mz,cy b,fJ,fJ,fJ]
 generalize ki 64 x|||~~~ki 64 mask=V at*;have j:bX.wrap (V.toNat:Int)=-1↔V.toNat=18446744073709551615:=by rw[IntKind.wrap_i64];omega
 apply propext;rw[j];constructor
 ·intro h;have c:V=BitVec.allOnes 64:=BitVec.eq_of_toNat_eq (by rw[h,MA]);apply Nat.eq_of_testBit_eq;intro i;rw[J8];by_cases b:i<64;·have :=a i b;rw[c,J',cy b]at this;revert this;cases x.testBit i<;>cases mask.testBit i<;>simp
  ·have :mask.testBit i=false:=Nat.testBit_lt_two_pow (Nat.lt_of_lt_of_le d (ew (n:=2) (i:=63) (by omega) (by omega)));rw[this,Bool.and_false]
 ·intro h;have c:V=BitVec.allOnes 64:=by
   apply BitVec.eq_of_getLsbD_eq;intro i b;rw[a i b,J',cy b];have :(x&&&mask).testBit i=mask.testBit i:=by rw[h]
   rw[J8]at this;revert this;cases x.testBit i<;>cases mask.testBit i<;>simp
  rw[c,MA]
theorem LN(m:Nat)(a:m≠0)(c:m<=2147483647):∀(s:List UInt8)(p:Nat),p<=1073741824->xl m s p<=1073741824|[],p,h=>h|b::s,p,h=>by simp only[xl,lf];exact LN m a c s _ (F8 a c)
theorem NR(t:List UInt8)(e:Nat)(a:e<=600):(JA t e).length<=dB:=by unfold JA;simp only[dB];split<;>simp only[a6]<;>omega
theorem YY(t:List UInt8){e:Nat}(h:8<e):fH (e-(e-8)) (nc (e-8) t)=JA t e:=by rw[JA,aF h,show e-(e-8)=8 by omega]
theorem YZ(t:List UInt8){e:Nat}(h:¬8<e):fH (e-0) t=JA t e:=by rw[JA,ai h,iS]
theorem abB(t:List UInt8)(least most mask:Nat)(M:Mem)(z:t.length<=600)(A:1<=least)(q:least<=most)(B:most<=600)(C:mask<=65535):Meets ab 81 [.v (.string ⟨t.toArray⟩),.v (.int .i64 (least:Int)),.v (.int .i64 (most:Int)),.v (.int .i64 (mask:Int))] M λr _ _=>r=.v (.int .i64 ((vg least most mask t:Nat):Int)):=by
 refine aH [0,1,2,3,8,9,10,15,20,26,37] Proofs.Tryz.func81 rfl (by kernel_rfl) rfl λw=>?_;generalize i:vg least most mask t=c;simp only[Proofs.Tryz.f81,zV,seval];by_cases D:least<t.length
 ·rw[vg,show wg t.length least=least by omega]at i;refine bE (X:=Nat×Nat) (λx=>([(0,true,.v (.string ⟨t.toArray⟩)),(2,true,.v (.int .i64 most)),(3,true,.v (.int .i64 mask)),(9,true,.v (.int .i64 x.2))],[],M)) (λx=>(x.1+x.2=t.length/\least<=x.2)/\fe most mask t x.1 x.2=c) (λx=>x.1) (t.length-least,least) ⟨⟨by simp only;omega,bc _⟩,i⟩ (aR ?_) ?_;·simp only[zV,seval]
  rintro⟨f,e⟩⟨⟨s,u⟩,a⟩;simp only at s u a;have d:=NR t e (by omega);have E:=LN 65581 (by omega) (by omega) (JA t e) 1 (by omega);have o:=orm (x:=xl 65581 (JA t e) 1) (mask:=mask) (by omega) (by omega);by_cases p:8<e
  ·have j:(8<(e:Int))=True:=aK (by omega);have k:(e:Int)-8=((e-8:Nat):Int):=by omega
   simp only[zV,seval,cY,lo,hi,j,k,YY t p];refine⟨λl=>⟨λm=>?_,λm=>⟨by omega,by omega,by omega,?_⟩⟩,λl=>?_⟩;·rw[<-a,pM (by omega)]
   ·refine az ⟨rfl,rfl⟩ rfl (CC 65581 (JA t e) M (by omega) (by omega) d) ?_;simp only[zV,seval,cY,lo,hi,o];refine⟨by omega,λb=>?_,λb=>⟨by omega,(f-1,e+1),⟨⟨⟨by simp only;omega,by simp only;omega⟩,?_⟩,by simp only;omega⟩,aR ?_⟩⟩;·rw[<-a,pM (λh=>h.2.2 b)]
    ·obtain⟨f,rfl⟩:∃g,f=g+1:=⟨f-1,by omega⟩;simp only[fe]at a;rw[aF ⟨by omega,by omega,b⟩]at a;exact a
    ·simp only[zV,seval,aJ]
   ·rw[<-a,pM (by omega),show t.length=e by omega]
  ·have j:(8<(e:Int))=False:=ax (by omega);simp only[zV,seval,cY,lo,hi,j,YZ t p];refine⟨λl=>⟨λm=>?_,λm=>⟨by omega,?_⟩⟩,λl=>?_⟩;·rw[<-a,pM (by omega)]
   ·refine az ⟨rfl,rfl⟩ rfl (CC 65581 (JA t e) M (by omega) (by omega) d) ?_;simp only[zV,seval,cY,lo,hi,o];refine⟨by omega,λb=>?_,λb=>⟨by omega,(f-1,e+1),⟨⟨⟨by simp only;omega,by simp only;omega⟩,?_⟩,by simp only;omega⟩,aR ?_⟩⟩;·rw[<-a,pM (λh=>h.2.2 b)]
    ·obtain⟨f,rfl⟩:∃g,f=g+1:=⟨f-1,by omega⟩;simp only[fe]at a;rw[aF ⟨by omega,by omega,b⟩]at a;exact a
    ·simp only[zV,seval,aJ]
   ·rw[<-a,pM (by omega),show t.length=e by omega]
 ·have n:c=t.length:=by rw[<-i,vg,show wg t.length least=t.length by omega,Nat.sub_self];rfl
  refine bE (X:=Unit) (λ_=>([(0,true,.v (.string ⟨t.toArray⟩)),(2,true,.v (.int .i64 most)),(3,true,.v (.int .i64 mask)),(9,true,.v (.int .i64 least))],[],M)) (λ_=>True) (λ_=>0) () trivial (aR ?_) ?_;·simp only[zV,seval]
  intro _ _;have y:((least:Int)<(t.length:Nat))=False:=ax (by omega);simp only[zV,seval,y,n]
theorem NS{least most mask:Nat}{t:List UInt8}(b:1<=least)(a:t≠[]):1<=vg least most mask t:=by have :=Xl most mask t (t.length-wg t.length least) (wg t.length least);have :=List.length_pos_iff.2 a;unfold vg;omega
theorem GM{least most mask:Nat}{t:List UInt8}:vg least most mask t<=t.length:=by have :=Xm most mask t (t.length-wg t.length least) (wg t.length least);unfold vg;omega
theorem Dp(least most mask:Nat):∀(f:Nat)(t:List UInt8),(sC least most mask f t).length<=f
 |0,t=>bc _
 |f+1,t=>by
  simp only[sC];split;·simp
  ·have :=Dp least most mask f (t.drop (vg least most mask t));simp only[aM,ae];omega
theorem GN(least most mask:Nat):∀(f:Nat)(t:List UInt8),∀x∈sC least most mask f t,x<=t.length
 |0,t,x,a=>by simp[sC]at a
 |f+1,t,x,a=>by
  simp only[sC]at a;split at a;·simp at a
  ·have b:=GM (least:=least) (most:=most) (mask:=mask) (t:=t);rcases aV.1 a with rfl|a;·exact b
   ·obtain⟨y,c,rfl⟩:=dq.1 a;have :=GN least most mask f _ y c;rw[aT]at this;omega
theorem Xn:∀(f:Nat)(t:List UInt8)(least most mask:Nat)(M:Mem),t.length<=f->f<=600->1<=least->least<=most->most<=600->mask<=65535->Meets ab 40 [.v (.string ⟨t.toArray⟩),.v (.int .i64 (least:Int)),.v (.int .i64 (most:Int)),.v (.int .i64 (mask:Int))] M (RowR (λs=>s) 1 ((sC least most mask f t).map Ei))|f,t,least,most,mask,M,J,u,m,b,p,q=>by
                                                                                                                                                                                                                                                                                                             have y:t.length<=600:=by omega
                                                                                                                                                                                                                                                                                                             refine aH [0,1,2,3,8,9,11,13,28,29,30,31] Proofs.Tryz.func40 rfl (by kernel_rfl) rfl λw=>?_;generalize e:(sC least most mask f t).map Ei=c;simp only[Proofs.Tryz.f40,zV,seval];refine⟨λh=>?_,λh=>?_⟩;·subst h;rw[JB]at e;subst e;exact⟨.v (.slice none 0 0),rfl,bY _ _⟩
                                                                                                                                                                                                                                                                                                             ·have K:=NS (least:=least) (most:=most) (mask:=mask) m h;have N:=GM (least:=least) (most:=most) (mask:=mask) (t:=t);have z:=List.length_pos_iff.2 h;obtain⟨f,rfl⟩:∃g,f=g+1:=⟨f-1,by omega⟩;simp only[sC,ai h]at e;refine az ⟨rfl,rfl⟩ rfl (abB t least most mask M y m b p q) ?_;have d:=GN least most mask f (t.drop (vg least most mask t));have A:=Dp least most mask f (t.drop (vg least most mask t));rw[aT]at d;generalize vg least most mask t=k at*;have B:fH (t.length-k) (nc k t)=nc k t:=bz (by rw[aT];omega);simp only[zV,seval,B];refine⟨by omega,gS eh rfl rfl (Xn f (t.drop k) least most mask M (by rw[aT];omega) (by omega) m b p q) λC D E a=>?_⟩;generalize O:sC least most mask f (nc k t)=L at*;have F:=a.eQ;simp only[zV,seval,a.gC,a.sl,ae];refine bE (X:=Nat) (λj=>([(9,true,.own 152),(28,true,.v C),(29,true,.v (.int .i64 L.length)),(30,true,.v (.int .i64 j))],[(152,.row 1 ([.int .i64 (k:Int)]::((L.take j).map λx=>Ei (x+k))))],D)) (λj=>j<=L.length) (λj=>L.length-j) 0 (bJ _) (aR ?_) ?_;·simp only[zV,seval,fE,cr]
                                                                                                                                                                                                                                                                                                              intro j P;simp only[zV,seval];refine⟨λG=>?_,λG=>?_⟩
                                                                                                                                                                                                                                                                                                              ·obtain⟨x,n,Q⟩:=jX (l:=L) (i:=j) (by omega);have r:=a.UH n rfl;have H:=a.ix (i:=(j:Int)) (by omega) (by rw[ae];omega);have I:=d x (aL n);have o:L.take (j+1)=L.take j++[x]:=by rw[cm,n];rfl
                                                                                                                                                                                                                                                                                                               simp only[zV,seval,r.1,cY,lo,hi,ae,a6];refine⟨H,r.2,by omega,by omega,by omega,⟨by omega,by omega⟩,by omega,j+1,⟨by omega,by omega⟩,i6 9 19 328 1 _ rfl rfl rfl rfl (aR ?_)⟩;simp only[zV,seval,o,bq,Ei,aJ]
                                                                                                                                                                                                                                                                                                              ·have :j=L.length:=by omega
                                                                                                                                                                                                                                                                                                               subst this;rw[sH];refine⟨.own 152,rfl,?_⟩;simp only[zV,seval,IsRow];rw[<-e,ca,jB];rfl
def oz(s:List UInt8)(least most mask:Int):Int:=if 600<(s.length:Int)then 2 else if(((least<1\/most<least)\/600<most)\/mask<0)\/65535<mask then 1 else 0
theorem SU(s:List UInt8)(least most mask:Int)(M:Mem)(h:oz s least most mask≠0):Meets ab 68 [.v (.string ⟨s.toArray⟩),.v (.int .i64 least),.v (.int .i64 most),.v (.int .i64 mask)] M λr _ _=>r=.tup [.v (.slice none 0 0),.v (.int .i64 (oz s least most mask))]:=by
 refine aH [0,1,2,3,8,9,10,11,12,15,34,38,69] DU rfl (by kernel_rfl) rfl λw=>?_;generalize a:oz s least most mask=c at h;simp only[MB,zV,seval];by_cases d:600<(s.length:Int);·rw[oz,aF d]at a;subst a;exact⟨λ_=>rfl,λb=>by omega⟩
 ·rw[oz,ai d]at a;by_cases b:(((least<1\/most<least)\/600<most)\/mask<0)\/65535<mask;·rw[aF b]at a;subst a;exact⟨λe=>by omega,λ_=>⟨λ_=>rfl,λf=>by omega⟩⟩
  ·rw[ai b]at a;exact(h a.symm).elim
theorem NT(s:List UInt8)(b k:Nat):(s.drop b).drop k=s.drop (b+k):=l6 ..
theorem Y0(s:List UInt8){b e:Nat}(h:b<=e):fH (e-max b (e-8)) (nc (max b (e-8)) s)=JA (s.drop b) (e-b):=by
 unfold JA;split;·rw[NT,show max b (e-8)=e-8 by omega,show b+(e-b-8)=e-8 by omega,show e-(e-8)=8 by omega]
 ·rw[show max b (e-8)=b by omega]
theorem V5(s:List UInt8)(least most mask:Nat)(M:Mem)(Y:s.length<=600)(D:1<=least)(E:least<=most)(Z:most<=600)(hk:mask<=65535):Meets ab 68 [.v (.string ⟨s.toArray⟩),.v (.int .i64 (least:Int)),.v (.int .i64 (most:Int)),.v (.int .i64 (mask:Int))] M (RowR (λt=>.tup [t,.v (.int .i64 0)]) 1 ((sC least most mask 600 s).map Ei)):=by
 refine aH [0,1,2,3,8,9,10,11,12,15,34,38,69] DU rfl (by kernel_rfl) rfl λw=>?_;generalize F:(sC least most mask 600 s)=c;have G:(600<(s.length:Int))=False:=ax (by omega);have H:((least:Int)<1)=False:=ax (by omega);have I:((most:Int)<(least:Int))=False:=ax (by omega);have J:(600<(most:Int))=False:=ax (by omega);have K:((mask:Int)<0)=False:=ax (by omega);have L:(65535<(mask:Int))=False:=ax (by omega);simp only[MB,zV,seval,G,H,I,J,K,L];refine eI 10 75 1 rfl rfl rfl ?_;simp only[zV,seval];refine bE (X:=Nat×Nat×List Nat) (λx=>([(0,true,.v (.string ⟨s.toArray⟩)),(1,true,.v (.int .i64 least)),(2,true,.v (.int .i64 most)),(3,true,.v (.int .i64 mask)),(10,true,.own 600),(11,true,.v (.int .i64 x.2.1))],[(600,.row 1 (x.2.2.map Ei))],M)) (λx=>(((s.length<=x.1+x.2.1/\x.2.1<=s.length)/\x.1<=600)/\x.2.2.length+x.1<=600)/\x.2.2++(sC least most mask x.1 (s.drop x.2.1)).map (·+x.2.1)=c) (λx=>x.1) (600,0,[]) ⟨⟨⟨⟨by simp only;omega,bJ _⟩,bc _⟩,by simp⟩,by simpa using F⟩ (aR ?_) ?_;·simp only[zV,seval,cr]
 rintro⟨f,b,d⟩⟨⟨⟨⟨N,O⟩,P⟩,Q⟩,m⟩;simp only at N O P Q m;simp only[zV,seval,cY,lo,hi];refine⟨λR=>?_,λR=>?_⟩
 ·refine⟨by omega,?_⟩;have n:s.drop b≠[]:=λe=>by have :=aY dU e;rw[aT,bM]at this;omega
  obtain⟨f,rfl⟩:∃g,f=g+1:=⟨f-1,by omega⟩;have S:=NS (least:=least) (most:=most) (mask:=mask) D n;have q:=GM (least:=least) (most:=most) (mask:=mask) (t:=s.drop b);simp only[sC,ai n]at m;generalize r:vg least most mask (s.drop b)=k at*;rw[ca,jB,NT]at m;rw[aT]at q;have u:wg (s.length:Int) ((b:Int)+(least:Int))=((b+wg (s.drop b).length least:Nat):Int):=by rw[aT];omega
  have i:(d++[b+k])++(sC least most mask f (s.drop (b+k))).map (·+(b+k))=c:=by rw[<-m,bN,Nat.add_comm b k];congr 1;show(k+b)::_=_;congr 1;apply List.map_congr_left;intro x _;simp only[Function.comp];omega
  simp only[u];refine bE (X:=Nat×Nat) (λx=>([(0,true,.v (.string ⟨s.toArray⟩)),(1,true,.v (.int .i64 least)),(2,true,.v (.int .i64 most)),(3,true,.v (.int .i64 mask)),(10,true,.own 600),(11,true,.v (.int .i64 b)),(12,true,.v (.int .i64 ((b+x.2:Nat):Int)))],[(600,.row 1 (d.map Ei))],M)) (λx=>(x.1+x.2=s.length-b/\x.2<=most)/\fe most mask (s.drop b) x.1 x.2=k) (λx=>x.1) (s.length-b-wg (s.drop b).length least,wg (s.drop b).length least) ⟨⟨by simp only[aT];omega,by simp only;omega⟩,by rw[<-r,vg,aT]⟩ (aR ?_) ?_;·simp only[zV,seval]
  rintro⟨g,x⟩⟨⟨T,y⟩,a⟩;simp only at T y a;by_cases hA:x<s.length-b
  ·have o:(((b+x:Nat):Int)<(s.length:Int))=True:=aK (by omega);by_cases B:x=most;·have z:(((b+x:Nat):Int)-(b:Int)<(most:Int))=False:=ax (by omega);rw[pM (λh=>h.2.1 B)]at a;subst a;simp only[zV,seval,cY,lo,hi,o,z];refine⟨by omega,⟨by rw[ae];omega,by rw[ae];omega⟩,(f,b+x,d++[b+x]),⟨⟨⟨⟨⟨by simp only;omega,by simp only;omega⟩,by simp only;omega⟩,by simp only[aG,bG];omega⟩,i⟩,by simp only;omega⟩,aR ?_⟩;simp only[zV,seval,bq,Ei]
   ·have z:(((b+x:Nat):Int)-(b:Int)<(most:Int))=True:=aK (by omega);have U:max (b:Int) (((b+x:Nat):Int)-8)=((max b (b+x-8):Nat):Int):=by omega
    have C:=Y0 s (show b<=b+x by omega);rw[P']at C;simp only[zV,seval,cY,lo,hi,o,z,U,C];have A:=NR (s.drop b) x (by omega);have hP:=LN 65581 (by omega) (by omega) (JA (s.drop b) x) 1 (by omega);refine⟨by omega,by omega,by omega,az ⟨rfl,rfl⟩ rfl (Nb 65581 (JA (s.drop b) x) M (by omega) (by omega) A) ?_⟩;by_cases p:hit mask (s.drop b) x;·have l:xl 65581 (JA (s.drop b) x) 1&&&mask=mask:=p;rw[pM (λh=>h.2.2 p)]at a;subst a;simp only[zV,seval,cY,lo,hi,l];refine⟨by omega,⟨by rw[ae];omega,by rw[ae];omega⟩,(f,b+x,d++[b+x]),⟨⟨⟨⟨⟨by simp only;omega,by simp only;omega⟩,by simp only;omega⟩,by simp only[aG,bG];omega⟩,i⟩,by simp only;omega⟩,aR ?_⟩;simp only[zV,seval,bq,Ei]
    ·have l:(((xl 65581 (JA (s.drop b) x) 1&&&mask:Nat):Int)=(mask:Int))=False:=ax (λh=>p (Int.ofNat.inj h));obtain⟨g,rfl⟩:∃j,g=j+1:=⟨g-1,by omega⟩;simp only[fe]at a;rw[aF ⟨by rw[aT];omega,B,p⟩]at a;simp only[zV,seval,cY,lo,hi,l];have V:((b+(x+1):Nat):Int)=((b+x:Nat):Int)+1:=by omega
     refine⟨by omega,by omega,(g,x+1),⟨⟨⟨by simp only;omega,by simp only;omega⟩,a⟩,by simp only;omega⟩,aR ?_⟩;simp only[zV,seval,V]
  ·have o:(((b+x:Nat):Int)<(s.length:Int))=False:=ax (by omega);rw[pM (λh=>by rw[aT]at h;omega)]at a;subst a;simp only[zV,seval,cY,lo,hi,o];refine⟨⟨by rw[ae];omega,by rw[ae];omega⟩,(f,b+x,d++[b+x]),⟨⟨⟨⟨⟨by simp only;omega,by simp only;omega⟩,by simp only;omega⟩,by simp only[aG,bG];omega⟩,i⟩,by simp only;omega⟩,aR ?_⟩;simp only[zV,seval,bq,Ei]
 ·have W:s.drop b=[]:=bh (by omega);rw[W,JB,cr,cS]at m;subst m;exact⟨.own 600,rfl,rfl⟩
end Go.X.Cu
namespace Go.X.Lm
open Go Go.X
def w7(s:List UInt8)(i d:Nat):Nat->Nat->Nat|0,n=>n|f+1,n=>if i+n<s.length/\s.getD (i+n) 0=s.getD (i+n-d) 0 then w7 s i d f (n+1)else n
def lg(s:List UInt8)(i:Nat):Nat->Nat->Nat->Nat->Nat×Nat|0,_,b,a=>(b,a)|f+1,d,b,a=>if a<w7 s i d 64 0 then lg s i f (d+1) d (w7 s i d 64 0)else lg s i f (d+1) b a
theorem Dq(s:List UInt8)(i:Int)(n:Nat)(h:i=n):fc s i=((s.getD n 0).toNat:Nat):=by subst h;rfl
theorem Y1{a b:UInt8}(h:((a.toNat:Nat):Int)=(b.toNat:Nat)):a=b:=rJ.1 (by omega)
theorem Y2{s:List UInt8}{i d g n:Nat}(a:0<g)(h:i+n<s.length/\s.getD (i+n) 0=s.getD (i+n-d) 0):w7 s i d g n=w7 s i d (g-1) (n+1):=by cases g with|zero=>omega|succ g=>simp only[w7];rw[aF h];rfl
theorem SX{s:List UInt8}{i d g n:Nat}(h:0<g->¬(i+n<s.length/\s.getD (i+n) 0=s.getD (i+n-d) 0)):w7 s i d g n=n:=by cases g with|zero=>rfl|succ g=>simp only[w7];rw[ai (h (by omega))]
theorem V6(s:List UInt8)(i a:Nat)(M:Mem)(F:s.length<=600)(q:i<=s.length)(G:1<=a)(t:a<=256):Meets ab 210 [.v (.string ⟨s.toArray⟩),.v (.int .i64 i),.v (.int .i64 a)] M λr _ _=>r=.tup [.v (.int .i64 (lg s i (wg a i) 1 0 0).1),.v (.int .i64 (lg s i (wg a i) 1 0 0).2),.v (.int .i64 0)]:=by
 refine aH [0,1,2,6,7,8,9,10,11,12,15,31,36,63,68] Proofs.Tryz.func210 rfl (by kernel_rfl) rfl λw=>?_;simp only[Proofs.Tryz.f210,shs,zV,seval];refine⟨λh=>by omega,λ_=>⟨λh=>by omega,λ_=>?_⟩⟩;refine bE (X:=Nat×Nat×Nat×Nat) (λx=>([(0,true,.v (.string ⟨s.toArray⟩)),(1,true,.v (.int .i64 i)),(2,true,.v (.int .i64 a)),(9,true,.v (.int .i64 x.2.2.1)),(10,true,.v (.int .i64 x.2.2.2)),(11,true,.v (.int .i64 x.2.1))],[],M)) (λx=>(1<=x.2.1/\x.2.1+x.1=wg a i+1)/\lg s i x.1 x.2.1 x.2.2.1 x.2.2.2=lg s i (wg a i) 1 0 0) (λx=>x.1) (wg a i,1,0,0) ⟨⟨by simp,by simp;omega⟩,rfl⟩ (aR ?_) ?_;·simp only[zV,seval];try trivial
 rintro⟨f,d,l,m⟩⟨⟨u,y⟩,b⟩;simp only at u y b;simp only[shs,zV,seval];refine⟨λz=>?_,λz=>?_⟩
 ·refine bE (X:=Nat×Nat) (λx=>([(0,true,.v (.string ⟨s.toArray⟩)),(1,true,.v (.int .i64 i)),(2,true,.v (.int .i64 a)),(9,true,.v (.int .i64 l)),(10,true,.v (.int .i64 m)),(11,true,.v (.int .i64 d)),(12,true,.v (.int .i64 x.2))],[],M)) (λx=>x.2+x.1=64/\w7 s i d x.1 x.2=w7 s i d 64 0) (λx=>x.1) (64,0) ⟨rfl,rfl⟩ (aR ?_) ?_;·simp only[zV,seval];try trivial
  rintro⟨g,n⟩⟨A,j⟩;simp only at A j;simp only[shs,zV,seval];refine dD (by kernel_rfl) (by kernel_rfl) ?_;simp only[shs,zV,seval,cY,lo,hi];have c:n+i<s.length->fc s (↑i+↑n)=((s.getD (i+n) 0).toNat:Nat):=λ_=>Dq s _ _ (by omega);have e:n+i<s.length->fc s (↑i+↑n-↑d)=((s.getD (i+n-d) 0).toNat:Nat):=λ_=>Dq s _ _ (by omega);refine⟨by omega,by omega,by omega,by omega,by omega,by omega,λ⟨⟨B,o⟩,p⟩=>⟨by omega,(g-1,n+1),⟨⟨by simp only;omega,?_⟩,by simp only;omega⟩,aR ?_⟩,λk=>?_⟩;·rw[c (by omega),e (by omega)]at p;rw[<-j,Y2 (by omega) ⟨by omega,Y1 p⟩]
  ·simp only[zV,seval];try rfl
  have C:w7 s i d 64 0=n:=by rw[<-j];refine SX λH⟨B,o⟩=>k ⟨by omega,by omega⟩ ?_;rw[c (by omega),e (by omega),o]
  have I:0<f:=by omega
  obtain⟨f,rfl⟩:∃D,f=D+1:=⟨f-1,by omega⟩;simp only[lg,C]at b;refine⟨λE=>⟨by omega,(f,d+1,d,n),⟨⟨⟨by simp,by simp only;omega⟩,?_⟩,by simp⟩,aR ?_⟩,λE=>⟨by omega,(f,d+1,l,m),⟨⟨⟨by simp,by simp only;omega⟩,?_⟩,by simp⟩,aR ?_⟩⟩;·rw[aF (by omega)]at b;exact b
  ·simp only[zV,seval];try rfl
  ·rw[ai (by omega)]at b;exact b
  ·simp only[zV,seval];try rfl
 ·obtain rfl:f=0:=by omega
  simp only[lg]at b;rw[<-b]
end Go.X.Lm
namespace Go.X.Lm
open Go Go.X
theorem Ej(s:List UInt8)(i a:Int)(M:Mem)(b:600<s.length):Meets ab 210 [.v (.string ⟨s.toArray⟩),.v (.int .i64 i),.v (.int .i64 a)] M λr _ _=>r=.tup [.v (.int .i64 0),.v (.int .i64 0),.v (.int .i64 2)]:=by refine aH [0,1,2,6,7,8,9,10,11,12,15,31,36,63,68] Proofs.Tryz.func210 rfl (by kernel_rfl) rfl λw=>?_;simp only[Proofs.Tryz.f210,shs,zV,seval];exactλh=>by omega
def rd(s:List UInt8)(i n:Nat):Nat->Nat->Option Nat|0,_=>none|f+1,d=>if(s.drop (i-d)).take n=(s.drop i).take n then some d else rd s i n f (d+1)
def rl(s:List UInt8)(i m:Nat):Nat->Nat×Nat|0=>(0,0)|n+1=>match rd s i (n+1) m 1 with|some d=>(d,n+1)|none=>rl s i m n
theorem SY(s:List UInt8)(i a:Nat)(M:Mem)(y:s.length<=600)(h:i<=s.length)(z:1<=a)(j:a<=256):Meets ab 140 [.v (.string ⟨s.toArray⟩),.v (.int .i64 i),.v (.int .i64 a)] M λr _ _=>r=.tup [.v (.int .i64 (rl s i (wg a i) (wg 64 (s.length-i))).1),.v (.int .i64 (rl s i (wg a i) (wg 64 (s.length-i))).2)]:=by
 refine aH [0,1,2,6,7,8,9,16,26,45] Proofs.Tryz.func140 rfl (by kernel_rfl) rfl λw=>?_;simp only[Proofs.Tryz.f140,shs,zV,seval,cY,lo,hi];refine⟨by omega,?_⟩;refine bE (X:=Nat) (λx=>([(0,true,.v (.string ⟨s.toArray⟩)),(1,true,.v (.int .i64 i)),(2,true,.v (.int .i64 a)),(8,true,.v (.int .i64 x))],[],M)) (λx=>x+i<=s.length/\x<=64/\rl s i (wg a i) x=rl s i (wg a i) (wg 64 (s.length-i))) (λx=>x) (wg 64 (s.length-i)) ⟨by omega,by omega,rfl⟩ (aR ?_) ?_;·simp only[zV,seval];rw[show((wg 64 (s.length-i):Nat):Int)=wg 64 ((s.length:Int)-i)from by omega]
 rintro n⟨A,B,b⟩;simp only[shs,zV,seval];refine⟨λk=>?_,λk=>?_⟩
 ·refine bE (X:=Nat×Nat) (λx=>([(0,true,.v (.string ⟨s.toArray⟩)),(1,true,.v (.int .i64 i)),(2,true,.v (.int .i64 a)),(8,true,.v (.int .i64 n)),(9,true,.v (.int .i64 x.2))],[],M)) (λx=>(1<=x.2/\x.2+x.1=wg a i+1)/\rd s i n x.1 x.2=rd s i n (wg a i) 1) (λx=>x.1) (wg a i,1) ⟨⟨by simp,by simp;omega⟩,rfl⟩ (aR ?_) ?_;·simp only[zV,seval];try trivial
  rintro⟨g,d⟩⟨⟨l,m⟩,c⟩;simp only at l m c;simp only[shs,zV,seval];refine⟨λo=>?_,λo=>?_⟩
  ·refine dD (by kernel_rfl) (by kernel_rfl) ?_;simp only[shs,zV,seval,cY,lo,hi];obtain⟨n,rfl⟩:∃e,n=e+1:=⟨n-1,by omega⟩;obtain⟨g,rfl⟩:∃p,g=p+1:=⟨g-1,by omega⟩;have q:((i:Int)-d+((n+1:Nat):Int)).toNat=i-d+(n+1):=by omega
   have t:((i:Int)-d).toNat=i-d:=by omega
   have u:((i:Int)+((n+1:Nat):Int)).toNat=i+(n+1):=by omega
   rw[q,t,u,P',P'];refine⟨by omega,by omega,by omega,by omega,by omega,by omega,λf=>?_,λf=>⟨by omega,(g,d+1),⟨⟨⟨by simp,by simp only;omega⟩,?_⟩,by simp⟩,aR ?_⟩⟩;·simp only[rl]at b;rw[<-c]at b;simp only[rd,f,cR]at b;rw[<-b]
   ·simp only[rd,f,cA]at c;exact c
   ·simp only[zV,seval];try rfl
  ·obtain⟨n,rfl⟩:∃e,n=e+1:=⟨n-1,by omega⟩;obtain rfl:g=0:=by omega
   refine⟨by simp only[cY,lo,hi];omega,n,⟨⟨by omega,by omega,?_⟩,by omega⟩,aR ?_⟩;·simp only[rl]at b;rw[<-c]at b;simp only[rd]at b;exact b
   ·simp only[zV,seval];rw[show(((n+1:Nat):Int)-1)=(n:Int)from by omega]
 ·obtain rfl:n=0:=by omega
  simp only[rl]at b;rw[<-b];rfl
end Go.X.Lm
namespace Go.X.Lm
open Go Go.X
theorem Dr(s:List UInt8)(i d:Nat):∀f n,i+n<=s.length->n<=w7 s i d f n/\w7 s i d f n<=n+f/\i+w7 s i d f n<=s.length
 |0,n,h=>by simp only[w7];omega
 |f+1,n,h=>by
  simp only[w7];split;·rename_i a;have :=Dr s i d f (n+1) (by omega);omega
  ·omega
theorem LO(s:List UInt8)(i d:Nat):∀f n,(∀k,n<=k->k<w7 s i d f n->s.getD (i+k) 0=s.getD (i+k-d) 0)/\(w7 s i d f n<n+f->i+w7 s i d f n<s.length->s.getD (i+w7 s i d f n) 0≠s.getD (i+w7 s i d f n-d) 0)
 |0,n=>by simp only[w7];exact⟨λk a b=>by omega,λh=>by omega⟩
 |f+1,n=>by
  simp only[w7];split
  ·rename_i c;obtain⟨a,b⟩:=LO s i d f (n+1);refine⟨λk l e=>?_,λh=>b (by omega)⟩;rcases bR n k with h|h;·exact a k h e
   ·obtain rfl:k=n:=by omega
    exact c.2
  ·rename_i c;exact⟨λk a b=>by omega,λ_ g j=>c ⟨g,j⟩⟩
theorem SZ(s:List UInt8)(i d n:Nat)(c:d<=i)(e:i+n<=s.length):(s.drop (i-d)).take n=(s.drop i).take n↔∀k,k<n->s.getD (i+k) 0=s.getD (i+k-d) 0:=by
 constructor;·intro h k a;have b:=aY (λl=>l[k]?) h;simp only[i_,a,cR,fx]at b;simp only[kJ,<-b,show i+k-d=i-d+k from by omega]
 ·intro h;apply gA;intro k;simp only[i_,fx];split;·rename_i a;have :=h k a;rw[kJ,kJ,aP (show i+k<s.length by omega),aP (show i+k-d<s.length by omega)]at this;rw[aP (show i+k<s.length by omega),aP (show i-d+k<s.length by omega)];simp only[dn]at this;rw[this];congr 2;omega
  ·rfl
theorem yA(s:List UInt8)(i d n:Nat)(e:d<=i)(j:n<=wg 64 (s.length-i))(hi:i<=s.length):(s.drop (i-d)).take n=(s.drop i).take n↔n<=w7 s i d 64 0:=by
 rw[SZ s i d n e (by omega)];obtain⟨f,g⟩:=LO s i d 64 0;obtain⟨l,m,o⟩:=Dr s i d 64 0 (by omega);constructor
 ·intro h;rcases bR (w7 s i d 64 0) n with b|c;·exact absurd (h _ b) (g (by omega) (by omega))
  ·exact c
 ·intro h k p;exact f k (by omega) (by omega)
theorem GO(s:List UInt8)(i n:Nat):∀f d,(∀a,d<=a->a<d+f->¬(s.drop (i-a)).take n=(s.drop i).take n)->rd s i n f d=none|0,d,_=>rfl|f+1,d,h=>by simp only[rd,ai (h d (by omega) (by omega))];exact GO s i n f (d+1) λa b c=>h a (by omega) (by omega)
theorem NU(s:List UInt8)(i n D:Nat):∀f d,d<=D->D<d+f->(s.drop (i-D)).take n=(s.drop i).take n->(∀a,d<=a->a<D->¬(s.drop (i-a)).take n=(s.drop i).take n)->rd s i n f d=some D
 |0,d,g,j,_,_=>by omega
 |f+1,d,g,j,c,e=>by
  simp only[rd];split
  ·rename_i b;rcases bR d D with h|h;·exact absurd b (e d (by omega) h)
   ·have :d=D:=by omega
    rw[this]
  ·rename_i b;rcases bR d D with h|h;·exact NU s i n D f (d+1) h (by omega) c λa l k=>e a (by omega) k
   ·have :d=D:=by omega
    rw[this]at b;exact absurd c b
theorem yB(s:List UInt8)(i:Nat):∀f d e b,(lg s i f d e b=(e,b)/\∀a,d<=a->a<d+f->w7 s i a 64 0<=b)\/∃D m,lg s i f d e b=(D,m)/\b<m/\(d<=D/\D<d+f)/\w7 s i D 64 0=m/\(∀a,d<=a->a<d+f->w7 s i a 64 0<=m)/\∀a,d<=a->a<D->w7 s i a 64 0<m
 |0,d,e,b=>.inl ⟨rfl,λa _ _=>by omega⟩
 |f+1,d,e,b=>by
  simp only[lg];split
  ·rename_i q;rcases yB s i f (d+1) d (w7 s i d 64 0)with⟨c,j⟩|⟨D,m,c,j,l,g,n,o⟩
   ·refine .inr ⟨d,_,c,q,by omega,rfl,λa l g=>?_,λa l g=>by omega⟩;rcases bR d a with h|h;·exact j a h (by omega)
    ·have :a=d:=by omega
     rw[this];exact bc _
   ·refine .inr ⟨D,m,c,by omega,by omega,g,λa p k=>?_,λa p k=>?_⟩
    ·rcases bR d a with h|h;·exact n a h (by omega)
     ·have :a=d:=by omega
      rw[this];omega
    ·rcases bR d a with h|h;·exact o a h k
     ·have :a=d:=by omega
      rw[this];omega
  ·rename_i q;rcases yB s i f (d+1) e b with⟨c,j⟩|⟨D,m,c,j,l,g,n,o⟩
   ·refine .inl ⟨c,λa l g=>?_⟩;rcases bR d a with h|h;·exact j a h (by omega)
    ·have :a=d:=by omega
     rw[this];omega
   ·refine .inr ⟨D,m,c,by omega,by omega,g,λa p k=>?_,λa p k=>?_⟩
    ·rcases bR d a with h|h;·exact n a h (by omega)
     ·have :a=d:=by omega
      rw[this];omega
    ·rcases bR d a with h|h;·exact o a h k
     ·have :a=d:=by omega
      rw[this];omega
theorem aaF(s:List UInt8)(i M:Nat)(hi:i<=s.length)(y:M<=i):lg s i M 1 0 0=rl s i M (wg 64 (s.length-i)):=by
 have k:∀d,w7 s i d 64 0<=wg 64 (s.length-i):=λd=>by have :=Dr s i d 64 0 (by omega);omega
 rcases yB s i M 1 0 0 with⟨l,t⟩|⟨D,m,l,t,j,o,u,v⟩
 ·rw[l];have b:∀n,n<=wg 64 (s.length-i)->rl s i M n=(0,0):=by
   intro n;induction n with
    |zero=>intro _;rfl
    |succ n p=>
     intro c;have e:rd s i (n+1) M 1=none:=GO s i (n+1) M 1 λa j o f=>by have :=(yA s i a (n+1) (by omega) c hi).1 f;have :=t a j o;omega
     simp only[rl,e];exact p (by omega)
  exact(b _ (bc _)).symm
 ·rw[l];have w:m<=wg 64 (s.length-i):=by rw[<-o];exact k D
  have b:∀n,m<=n->n<=wg 64 (s.length-i)->rl s i M n=(D,m):=by
   intro n;induction n with
    |zero=>intro h;omega
    |succ n p=>
     intro x c;rcases bR m (n+1)with h|h
     ·have e:rd s i (n+1) M 1=none:=GO s i (n+1) M 1 λa q r f=>by have :=(yA s i a (n+1) (by omega) c hi).1 f;have :=u a q r;omega
      simp only[rl,e];exact p (by omega) (by omega)
     ·have g:m=n+1:=by omega
      have e:rd s i (n+1) M 1=some D:=NU s i (n+1) D M 1 j.1 j.2 ((yA s i D (n+1) (by omega) c hi).2 (by omega)) λa q r f=>by have :=(yA s i a (n+1) (by omega) c hi).1 f;have :=v a q r;omega
      simp only[rl,e,g]
  exact(b _ w (bc _)).symm
end Go.X.Lm
namespace Go.X.Lz
open Go Go.X Go.RowKit Go.X.Pl
abbrev Tk:=Int×Int×Int
def yC(t:Tk):List ay:=[.int .i64 t.1,.int .i64 t.2.1,.int .i64 t.2.2]
def tkV(t:Tk):SV:=.agg [.v (.int .i64 t.1),.v (.int .i64 t.2.1),.v (.int .i64 t.2.2)]
def GP(t:Tk):Bool:=if t.2.1=0 then aU (t.1=0/\0<=t.2.2/\t.2.2<256)else aU ((0<t.2.1/\t.2.1<=64)/\(1<=t.1/\t.1<=256)/\t.2.2=0)
theorem one(t:Tk)(M:Mem):Meets ab 267 [tkV t] M λr _ _=>r=.v (.bool (GP t)):=by
 refine aH [0,1,2,5] Proofs.Tryz.func267 rfl (by kernel_rfl) rfl λw=>?_;unfold GP;by_cases a:t.2.1=0;·rw[aF a];have b:(t.2.1=0)=True:=aK a;simp only[KA,tkV,zW,seval,b];by_cases c:t.1=0<;>by_cases d:0<=t.2.2<;>by_cases e:t.2.2<256<;>simp[c,d,e]
 ·rw[ai a];have b:(t.2.1=0)=False:=ax a;simp only[KA,tkV,zW,seval,b];by_cases c:0<t.2.1<;>by_cases d:t.2.1<=64<;>by_cases e:1<=t.1<;>by_cases f:t.1<=256<;>by_cases g:t.2.2=0<;>simp[c,d,e,f,g]
def PJ:Nat->Nat->List UInt8->List UInt8|0,_,o=>o|n+1,d,o=>PJ n d (o++[o.getD (o.length-d) 0])
def JC:List Tk->List UInt8->List UInt8×Int|[],o=>(o,0)|t::l,o=>if GP t=false then([],1)else if(o.length:Int)<t.1 then([],3)else if 600<(o.length:Int)+max 1 t.2.1 then([],2)else JC l (if t.2.1=0 then o++[bo t.2.2.toNat]else PJ t.2.1.toNat t.1.toNat o)
theorem S0{M:Mem}{v:ay}{l:List Tk}{i:Nat}{r:Tk}(h:RowM M v 3 (l.map yC))(b:l[i]?=some r):((xj M v 3 i 0=.int .i64 r.1/\yU M v 3 i 0)/\(xj M v 3 i 1=.int .i64 r.2.1/\yU M v 3 i 1))/\(xj M v 3 i 2=.int .i64 r.2.2/\yU M v 3 i 2)/\FC v (i:Int):=by
 have a:(l.map yC)[i]?=some (yC r):=by rw[aN,b];rfl
 have c:=h.fG a (off:=0) (by omega);have d:=h.fG a (off:=1) (by omega);have e:=h.fG a (off:=2) (by omega);have f:=(aI.1 b).1;exact⟨⟨⟨c.1,c.2.1⟩,⟨d.1,d.2.1⟩⟩,⟨e.1,e.2.1⟩,h.ix (i:=(i:Int)) (by omega) (by rw[ae];omega)⟩
theorem Y3(y:ay)(l:List Tk)(M:Mem)(F:RowM M y 3 (l.map yC)):Meets ab 212 [.v y] M λr _ _=>r=.tup [.v (.string ⟨(JC l []).1.toArray⟩),.v (.int .i64 (JC l []).2)]:=by
 refine aH [0,2,3,4,6,7,8,9,10,15,20,27,30,38,39,40] Proofs.Tryz.func212 rfl (by kernel_rfl) rfl λw=>?_;generalize hc:JC l []=c;have G:=F.eQ;rw[ae]at G;simp only[Proofs.Tryz.f212,zW,seval,F.gC,F.sl,ae];refine eI 4 51 1 rfl rfl rfl ?_;refine bE (X:=Nat×Nat×List UInt8) (λx=>([(0,true,.v y),(4,true,.own 408),(7,true,.v y),(8,true,.v (.int .i64 l.length)),(9,true,.v (.int .i64 (x.2.1:Int)))],[(408,.row 1 (x.2.2.map iy))],M)) (λx=>(x.1+x.2.1=l.length/\x.2.2.length<=600)/\JC (l.drop x.2.1) x.2.2=c) (λx=>x.1) (l.length,0,[]) ⟨⟨rfl,bJ _⟩,hc⟩ (aR ?_) ?_;·simp only[zV,seval,cr,aZ]
 rintro⟨f,i,o⟩⟨⟨h1,ho⟩,a⟩;simp only at h1 a ho;have e:((o.map iy).length:Int)=(o.length:Int):=by rw[ae]
 by_cases H:i<l.length;rotate_left
 ·have I:((i:Int)<(l.length:Int))=False:=ax (by omega);rw[bh (by omega)]at a;simp only[JC]at a;subst a;have J:(o.map iy).map j8=o:=by
   rw[jB];have :j8∘iy=id:=funext λb=>by show bo ((b.toNat:Int).toNat)=b;rw[aX];exact jm
   rw[this,List.map_id]
  have K:u8s (o.map iy):=by
   have A:∀o:List UInt8,u8s (o.map iy):=λo=>by induction o with|nil=>trivial|cons b o ih=>exact ih
   exact A o
  simp only[zW,seval,I,J];exact K
 have I:((i:Int)<(l.length:Int))=True:=aK (by omega);obtain⟨t,hx,hd⟩:=cE (l:=l) (i:=i) H;obtain⟨⟨L,B⟩,N,W⟩:=S0 F hx;rw[hd]at a;simp only[JC]at a;simp only[zW,seval,I,W,W.2,L.1,L.2,B.1,B.2,N.1,N.2];refine az ⟨rfl,rfl⟩ rfl (one t M) ?_;cases h:GP t with
  |false=>rw[aF h]at a;subst a;simp only[zW,seval]
  |true=>
   rw[ai (by rw[h];decide)]at a;by_cases C:(o.length:Int)<t.1;·rw[aF C]at a;subst a;have q:=aK C;simp only[zW,seval,e,q]
   rw[ai C]at a;have q:=ax C;have hr:0<=t.2.1/\t.2.1<=64/\0<=t.1:=by
    unfold GP at h;split at h;·simp only[br]at h;omega
    ·simp only[br]at h;omega
   obtain⟨Y,O,j⟩:=t;simp only at L B N a q C hr;by_cases P:O=0
   ·subst P;have hb:0<=j/\j<256:=by unfold GP at h;simp only[cR,br]at h;omega
    have s:max (1:Int) 0=1:=rfl;rw[s]at a;by_cases m:600<(o.length:Int)+1;·rw[aF m]at a;subst a;have u:=aK m;simp only[zW,seval,e,q,s,u,cY,lo,hi];omega
    rw[ai m]at a;have u:=ax m;have w8:ig.wrap j=j:=fO (k:=.u8) ⟨by simp only[lo];omega,by simp only[hi];omega⟩;have z:o.map iy++[[.int .u8 j]]=(o++[bo j.toNat]).map iy:=by rw[bq,List.map_singleton];unfold iy;rw[rP,Nat.mod_eq_of_lt (by omega),pv hb.1]
    simp only[zW,seval,e,q,s,u,w8,z,cY,lo,hi];rw[ae];refine⟨by omega,by omega,?_⟩;refine bE (X:=Unit) (λ_=>([(0,true,.v y),(4,true,.own 288),(7,true,.v y),(8,true,.v (.int .i64 l.length)),(9,true,.v (.int .i64 (i:Int))),(38,true,.v (.int .i64 0)),(39,true,.v (.int .i64 0))],[(288,.row 1 ((o++[bo j.toNat]).map iy))],M)) (λ_=>True) (λ_=>0) () trivial (aR ?_) ?_;·simp only[zV,seval]
    intro _ _;simp only[zW,seval,cY,lo,hi,Int.lt_irrefl];refine⟨by omega,(f-1,i+1,o++[bo j.toNat]),⟨⟨⟨by simp only;omega,by simp only[aG,bG];omega⟩,a⟩,by simp only;omega⟩,i6 4 51 288 1 _ rfl rfl rfl rfl (aR ?_)⟩;simp only[zV,seval,aJ]
   obtain⟨n,rfl⟩:∃n:Nat,O=n:=⟨O.toNat,by omega⟩;obtain⟨d,rfl⟩:∃d:Nat,Y=d:=⟨Y.toNat,by omega⟩;have hn1:n≠0:=by omega
   have hd1:1<=d:=by unfold GP at h;rw[ai (by simp only;omega),br]at h;omega
   have s:max (1:Int) (n:Int)=(n:Int):=by omega
   rw[s,ai (show¬((d:Int),(n:Int),j).2.1=0 from P)]at a;have Z:=ax P;by_cases m:600<(o.length:Int)+(n:Int);·rw[aF m]at a;subst a;have u:=aK m;simp only[zW,seval,e,q,s,u,Z,cY,lo,hi];omega
   rw[ai m]at a;have u:=ax m;simp only[zW,seval,e,q,s,u,Z,cY,lo,hi,aX]at a⊢;refine⟨by omega,?_⟩;refine bE (X:=Nat×Nat×List UInt8) (λx=>([(0,true,.v y),(4,true,.own 408),(6,true,.ptr 48 0 0 0),(7,true,.v y),(8,true,.v (.int .i64 l.length)),(9,true,.v (.int .i64 (i:Int))),(38,true,.v (.int .i64 (n:Int))),(39,true,.v (.int .i64 (x.2.1:Int)))],[(48,.box [.v (.int .i64 (d:Int)),.v (.int .i64 (n:Int)),.v (.int .i64 j)] none),(408,.row 1 (x.2.2.map iy))],M)) (λx=>(x.1+x.2.1=n/\x.2.2.length=o.length+x.2.1)/\PJ x.1 d x.2.2=PJ n d o) (λx=>x.1) (n,0,o) ⟨⟨rfl,rfl⟩,rfl⟩ (aR ?_) ?_;·simp only[zV,seval,aZ]
   rintro⟨g,k,p⟩⟨⟨m1,m2⟩,D⟩;simp only at m1 m2 D;have Q:((p.map iy).length:Int)=(p.length:Int):=by rw[ae]
   have k3:d<=o.length:=by omega
   by_cases hkn:k<n
   ·have R:((k:Int)<(n:Int))=True:=aK (by omega);have e1:(p.length:Int)-(d:Int)=((p.length-d:Nat):Int):=by omega
    obtain⟨S,rfl⟩:∃B,g=B+1:=⟨g-1,by omega⟩;obtain⟨b,E,_⟩:=cE (l:=p) (i:=p.length-d) (by omega);have T:(p.map iy)[p.length-d]?=some [.int .u8 (b.toNat:Int)]:=by rw[aN,E];rfl
    have U:p.getD (p.length-d) 0=b:=by rw[cN,E];rfl
    simp only[PJ,U]at D;have V:((p.map iy).getD (p.length-d) []).getD 0 dN=.int .u8 (b.toNat:Int):=by
     have h0:(p.map iy).getD (p.length-d) []=[.int .u8 (b.toNat:Int)]:=by rw[cN,T];rfl
     rw[h0];rfl
    have z:p.map iy++[[.int .u8 (b.toNat:Int)]]=(p++[b]).map iy:=by rw[bq];rfl
    simp only[zW,seval,R,Q,e1,V,z,cY,lo,hi];rw[ae];refine⟨by omega,by omega,by omega,⟨by omega,by omega⟩,by omega,(S,k+1,p++[b]),⟨⟨⟨by simp only;omega,by simp only[aG,bG];omega⟩,D⟩,by simp only;omega⟩,aR ?_⟩;simp only[zV,seval,aJ]
   ·have R:((k:Int)<(n:Int))=False:=ax (by omega);have hg:g=0:=by omega
    subst hg;simp only[PJ]at D;rw[<-D]at a;simp only[zW,seval,R,cY,lo,hi];refine⟨by omega,(f-1,i+1,p),⟨⟨⟨by simp only;omega,by simp only;omega⟩,a⟩,by simp only;omega⟩,aR ?_⟩;simp only[zV,seval,aJ]
end Go.X.Lz
namespace Go.X.Lz
open Go Go.X Go.RowKit Go.X.Lm
def Bv(s:List UInt8)(a i:Nat):Nat×Nat:=lg s i (wg a i) 1 0 0
def DX(s:List UInt8)(a i:Nat):Tk:=if(Bv s a i).2<2 then(0,0,((s.getD i 0).toNat:Int))else((Bv s a i).1,(Bv s a i).2,0)
def LP(s:List UInt8)(a i:Nat):Nat:=if(Bv s a i).2<2 then 1 else(Bv s a i).2
def iu(s:List UInt8)(a:Nat):Nat->Nat->List Tk|0,_=>[]|f+1,i=>if i<s.length then DX s a i::iu s a f (i+LP s a i)else[]
theorem NV(s:List UInt8)(a i:Nat):1<=LP s a i:=by unfold LP;split<;>omega
theorem w9(s:List UInt8)(a:Nat):∀(f g i:Nat),s.length-i<=f->s.length-i<=g->iu s a f i=iu s a g i
 |0,0,i,_,_=>rfl
 |0,g+1,i,h,_=>by rw[iu,iu,ai (by omega)]
 |f+1,0,i,_,h=>by rw[iu,iu,ai (by omega)]
 |f+1,g+1,i,b,c=>by
  rw[iu,iu];have :=NV s a i;split;·rw[w9 s a f g _ (by omega) (by omega)]
  ·rfl
theorem Fp(s:List UInt8)(a:Nat):∀f,iu s a f s.length=[]|0=>rfl|f+1=>by rw[iu,ai (Nat.lt_irrefl _)]
theorem NW{i m n:Nat}(h:i+m<=n)(a:n<=600):wrap64 ((i:Int)+m)=(i:Int)+m:=PE _ ⟨by omega,by omega⟩
theorem Y4(i m:Nat):((i:Int)+m).toNat=i+m:=by omega
theorem Ds(s:List UInt8)(a i:Nat)(h:i<s.length):iu s a s.length i=DX s a i::iu s a s.length (i+LP s a i):=by have b:=w9 s a s.length (s.length-1+1) i (by omega) (by omega);have c:=w9 s a (s.length-1) s.length (i+LP s a i) (by have :=NV s a i;omega) (by omega);rw[b,iu,aF h,c]
theorem S1(s:List UInt8)(a i:Nat)(hi:i<=s.length):i+(Bv s a i).2<=s.length:=by
 unfold Bv;rcases yB s i (wg a i) 1 0 0 with⟨b,_⟩|⟨D,m,b,_,_,c,_⟩;·rw[b];exact hi
 ·rw[b];have :=Dr s i D 64 0 (by omega);simp only at*;omega
theorem lgC(s:List UInt8)(i a:Nat)(w:bQ)(f:s.length<=600)(c:i<=s.length)(g:1<=a)(d:a<=256):Calls ab 210 #[.string ⟨s.toArray⟩,.int .i64 i,.int .i64 a] w λe w'=>e=.returned (.tuple #[.int .i64 ((Bv s a i).1:Nat),.int .i64 ((Bv s a i).2:Nat),.int .i64 0])/\um w.heap.size w w':=by refine((V6 s i a (λb=>w.heap[b]?) f c g d).2 w (λ_ _ e=>e)).mono ?_;rintro e w'⟨r,G,N,v,rfl,h,rfl⟩;exact⟨by simp[SV.cL,aS,Bv],h.below⟩
end Go.X.Lz
namespace Go.Proofs
open Go.RowKit Go.Shelf
attribute[local go_sem]Oper.semAt_some
theorem S2{W:bQ}{a:qz}{v:ay}(o:Obj)(h:W.cell? a=some v):(W.alloc o).cell? a=some v:=cell_kept h (World.grownBy_alloc W o none) (λr e=>by cases e)
theorem Ek{w w':bQ}(h:um w.heap.size w w'):w.grownBy w' none:=⟨h.os,h.tape,h.output,h.size,λk a _=>h.block k a⟩
def KpZ(b c d:Nat)(A B:bQ):Prop:=um b A B/\B.heap[c]?=A.heap[c]?/\B.heap[d]?=A.heap[d]?
theorem S3(a b c:Nat)(A:bQ):KpZ a b c A A:=⟨dQ _ _,rfl,rfl⟩
theorem KpZ.NX{a b c:Nat}{A B C:bQ}(h:KpZ a b c A B)(k:KpZ a b c B C):KpZ a b c A C:=⟨h.1.trans k.1,k.2.1.trans h.2.1,k.2.2.trans h.2.2⟩
theorem S4{a b c:Nat}{A B:bQ}(h:um A.heap.size A B)(d:a<=A.heap.size)(e:b<A.heap.size)(f:c<A.heap.size):KpZ a b c A B:=⟨h.mono d,h.block _ e,h.block _ f⟩
theorem KpZ.cs{a b c:Nat}{A B:bQ}{v:Option ay}(h:KpZ a b c A B)(d:A.cell? ⟨b,0,none⟩=v):B.cell? ⟨b,0,none⟩=v:=by rw[<-d];unfold qv;rw[h.2.1]
theorem KpZ.cw{a c b:Nat}{A B:bQ}{v:Option ay}(h:KpZ a c b A B)(d:A.cell? ⟨b,0,none⟩=v):B.cell? ⟨b,0,none⟩=v:=by rw[<-d];unfold qv;rw[h.2.2]
theorem q7{A:bQ}{b:Nat}{v:ay}(h:A.cell? ⟨b,0,none⟩=some v):b<A.heap.size:=by
 rcases bR b A.heap.size with a|a;·exact a
 ·unfold qv at h;rw[Array.getElem?_eq_none a]at h;cases h
set_option maxRecDepth 100000 in set_option maxHeartbeats 2000000 in theorem El(n:Nat)(hn:2<=n)(l Bs Bw n₀:Nat)(s:List UInt8)(win:Nat)(hs:s.length<=600)(hw:1<=win)(hw2:win<=256)(J Jx:List X.Lz.Tk->bQ->Prop)(W:bQ)(hn₀:n₀<=W.heap.size)(hJ:AbidesFrom W.heap.size J)(hY:∀pre x W1,J pre W1->pre.length<s.length->YieldAt Hc (n-1) ab l #[.agg #[.int .i64 x.1,.int .i64 x.2.1,.int .i64 x.2.2]] W1 λe W'=>(e=.returned (.bool true)/\J (pre++[x]) W'/\KpZ n₀ Bs Bw W1 W')\/(e=.returned (.bool false)/\Jx (pre++[x]) W'))(hcs:W.cell? ⟨Bs,0,none⟩=some (.string ⟨s.toArray⟩))(hcw:W.cell? ⟨Bw,0,none⟩=some (.int .i64 win))(h0:J [] W):CallsIn Hc n ab 266 #[.func (.yield l) #[] #[],.pointer (some ⟨Bs,0,none⟩),.pointer (some ⟨Bw,0,none⟩)] W λe W'=>(∃v,e=.returned v)/\((∃ys,ys=X.Lz.iu s win s.length 0/\J ys W')\/(∃pre,pre<+:X.Lz.iu s win s.length 0/\Jx pre W')):=by
 refine callsIn_of_wp Tryz.func266 rfl trivial ?_ rfl;simp only[Tryz.ntmps266,dh,aM,bM,aj,Nat.reduceSub,PF,PG,List.push_toArray,Uu,eX,gW];gi_wp2;gi_loopw[4](λp wr=>∃(pre:List X.Lz.Tk)(i:Nat),p=.int .i64 i/\i<=s.length/\pre.length<=i/\X.Lz.iu s win s.length 0=pre++X.Lz.iu s win s.length i/\KpZ n₀ Bs Bw W wr/\J pre wr)(λp _=>s.length-(match p with|.int _ i=>i.toNat|_=>0));case atStart=>exact⟨[],0,rfl,bJ _,bJ _,rfl,S3 _ _ _ _,h0⟩
 case round=>
  obtain⟨pre,i,rfl,hi,hpl,hx,hB,hJs⟩:=hrel;have hBs1:wr.cell? ⟨Bs,0,none⟩=some (.string ⟨s.toArray⟩):=hB.cs hcs;have hBw1:wr.cell? ⟨Bw,0,none⟩=some (.int .i64 win):=hB.cw hcw;have hsz:(ByteArray.mk s.toArray).size=s.length:=by simp[pc]
  by_cases hlt:i<s.length;rotate_left
  ·obtain rfl:i=s.length:=by omega
   gi_wp2;go_end0;refine⟨⟨_,rfl⟩,.inl ⟨pre,?_,hJs⟩⟩;rw[hx];have :=X.Lz.Fp s win s.length;rw[this,cS]
  ·obtain⟨⟨d,m⟩,hr⟩:∃r,X.Lz.Bv s win i=r:=⟨_,rfl⟩;have hC:=λw=>X.Lz.lgC s i win w hs hi hw hw2;rw[hr]at hC;simp only at hC;have hJ2:∀(w2:bQ)(o:Obj),um wr.heap.size wr w2->J pre (w2.alloc o):=λw2 o hb=>hJ pre wr _ none hJs (Ek (hb.alloc hb.size o)) (λr e=>by cases e);have hB2:∀(w2:bQ)(o:Obj),um wr.heap.size wr w2->KpZ n₀ Bs Bw W (w2.alloc o):=λw2 o hb=>hB.NX (S4 (hb.alloc hb.size o) (by have :=hB.1.size;omega) (q7 hBs1) (q7 hBw1));have hpre:pre.length<s.length:=by omega
   have hpx:=X.Lz.Ds s win i hlt;by_cases hm:m<2
   ·have hm':(m:Int)<2:=by omega
    have htk:X.Lz.DX s win i=(0,0,wrap64 ((ByteArray.mk s.toArray)[i]'(by rw[hsz];exact hlt)).toNat):=by
     unfold X.Lz.DX;rw[hr,aF hm];have h1:((ByteArray.mk s.toArray)[i]'(by rw[hsz];exact hlt))=s.getD i 0:=by rw[cN,aP hlt];rfl
     rw[h1];have :=(s.getD i 0).toNat_lt;rw[PE _ ⟨by omega,by omega⟩]
    have had:X.Lz.LP s win i=1:=by unfold X.Lz.LP;rw[hr,aF hm]
    have f1:i+1<=s.length:=hlt;have f2:(pre++[X.Lz.DX s win i]).length<=i+1:=by rw[aG,bG];omega
    have f3:X.Lz.iu s win s.length 0=(pre++[X.Lz.DX s win i])++X.Lz.iu s win s.length (i+1):=by rw[hx,hpx,had,bN];rfl
    have f4:s.length-(i+1)<s.length-i:=by omega
    gi_wp2_with(refine⟨trivial,λ_=>by omega,?_⟩;gi_at_call 210;refine(callsIn_wide.2 (hC _)).mono ?_;rintro e w2⟨rfl,hb2⟩;have hBs2:=(hb2.cell (p:=⟨Bs,0,none⟩) (q7 hBs1)).trans hBs1;have hBw2:=(hb2.cell (p:=⟨Bw,0,none⟩) (q7 hBw1)).trans hBw1;have hBs3:=S2 (.cells #[.int .i64 d,.int .i64 m,.int .i64 0] 167) hBs2;obtain⟨fn,tmps,assign,body,hy,hR⟩:=hY pre (X.Lz.DX s win i) (w2.alloc (.cells #[.int .i64 0,.int .i64 0,.int .i64 (wrap64 ((ByteArray.mk s.toArray)[i]'(by rw[hsz];exact hlt)).toNat)] 167)) (hJ2 _ _ hb2) hpre;rw[htk]at hy);refine⟨λ_=>by omega,hR.mono ?_⟩;rintro e W3(⟨rfl,hJ3,hk3⟩|⟨rfl,hJx3⟩)
    ·gi_wp2;go_roundw;case rel=>exact⟨pre++[X.Lz.DX s win i],i+1,rfl,f1,f2,f3,(hB2 _ _ hb2).NX hk3,hJ3⟩
     case measure=>exact f4
    ·gi_wp2;refine bodyPost_ret (results_none rfl _ _ _) rfl ?_;exact⟨⟨_,rfl⟩,.inr ⟨pre++[X.Lz.DX s win i],⟨_,by rw[hx,hpx,bN];rfl⟩,hJx3⟩⟩
   ·have hm':((m:Int)<2)=False:=ax (by omega);have hm64:i+m<=s.length:=by have :=X.Lz.S1 s win i hi;rw[hr]at this;exact this
    have htk:X.Lz.DX s win i=((d:Int),(m:Int),0):=by unfold X.Lz.DX;rw[hr,ai hm]
    have had:X.Lz.LP s win i=m:=by unfold X.Lz.LP;rw[hr,ai hm]
    have f2:(pre++[X.Lz.DX s win i]).length<=i+m:=by rw[aG,bG];omega
    have f3:X.Lz.iu s win s.length 0=(pre++[X.Lz.DX s win i])++X.Lz.iu s win s.length (i+m):=by rw[hx,hpx,had,bN];rfl
    have f4:s.length-(i+m)<s.length-i:=by omega
    gi_wp2_with(refine⟨trivial,λ_=>by omega,?_⟩;gi_at_call 210;refine(callsIn_wide.2 (hC _)).mono ?_;rintro e w2⟨rfl,hb2⟩;have hBs2:=(hb2.cell (p:=⟨Bs,0,none⟩) (q7 hBs1)).trans hBs1;have hBw2:=(hb2.cell (p:=⟨Bw,0,none⟩) (q7 hBw1)).trans hBw1;have hBs3:=S2 (.cells #[.int .i64 d,.int .i64 m,.int .i64 0] 167) hBs2;obtain⟨fn,tmps,assign,body,hy,hR⟩:=hY pre (X.Lz.DX s win i) (w2.alloc (.cells #[.int .i64 d,.int .i64 m,.int .i64 0] 167)) (hJ2 _ _ hb2) hpre;rw[htk]at hy);refine⟨λ_=>by omega,hR.mono ?_⟩;rintro e W3(⟨rfl,hJ3,hk3⟩|⟨rfl,hJx3⟩)
    ·gi_wp2;go_roundw;case rel=>exact⟨pre++[X.Lz.DX s win i],i+m,by simp[X.Lz.NW hm64 hs],hm64,f2,f3,(hB2 _ _ hb2).NX hk3,hJ3⟩
     case measure=>simpa[X.Lz.NW hm64 hs,X.Lz.Y4]using f4
    ·gi_wp2;refine bodyPost_ret (results_none rfl _ _ _) rfl ?_;exact⟨⟨_,rfl⟩,.inr ⟨pre++[X.Lz.DX s win i],⟨_,by rw[hx,hpx,bN];rfl⟩,hJx3⟩⟩
theorem GQ(n:Nat)(s:List UInt8)(win:Nat)(w:bQ):CallsIn Hc n ab 211 #[.string ⟨s.toArray⟩,.int .i64 win] w λe w'=>e=.returned (.func (.func 266) #[] #[.pointer (some ⟨w.heap.size,0,none⟩),.pointer (some ⟨w.heap.size+1,0,none⟩)])/\w'=(w.alloc (.cells #[.string ⟨s.toArray⟩] 9)).alloc (.cells #[.int .i64 win] 3):=by refine callsIn_of_wp Tryz.func211 rfl trivial ?_ rfl;simp only[Tryz.ntmps211,dh,aM,bM,aj,Nat.reduceSub,PF,PG,List.push_toArray,Uu,eX,gW];gi_wp2;go_ret;exact⟨rfl,rfl⟩
theorem AX(n:Nat)(k:2<=n)(d e b:Nat)(s:List UInt8)(a:Nat)(m:s.length<=600)(o:1<=a)(h:a<=256)(w:bQ)(c:b<=w.heap.size)(f:w.cell? ⟨d,0,none⟩=some (.string ⟨s.toArray⟩))(g:w.cell? ⟨e,0,none⟩=some (.int .i64 a)):SeqStopsK Hc n ab 266 #[.pointer (some ⟨d,0,none⟩),.pointer (some ⟨e,0,none⟩)] (λx:X.Lz.Tk=>#[.agg #[.int .i64 x.1,.int .i64 x.2.1,.int .i64 x.2.2]]) (KpZ b d e) (λq=>q=X.Lz.iu s a s.length 0) (λi=>i<+:X.Lz.iu s a s.length 0) s.length w:=λl J r W j t _ u v=>El n k l d e b s a m o h J r W (b6 c j.size) t u ((j.cell (p:=⟨d,0,none⟩) (q7 f)).trans f) ((j.cell (p:=⟨e,0,none⟩) (q7 g)).trans g) v
end Go.Proofs
namespace Go.Proofs
open Go.RowKit Go.Shelf
attribute[local go_sem]Oper.semAt_some
def zR(l:List X.Lz.Tk):List ay:=(l.map X.Lz.yC).flatten
theorem LQ(l:List X.Lz.Tk)(x:X.Lz.Tk):zR (l++[x])=zR l++[.int .i64 x.1,.int .i64 x.2.1,.int .i64 x.2.2]:=by simp[zR,X.Lz.yC]
theorem JD:(ab.info? 167).map (λi=>(i.zero,i.size,i.bytes))=some (some (.agg #[.int .i64 0,.int .i64 0,.int .i64 0]),3,24):=by kernel_rfl
theorem Pg(W:bQ)(l:List ay)(t:bL):∀j u,l[j]?=some u->(W.alloc (.cells l.toArray t)).cell? ((⟨W.heap.size,0,none⟩:qz).add j)=some u:=λj u h=>by have a:=Om W (.cells l.toArray t);rw[mg];simp only[qv,b7];rw[a];simpa using h
set_option maxRecDepth 100000 in set_option maxHeartbeats 4000000 in theorem Em(n:Nat)(hn:5<=n)(s:List UInt8)(win:Nat)(hs:s.length<=600)(hw:1<=win)(hw2:win<=256)(w:bQ):CallsIn Hc n ab 169 #[.string ⟨s.toArray⟩,.int .i64 win] w λe W'=>∃v,e=.returned (.tuple #[v,.int .i64 0])/\W'.ownsRow w.heap.size 167 3 v (X.Lz.iu s win s.length 0).length (zR (X.Lz.iu s win s.length 0))/\um w.heap.size w W':=by
 have h1:1<=n:=by omega
 obtain⟨i0,hi,hz0,hz1,hz2⟩:=info_parts JD;have hC:=λw=>X.Lz.lgC s 0 win w hs (bJ _) hw hw2;simp only[aZ]at hC;refine callsIn_of_wp_marks J_ rfl trivial ?_ rfl;simp only[Tryz.ntmps169,dh,aM,bM,aj,Nat.reduceSub,PF,PG,List.push_toArray,Uu,eX,gW];gi_wp2_with(first|(refine⟨trivial,?_⟩;gi_at_call 210;refine(callsIn_wide.2 (hC _)).mono ?_;rintro e w1⟨rfl,hb1⟩)|(refine⟨trivial,?_⟩;gi_at_call 211;refine(GQ _ s win _).mono ?_;rintro e w'⟨rfl,rfl⟩));obtain⟨W0,hW0⟩:∃W0,(((w1.alloc (.cells #[.slice none 0 0] 126)).alloc (.cells #[.string ⟨s.toArray⟩] 9)).alloc (.cells #[.int .i64 win] 3))=W0:=⟨_,rfl⟩;have bO:=((Uv w1 126 (.slice none 0 0)).alloc (.cells #[.string ⟨s.toArray⟩] 9)).alloc (.cells #[.int .i64 win] 3);have bS:=(Uv (w1.alloc (.cells #[.slice none 0 0] 126)) 9 (.string ⟨s.toArray⟩)).alloc (.cells #[.int .i64 win] 3);have bW:=Uv ((w1.alloc (.cells #[.slice none 0 0] 126)).alloc (.cells #[.string ⟨s.toArray⟩] 9)) 3 (.int .i64 win);simp only[World.size_alloc]at bS bW;have hsz:W0.heap.size=w1.heap.size+3:=by rw[<-hW0];simp
 have hB0:um w.heap.size w W0:=by rw[<-hW0];exact(hb1.alloc hb1.size _).alloc (by have :=hb1.size;simp;omega) _|>.alloc (by have :=hb1.size;simp;omega) _
 have hle:=hb1.size;rw[hW0]at bO bS bW⊢;clear hW0;refine wpIn_rangeFunc_ownH rfl h1 (gf:=266) (lb:=#[.pointer (some ⟨w1.heap.size+1,0,none⟩),.pointer (some ⟨w1.heap.size+1+1,0,none⟩)]) rfl trivial (enters_of Tryz.func266 (by kernel_rfl) rfl) (AX (n-1) (by omega) (w1.heap.size+1) (w1.heap.size+1+1) w.heap.size s win hs hw hw2 W0 (by omega) bS.cell bW.cell) (λh k=>h.NX k) (λW l o o' hl hlo hc hk=>⟨belowK_b (w:=W0) (by omega) W l o o' hl hlo hc hk,Ka (by omega),Ka (by omega)⟩) (dQ _ _) (λ_=>rfl) (λpre W=>(((∃v,Boxed W w1.heap.size 126 v/\W.ownsRow w.heap.size 167 3 v pre.length (zR pre)/\True)/\Boxed W (w1.heap.size+1) 9 (.string ⟨s.toArray⟩))/\Boxed W (w1.heap.size+1+1) 3 (.int .i64 win))/\um w.heap.size w W) (λ_ _ _=>False) (KB (KB (KB (Own.from (holdsRow_own w.heap.size w1.heap.size 126 167 3 (λpre=>pre.length) (λpre=>zR pre) (λ_ _=>True)) _) (Own.from (boxed_own _ _ _) _)) (Own.from (boxed_own _ _ _) _)) (ownFrom_below (bc _) (by omega))) (λ_ _ _ _ _ hs _ _=>hs) ⟨⟨⟨⟨_,bO,World.ownsRow_nil _ _ _ _,trivial⟩,bS⟩,bW⟩,hB0⟩ (λx a' W=>∃Bx,w1.heap.size+1+1<Bx/\W.heap[Bx]?=some (.cells #[.int .i64 x.1,.int .i64 x.2.1,.int .i64 x.2.2] 167 (0,0))/\a'={tmps:=#[.string ⟨s.toArray⟩,.int .i64 win,dN,dN,.slice none 0 0,.int .i64 0,.int .i64 ((X.Lz.Bv s win 0).1:Nat),.int .i64 ((X.Lz.Bv s win 0).2:Nat),.int .i64 0,.pointer (some ⟨w1.heap.size,0,none⟩),.pointer (some ⟨Bx,0,none⟩),.tuple #[.int .i64 ((X.Lz.Bv s win 0).1:Nat),.int .i64 ((X.Lz.Bv s win 0).2:Nat),.int .i64 0],.string ⟨s.toArray⟩,.int .i64 win,.tuple #[.int .i64 ((X.Lz.Bv s win 0).1:Nat),.int .i64 ((X.Lz.Bv s win 0).2:Nat),.int .i64 0],.int .i64 ((X.Lz.Bv s win 0).1:Nat),.int .i64 ((X.Lz.Bv s win 0).2:Nat),.int .i64 0,.int .i64 0,.bool false,dN,.string ⟨s.toArray⟩,.int .i64 win,.func (.func 266) #[] #[.pointer (some ⟨w1.heap.size+1,0,none⟩),.pointer (some ⟨w1.heap.size+1+1,0,none⟩)],.agg #[.int .i64 x.1,.int .i64 x.2.1,.int .i64 x.2.2],dN,dN,dN,dN,dN],defers:=[]}) (λx a' _ X Y row hs hg hr=>by obtain⟨Bx,h1,h2,h3⟩:=hs;refine⟨Bx,h1,(hg.block Bx (bV.1 h2).1 (λe=>?_)).trans h2,h3⟩;obtain⟨_,o,ho,hc⟩:=hr Bx e.symm;rw[h2]at ho;cases ho;cases hc) ?assign ?body ?done ?stop;case assign=>rintro l pre x W K⟨⟨⟨⟨v,hv,hrow,_⟩,bS1⟩,bW1⟩,hB1⟩hK;gi_wp2;exact hK _ _ ((KeepsOthers.alloc _ _).from _) (S4 ((dQ _ W).alloc (bc _) _) hB1.size bS1.lt bW1.lt) ⟨⟨⟨⟨v,hv.alloc _,hrow.alloc _,trivial⟩,bS1.alloc _⟩,bW1.alloc _⟩,hB1.alloc hB1.size _⟩ ⟨W.heap.size,bW1.lt,Om W _,rfl⟩
 case body=>
  rintro l pre x a' W hl⟨r,hr⟩⟨⟨⟨⟨v,hv,hrow,_⟩,bS1⟩,bW1⟩,hB1⟩⟨Bx,hBx,hX,rfl⟩hlt;have hc:=hv.cell;have c0:W.cell? ⟨Bx,0,none⟩=some (.int .i64 x.1):=by simp[qv,hX]
  have c1:W.cell? ⟨Bx,1,none⟩=some (.int .i64 x.2.1):=by simp[qv,hX]
  have c2:W.cell? ⟨Bx,2,none⟩=some (.int .i64 x.2.2):=by simp[qv,hX]
  have hlW:=hB1.size;gi_wp2_with(gi_at_builtin;refine wpListIn_append_own _ rfl _ _ 126 rfl w.heap.size 167 i0 _ 3 24 Tryz.underlying126 hi hz0 hz1 hz2 rfl (by decide) _ _ _ rfl (hrow.alloc _) ⟨W.heap.size,0,none⟩ 1 1 [.int .i64 x.1,.int .i64 x.2.1,.int .i64 x.2.2] rfl rfl (Pg W _ _) (by simp[iR]) (by simp only[dB];omega) (by omega) (by simp;omega) ?_;intro v' w2 hown' hgrow _;obtain⟨g',cap',rfl⟩:=ownsRow_succ hown';obtain⟨hv1,hv2,hr2,hk2,hb2⟩:=hv.appended (by decide) hrow hlW hle hown' hgrow;have hc1:=hv1.cell;have hf1:=hv1.frozen;have bS3:=((bS1.alloc _).kept hgrow (bS1.not_row (by decide) hrow)).other (B':=w1.heap.size) (by omega) (.slice (some ⟨g',0,none⟩) (pre.length+1) cap');have bW3:=((bW1.alloc _).kept hgrow (bW1.not_row (by decide) hrow)).other (B':=w1.heap.size) (by omega) (.slice (some ⟨g',0,none⟩) (pre.length+1) cap'));exact⟨hk2.from _,⟨hb2,(show _=_ from bS3).trans (show _=_ from bS1).symm,(show _=_ from bW3).trans (show _=_ from bW1).symm⟩,⟨⟨⟨_,hv2,by rw[LQ,aG];exact hr2,trivial⟩,bS3⟩,bW3⟩,hB1.trans hb2⟩
 case done=>rintro D ys W hD rfl⟨⟨⟨⟨v,hv,hrow,_⟩,bS1⟩,bW1⟩,hB1⟩hK;have hc:=hv.cell;gi_wp2;refine⟨by simp,.inl ⟨_,_,rfl,run_takeDeferred hK,?_⟩⟩;exact⟨_,results_tmp2 rfl _ _ _,v,rfl,ownsRow_putObj hrow _ hK rfl,hB1.trans (belowK_b (w:=W0) (by omega) W D _ _ hD hK rfl rfl)⟩
 case stop=>rintro D c pre W _ _ h _;exact h.elim
end Go.Proofs
namespace Go.X.Lz
open Go Go.X Go.RowKit Go.X.Lm
theorem JE{P:bZ}{f:kH}{args:List SV}{M:Mem}{e sz:Nat}{es:List (List ay)}{T:SV->SV}(D:Ctx T)(j:jr P f)(m:∀e∈es,e.length=sz/\∀c∈e,c.oneCell'=true)(h:∀w,Calls P f (aS vu args).toArray w λr w'=>∃v,r=.returned ((T (.v v)).cL vu)/\w'.ownsRow w.heap.size e sz v es.length es.flatten/\um w.heap.size w w'):Meets P f args M (OwnR T sz es):=by
 refine⟨j,λw y=>(h w).mono ?_⟩;rintro r w'⟨v,rfl,⟨H,n⟩,l⟩;have q:M.on w':=λb o s=>by have z:=y b o s;rw[l.block b (bV.1 z).1];exact z
 have k:v.oneCell'=true:=by rcases n with⟨rfl,_⟩|⟨g,d,i,rfl,_⟩<;>rfl
 refine⟨T (.own 0),[(0,.row sz es)],M,λ_=>v,by rw[D (.v v) (.own 0) vu (λ_=>v) rfl],⟨λp A=>?_,?_,λc j=>?_,q,l,cg _,λb l=>.inl l,λ_=>k⟩,0,rfl,rfl⟩
 ·simp only[bD]at A;subst A;refine⟨m,?_⟩;rcases n with⟨rfl,B⟩|⟨g,d,i,rfl,_,C,t,E,u,F⟩;·exact .inl ⟨rfl,lB B⟩
  ·refine .inr ⟨g,d,e,i.toList.drop (es.length*sz),rfl,t,E,?_,?_⟩;·rw[aT,jE,u,<-Nat.mul_sub_right_distrib]
   ·rw[<-F,iT,Array.toArray_toList];exact C
 ·simp only[fp,bK,eu];cases ee v<;>simp
 ·simp only[fp,bK,eu]at j;rcases n with⟨rfl,B⟩|⟨g,d,i,rfl,x,C,_⟩;·simp[ee]at j
  ·simp only[ee,bD]at j;subst j;refine⟨?_,x⟩;cases G:M c with|none=>rfl|some o=>have :=(bV.1 (y c o G)).1;omega
theorem V7(s:List UInt8)(a:Nat)(M:Mem)(f:s.length<=600)(g:1<=a)(b:a<=256):Meets ab 169 [.v (.string ⟨s.toArray⟩),.v (.int .i64 a)] M (OwnR (λt=>.tup [t,.v (.int .i64 0)]) 3 ((iu s a s.length 0).map yC)):=by
 refine JE (e:=167) (ku _) ⟨_,J_,by kernel_rfl,by kernel_rfl⟩ (λe h=>?_) λw=>?_;·obtain⟨x,_,rfl⟩:=dq.1 h;exact⟨rfl,λc d=>by simp[yC]at d;rcases d with rfl|rfl|rfl<;>rfl⟩
 ·refine(callsIn_wide.1 (Proofs.Em 9 (by omega) s a f g b w)).mono ?_;rintro r u⟨v,rfl,i,j⟩;exact⟨v,by simp[SV.cL,aS],by rw[ae];exact i,j⟩
end Go.X.Lz
namespace Go.X.Lz
open Go Go.X Go.RowKit Go.X.Lm
theorem JF(s:List UInt8)(a:Int)(M:Mem)(b:600<s.length):Meets ab 169 [.v (.string ⟨s.toArray⟩),.v (.int .i64 a)] M λr _ _=>r=.tup [.v (.slice none 0 0),.v (.int .i64 2)]:=by refine aH [0,1,4,5,8,9,10,19,23,24] J_ rfl (by kernel_rfl) rfl λw=>?_;simp only[Proofs.Tryz.f169,zW,seval];refine az ⟨rfl,rfl⟩ rfl (Ej s 0 a M b) ?_;simp only[zW,seval]
theorem Y5(s:List UInt8)(a:Nat)(M:Mem)(B:s.length<=600)(C:1<=a)(o:a<=256):Meets ab 84 [.v (.string ⟨s.toArray⟩),.v (.int .i64 a)] M (OwnR (λt=>t) 3 ((iu s a s.length 0).map yC)):=by
 refine aH [0,1,4,5,6,7,8,12,21] Proofs.Tryz.func84 rfl (by kernel_rfl) rfl λw=>?_;simp only[Proofs.Tryz.f84,zW,seval];refine eI 5 27 3 rfl rfl rfl ?_;refine bE (X:=List Tk×Nat) (λx=>([(0,true,.v (.string ⟨s.toArray⟩)),(1,true,.v (.int .i64 a)),(4,true,.v (.slice none 0 0)),(5,true,.own 216),(6,true,.v (.int .i64 (x.2:Int)))],[(216,.row 3 (x.1.map yC))],M)) (λx=>x.2<=s.length/\x.1.length<=x.2/\iu s a s.length 0=x.1++iu s a s.length x.2) (λx=>s.length-x.2) ([],0) ⟨bJ _,bc _,rfl⟩ (aR ?_) ?_;·simp only[zV,seval,cr,aZ]
 rintro⟨j,i⟩⟨b,D,f⟩;simp only at b D f;simp only[zW,seval];refine⟨λE=>?_,λE=>?_⟩
 ·have l:i<s.length:=by omega
  have z:=SY s i a M B b C o;rw[<-aaF s i (wg a i) b (Nat.min_le_right _ _)]at z;refine az ⟨rfl,rfl⟩ rfl z ?_;have g:=S1 s a i b;have p:=Ds s a i l;obtain⟨⟨d,m⟩,n⟩:∃r,Bv s a i=r:=⟨_,rfl⟩;rw[show lg s i (wg a i) 1 0 0=(d,m)from n];rw[n]at g;simp only at g;have c:DX s a i=if m<2 then(0,0,((s.getD i 0).toNat:Int))else((d:Int),(m:Int),0):=by unfold DX;rw[n]
  have e:LP s a i=if m<2 then 1 else m:=by unfold LP;rw[n]
  rw[p]at f;by_cases A:m<2;·rw[aF A]at c e;rw[c,e]at f;have q:((1:Int)<(m:Int))=False:=ax (by omega);have h:((m:Int)<=1)=True:=aK (by omega);have u:fc s (i:Int)=((s.getD i 0).toNat:Nat):=Dq s _ _ rfl;have F:=(s.getD i 0).toNat_lt;have y:bX.wrap ((s.getD i 0).toNat:Int)=((s.getD i 0).toNat:Int):=fO (k:=.i64) ⟨by simp only[lo];omega,by simp only[hi];omega⟩;simp only[zW,seval,q,h,cY,lo,hi,u,y];refine⟨⟨by omega,by omega⟩,⟨by rw[ae];omega,by rw[ae];omega⟩,⟨by omega,by omega⟩,(j++[((0,0,((s.getD i 0).toNat:Int)):Tk)],i+1),⟨⟨l,by simp only[aG,bG];omega,by rw[f,bN];rfl⟩,by simp only;omega⟩,i6 5 27 304 3 _ rfl rfl rfl rfl (aR ?_)⟩;simp only[zV,seval,bq,ca,cr,yC,aJ,hdel,hdelk,sigDrop,sigDropA]
  ·rw[ai A]at c e;rw[c,e]at f;have q:((1:Int)<(m:Int))=True:=aK (by omega);have h:((m:Int)<=1)=False:=ax (by omega);simp only[zW,seval,q,h,cY,lo,hi];refine⟨⟨by rw[ae];omega,by rw[ae];omega⟩,⟨by omega,by omega⟩,(j++[(((d:Int),(m:Int),0):Tk)],i+m),⟨⟨g,by simp only[aG,bG];omega,by rw[f,bN];rfl⟩,by simp only;omega⟩,aR ?_⟩;simp only[zV,seval,bq,ca,cr,yC,aJ]
 ·have G:i=s.length:=by omega
  subst G;rw[Fp,cS]at f;rw[f];exact⟨216,rfl,rfl⟩
end Go.X.Lz
namespace Go.X.Lz
open Go Go.X Go.RowKit Go.X.Lm
theorem Fq{s:List UInt8}{i:Nat}(h:i<s.length):s.take i++[s.getD i 0]=s.take (i+1):=by rw[cm,aP h,cN,aP h];rfl
theorem S5(s:List UInt8)(d:Nat):∀(m i:Nat),i+m<=s.length->1<=d->d<=i->(∀k,k<m->s.getD (i+k) 0=s.getD (i+k-d) 0)->PJ m d (s.take i)=s.take (i+m)
 |0,i,_,_,_,_=>rfl
 |m+1,i,h,c,g,b=>by
  rw[PJ];have a:(s.take i).length=i:=by rw[a6];omega
  have e:(s.take i).getD (i-d) 0=s.getD i 0:=by have :=b 0 (by omega);rw[eJ]at this;rw[this,cN,cN,i_,aF (by omega)]
  rw[a,e,Fq (by omega),S5 s d m (i+1) (by omega) c (by omega) (λk f=>by have :=b (k+1) (by omega);rw[show i+(k+1)=i+1+k by omega]at this;exact this)];congr 1;omega
theorem zS(s:List UInt8)(a:Nat)(o:s.length<=600)(p:1<=a)(d:a<=256):∀(f i:Nat),i<=s.length->s.length-i<=f->JC (iu s a f i) (s.take i)=(s,0)
 |0,i,t,u=>by rw[iu,JC,bz (by omega)]
 |f+1,i,t,u=>by
  rw[iu];have b:(s.take i).length=i:=by rw[a6];omega
  split
  ·rename_i e;rw[JC];have y:=(s.getD i 0).toNat_lt;by_cases c:(Bv s a i).2<2
   ·have g:DX s a i=(0,0,((s.getD i 0).toNat:Int)):=by unfold DX;rw[aF c]
    have h:LP s a i=1:=by unfold LP;rw[aF c]
    have j:GP (0,0,((s.getD i 0).toNat:Int))=true:=by unfold GP;rw[aF rfl,br];exact⟨rfl,by simp only;omega,by simp only;omega⟩
    rw[g,h,j,ai (by decide),ai (by rw[b];simp only;omega),ai (by rw[b];simp only;omega),aF rfl];have :bo ((s.getD i 0).toNat:Int).toNat=s.getD i 0:=by rw[aX];exact jm
    simp only;rw[this,Fq e];exact zS s a o p d f (i+1) (by omega) (by omega)
   ·rcases yB s i (wg a i) 1 0 0 with⟨l,_⟩|⟨D,m,l,z,A,v,_,_⟩;·exact absurd (show(Bv s a i).2<2 by unfold Bv;rw[l];decide) c
    ·have n:Bv s a i=(D,m):=l;rw[n]at c;simp only at c;have g:DX s a i=((D:Int),(m:Int),0):=by unfold DX;rw[n,ai c]
     have h:LP s a i=m:=by unfold LP;rw[n,ai c]
     obtain⟨B,w,q⟩:=Dr s i D 64 0 (by omega);obtain⟨r,_⟩:=LO s i D 64 0;rw[v]at w q r;have j:GP ((D:Int),(m:Int),0)=true:=by unfold GP;rw[ai (by simp only;omega),br];exact⟨⟨by simp only;omega,by simp only;omega⟩,⟨by simp only;omega,by simp only;omega⟩,rfl⟩
     rw[g,h,j,ai (by decide),ai (by rw[b];simp only;omega),ai (by rw[b];simp only;omega),ai (by simp only;omega)];simp only[aX];rw[S5 s D m i q (by omega) (by omega) (λk x=>r k (bJ _) x)];exact zS s a o p d f (i+m) (by omega) (by omega)
  ·rw[JC,bz (by omega)]
end Go.X.Lz
namespace Go.X.Gm
open Go Go.X Go.RowKit Go.X.Pl Go.X.St Go.X.Pol
def xo(n:Nat):Nat->List UInt8|0=>[]|k+1=>(if n.testBit k then 49 else 48)::xo n k
theorem l5(n:Nat):∀k,(xo n k).length=k|0=>rfl|k+1=>by rw[xo,aM,l5 n k]
theorem NY(n:Nat):∀k i,i<k->(xo n k)[i]?=some (if n.testBit (k-1-i)then 49 else 48)|0,_,h=>by omega|k+1,0,_=>by rw[xo];simp|k+1,i+1,h=>by rw[xo,Ae,NY n k i (by omega)];rw[show k+1-1-(i+1)=k-1-i by omega]
theorem JG(n:Nat):∀k,xo n (k+1)=xo (n/2) k++[if n%2=1 then 49 else 48]|0=>by simp only[xo,eX,Nat.testBit_zero];congr 1;by_cases h:n%2=1<;>simp[h]|k+1=>by rw[xo,JG n k,xo,Nat.testBit_succ];rfl
theorem abC(n k:Nat):n>>>k%2=if n.testBit k then 1 else 0:=by
 rw[PV,Kb];by_cases h:n/2^k%2=1;·simp[h]
 ·have :n/2^k%2=0:=by omega
  simp[this]
theorem JH(b:UInt8):j8 (iy b)=b:=by show bo ((b.toNat:Int).toNat)=b;rw[aX];exact jm
theorem Dt:∀l:List UInt8,u8s (l.map iy)|[]=>trivial|b::l=>Dt l
theorem Du(l:List UInt8):(l.map iy).map j8=l:=by rw[jB];have :j8∘iy=id:=funext JH;rw[this,List.map_id]
theorem NZ(n j:Nat):(n:Int)/2^j=((n/2^j:Nat):Int):=by rw[Int.natCast_ediv,Int.natCast_pow];rfl
theorem abD(n j:Nat):48+ig.wrap ((((n:Int)/2^j).toNat&&&1:Nat):Int)=(((if n.testBit j then 49 else 48:UInt8).toNat:Nat):Int):=by
 rw[NZ,aX,Nat.and_one_is_mod,<-Kb,abC];by_cases h:n.testBit j;·rw[aF h,aF h];rfl
 ·rw[ai h,ai h];rfl
theorem V8{l:List UInt8}{k i:Nat}{b:UInt8}(a:l[i]?=some b)(hi:i<k):((l.take i).map iy++bg (k-i) [cz .u8 0]).set i [.int .u8 (b.toNat:Int)]=(l.take (i+1)).map iy++bg (k-(i+1)) [cz .u8 0]:=by have c:i<l.length:=(aI.1 a).1;rw[List.set_append_right _ _ (by rw[ae,a6];exact Nat.min_le_left _ _),ae,a6,cT (by omega),Nat.sub_self];rw[show k-i=(k-(i+1))+1 by omega,List.replicate_succ,List.set_cons_zero,cm,a,bq];simp[iy]
theorem aaG(n k:Nat)(M:Mem)(h:n<=9223372036854775807)(j:k<=64):Meets ab 213 [.v (.int .i64 (n:Int)),.v (.int .i64 (k:Int))] M λr _ _=>r=.v (.string ⟨(xo n k).toArray⟩):=by
 refine aH [0,1,4,5,6,10,11,12] Proofs.Tryz.func213 rfl (by kernel_rfl) rfl λw=>?_;simp only[Proofs.Tryz.f213,zW,seval,dT];refine⟨by omega,?_⟩;refine bE (X:=Nat×Nat) (λx=>([(0,true,.v (.int .i64 (n:Int))),(1,true,.v (.int .i64 (k:Int))),(5,true,.own 64),(10,true,.v (.int .i64 (k:Int))),(11,true,.v (.int .i64 (x.2:Int)))],[(64,.row 1 (((xo n k).take x.2).map iy++bg (k-x.2) [.int .u8 0]))],M)) (λx=>x.1+x.2=k) (λx=>x.1) (k,0) rfl (aR ?_) ?_;·simp only[zV,seval,fE,cr,eX,iS]
 rintro⟨f,i⟩e;simp only at e;by_cases a:i<k
 ·have b:((i:Int)<(k:Int))=True:=aK (by omega);have c:(k:Int)-1-(i:Int)=((k-1-i:Nat):Int):=by omega
  simp only[zW,seval,b,cY,lo,hi,c,abD,X9];have d:=v_ n (2^(k-1-i));rw[NZ,V8 (NY n k i a) a];have g:(if n.testBit (k-1-i)then 49 else 48:UInt8).toNat<=49:=by split<;>decide
  generalize n/2^(k-1-i)=l at d⊢;refine⟨by omega,by omega,by omega,by omega,by omega,?_,?_,by omega,(f-1,i+1),⟨by simp only;omega,by simp only;omega⟩,aR ?_⟩;·simp only[aG,ae,a6,dT,l5];omega
  ·simp only[aG,ae,a6,dT,l5];omega
  ·simp only[zV,seval,aJ]
 ·have b:((i:Int)<(k:Int))=False:=ax (by omega);have c:((xo n k).take i).map iy++bg (k-i) [.int .u8 0]=(xo n k).map iy:=by rw[show k-i=0 by omega,List.replicate_zero,cS,bz (by rw[l5];omega)]
  rw[c];simp only[zW,seval,b];exact⟨Dt _,by rw[Du]⟩
theorem V9{m:Nat}(h:m≠0):sz m=sz (m/2)+1:=by
 obtain⟨c,d,e⟩:=rq h;by_cases a:m/2=0
 ·have :m=1:=by omega
  subst this;rfl
 ·obtain⟨f,g,b⟩:=rq a;refine Il ?_ ?_;·rw[b,eK];omega
  ·rw[eK];omega
theorem aaH(n:Nat)(M:Mem)(f:n<=9223372036854775807):Meets ab 188 [.v (.int .i64 (n:Int))] M λr _ _=>r=.v (.string ⟨(xo n (sz n)).toArray⟩):=by
 refine aH [0,2,3,5] Proofs.Tryz.func188 rfl (by kernel_rfl) rfl λw=>?_;generalize g:xo n (sz n)=c;simp only[Proofs.Tryz.f188,zW,seval];refine bE (X:=Nat×List UInt8) (λx=>([(0,true,.v (.int .i64 (x.1:Int))),(3,true,.v (.string ⟨x.2.toArray⟩))],[],M)) (λx=>(x.1<=9223372036854775807/\x.2.length+sz x.1<=64)/\xo x.1 (sz x.1)++x.2=c) (λx=>x.1) (n,[]) ⟨⟨f,by have :=fA.2 (show n<2^64 by omega);simp;omega⟩,by rw[cS];exact g⟩ (aR ?_) ?_;·simp only[zV,seval]
 rintro⟨m,o⟩⟨⟨i,j⟩,a⟩;simp only at i a j;by_cases d:m=0;·subst d;have e:((0:Nat):Int)=0:=rfl;simp only[zW,seval,Int.lt_irrefl];rw[<-a];rfl
 have e:(0<(m:Int))=True:=aK (by omega);have k:(m:Int).tmod 2=((m%2:Nat):Int):=(Int.ofNat_tmod m 2).symm;have l:(m:Int).tdiv 2=((m/2:Nat):Int):=(Int.ofNat_tdiv m 2).symm;have p:j8 [cz .u8 (fc [48,49] ((m%2:Nat):Int))]=if m%2=1 then 49 else 48:=by rcases Nat.mod_two_eq_zero_or_one m with h|h<;>rw[h]<;>rfl
 have b:=V9 d;simp only[zW,seval,e,k,l,p,cY,lo,hi];refine⟨by omega,by omega,by omega,(m/2,(if m%2=1 then 49 else 48)::o),⟨⟨⟨by simp only;omega,by simp only[aM];omega⟩,?_⟩,by simp only;omega⟩,aR ?_⟩;·simp only;rw[b,JG,bN]at a;exact a
 ·simp only[zV,seval]
theorem LR(p:UInt8->Bool):∀l:List UInt8,l.dropWhile p=[]↔l.all p=true|[]=>by simp|x::l=>by rw[List.dropWhile_cons,xf];cases a:p x with|true=>simpa using LR p l|false=>simp
theorem S6(s:List UInt8):aU (DR s [48,49]=[])=s.all λb=>b==48||b==49:=by
 have g:(λb:UInt8=>[48,49].contains b)=λb=>b==48||b==49:=by funext b;simp[Bool.beq_eq_decide_eq]
 unfold DR Lib.trimRightS Lib.trimLeftS;rw[show(([48,49]:List UInt8).contains ·)=λb=>b==48||b==49 from g];generalize(λb:UInt8=>b==48||b==49)=p;rw[<-EA (l:=s)];have a:=LR p s.reverse;generalize s.reverse.all p=c at*;cases c with
  |true=>rw[a.2 rfl];rfl
  |false=>
   refine bI λh=>?_;rw[LR,EA]at h;have d:s.reverse.dropWhile p≠[]:=λe=>by cases a.1 e
   obtain⟨x,t,f⟩:=List.exists_cons_of_ne_nil d;have i:p x=false:=by have :=List.head_dropWhile_not p d;simpa[f]using this
   rw[f,xf,i]at h;cases h
theorem aaI(s:List UInt8)(M:Mem)(a:s.length<=9223372036854775807):Meets ab 215 [.v (.string ⟨s.toArray⟩)] M λr _ _=>r=.v (.bool (s.all λb=>b==48||b==49)):=by refine aH [0,2] Proofs.Tryz.func215 rfl (by kernel_rfl) rfl λw=>?_;simp only[Proofs.Tryz.f215,zW,seval];refine az ⟨rfl,rfl⟩ rfl (Yg s M a) ?_;simp only[zW,seval,S6]
def Ph(s:List UInt8)(n:Nat):Nat:=s.foldl (λn b=>2*n+(b.toNat-48)) n
end Go.X.Gm
namespace Go.X.Gm
open Go Go.X Go.RowKit Go.X.Pl Go.X.St Go.X.Pol
theorem abE(x:Nat)(M:Mem)(a:x<18446744073709551616):Meets ab 136 [.v (.int .u64 (x:Int))] M λr _ _=>r=.v (.int .i64 ((sz x:Nat):Int)):=by refine aH [0,2] Proofs.Tryz.func136 rfl (by kernel_rfl) rfl λw=>?_;simp only[Proofs.Tryz.f136,zW,seval,uw a];refine az ⟨rfl,rfl⟩ rfl (Q5 x M a) ?_;simp only[zW,seval]
def zs(k:Nat):List UInt8:=bg k 48
def mN(n:Nat):List UInt8:=zs (sz n-1)++xo n (sz n)
theorem LS(k:Nat):(zs k).length=k:=dT
theorem aaJ{n:Nat}(h:n<=2147483647):sz n<=31:=fA.2 (by omega)
theorem Y6(n:Nat)(M:Mem)(a:n≠0)(b:n<=2147483647):Meets ab 268 [.v (.int .i64 (n:Int))] M λr _ _=>r=.v (.string ⟨(mN n).toArray⟩):=by
 refine aH [0,2,3] Proofs.Tryz.func268 rfl (by kernel_rfl) rfl λw=>?_;have d:=aaJ b;have e:=iL.2 a;have c:((sz n:Nat):Int)-1=((sz n-1:Nat):Int):=by omega
 simp only[Proofs.Tryz.f268,zW,seval,uw (show n<18446744073709551616 by omega)];refine az ⟨rfl,rfl⟩ rfl (abE n M (by omega)) ?_;simp only[zW,seval,c,cY,lo,hi];refine⟨by omega,az ⟨rfl,rfl⟩ rfl (Bf (sz n-1) M (by omega)) ?_⟩;simp only[zW,seval];refine az ⟨rfl,rfl⟩ rfl (aaG n (sz n) M (by omega) (by omega)) ?_;simp only[zW,seval,cY,lo,hi,dT,l5];refine⟨by omega,rfl⟩
def AY(n:Int):Int:=if n<1\/2147483647<n then 1 else 0
theorem S7(n:Int)(M:Mem):Meets ab 214 [.v (.int .i64 n)] M λr _ _=>r=.tup [.v (.string ⟨(if AY n=0 then mN n.toNat else[]).toArray⟩),.v (.int .i64 (AY n))]:=by
 refine aH [0,2,3,9] Proofs.Tryz.func214 rfl (by kernel_rfl) rfl λw=>?_;by_cases c:n<1
 ·have b:(n<1)=True:=aK c;have a:AY n=1:=by unfold AY;rw[aF (.inl c)]
  simp only[xF,zW,seval,b,a]
 have b:(n<1)=False:=ax c;by_cases d:2147483647<n
 ·have e:(2147483647<n)=True:=aK d;have a:AY n=1:=by unfold AY;rw[aF (.inr d)]
  simp only[xF,zW,seval,b,e,a]
 have e:(2147483647<n)=False:=ax d;have a:AY n=0:=by unfold AY;rw[ai (by omega)]
 obtain⟨m,rfl⟩:∃m:Nat,n=m:=⟨n.toNat,by omega⟩;simp only[xF,zW,seval,b,e,a];refine az ⟨rfl,rfl⟩ rfl (Y6 m M (by omega) (by omega)) ?_;simp only[zW,seval]
theorem N0(n:Nat)(M:Mem)(a:n≠0)(b:n<=2147483647):Meets ab 139 [.v (.int .i64 (n:Int))] M λr _ _=>r=.v (.string ⟨(mN n).toArray⟩):=by
 refine aH [0,2,3] Proofs.Tryz.func139 rfl (by kernel_rfl) rfl λw=>?_;have d:=aaJ b;have e:=iL.2 a;have c:((sz n:Nat):Int)-1=((sz n-1:Nat):Int):=by omega
 simp only[Proofs.Tryz.f139,zW,seval];refine az ⟨rfl,rfl⟩ rfl (aaH n M (by omega)) ?_;simp only[zW,seval,c,cY,lo,hi,l5];refine⟨by omega,az ⟨rfl,rfl⟩ rfl (Bf (sz n-1) M (by omega)) ?_⟩;simp only[zW,seval,cY,lo,hi,dT,l5];refine⟨by omega,rfl⟩
theorem S8{s:List UInt8}{i:Nat}{b:UInt8}(h:s[i]?=some b):fc s (i:Int)=((b.toNat:Nat):Int):=by unfold fc;rw[aX,cN,h];rfl
theorem Y7{s t:List UInt8}(h:(s.all λb=>b==48||b==49)=true)(a:∀b∈t,b∈s):∀b∈t,b=48\/b=49:=λb c=>by have :=l7.1 h b (a b c);simpa using this
theorem S9:∀{s:List UInt8}{n j:Nat},(∀b∈s,b=48\/b=49)->n<2^j->Ph s n<2^(j+s.length)
 |[],n,j,_,h=>h
 |b::s,n,j,a,h=>by
  have d:b.toNat-48<=1:=by rcases a b bn with rfl|rfl<;>decide
  have e:2^(j+1)=2*2^j:=by rw[eK];omega
  have :=S9 (s:=s) (n:=2*n+(b.toNat-48)) (j:=j+1) (λx c=>a x (bm _ c)) (by omega);rw[show j+(b::s).length=j+1+s.length by rw[aM];omega];exact this
theorem abF{b:UInt8}(h:b=48\/b=49):b.toNat&&&1=b.toNat-48:=by rcases h with rfl|rfl<;>rfl
theorem d48{b:UInt8}(h:b=48\/b=49):b.toNat-48<=1:=by rcases h with rfl|rfl<;>decide
end Go.X.Gm
namespace Go.X.Pk
open Go Go.X Go.RowKit Go.X.Pl Go.X.St Go.X.Pol Go.X.Gm
def oX:Nat->List UInt8->List UInt8|0,_=>[]|n+1,s=>bo (Ph (s.take 8) 0)::oX n (s.drop 8)
def tB(n:Nat):Nat:=(8-n%8)%8
def zT(s:List UInt8):List UInt8:=(s++[49])++zs (tB (s.length+1))
def vh(s:List UInt8):List UInt8:=oX ((zT s).length/8) (zT s)
theorem w_:∀(n:Nat)(s:List UInt8),oX (n+1) s=oX n s++[bo (Ph ((s.drop (8*n)).take 8) 0)]|0,s=>by simp[oX]|n+1,s=>by have :=w_ n (s.drop 8);rw[oX,this,oX,l6,gW];rw[show 8+8*n=8*(n+1)by omega]
theorem sD:∀(n:Nat)(s:List UInt8),(oX n s).length=n|0,_=>rfl|n+1,s=>by rw[oX,aM,sD n]
theorem LU{n:Nat}(h:n<256):iy (bo n)=[.int .u8 (n:Int)]:=by unfold iy;rw[rP,Nat.mod_eq_of_lt h]
theorem yD(s:List UInt8):(zT s).length%8=0/\(zT s).length<=s.length+8/\s.length<(zT s).length:=by unfold zT tB;rw[aG,aG,bG,LS];omega
theorem JI{s:List UInt8}(h:(s.all λb=>b==48||b==49)=true):∀b∈zT s,b=48\/b=49:=λb a=>by
 unfold zT zs at a;rcases bU.1 a with a|a
 ·rcases bU.1 a with a|a;·exact Y7 h (λ_ h=>h) b a
  ·rw[bD]at a;exact .inr a
 ·exact .inl (List.eq_of_mem_replicate a)
theorem Y8(s:List UInt8)(M:Mem)(Z:s.length<=70368744177000):Meets ab 171 [.v (.string ⟨s.toArray⟩)] M λr _ _=>r=.tup [.v (.string ⟨(if(s.all λb=>b==48||b==49)=true then vh s else[]).toArray⟩),.v (.int .i64 (if(s.all λb=>b==48||b==49)=true then 0 else 3))]:=by
 refine aH [0,2,3,4,5,6,7,10,24,27,28] Proofs.Tryz.func171 rfl (by kernel_rfl) rfl λw=>?_;simp only[Proofs.Tryz.f171,zW,seval];refine az ⟨rfl,rfl⟩ rfl (aaI s M (by omega)) ?_;cases F:s.all λb=>b==48||b==49 with
  |false=>simp only[zW,seval,bp,cA]
  |true=>
   have z:=yD s;have t:((s.length:Int)+1).tmod 8=(((s.length+1)%8:Nat):Int):=(Int.ofNat_tmod (s.length+1) 8).symm;have u:(8:Int)-(((s.length+1)%8:Nat):Int)=((8-(s.length+1)%8:Nat):Int):=by omega
   have y:((8-(s.length+1)%8:Nat):Int).tmod 8=((tB (s.length+1):Nat):Int):=(Int.ofNat_tmod (8-(s.length+1)%8) 8).symm;have A:tB (s.length+1)<=64:=by unfold tB;omega
   simp only[zW,seval,aG,bG,aJ,t,u,y,cY,lo,hi];have E:s++[49]++bg (tB (s.length+1)) 48=zT s:=rfl;refine⟨by omega,by omega,az ⟨rfl,rfl⟩ rfl (Bf (tB (s.length+1)) M A) ?_⟩;have a:=JI F;have d:(s++[49]).length+(bg (tB (s.length+1)) (48:UInt8)).length=(zT s).length:=by rw[<-aG];rfl
   simp only[zW,seval,E,cY,lo,hi];have c:(((s++[49]).length+(bg (tB (s.length+1)) (48:UInt8)).length:Nat):Int)<=9223372036854775807:=by rw[d];omega
   refine⟨?_,?_⟩;·rw[<-aG]at c⊢;exact c
   clear c d E t u y;unfold vh;generalize zT s=q at*;obtain⟨h1,h2,h3⟩:=z;refine eI 4 45 1 rfl rfl rfl ?_;refine bE (X:=Nat×Nat) (λx=>([(0,true,.v (.string ⟨q.toArray⟩)),(4,true,.own 360),(5,true,.v (.int .i64 ((8*x.2:Nat):Int)))],[(360,.row 1 ((oX x.2 q).map iy))],M)) (λx=>x.1+x.2=q.length/8) (λx=>x.1) (q.length/8,0) rfl (aR ?_) ?_;·simp only[zV,seval,oX,cr,Nat.mul_zero,aZ]
   rintro⟨f,j⟩G;simp only at G;by_cases H:j<q.length/8;rotate_left
   ·have B:(((8*j:Nat):Int)<(q.length:Int))=False:=ax (by omega);have I:j=q.length/8:=by omega
    subst I;simp only[zW,seval,B,Du];exact Dt _
   have B:(((8*j:Nat):Int)<(q.length:Int))=True:=aK (by omega);simp only[zW,seval,B];have J:∀b∈(q.drop (8*j)).take 8,b=48\/b=49:=λb K=>a b (cG (cq K));have h:=S9 (n:=0) (j:=0) J (by decide);rw[a6,aT,cT (by omega)]at h;rw[show 0+8=8 from rfl]at h;generalize m:Ph ((q.drop (8*j)).take 8) 0=V at*;refine bE (X:=Nat×Nat×Nat) (λx=>([(0,true,.v (.string ⟨q.toArray⟩)),(4,true,.own 360),(5,true,.v (.int .i64 ((8*j:Nat):Int))),(6,true,.v (.int .i64 (x.2.2:Int))),(27,true,.v (.int .i64 (x.2.1:Int)))],[(360,.row 1 ((oX j q).map iy))],M)) (λx=>(x.1+x.2.1=8/\x.2.2<2^x.2.1)/\Ph ((q.drop (8*j+x.2.1)).take (8-x.2.1)) x.2.2=V) (λx=>x.1) (8,0,0) ⟨⟨rfl,Nat.one_pos⟩,m⟩ (aR ?_) ?_;·simp only[zV,seval,aZ]
   rintro⟨g,k,n⟩⟨⟨L,N⟩,e⟩;simp only at L N e;by_cases O:k<8
   ·have C:((k:Int)<8)=True:=aK (by omega);obtain⟨b,o,P⟩:=cE (l:=q) (i:=8*j+k) (by omega);have p:=a b (aL o);have t:((8*j:Nat):Int)+(k:Int)=((8*j+k:Nat):Int):=by omega
    have u:=S8 o;have Q:b.toNat=48\/b.toNat=49:=by rcases p with rfl|rfl<;>simp
    have y:((b.toNat:Nat):Int)-48=((b.toNat-48:Nat):Int):=by omega
    have R:2^k<=2^7:=ew (by decide) (by omega);have S:2^(k+1)=2*2^k:=by rw[eK];omega
    have T:=d48 p;rw[P,show 8-k=(8-(k+1))+1 by omega,List.take_succ_cons]at e;simp only[Ph,lf]at e;simp only[zW,seval,C,t,u,y,cY,lo,hi,iw (show b.toNat-48<9223372036854775808 by omega)];refine⟨by omega,by omega,by omega,by omega,by omega,by omega,(g-1,k+1,2*n+(b.toNat-48)),⟨⟨⟨by simp only;omega,by simp only;omega⟩,?_⟩,by simp only;omega⟩,aR ?_⟩;·simp only;rw[<-pd];exact e
    ·simp only[zV,seval,aJ,Int.natCast_mul]
   ·have C:((k:Int)<8)=False:=ax (by omega);have U:k=8:=by omega
    subst U;simp only[Nat.sub_self,fE,Ph,Mg]at e;subst e;have W:ig.wrap (n:Int)=(n:Int):=fO (k:=.u8) ⟨by simp only[lo];omega,by simp only[hi];omega⟩;simp only[zW,seval,C,W,cY,lo,hi];have D:(oX (j+1) q).map iy=(oX j q).map iy++[[.int .u8 (n:Int)]]:=by rw[w_,m,bq,List.map_singleton,LU (by omega)]
    have Y:((8*j:Nat):Int)+8=((8*(j+1):Nat):Int):=by omega
    rw[Y,<-D,ae,sD];refine⟨⟨by omega,by omega⟩,by omega,(f-1,j+1),⟨by simp only;omega,by simp only;omega⟩,aR ?_⟩;simp only[zV,seval]
theorem V'(s:List UInt8)(M:Mem)(hs:s.length<=70368744177000)(S:(s.all λb=>b==48||b==49)=true):Meets ab 82 [.v (.string ⟨s.toArray⟩)] M λr _ _=>r=.v (.string ⟨(vh s).toArray⟩):=by
 refine aH [0,2,3,4,6,12,16,21,22,23,24] Proofs.Tryz.func82 rfl (by kernel_rfl) rfl λw=>?_;have A:=yD s;have d:=JI S;have T:tB (s.length+1)<=7:=by unfold tB;omega
 simp only[Proofs.Tryz.f82,zW,seval,aG,bG];refine⟨by omega,?_⟩;refine bE (X:=Nat) (λx=>([(0,true,.v (.string ⟨((s++[49])++zs x).toArray⟩))],[],M)) (λx=>x<=tB (s.length+1)) (λx=>tB (s.length+1)-x) 0 (bJ _) (aR ?_) ?_;·simp only[zV,seval,zs,List.replicate_zero,cS]
 rintro x hx;have m:((s++[49])++zs x).length=s.length+1+x:=by rw[aG,aG,bG,LS]
 have B:((s.length+1+x:Nat):Int).tmod 8=(((s.length+1+x)%8:Nat):Int):=(Int.ofNat_tmod (s.length+1+x) 8).symm;have C:((s++[49])++zs x)++[48]=(s++[49])++zs (x+1):=by rw[bN,zs,zs,List.replicate_succ']
 by_cases D:x<tB (s.length+1);·have z:(0<(((s.length+1+x)%8:Nat):Int))=True:=aK (by unfold tB at D;omega);generalize hq:(s++[49])++zs x=q at*;simp only[zW,seval,m,B,z,C,aG,bG];refine⟨by omega,x+1,⟨by omega,by omega⟩,aR ?_⟩;simp only[zV,seval]
 have E:x=tB (s.length+1):=by omega
 subst E;have O:(s++[49])++zs (tB (s.length+1))=zT s:=rfl;have z:(0<(((s.length+1+tB (s.length+1))%8:Nat):Int))=False:=ax (by unfold tB;omega);rw[O]at m⊢;unfold vh;generalize zT s=q at*;obtain⟨h1,h2,h3⟩:=A;rw[<-m]at z B;simp only[zW,seval,B,z];refine bE (X:=Nat×Nat×Mem) (λx=>([(0,true,.v (.string ⟨(q.drop (8*x.2.1)).toArray⟩)),(3,true,.v (.string ⟨(oX x.2.1 q).toArray⟩))],[],x.2.2)) (λx=>x.1+x.2.1=q.length/8) (λx=>x.1) (q.length/8,0,M) rfl (aR ?_) ?_;·simp only[zV,seval,oX,Nat.mul_zero,cQ]
 rintro⟨f,j,M2⟩U;simp only at U;by_cases V:j<q.length/8;rotate_left
 ·have F:q.drop (8*j)=[]:=bh (by omega);have W:j=q.length/8:=by omega
  subst W;rw[F];simp only[zW,seval]
 have p:(q.drop (8*j)).length=q.length-8*j:=aT;have G:(q.drop (8*j)=[])=False:=ax (λh=>by have :=aY dU h;rw[p,bM]at this;omega);have H:((q.drop (8*j)).drop 8).take ((q.drop (8*j)).length-8)=q.drop (8*(j+1)):=by rw[l6,bz (by rw[aT,aT];omega)];congr 1
 have Y:∀b∈(q.drop (8*j)).take 8,b=48\/b=49:=λb Z=>d b (cG (cq Z));have I:=w_ j q;have J:((q.drop (8*j)).take 8).length=8:=by rw[a6,p];omega
 simp only[zW,seval,G,iS];refine⟨by omega,?_⟩;generalize(q.drop (8*j)).take 8=t at*;refine FN (e:=5) rfl rfl rfl (by kernel_rfl) (by kernel_rfl) (by kernel_rfl) rfl (by simp only[pc,dh];omega) λv K hM1 o=>?_;replace o:RowM K v 1 (t.map iy):=o;simp only[zW,seval,o.gC,o.sl,ae,J];refine bE (X:=Nat×Nat×Nat) (λx=>([(0,true,.v (.string ⟨(q.drop (8*j)).toArray⟩)),(3,true,.v (.string ⟨(oX j q).toArray⟩)),(4,true,.v (.int .i64 (x.2.2:Int))),(21,true,.v v),(22,true,.v (.int .i64 8)),(23,true,.v (.int .i64 (x.2.1:Int)))],[],K)) (λx=>(x.1+x.2.1=8/\x.2.2<2^x.2.1)/\Ph (t.drop x.2.1) x.2.2=Ph t 0) (λx=>x.1) (8,0,0) ⟨⟨rfl,Nat.one_pos⟩,rfl⟩ (aR ?_) ?_;·simp only[zV,seval,aZ]
 rintro⟨g,k,n⟩⟨⟨m1,m2⟩,a⟩;simp only at m1 m2 a;by_cases hk8:k<8
 ·have L:((k:Int)<8)=True:=aK (by omega);obtain⟨b,u,F⟩:=cE (l:=t) (i:=k) (by omega);have y:=Y b (aL u);have P:=o.UH u (c:=.int .u8 (b.toNat:Int)) rfl;have Q:=o.ix (i:=(k:Int)) (by omega) (by rw[ae];omega);have O:2^k<=2^7:=ew (by decide) (by omega);have hps:2^(k+1)=2*2^k:=by rw[eK];omega
  have h48:=d48 y;have R:b.toNat<256:=gu b;rw[F]at a;simp only[Ph,lf]at a;simp only[zW,seval,L,Q,Q.2,P.1,P.2,abF y,cY,lo,hi,iw (show b.toNat-48<9223372036854775808 by omega)];refine⟨by omega,by omega,by omega,by omega,(g-1,k+1,2*n+(b.toNat-48)),⟨⟨⟨by simp only;omega,by simp only;omega⟩,a⟩,by simp only;omega⟩,aR ?_⟩;simp only[zV,seval,aJ,Int.natCast_mul]
 ·have L:((k:Int)<8)=False:=ax (by omega);have hk:k=8:=by omega
  subst hk;rw[bh (by omega)]at a;simp only[Ph,Mg]at a;rw[show List.foldl _ 0 t=Ph t 0 from rfl]at a;have w8:ig.wrap (n:Int)=(n:Int):=fO (k:=.u8) ⟨by simp only[lo];omega,by simp only[hi];omega⟩;have N:j8 [.int .u8 (n:Int)]=bo (Ph t 0):=by rw[<-a];rfl
  simp only[zW,seval,L,w8,cY,lo,hi,N,<-I,H];rw[sD];refine⟨by omega,by omega,(f-1,j+1,K),⟨by simp only;omega,by simp only;omega⟩,aR ?_⟩;simp only[zV,seval]
theorem S_(n:Nat):∀j,xo n (j+sz n)=zs j++xo n (sz n)|0=>by rw[b7];rfl|j+1=>by rw[show j+1+sz n=(j+sz n)+1 by omega,xo,Cx (by omega),S_ n j];rfl
theorem Y9(b:Nat)(M:Mem)(d:b<256):Meets ab 138 [.v (.int .i64 (b:Int))] M λr _ _=>r=.v (.string ⟨(xo b 8).toArray⟩):=by
 refine aH [0,2,3] Proofs.Tryz.func138 rfl (by kernel_rfl) rfl λw=>?_;have e:sz b<=8:=fA.2 (by omega);have a:(8:Int)-((sz b:Nat):Int)=((8-sz b:Nat):Int):=by omega
 have c:bg (8-sz b) (48:UInt8)++xo b (sz b)=xo b 8:=by have :=S_ b (8-sz b);rw[show 8-sz b+sz b=8 by omega]at this;exact this.symm
 simp only[Proofs.Tryz.f138,zW,seval];refine az ⟨rfl,rfl⟩ rfl (aaH b M (by omega)) ?_;simp only[zW,seval,l5,a,cY,lo,hi];refine⟨by omega,az ⟨rfl,rfl⟩ rfl (Bf (8-sz b) M (by omega)) ?_⟩;simp only[zW,seval,cY,lo,hi,c,dT,l5];omega
theorem Dv(n:Nat):∀k,∀b∈xo n k,b=48\/b=49
 |0,b,h=>by cases h
 |k+1,b,h=>by
  rcases aV.1 h with rfl|h
  ·split;·exact .inr rfl
   ·exact .inl rfl
  ·exact Dv n k b h
end Go.X.Pk
namespace Go.X.Pb
open Go Go.X Go.RowKit Go.X.Pl Go.X.St Go.X.Pol Go.X.Gm Go.X.Pk Go.X.Lz
def AZ(t:Tk):List UInt8:=if t.2.1=0 then 48::xo t.2.2.toNat 8 else 49::(mN t.1.toNat++mN t.2.1.toNat)
def nT(l:List Tk):List UInt8:=l.flatMap AZ
theorem N5:∀(n d:Nat)(o:List UInt8),(PJ n d o).length=o.length+n|0,_,_=>rfl|n+1,d,o=>by rw[PJ,N5 n d,aG,bG];omega
theorem N6{t:Tk}(h:GP t=true):(t.2.1=0/\t.1=0/\0<=t.2.2/\t.2.2<256)\/((1<=t.2.1/\t.2.1<=64)/\(1<=t.1/\t.1<=256)/\t.2.2=0):=by
 unfold GP at h;split at h;·simp only[br]at h;exact .inl ⟨by omega,by omega,by omega,by omega⟩
 ·simp only[br]at h;exact .inr ⟨by omega,by omega,by omega⟩
theorem LV:∀{l:List Tk}{o:List UInt8},o.length<=600->(JC l o).2=0->(∀t∈l,GP t=true)/\o.length+l.length<=600
 |[],o,b,_=>⟨(λt h=>by cases h),by simpa using b⟩
 |t::l,o,b,h=>by
  unfold JC at h;split at h;·cases h
  ·rename_i d;have c:GP t=true:=by simpa using d
   split at h;·cases h
   ·rename_i g;split at h;·cases h
    ·rename_i i;have e:(if t.2.1=0 then o++[bo t.2.2.toNat]else PJ t.2.1.toNat t.1.toNat o).length<=600/\o.length+1<=(if t.2.1=0 then o++[bo t.2.2.toNat]else PJ t.2.1.toNat t.1.toNat o).length:=by
      rcases N6 c with k|k;·rw[aF k.1,aG,bG];omega
      ·rw[ai (by omega),N5];omega
     obtain⟨f,j⟩:=LV e.1 h;refine⟨λx a=>?_,by rw[aM];omega⟩;rcases aV.1 a with rfl|a;·exact c
     ·exact f x a
theorem oA{n:Nat}(h:n<=256):(mN n).length<=20:=by have :sz n<=9:=fA.2 (by omega);unfold mN;rw[aG,LS,l5];omega
theorem Dw{t:Tk}(h:GP t=true):(AZ t).length<=50:=by
 unfold AZ;rcases N6 h with k|k;·rw[aF k.1,aM,l5];omega
 ·have a:=oA (n:=t.1.toNat) (by omega);have b:=oA (n:=t.2.1.toNat) (by omega);rw[ai (by omega),aM,aG];omega
theorem vW:∀{l:List Tk},(∀t∈l,GP t=true)->(nT l).length<=50*l.length|[],_=>bJ _|t::l,h=>by have c:=Dw (h t bn);have a:=vW (l:=l) λx b=>h x (bm _ b);unfold nT at a⊢;rw[lq,aG,aM];omega
theorem Dx{l:List Tk}{i:Nat}{t:Tk}(h:l[i]?=some t):nT (l.take (i+1))=nT (l.take i)++AZ t:=by unfold nT;rw[cm,h,iv];simp
theorem abG(y:ay)(l:List Tk)(M:Mem)(m:RowM M y 3 (l.map Lz.yC)):Meets ab 170 [.v y] M λr _ _=>r=.tup [.v (.string ⟨(if(JC l []).2=0 then nT l else[]).toArray⟩),.v (.int .i64 (JC l []).2)]:=by
 refine aH [0,2,3,5,6,8,9,11,19,21,22,23,24,29] Proofs.Tryz.func170 rfl (by kernel_rfl) rfl λw=>?_;have D:=m.eQ;rw[ae]at D;simp only[Proofs.Tryz.f170,zW,seval];refine az ⟨rfl,rfl⟩ rfl (Y3 y l M m) ?_;by_cases z:(JC l []).2=0;rotate_left;·have E:=ax z;simp only[zW,seval,E]
 rw[aF z];obtain⟨g,F⟩:=LV (bJ _) z;rw[bM,b7]at F;simp only[zW,seval,z];refine K7 (e:=5) rfl rfl rfl ⟨_,_,rfl,rfl,rfl⟩ λb U V W=>?_;simp only[zW,seval,m.gC,m.sl,ae];refine bE (X:=Nat×Nat×Mem) (λx=>([(0,true,.v y),(6,true,.v (bT b)),(21,true,.v y),(22,true,.v (.int .i64 l.length)),(23,true,.v (.int .i64 (x.2.1:Int)))],[],x.2.2)) (λx=>x.1+x.2.1=l.length/\Bld ⟨ab,54,w,M⟩ 52 5 b (nT (l.take x.2.1)) x.2.2) (λx=>x.1) (l.length,0,U) ⟨rfl,by rw[fE];exact W⟩ (aR ?_) ?_;·simp only[zV,seval,aZ]
 rintro⟨f,i,G⟩⟨Y,a⟩;simp only at Y a;have H:=m.le a.le;by_cases I:i<l.length;rotate_left;·have A:((i:Int)<(l.length:Int))=False:=ax (by omega);rw[bz (by omega)]at a;simp only[zW,seval,A];refine AP (ρ:=Proofs.oa) Proofs.s4 Proofs.rn rfl rfl rfl rfl ⟨_,Uo,by kernel_rfl,by kernel_rfl⟩ a ?_;simp only[zW,seval]
 have A:((i:Int)<(l.length:Int))=True:=aK (by omega);obtain⟨t,J,hd⟩:=cE (l:=l) (i:=i) I;obtain⟨⟨o,p⟩,q,B⟩:=S0 H J;have s:=g t (aL J);have K:=vW (l:=l.take i) λx h=>g x (cq h);rw[a6,cT (by omega)]at K;have Z:=Dw s;have u:=Dx J;obtain⟨L,T,N⟩:=t;simp only at o p q;rcases N6 s with⟨C,O,P,k4⟩|⟨C,O,P⟩
 ·simp only at C O P k4;subst C;obtain⟨k,rfl⟩:∃k:Nat,N=k:=⟨N.toNat,by omega⟩;simp only[zW,seval,A,B,B.2,o.1,o.2,p.1,p.2,q.1,q.2];refine az ⟨rfl,rfl⟩ rfl (aaG k 8 G (by omega) (by omega)) ?_;simp only[zW,seval,l5,aM,cY,lo,hi];have c:AZ (L,0,(k:Int))=48::xo k 8:=rfl;refine uS (ρ:=Proofs.lV) Proofs.pE Proofs.oI rfl rfl rfl rfl ⟨_,AK,by kernel_rfl,by kernel_rfl⟩ a (by rw[pB];show _+(48::xo k 8).length<=_;rw[<-c];omega) λQ j=>?_;simp only[zW,seval,cY,lo,hi];refine⟨by omega,(f-1,i+1,Q),⟨⟨by simp only;omega,?_⟩,by simp only;omega⟩,aR ?_⟩;·simp only;rw[u,c];exact j
  ·simp only[zV,seval,aJ]
 ·simp only at C O P;obtain⟨d,rfl⟩:∃d:Nat,L=d:=⟨L.toNat,by omega⟩;obtain⟨n,rfl⟩:∃n:Nat,T=n:=⟨T.toNat,by omega⟩;have E:((n:Int)=0)=False:=ax (by omega);have R:AY (d:Int)=0:=by unfold AY;rw[ai (by omega)]
  have S:AY (n:Int)=0:=by unfold AY;rw[ai (by omega)]
  simp only[zW,seval,A,E,B,B.2,o.1,o.2,p.1,p.2,q.1,q.2];refine az ⟨rfl,rfl⟩ rfl (S7 (d:Int) G) ?_;simp only[zW,seval,R];refine az ⟨rfl,rfl⟩ rfl (S7 (n:Int) G) ?_;have hp1:=oA (n:=d) (by omega);have hp2:=oA (n:=n) (by omega);simp only[zW,seval,S,aX];have c:AZ ((d:Int),(n:Int),N)=49::(mN d++mN n):=by unfold AZ;rw[ai (by simp only;omega)];rfl
  refine⟨by omega,by omega,?_⟩;refine uS (ρ:=Proofs.lV) Proofs.pE Proofs.oI rfl rfl rfl rfl ⟨_,AK,by kernel_rfl,by kernel_rfl⟩ a (by rw[pB];show _+(49::(mN d++mN n)).length<=_;rw[<-c];omega) λQ j=>?_;simp only[zW,seval,cY,lo,hi];refine⟨by omega,(f-1,i+1,Q),⟨⟨by simp only;omega,?_⟩,by simp only;omega⟩,aR ?_⟩;·simp only;rw[u,c];exact j
  ·simp only[zV,seval,aJ]
theorem aaK(y:ay)(l:List Tk)(M:Mem)(o:RowM M y 3 (l.map Lz.yC))(b:∀t∈l,GP t=true)(I:l.length<=600):Meets ab 83 [.v y] M λr _ _=>r=.v (.string ⟨(nT l).toArray⟩):=by
 refine aH [0,2,3,5,6,7,8,9,14] Proofs.Tryz.func83 rfl (by kernel_rfl) rfl λw=>?_;have u:=o.eQ;rw[ae]at u;simp only[Proofs.Tryz.f83,zW,seval,o.gC,o.sl,ae];refine bE (X:=Nat×Nat) (λx=>([(0,true,.v y),(3,true,.v (.string ⟨(nT (l.take x.2)).toArray⟩)),(6,true,.v y),(7,true,.v (.int .i64 l.length)),(8,true,.v (.int .i64 (x.2:Int)))],[],M)) (λx=>x.1+x.2=l.length) (λx=>x.1) (l.length,0) rfl (aR ?_) ?_;·simp only[zV,seval,aZ,fE,nT,oE]
 rintro⟨f,i⟩J;simp only at J;by_cases z:i<l.length;rotate_left;·have p:((i:Int)<(l.length:Int))=False:=ax (by omega);rw[bz (by omega)];simp only[zW,seval,p]
 have p:((i:Int)<(l.length:Int))=True:=aK (by omega);obtain⟨t,A,P⟩:=cE (l:=l) (i:=i) z;obtain⟨⟨e,g⟩,j,q⟩:=S0 o A;have k:=b t (aL A);have B:=vW (l:=l.take i) λx h=>b x (cq h);rw[a6,cT (by omega)]at B;have C:=Dw k;have a:=Dx A;obtain⟨D,H,E⟩:=t;simp only at e g j;rcases N6 k with⟨s,F,G,K⟩|⟨s,F,G⟩;·simp only at s F G K;subst s;obtain⟨m,rfl⟩:∃m:Nat,E=m:=⟨E.toNat,by omega⟩;have c:AZ (D,0,(m:Int))=48::xo m 8:=rfl;rw[c]at a;simp only[zW,seval,p,q,q.2,e.1,e.2,g.1,g.2,j.1,j.2];refine az ⟨rfl,rfl⟩ rfl (Y9 m M (by omega)) ?_;simp only[zW,seval,l5,aM,<-a,cY,lo,hi];refine⟨by omega,by omega,(f-1,i+1),⟨by simp only;omega,by simp only;omega⟩,aR ?_⟩;simp only[zV,seval,aJ]
 ·simp only at s F G;obtain⟨d,rfl⟩:∃d:Nat,D=d:=⟨D.toNat,by omega⟩;obtain⟨n,rfl⟩:∃n:Nat,H=n:=⟨H.toNat,by omega⟩;have L:((n:Int)=0)=False:=ax (by omega);have N:=oA (n:=d) (by omega);have O:=oA (n:=n) (by omega);have c:AZ ((d:Int),(n:Int),E)=49::(mN d++mN n):=by unfold AZ;rw[ai (by simp only;omega)];rfl
  rw[c]at a C;simp only[zW,seval,p,L,q,q.2,e.1,e.2,g.1,g.2,j.1,j.2];refine dD (by kernel_rfl) (by kernel_rfl) ?_;simp only[zW,seval];refine⟨_,⟨⟨rfl,rfl⟩,N0 d M (by omega) (by omega)⟩,?_⟩;simp only[zW,seval];refine⟨by omega,_,⟨⟨rfl,rfl⟩,N0 n M (by omega) (by omega)⟩,?_⟩;simp only[zW,seval,cY,lo,hi,aM,aG,gW,<-a];refine⟨by omega,by omega,by omega,(f-1,i+1),⟨by simp only;omega,by simp only;omega⟩,aR ?_⟩;simp only[zV,seval,aJ]
end Go.X.Pb
namespace Go.X.Bx
open Go Go.X Go.RowKit Go.X.Lz Go.X.Pk Go.X.Pb Go.X.Gm
def N7(s:List UInt8):List Tk:=iu s 256 s.length 0
def bx(s:List UInt8):List UInt8:=vh (nT (N7 s))
def Fs(s:List UInt8):List UInt8:=if(bx s).length<s.length then 1::bx s else 0::s
theorem N8{s:List UInt8}(a:s.length<=600):JC (N7 s) []=(s,0):=by have :=zS s 256 a (by decide) (by decide) s.length 0 (bJ _) (by omega);simpa[N7]using this
theorem Ta{s:List UInt8}(a:s.length<=600):(∀t∈N7 s,GP t=true)/\(N7 s).length<=600:=by have :=LV (l:=N7 s) (o:=[]) (by simp) (by rw[N8 a]);exact⟨this.1,by simpa using this.2⟩
theorem AF(n:Nat):∀b∈mN n,b=48\/b=49:=λb a=>by
 unfold mN at a;rcases bU.1 a with h|h;·exact .inl (List.eq_of_mem_replicate h)
 ·exact Dv _ _ b h
theorem Pj(t:Tk):∀b∈AZ t,b=48\/b=49:=λb a=>by
 unfold AZ at a;split at a
 ·rcases aV.1 a with rfl|h;·exact .inl rfl
  ·exact Dv _ _ b h
 ·rcases aV.1 a with rfl|h;·exact .inr rfl
  ·rcases bU.1 h with h|h;·exact AF _ b h
   ·exact AF _ b h
theorem Dy(l:List Tk):((nT l).all λb=>b==48||b==49)=true:=by rw[l7];intro b a;obtain⟨t,_,c⟩:=List.mem_flatMap.1 a;rcases Pj t b c with rfl|rfl<;>rfl
theorem GR{s:List UInt8}(a:s.length<=600):(nT (N7 s)).length<=30000:=by obtain⟨b,c⟩:=Ta a;have :=vW b;omega
theorem aaL(s:List UInt8)(M:Mem)(a:s.length<=600):Meets ab 119 [.v (.string ⟨s.toArray⟩)] M λr _ _=>r=.tup [.v (.string ⟨(bx s).toArray⟩),.v (.int .i64 0)]:=by refine aH [0,2,3,4,5,6,13,21] Hd rfl (by kernel_rfl) rfl λw=>?_;simp only[KC,zW,seval];refine gS (T:=λt=>.tup [t,.v (.int .i64 0)]) (ku _) rfl rfl (sY (V7 s 256 M a (by decide) (by decide))) λu b e f=>?_;simp only[zW,seval];have c:=Pb.abG u (N7 s) b f;rw[N8 a,aF rfl]at c;refine az ⟨rfl,rfl⟩ rfl c ?_;simp only[zW,seval];have d:=Y8 (nT (N7 s)) b (by have :=GR a;omega);rw[Dy,aF rfl,aF rfl]at d;refine az ⟨rfl,rfl⟩ rfl d ?_;simp only[zW,seval,bx]
theorem JJ(s:List UInt8)(M:Mem)(a:600<s.length):Meets ab 119 [.v (.string ⟨s.toArray⟩)] M λr _ _=>r=.tup [.v (.string ⟨([]:List UInt8).toArray⟩),.v (.int .i64 2)]:=by refine aH [0,2,3,4,5,6,13,21] Hd rfl (by kernel_rfl) rfl λw=>?_;simp only[KC,zW,seval];refine az ⟨rfl,rfl⟩ rfl (JF s 256 M a) ?_;simp only[zW,seval]
theorem abH(s:List UInt8)(M:Mem)(c:s.length<=600):Meets ab 70 [.v (.string ⟨s.toArray⟩)] M λr _ _=>r=.tup [.v (.string ⟨(Fs s).toArray⟩),.v (.int .i64 0)]:=by
 refine aH [0,2,3,4,5,12,18] DV rfl (by kernel_rfl) rfl λw=>?_;simp only[MC,zW,seval];refine az ⟨rfl,rfl⟩ rfl (aaL s M c) ?_;have d:(bx s).length<=70368744177000:=by unfold bx vh;rw[sD];have :=GR c;have :=(yD (nT (N7 s))).2.1;omega
 unfold Fs;by_cases h:(bx s).length<s.length;·have b:(((bx s).length:Int)<(s.length:Int))=True:=aK (by omega);have a:((s.length:Int)<=((bx s).length:Int))=False:=ax (by omega);rw[aF h];simp only[zW,seval,b,a];omega
 ·have b:(((bx s).length:Int)<(s.length:Int))=False:=ax (by omega);have a:((s.length:Int)<=((bx s).length:Int))=True:=aK (by omega);rw[ai h];simp only[zW,seval,b,a];omega
theorem LW(s:List UInt8)(M:Mem)(a:600<s.length):Meets ab 70 [.v (.string ⟨s.toArray⟩)] M λr _ _=>r=.tup [.v (.string ⟨([]:List UInt8).toArray⟩),.v (.int .i64 2)]:=by refine aH [0,2,3,4,5,12,18] DV rfl (by kernel_rfl) rfl λw=>?_;simp only[MC,zW,seval];refine az ⟨rfl,rfl⟩ rfl (JJ s M a) ?_;simp only[zW,seval]
theorem aaM(s:List UInt8)(M:Mem)(b:s.length<=600):Meets ab 41 [.v (.string ⟨s.toArray⟩)] M λr _ _=>r=.v (.string ⟨(Fs s).toArray⟩):=by
 refine aH [0,2,3,12] Proofs.Tryz.func41 rfl (by kernel_rfl) rfl λw=>?_;simp only[Proofs.Tryz.f41,zW,seval];refine gS (T:=λt=>t) eh rfl rfl (sY (Y5 s 256 M b (by decide) (by decide))) λu d e f=>?_;simp only[zW,seval];obtain⟨g,i⟩:=Ta b;refine az ⟨rfl,rfl⟩ rfl (aaK u (N7 s) d f g i) ?_;simp only[zW,seval];have j:(bx s).length<=70368744177000:=by unfold bx vh;rw[sD];have :=GR b;have :=(yD (nT (N7 s))).2.1;omega
 refine az ⟨rfl,rfl⟩ rfl (V' (nT (N7 s)) d (by have :=GR b;omega) (Dy _)) ?_;have k:vh (nT (N7 s))=bx s:=rfl;rw[k];unfold Fs;by_cases h:(bx s).length<s.length;·have c:(((bx s).length:Int)<(s.length:Int))=True:=aK (by omega);have a:((s.length:Int)<=((bx s).length:Int))=False:=ax (by omega);rw[aF h];simp only[zW,seval,c,a];omega
 ·have c:(((bx s).length:Int)<(s.length:Int))=False:=ax (by omega);have a:((s.length:Int)<=((bx s).length:Int))=True:=aK (by omega);rw[ai h];simp only[zW,seval,c,a];omega
end Go.X.Bx
namespace Go.X.Dk
open Go Go.X Go.RowKit Go.X.Vo Go.X.Tg
theorem GS{α:Type}(p:α->Prop)(z:α):∃y,p y\/(y=z/\¬∃x,p x):=by
 by_cases h:∃x,p x;·exact⟨h.choose,.inl h.choose_spec⟩
 ·exact⟨z,.inr ⟨rfl,h⟩⟩
noncomputable def JK{α:Type}(p:α->Prop)(z:α):α:=(GS p z).choose
theorem JL{α:Type}{p:α->Prop}{z x:α}(h:p x):p (JK p z):=(GS p z).choose_spec.elim id λa=>(a.2 ⟨x,h⟩).elim
theorem Ft{α:Type}{p q:α->Prop}{z:α}(h:∀x,p x->q x)(a:q z):q (JK p z):=(GS p z).choose_spec.elim (h _) λb=>by have :JK p z=z:=b.1;rw[this];exact a
noncomputable def vj(m:Nat):Nat:=JK (Rb.NextP m) 0
noncomputable def Y'(m:Nat):List Nat:=JK (Rb.FacP m) []
theorem JM{m v:Nat}(h:Rb.NextP m v):vj m=v:=(JL h).abx h
theorem N9{m:Nat}{l:List Nat}(h:Rb.FacP m l):Y' m=l:=(JL h).abA h
def LX(e:Int)(l:List Nat):TG->iP:=λT=>(T,e,dL l)
def Pm(s:Tx):Int:=if 600<s.length then 2 else 0
def Xo(s:Tx):Tx:=if 600<s.length then[]else Bx.Fs s
def V_(s:Tx):TG->iP:=λT=>(T,Pm s,p_ (Xo s))
def zU(a b:Nat):Int:=if 2147483647<a\/2147483647<b then 1 else 0
def JN(a b:Nat):Nat:=if zU a b=0 then Pl.qe (Pol.sz b) a b else 0
def Pn(a b:Nat):TG->iP:=LX (zU a b) [JN a b]
def Wa(m:Nat)(v:Nat):Int:=if 2147483647<m then 1 else Rb.Dm v
noncomputable def Po(m:Nat):Nat:=if 2147483647<m then 0 else vj m
noncomputable def nxO(m:Nat):TG->iP:=LX (Wa m (Po m)) [Po m]
def zZ(m:Nat):Int:=if 2147483647<m then 1 else if m=0 then 10 else 0
noncomputable def LY(m:Nat):List Nat:=if zZ m=0 then Y' m else[]
noncomputable def Wb(m:Nat):TG->iP:=LX (zZ m) (LY m)
def Y_(m:Nat)(s:Tx):Nat:=if Pt.E0 m s=0 then Pt.xl m s 1 else 0
def prO(m:Nat)(s:Tx):TG->iP:=LX (Pt.E0 m s) [Y_ m s]
def LZ(s:Tx)(a b c:Nat):List Nat:=if Cu.oz s a b c=0 then Cu.sC a b c 600 s else[]
def Wc(s:Tx)(a b c:Nat):TG->iP:=LX (Cu.oz s a b c) (LZ s a b c)
noncomputable def vk(ws:List Tx):Option (Nat×(TG->iP)):=if lG ws=[103,99,100]then(lF ws 1).bind λa=>(lF ws 2).bind λb=>some (3,Pn a b)else if lG ws=[110,101,120,116]then(lF ws 1).bind λa=>some (2,nxO a)else if lG ws=[102,97,99,116,111,114,115]then(lF ws 1).bind λa=>some (2,Wb a)else if lG ws=[112,114,105,110,116]then(lF ws 1).bind λm=>(Pa ws 2).bind λs=>some (3,prO m s)else if lG ws=[99,117,116]then(Pa ws 1).bind λs=>(lF ws 2).bind λa=>(lF ws 3).bind λb=>(lF ws 4).bind λc=>some (5,Wc s a b c)else(Pa ws 1).bind λs=>some (2,V_ s)
def z6(x:Tx):Bool:=aU (x=[103,99,100]\/x=[110,101,120,116]\/x=[102,97,99,116,111,114,115]\/x=[112,114,105,110,116]\/x=[99,117,116]\/x=[115,104,117,116])
noncomputable def gV(ws:List Tx):Option (Nat×(TG->iP)):=if z6 (lG ws)=true then vk ws else Df ws
abbrev Tb(n:Nat):Prop:=n<=9223372036854775807
abbrev Lok(l:List Nat):Prop:=l.length<=700/\∀n∈l,Tb n
theorem Dz{e:Int}{l:List Nat}(b:0<=e/\e<=1000)(a:Lok l):LJ (LX e l):=λT _=>⟨b,by have :=vS l a.2;have :=a.1;show(dL l).length<=60000;omega⟩
theorem Lok.Za{n:Nat}(b:Tb n):Lok [n]:=⟨by simp,λm a=>by simp only[bD]at a;subst a;exact b⟩
theorem Tc{a b:Nat}(c:b≠0)(h:b<=2147483647):Pol.dx a b<=2147483647:=by
 have e:=(Pol.kV (a:=a) c).2;have f:Pol.sz b<=31:=Pol.fA.2 (by omega);have d:Pol.sz (Pol.dx a b)<=31:=by omega
 have :=Pol.fA.1 d;omega
theorem Xp:∀(f a b:Nat),a<=2147483647->b<=2147483647->Pl.qe f a b<=2147483647
 |0,a,b,c,_=>c
 |f+1,a,b,c,d=>by
  unfold Pl.qe;split;·exact c
  ·exact Xp f b _ d (Tc (by assumption) d)
theorem Td{m v:Nat}(a:2<=m)(h:Rb.LeastP m v):v<=2^Pol.sz m:=by
 have b:=Pol.od m;rcases h with⟨rfl,_⟩|⟨_,c,_⟩;·omega
 ·have d:=Pol.od v;have :2^Pol.sz v<=2^Pol.sz m:=ew (by decide) (by have :=Rb.mM a;omega);omega
theorem Wd{m:Nat}{l:List Nat}(h:Rb.FacP m l):l.length<=Pol.sz m/\∀n∈l,n<=2^Pol.sz m:=by
 induction h with
  |nil h=>exact⟨bJ _,λn a=>by cases a⟩
  |cons h b f c=>
   obtain⟨d,e⟩:=b.two h;obtain⟨_,_,g,_⟩:=Rb.zQ h d e;refine⟨by rw[aM];omega,λn a=>?_⟩;rcases aV.1 a with rfl|a;·exact Td h b
   ·exact b6 (c.2 n a) (ew (by decide) (by omega))
theorem L0(a b:Nat):Tb (JN a b):=by
 unfold JN Tb;split
 ·rename_i h;unfold zU at h;split at h;·cases h
  ·have :=Xp (Pol.sz b) a b (by omega) (by omega);omega
 ·decide
theorem Te(m:Nat):Tb (Po m):=by have :vj m<=2147483647:=Ft (q:=λv=>v<=2147483647) (λv h=>by rcases h with⟨_,_,h,_⟩|⟨h,_⟩<;>omega) (by decide);unfold Po Tb;split<;>omega
theorem GU(m:Nat):Lok (LY m):=by
 unfold LY;split
 ·rename_i h;have b:Pol.sz m<=31:=Pol.fA.2 (by
   unfold zZ at h;split at h;·cases h
   ·omega);have e:2^Pol.sz m<=2^31:=ew (by decide) b;refine Ft (q:=Lok) (λl c=>?_) ⟨by decide,λn a=>by cases a⟩;obtain⟨f,d⟩:=Wd c;exact⟨by omega,λn a=>by have :=d n a;unfold Tb;omega⟩
 ·exact⟨by decide,λn a=>by cases a⟩
theorem aaN(m:Nat)(a:m≠0)(b:m<=2147483647):∀(s:Tx)(p:Nat),p<=2147483647->Pt.xl m s p<=2147483647|[],p,h=>h|c::s,p,h=>aaN m a b s _ (Tc a b)
theorem Tf(m:Nat)(s:Tx):Tb (Y_ m s):=by
 unfold Y_ Tb;split
 ·rename_i h;have a:2<=m/\m<=2147483647:=by
   unfold Pt.E0 at h;split at h;·cases h
   ·omega
  have :=aaN m (by omega) a.2 s 1 (by decide);omega
 ·decide
theorem GV(s:Tx)(a b c:Nat):Lok (LZ s a b c):=by
 unfold LZ;split
 ·rename_i h;have e:s.length<=600:=by
   unfold Cu.oz at h;split at h;·cases h
   ·omega
  have f:=Cu.Dp a b c 600 s;exact⟨by omega,λn d=>by have :=Cu.GN a b c 600 s n d;unfold Tb;omega⟩
 ·exact⟨by decide,λn d=>by cases d⟩
theorem Ti(s:Tx):(Xo s).length<=601:=by
 unfold Xo;split;·decide
 ·unfold Bx.Fs;split;·rw[aM];omega
  ·rw[aM];omega
theorem vX(a b:Nat)(s:Tx)(c:Nat)(v:Nat):((0<=zU a b/\zU a b<=1000)/\(0<=Wa a v/\Wa a v<=1000)/\(0<=zZ a/\zZ a<=1000))/\(0<=Pt.E0 a s/\Pt.E0 a s<=1000)/\(0<=Cu.oz s a b c/\Cu.oz s a b c<=1000)/\0<=Pm s/\Pm s<=1000:=by
 unfold zU Wa Rb.Dm zZ Pt.E0 Cu.oz Pm;refine⟨⟨?_,?_,?_⟩,?_,?_,?_⟩;all_goals repeat' split
 all_goals decide
theorem okC(ws:List Tx):OkP (vk ws):=by
 unfold vk;repeat' split
 all_goals repeat'(refine Jy λ_=>?_)
 all_goals first|exact jA (Dz (vX _ _ [] 0 0).1.1 (.Za (L0 _ _)))|exact jA (Dz (vX _ 0 [] 0 _).1.2.1 (.Za (Te _)))|exact jA (Dz (vX _ 0 [] 0 0).1.2.2 (GU _))|exact jA (Dz (vX _ 0 _ 0 0).2.1 (.Za (Tf _ _)))|exact jA (Dz (vX _ _ _ _ 0).2.2.1 (GV _ _ _ _))|exact jA λT _=>⟨(vX 0 0 _ 0 0).2.2.2,NM _ (b6 (Ti _) (by decide))⟩
theorem okA(ws:List Tx):OkP (gV ws):=by
 unfold gV;split;·exact okC ws
 ·exact okT ws
end Go.X.Dk
namespace Go.X.Dk
open Go Go.X Go.RowKit Go.X.Vo Go.X.Tg
theorem aaO(a b:Nat)(M:Mem):Meets ab 57 [.v (.int .i64 (a:Int)),.v (.int .i64 (b:Int))] M λr _ _=>r=.tup [.v (.int .i64 ((JN a b:Nat):Int)),.v (.int .i64 (zU a b))]:=by
 unfold JN zU;by_cases h:2147483647<a\/2147483647<b;·rw[aF h];exact Pl.U0 _ _ M (by omega)
 ·rw[ai h,aF rfl];exact Pl.Gcd a b M (by omega) (by omega)
theorem Zb(m:Nat)(M:Mem):Meets ab 59 [.v (.int .i64 (m:Int))] M λr _ _=>r=.tup [.v (.int .i64 ((Po m:Nat):Int)),.v (.int .i64 (Wa m (Po m)))]:=by
 unfold Wa Po;by_cases h:2147483647<m;·rw[aF h,aF h];exact Rb.SR _ M (by omega)
 ·rw[ai h,ai h];exact(Rb.aby m M (by omega)).sS λr _ _ _⟨v,e,a⟩=>by rw[JM a];exact e
theorem aaP(m:Nat)(M:Mem):Meets ab 61 [.v (.int .i64 (m:Int))] M λr _ N=>∃v,r=.tup [.v v,.v (.int .i64 (zZ m))]/\RowM N v 1 ((LY m).map lD):=by
 unfold LY zZ;by_cases h:2147483647<m;·rw[aF h];exact(Rb.Jz _ M (by omega)).sS λr _ _ _ e=>⟨_,e,bY _ _⟩
 rw[ai h];by_cases a:m=0;·subst a;rw[aF rfl,ai (by decide)];exact(Rb.GL M).sS λr _ _ _ e=>⟨_,e,bY _ _⟩
 ·rw[ai a,aF rfl];exact(Rb.aaE (ku _) (Rb.V4 m M (by omega) (by omega))).sS λr _ _ _⟨v,l,e,b,c⟩=>⟨v,e,by rw[N9 c];exact b⟩
theorem We(m:Nat)(s:Tx)(M:Mem):Meets ab 66 [.v (.int .i64 (m:Int)),.v (.string ⟨s.toArray⟩)] M λr _ _=>r=.tup [.v (.int .i64 ((Y_ m s:Nat):Int)),.v (.int .i64 (Pt.E0 m s))]:=by
 unfold Y_;by_cases h:Pt.E0 m s=0
 ·have a:(2<=m/\m<=2147483647)/\s.length<=600:=by
   unfold Pt.E0 at h;split at h;·cases h
   ·split at h;·cases h
    ·omega
  rw[aF h,h];exact Pt.Z1 m s M a.1.1 a.1.2 a.2
 ·rw[ai h];exact Pt.Ye _ _ M h
theorem Zc(s:Tx)(a b c:Nat)(M:Mem):Meets ab 68 [.v (.string ⟨s.toArray⟩),.v (.int .i64 (a:Int)),.v (.int .i64 (b:Int)),.v (.int .i64 (c:Int))] M λr _ N=>∃v,r=.tup [.v v,.v (.int .i64 (Cu.oz s a b c))]/\RowM N v 1 ((LZ s a b c).map lD):=by
 unfold LZ;by_cases h:Cu.oz s a b c=0
 ·have d:(s.length<=600/\1<=a)/\(a<=b/\b<=600)/\c<=65535:=by
   unfold Cu.oz at h;split at h;·cases h
   ·split at h;·cases h
    ·omega
  rw[aF h,h];refine(vz (sz:=1) (Φ:=λf _=>f=(Cu.sC a b c 600 s).map lD) (ku _) (λ_ _ _ _ h=>h) ((Cu.V5 s a b c M d.1.1 d.1.2 d.2.1.1 d.2.1.2 d.2.2).sS λr H N _⟨g,e,i⟩=>⟨g,_,e,i,rfl⟩)).sS λr _ _ _⟨v,f,e,j,k⟩=>⟨v,e,by rw[<-k];exact j⟩
 ·rw[ai h];exact(Cu.SU _ _ _ _ M h).sS λr _ _ _ e=>⟨_,e,bY _ _⟩
theorem Zd(s:Tx)(M:Mem):Meets ab 70 [.v (.string ⟨s.toArray⟩)] M λr _ _=>r=.tup [.v (.string ⟨(Xo s).toArray⟩),.v (.int .i64 (Pm s))]:=by
 by_cases h:600<s.length;·unfold Xo Pm;rw[aF h,aF h];exact Bx.LW s M h
 ·unfold Xo Pm;rw[ai h,ai h];exact Bx.abH s M (by omega)
theorem aaQ{bt e f a b:Nat}{M:Mem}(m:GlobM M)(c:BoxM M e [.int .i64 (a:Nat)])(n:BoxM M f [.int .i64 (b:Nat)]):zN bt 55 [.v (bT e),.v (bT f)] M (Pn a b):=by
 refine⟨rfl,λT x v g h N d i k=>?_⟩;have o:=(c.le d).at (j:=0) rfl;have p:=(n.le d).at (j:=0) rfl;refine cO [0,1,2] Proofs.Tryz.func55 rfl (by kernel_rfl) λr t=>?_;simp only[Proofs.Tryz.f55,zX,seval,o,p,dz];refine cV ⟨_,DP,by kernel_rfl,by kernel_rfl⟩ (az ⟨rfl,rfl⟩ rfl (aaO a b N) ?_);simp only[zX,seval];refine g_ rfl rfl (QN (m.le d) (L0 a b)) (λs q=>?_) (λu l=>?_);·obtain⟨c,rfl⟩:=q;simp only[zX,seval];exact⟨⟨c,rfl⟩,x,v,g,h,rfl,i,k⟩
 ·exact⟨⟨l.1,l.2⟩,x,v,g,h,rfl,i,k⟩
theorem Ze{bt c a:Nat}{M:Mem}(k:GlobM M)(b:BoxM M c [.int .i64 (a:Nat)]):zN bt 58 [.v (bT c)] M (nxO a):=by
 refine⟨rfl,λT x v d e N f g h=>?_⟩;have l:=(b.le f).at (j:=0) rfl;refine cO [0,1] Proofs.Tryz.func58 rfl (by kernel_rfl) λn o=>?_;simp only[Proofs.Tryz.f58,zX,seval,l,dz];refine cV ⟨_,DT,by kernel_rfl,by kernel_rfl⟩ (az ⟨rfl,rfl⟩ rfl (Zb a N) ?_);simp only[zX,seval];refine g_ rfl rfl (QN (k.le f) (Te a)) (λs m=>?_) (λp i=>?_);·obtain⟨b,rfl⟩:=m;simp only[zX,seval];exact⟨⟨b,rfl⟩,x,v,d,e,rfl,g,h⟩
 ·exact⟨⟨i.1,i.2⟩,x,v,d,e,rfl,g,h⟩
theorem Pp{bt d a:Nat}{M:Mem}(n:GlobM M)(c:BoxM M d [.int .i64 (a:Nat)]):zN bt 60 [.v (bT d)] M (Wb a):=by
 refine⟨rfl,λT x v e f N g i k=>?_⟩;have o:=(c.le g).at (j:=0) rfl;refine cO [0,1,2,3] Proofs.Tryz.func60 rfl (by kernel_rfl) λw z=>?_;simp only[Proofs.Tryz.f60,zX,seval,o,dz];refine cV ⟨_,tI,by kernel_rfl,by kernel_rfl⟩ (jQ rfl rfl (aaP a N) (λr N⟨v,h,_⟩=>by subst h;rfl) λr p b⟨y,q,t⟩=>?_);subst q;simp only[zX,seval];refine g_ (R:=λs=>zZ a=0/\s=.tup []) (X0:=λl=>zZ a≠0/\l=jv (zZ a)) rfl rfl ((zb _ p).Ij (λs _ _ h=>⟨by rw[h.2];rfl,h⟩) (λ_ _ _ h=>h)) (λs u=>?_) (λl m=>?_);·obtain⟨c,rfl⟩:=u;simp only[zX,seval];refine cV ⟨_,wj,by kernel_rfl,by kernel_rfl⟩ (az ⟨rfl,rfl⟩ rfl (r_ ((n.le g).le b) t (b6 (GU a).1 (by decide)) (GU a).2) ?_);simp only[zX,seval];exact⟨⟨c,rfl⟩,x,v,e,f,rfl,i.le b,k⟩
 ·exact⟨⟨m.1,m.2⟩,x,v,e,f,rfl,i.le b,k⟩
theorem Wf{bt d e a:Nat}{t:Tx}{M:Mem}(l:GlobM M)(b:BoxM M d [.int .i64 (a:Nat)])(m:BoxM M e [.string ⟨t.toArray⟩]):zN bt 65 [.v (bT d),.v (bT e)] M (prO a t):=by
 refine⟨rfl,λT x v f g N c h i=>?_⟩;have n:=(b.le c).at (j:=0) rfl;have o:=(m.le c).at (j:=0) rfl;refine cO [0,1,2] Proofs.Tryz.func65 rfl (by kernel_rfl) λq r=>?_;simp only[Proofs.Tryz.f65,zX,seval,n,o,dz];refine cV ⟨_,DQ,by kernel_rfl,by kernel_rfl⟩ (az ⟨rfl,rfl⟩ rfl (We a t N) ?_);simp only[zX,seval];refine g_ rfl rfl (QN (l.le c) (Tf a t)) (λs p=>?_) (λu k=>?_);·obtain⟨b,rfl⟩:=p;simp only[zX,seval];exact⟨⟨b,rfl⟩,x,v,f,g,rfl,h,i⟩
 ·exact⟨⟨k.1,k.2⟩,x,v,f,g,rfl,h,i⟩
theorem aaR{bt g i k l a b c:Nat}{t:Tx}{M:Mem}(w:GlobM M)(f:BoxM M g [.string ⟨t.toArray⟩])(z:BoxM M i [.int .i64 (a:Nat)])(A:BoxM M k [.int .i64 (b:Nat)])(B:BoxM M l [.int .i64 (c:Nat)]):zN bt 67 [.v (bT g),.v (bT i),.v (bT k),.v (bT l)] M (Wc t a b c):=by
 refine⟨rfl,λT x v m n N e o p=>?_⟩;have C:=(f.le e).at (j:=0) rfl;have D:=(z.le e).at (j:=0) rfl;have E:=(A.le e).at (j:=0) rfl;have F:=(B.le e).at (j:=0) rfl;refine cO [0,1,2,3,4,5,6] Proofs.Tryz.func67 rfl (by kernel_rfl) λK L=>?_;simp only[Proofs.Tryz.f67,zX,seval,C,D,E,F,dz];refine cV ⟨_,DU,by kernel_rfl,by kernel_rfl⟩ (jQ rfl rfl (Zc t a b c N) (λr N⟨v,h,_⟩=>by subst h;rfl) λr G d⟨y,H,I⟩=>?_);subst H;simp only[zX,seval];refine g_ (R:=λs=>Cu.oz t a b c=0/\s=.tup []) (X0:=λq=>Cu.oz t a b c≠0/\q=jv (Cu.oz t a b c)) rfl rfl ((zb _ G).Ij (λs _ _ h=>⟨by rw[h.2];rfl,h⟩) (λ_ _ _ h=>h)) (λs J=>?_) (λq u=>?_);·obtain⟨f,rfl⟩:=J;simp only[zX,seval];refine cV ⟨_,wj,by kernel_rfl,by kernel_rfl⟩ (az ⟨rfl,rfl⟩ rfl (r_ ((w.le e).le d) I (b6 (GV t a b c).1 (by decide)) (GV t a b c).2) ?_);simp only[zX,seval];exact⟨⟨f,rfl⟩,x,v,m,n,rfl,o.le d,p⟩
 ·exact⟨⟨u.1,u.2⟩,x,v,m,n,rfl,o.le d,p⟩
theorem Zf{bt b:Nat}{t:Tx}{M:Mem}(n:GlobM M)(a:BoxM M b [.string ⟨t.toArray⟩]):zN bt 69 [.v (bT b)] M (V_ t):=by
 refine⟨rfl,λT x v c d N k e f=>?_⟩;have l:=(a.le k).at (j:=0) rfl;refine cO [0,1,2,3] Proofs.Tryz.func69 rfl (by kernel_rfl) λo p=>?_;simp only[Proofs.Tryz.f69,zX,seval,l,dz];refine cV ⟨_,DV,by kernel_rfl,by kernel_rfl⟩ (az ⟨rfl,rfl⟩ rfl (Zd t N) ?_);simp only[zX,seval];refine g_ (R:=λs=>Pm t=0/\s=.tup []) (X0:=λg=>Pm t≠0/\g=jv (Pm t)) rfl rfl ((zb _ N).Ij (λs _ _ h=>⟨by rw[h.2];rfl,h⟩) (λ_ _ _ h=>h)) (λs m=>?_) (λg i=>?_);·obtain⟨a,rfl⟩:=m;simp only[zX,seval];refine cV ⟨_,PT,by kernel_rfl,by kernel_rfl⟩ (az ⟨rfl,rfl⟩ rfl (MV (b6 (Ti t) (by decide))) ?_);simp only[zX,seval];exact⟨⟨a,rfl⟩,x,v,c,d,rfl,e,f⟩
 ·exact⟨⟨i.1,i.2⟩,x,v,c,d,rfl,e,f⟩
end Go.X.Dk
namespace Go.X.Dk
open Go Go.X Go.RowKit Go.X.Vo Go.X.Tg Go.X.Th
def tQ:List (Tx×ay):=[([109,97,107,101],.int .i64 1),([100,114,111,112],.int .i64 2),([119,114,105,116,101],.int .i64 3),([116,114,105,109],.int .i64 4),([99,108,111,110,101],.int .i64 5)]
theorem Zg{bt H:Nat}{I:ay}{ws:List Tx}{M:Mem}(J:GlobM M)(K:RowM M I 1 (ws.map dG))(L:BoxM M H [bT bt])(A:∀w∈ws,w.length<=70000)(B:1<=ws.length)(hi:wZ (lG ws)=true):aau 72 nE bt H I ws M:=by
 intro q T b v V W X g Y Z;have t:=J.le g;have c:=K.le g;have C:=L.le g;refine cO [0,1,2,3,6,7,8,9,19,26,27,34,42,48] Hr rfl (by kernel_rfl) λw0 M0=>?_;simp only[MD,Xf,zX,seval];refine⟨⟨rfl,rfl⟩,rfl,oN rfl rfl rfl rfl ?_⟩;simp only[zX,seval];refine⟨rfl,oy (ia (by kernel_rfl)) (kt:=9) (et:=3) (l:=[]) rfl rfl (by kernel_rfl) rfl rfl (λ_=>rfl) rfl rfl ?_⟩;simp only[zX,seval,hset];repeat refine⟨rfl,oy (ia (by kernel_rfl)) (kt:=9) (et:=3) rfl rfl (by kernel_rfl) rfl rfl (λ_=>rfl) rfl rfl ?_⟩;simp only[zX,seval,hset]
 refine⟨rfl,nZ (ia (by kernel_rfl)) (key:=lG ws) (l:=tQ) (kt:=9) (et:=3) (z:=.int .i64 0) rfl rfl rfl (by kernel_rfl) dJ rfl rfl (λ_=>rfl) rfl ?_⟩;have hi:=aW hi;obtain⟨x,h⟩:∃x,lG ws=x:=⟨_,rfl⟩;rw[h]at hi⊢;rcases hi with rfl|rfl|rfl|rfl|rfl|rfl;all_goals
  first|(have n:=Da h;rw[show nJ _ tQ 0=some (0,.int .i64 1)from rfl])|(have n:=Db h;rw[show nJ _ tQ 0=some (1,.int .i64 2)from rfl])|(have n:=AA h;rw[show nJ _ tQ 0=some (2,.int .i64 3)from rfl])|(have n:=Dc h;rw[show nJ _ tQ 0=some (3,.int .i64 4)from rfl])|(have n:=AB h;rw[show nJ _ tQ 0=some (4,.int .i64 5)from rfl])|(have n:=Dd h;rw[show nJ _ tQ 0=none from rfl])
  rw[n];simp only[zX,seval,cJ,uo,dn,o6];refine Eg (i:=1) rfl rfl rfl t c A B (λn1 d l1=>?_) (λz e=>⟨by simp only[z,eO],rfl,rfl⟩);simp only[zX,seval];refine⟨⟨rfl,rfl⟩,Xg (i:=2) rfl rfl rfl c (by omega) (λu f l2=>?_) (λz e=>⟨by simp only[d,z,b_,eO],rfl,rfl⟩)⟩;simp only[zX,seval,GG];try refine⟨⟨rfl,rfl⟩,Eg (i:=3) rfl rfl rfl t c A (by omega) (λD j N=>?_) (λz e=>⟨by simp only[d,f,z,b_,eO],rfl,rfl⟩)⟩;simp only[zX,seval,GG]
  try refine⟨⟨rfl,rfl⟩,Xg (i:=3) rfl rfl rfl c (by omega) (λO j N=>?_) (λz e=>⟨by simp only[d,f,z,b_,eO],rfl,rfl⟩)⟩;simp only[zX,seval,GG]
  try refine SB (i:=4) rfl rfl rfl c A (by omega) (λP Q l4=>?_) (λz e=>⟨by simp only[d,f,j,z,b_,eO],rfl,rfl⟩);simp only[zX,seval,GG]
  try refine⟨⟨rfl,rfl⟩,?_⟩
  refine⟨rfl,fT (k:=24) rfl rfl λR M2 E F=>fT (k:=64) rfl rfl λS M3 y G=>fT (k:=72) rfl rfl λU M4 m a=>mn (l:=[.v (bT R),.v (bT S),.v (bT U)]) rfl rfl rfl rfl ?_⟩;simp only[zX,seval,uJ,uK,hdelk];have p:=C.le ((E.dC y).dC m);have r:=F.le (y.dC m);have s:=G.le m;first|exact⟨_,_,_,_,by simp only[d,f,b_],rfl,yx (o:=(2,u,[],0,[])) p r s a,rfl,rfl⟩|exact⟨_,_,_,_,by simp only[d,f,j,b_],rfl,yx (o:=(1,u,[],(D:Int),[])) p r s a,rfl,rfl⟩|exact⟨_,_,_,_,by simp only[d,f,j,b_],rfl,yx (o:=(4,u,[],(D:Int),[])) p r s a,rfl,rfl⟩|exact⟨_,_,_,_,by simp only[d,f,j,b_],rfl,yx (o:=(5,u,O,0,[])) p r s a,rfl,rfl⟩|exact⟨_,_,_,_,by simp only[d,f,j,Q,b_],rfl,yx (o:=(3,u,[],(D:Int),P)) p r s a,rfl,rfl⟩|exact⟨_,_,_,_,by simp only[d,f,j,b_],rfl,VX p r s a,rfl,rfl⟩
theorem Tj{bt i:Nat}{f:ay}{ws:List Tx}(h:wZ (lG ws)=false):abw 72 bt i f ws:=by
 intro q T b v k N;have g:=mj h;generalize lG ws=x at*;have m:nJ x tQ 0=none:=by
  rcases lM x tQ 0 with⟨a,_⟩|⟨j,v,_,n⟩;·exact a
  ·have :=aL n;simp only[tQ,aV,cH,fK,cD]at this;exact(g (by rcases this with⟨h,_⟩|⟨h,_⟩|⟨h,_⟩|⟨h,_⟩|⟨h,_⟩<;>simp[h])).elim
 have c:((nJ x tQ 0).map (·.2)).getD (.int .i64 0)=.int .i64 0:=by rw[m];rfl
 have d:(x=[114,101,97,100])=False:=ax λe=>g (by simp[e]);refine LI 8000 248 (by decide) (R:=λs G _=>s=.v .nilFunc/\LnB f 1 q bt T b v k G) (X:=λ_ _ _=>False) ?_ (λs G o⟨a,p,r⟩=>⟨_,_,⟨p,r⟩,a,rfl⟩) (λ_ _ _ h=>h.elim);refine cO [0,1,2,3,6,7,8,9,19,26,27,34,42,48] Hr rfl (by kernel_rfl) λt u=>?_;simp only[MD,Xf,zX,seval];refine⟨⟨rfl,rfl⟩,rfl,oN rfl rfl rfl rfl ?_⟩;simp only[zX,seval];refine⟨rfl,oy (ia (by kernel_rfl)) (kt:=9) (et:=3) (l:=[]) rfl rfl (by kernel_rfl) rfl rfl (λ_=>rfl) rfl rfl ?_⟩;simp only[zX,seval,hset];repeat refine⟨rfl,oy (ia (by kernel_rfl)) (kt:=9) (et:=3) rfl rfl (by kernel_rfl) rfl rfl (λ_=>rfl) rfl rfl ?_⟩;simp only[zX,seval,hset]
 refine⟨rfl,nZ (ia (by kernel_rfl)) (key:=x) (l:=tQ) (kt:=9) (et:=3) (z:=.int .i64 0) rfl rfl rfl (by kernel_rfl) dJ rfl rfl (λ_=>rfl) rfl ?_⟩;rw[c];simp only[zX,seval,d,nQ];exact⟨rfl,rfl⟩
end Go.X.Dk
namespace Go.X.Dk
open Go Go.X Go.RowKit Go.X.Vo Go.X.Tg Go.X.Th
def tT:List (Tx×ay):=[([114,101,103,105,115,116,101,114],.int .i64 3),([114,101,115,101,114,118,101],.int .i64 3),([114,101,108,101,97,115,101],.int .i64 3),([99,108,101,97,114],.int .i64 2),([112,114,101,101,109,112,116],.int .i64 4),([99,114,97,115,104],.int .i64 1)]
theorem Wg{bt S:Nat}{U:ay}{ws:List Tx}{M:Mem}(W:GlobM M)(X:RowM M U 1 (ws.map dG))(Y:BoxM M S [bT bt])(I:∀w∈ws,w.length<=70000)(K:1<=ws.length):aau 73 iQ bt S U ws M:=by
 intro q T b v rg wv Z t hT hR;have g:=W.le t;have r:=X.le t;have G:=Y.le t;refine cO [0,1,2,3,4,6,7,8,9,10,11,25,27,28,29] Proofs.Tryz.func73 rfl (by kernel_rfl) λw0 M0=>?_;simp only[Proofs.Tryz.f73,Xf,zX,seval];refine⟨⟨rfl,rfl⟩,⟨rfl,rfl⟩,rfl,oN rfl rfl rfl rfl ?_⟩;simp only[zX,seval];refine⟨rfl,oy (ia (by kernel_rfl)) (kt:=9) (et:=3) (l:=[]) rfl rfl (by kernel_rfl) rfl rfl (λ_=>rfl) rfl rfl ?_⟩;simp only[zX,seval,hset];repeat refine⟨rfl,oy (ia (by kernel_rfl)) (kt:=9) (et:=3) rfl rfl (by kernel_rfl) rfl rfl (λ_=>rfl) rfl rfl ?_⟩;simp only[zX,seval,hset]
 refine⟨rfl,GC (ia (by kernel_rfl)) (key:=lG ws) (l:=tT) (kt:=9) (et:=3) (z:=.int .i64 0) rfl rfl rfl (by kernel_rfl) dJ rfl rfl (λ_=>rfl) rfl ?_⟩;obtain⟨x,d⟩:∃x,lG ws=x:=⟨_,rfl⟩;rw[d];by_cases C:∀p∈tT,p.1≠x
 ·have V:nJ x tT 0=none:=by
   rcases lM x tT 0 with⟨L,_⟩|⟨j,v,_,hj⟩;·exact L
   ·exact(C _ (aL hj) rfl).elim
  by_cases J:x=[97,108,108];·have o:=De (d.trans J);subst J;rw[V,o];simp only[zX,seval,uo,o6,nk];refine⟨⟨rfl,rfl⟩,yt 1 ?_⟩;simp only[lZ,rollQ_exit,zX,seval];refine⟨rfl,fT (k:=32) rfl rfl λN M2 n u=>fT (k:=24) rfl rfl λO M3 f A=>fT (k:=80) rfl rfl λP M4 a m=>mn (l:=[.v (bT N),.v (bT O),.v (bT P)]) rfl rfl rfl rfl ?_⟩;simp only[zX,seval,uJ,uK,hdelk];exact⟨1,_,_,_,rfl,rfl,aav (g.le ((n.dC f).dC a)) (G.le ((n.dC f).dC a)) (u.le (f.dC a)) (A.le a) m,rfl,rfl⟩
  ·have o:iQ ws=none:=by simp only[tT,aV,cH,fK,forall_eq_or_imp,forall_eq]at C;obtain⟨L,h2,h3,D,E,F⟩:=C;unfold iQ;rw[d,ai (wB L),ai (wB h2),ai (wB h3),ai (wB D),ai (wB E),ai (wB F),ai J]
   have Q:=ax J;rw[V];simp only[zX,seval,uo,o6,nk,Q];exact gJ rfl (tM 12 Z) ⟨o,rfl,rfl⟩
 have hm:x=[114,101,103,105,115,116,101,114]\/x=[114,101,115,101,114,118,101]\/x=[114,101,108,101,97,115,101]\/x=[99,108,101,97,114]\/x=[112,114,101,101,109,112,116]\/x=[99,114,97,115,104]:=by simp only[tT,aV,cH,fK,forall_eq_or_imp,forall_eq]at C;refine kx λh=>C ⟨λe=>h (.inl e.symm),λe=>h (.inr (.inl e.symm)),λe=>h (.inr (.inr (.inl e.symm))),λe=>h (.inr (.inr (.inr (.inl e.symm)))),λe=>h (.inr (.inr (.inr (.inr (.inl e.symm))))),λe=>h (.inr (.inr (.inr (.inr (.inr e.symm)))))⟩
 clear C;rcases hm with rfl|rfl|rfl|rfl|rfl|rfl;all_goals
  first|have o:=tP d|have o:=vd d|have o:=ve d|have o:=yu d|have o:=vf d|have o:=yv d
  rw[o];first|rw[show nJ _ tT 0=some (0,.int .i64 3)from rfl]|rw[show nJ _ tT 0=some (1,.int .i64 3)from rfl]|rw[show nJ _ tT 0=some (2,.int .i64 3)from rfl]|rw[show nJ _ tT 0=some (3,.int .i64 2)from rfl]|rw[show nJ _ tT 0=some (4,.int .i64 4)from rfl]|rw[show nJ _ tT 0=some (5,.int .i64 1)from rfl]
  simp only[zX,seval,cJ,dn,nj];refine⟨⟨rfl,rfl⟩,yt 5 ?_⟩;simp only[lZ,rollQ_normal,rollQ_exit,zX,seval];refine Eg (i:=1) rfl rfl rfl g r I K (λn1 s l1=>?_) (λz B=>⟨by simp only[z,b_,eO],rfl,rfl⟩);simp only[lZ,rollQ_normal,rollQ_exit,zX,seval];refine⟨eV (by decide) (by decide),?_⟩;try refine Eg (i:=2) rfl rfl rfl g r I (by omega) (λn2 H l2=>?_) (λz B=>⟨by simp only[s,z,b_,eO],rfl,rfl⟩);simp only[lZ,rollQ_normal,rollQ_exit,zX,seval];refine⟨eV (by decide) (by decide),?_⟩
  try refine Eg (i:=3) rfl rfl rfl g r I (by omega) (λn3 R l3=>?_) (λz B=>⟨by simp only[s,H,z,b_,eO],rfl,rfl⟩);simp only[lZ,rollQ_normal,rollQ_exit,zX,seval];refine⟨eV (by decide) (by decide),?_⟩
  try refine Eg (i:=4) rfl rfl rfl g r I (by omega) (λn4 f4 l4=>?_) (λz B=>⟨by simp only[s,H,R,z,b_,eO],rfl,rfl⟩);simp only[lZ,rollQ_normal,rollQ_exit,zX,seval];refine⟨eV (by decide) (by decide),?_⟩
  refine⟨rfl,fT (k:=32) rfl rfl λN M2 n u=>fT (k:=24) rfl rfl λO M3 f A=>fT (k:=80) rfl rfl λP M4 a m=>mn (l:=[.v (bT N),.v (bT O),.v (bT P)]) rfl rfl rfl rfl ?_⟩;simp only[zX,seval,uJ,uK,hdelk];have D:=G.le ((n.dC f).dC a);have E:=u.le (f.dC a);have F:=A.le a;first|exact⟨_,_,_,_,by simp only[s,H,b_]<;>rfl,rfl,LL (y:=0) (z:=0) (.inr (.inr (.inr (.inl ⟨d,rfl⟩)))) D (by rw[d];exact E) F m,rfl,rfl⟩|exact⟨_,_,_,_,by simp only[s,H,R,f4,b_]<;>rfl,rfl,LL (.inr (.inr (.inr (.inr ⟨d,rfl⟩)))) D (by rw[d];exact E) F m,rfl,rfl⟩|exact⟨_,_,_,_,by simp only[s,b_],rfl,VY (by obtain⟨w,_,e⟩:=nv.1 s;have :=FT e;omega) (g.le ((n.dC f).dC a)) D E F m,rfl,rfl⟩|exact⟨_,_,_,_,by simp only[s,H,R,b_]<;>rfl,rfl,LL (c:=lG ws) (z:=0) (by simp only[d,and_self,true_or,or_true]) D (by rw[d];exact E) F m,rfl,rfl⟩
end Go.X.Dk
namespace Go.X
open Go Go.RowKit
section
variable{E:Env}{σ:dp}{H:HS}{M:Mem}{Q:QP}
theorem DA{ops:Array db}{o:db}{c:List db}{T u:bL}{d:Nat}{x:bB}{s:SV}{r:Bool}(n:o.op=.binOp .neq T x (.const .nilFunc) u)(p:o.guard=none)(i:o.dst=some d)(q:aU (d<E.N)=true)(t:opv σ x=some (true,s))(y:(r=false/\∀ν,s.cL ν=.nilFunc)\/(r=true/\∀ν,∃f a b,s.cL ν=.func f a b))(g:∃ps k v,E.P.underlying T=some (.func ps k v))(h:RegK E ops Q c ((d,true,.v (.bool r))::σ) H M):RegK E ops Q (o::c) σ H M:=by
 rintro a w⟨ν,l,z⟩;obtain⟨ps,k,F,g⟩:=g;refine wpList_plain p λG j=>?_;have A:a.eval x=s.cL ν:=l.mA t rfl;have B:a.eval (.const .nilFunc)=.nilFunc:=rfl;unfold oC;have e:(r=false/\s.cL ν=.nilFunc)\/(r=true/\∃f a b,s.cL ν=.func f a b):=y.imp (λh=>⟨h.1,h.2 ν⟩) (λh=>⟨h.1,h.2 ν⟩);generalize s.cL ν=v at*;have m:(kI T v .nilFunc).run E.P w=.ok (!r) w:=by
  have i:∀d:Nat,(nO (d+1) T v .nilFunc).run E.P w=.ok (!r) w:=λd=>by
   rcases e with⟨rfl,rfl⟩|⟨rfl,f,a,b,rfl⟩;·simp[nO,a8 g]
   ·simp[nO,a8 g]
  rw[kI,Et];exact i 9999
 have C:Es .neq T x (.const .nilFunc) v .nilFunc=pure ():=by
  rcases e with⟨rfl,rfl⟩|⟨rfl,f,a,b,rfl⟩;·cases x<;>rfl
  ·cases x<;>rfl
 have D:(binOp .neq T v .nilFunc).run E.P w=.ok (.bool r) w:=by
  rcases e with⟨rfl,rfl⟩|⟨rfl,f,a,b,rfl⟩;·show((kI T .nilFunc .nilFunc).bind _).run E.P w=_;rw[my,m];rfl
  ·show((kI T (.func f a b) .nilFunc).bind _).run E.P w=_;rw[my,m];rfl
 have :(da a.eval o).run E.P w=.ok (.value (.bool r)) w:=by simp only[da,n,A,B,C,a7,bC,aQ,D]
 rw[this];simp only[sF,i];exact j _ _ (h _ _ ⟨ν,l.ml (aW q) rfl,z⟩)
theorem En{P:bZ}{f:kH}{R:RP}{X:XP}{A:SV->List SV}(d:Ctxs A)(k:Nat){b:Nat}{cs:List SV}(e:hget H k=some (.box cs (some (bT b))))(h:MeetsX P f (A (.v (bT b))) H M R X):MeetsX P f (A (.ptr k 0 0 0)) H M R X:=⟨h.1,λg i V w c=>by have a:V k=bT b:=(c.holds _ (bP e)).2 _ rfl;have :=h.2 g i V w c;rw[<-d (.ptr k 0 0 0) (.v (bT b)) V V (tz a)]at this;exact this⟩
end
end Go.X
namespace Go.X.Dk
open Go Go.X Go.RowKit Go.X.Vo Go.X.Tg Go.X.Th
theorem GW{ws:List Tx}(h:lG ws=[103,99,100]):gV ws=(lF ws 1).bind λa=>(lF ws 2).bind λb=>some (3,Pn a b):=by unfold gV vk;rw[aF (by rw[h];decide),aF h]
theorem JO{ws:List Tx}(h:lG ws=[110,101,120,116]):gV ws=(lF ws 1).bind λa=>some (2,nxO a):=by unfold gV vk;rw[aF (by rw[h];decide),ai (by rw[h];decide),aF h]
theorem AG{ws:List Tx}(h:lG ws=[102,97,99,116,111,114,115]):gV ws=(lF ws 1).bind λa=>some (2,Wb a):=by unfold gV vk;rw[aF (by rw[h];decide),ai (by rw[h];decide),ai (by rw[h];decide),aF h]
theorem Fu{ws:List Tx}(h:lG ws=[112,114,105,110,116]):gV ws=(lF ws 1).bind λa=>(Pa ws 2).bind λb=>some (3,prO a b):=by unfold gV vk;rw[aF (by rw[h];decide),ai (by rw[h];decide),ai (by rw[h];decide),ai (by rw[h];decide),aF h]
theorem N_{ws:List Tx}(h:lG ws=[99,117,116]):gV ws=(Pa ws 1).bind λa=>(lF ws 2).bind λb=>(lF ws 3).bind λc=>(lF ws 4).bind λd=>some (5,Wc a b c d):=by unfold gV vk;rw[aF (by rw[h];decide),ai (by rw[h];decide),ai (by rw[h];decide),ai (by rw[h];decide),ai (by rw[h];decide),aF h]
theorem JP{ws:List Tx}(h:lG ws=[115,104,117,116]):gV ws=(Pa ws 1).bind λa=>some (2,V_ a):=by unfold gV vk;rw[aF (by rw[h];decide),ai (by rw[h];decide),ai (by rw[h];decide),ai (by rw[h];decide),ai (by rw[h];decide),ai (by rw[h];decide)]
theorem Zh{bt Q:Nat}{vw:ay}{ws:List Tx}{M:Mem}(Z:GlobM M)(hM:RowM M vw 1 (ws.map dG))(hd:BoxM M Q [bT bt])(G:∀w∈ws,w.length<=70000)(B:1<=ws.length):YI 30 gV bt Q vw ws M:=by
 intro bl T b v rg wv M' C hT hR;have d:=Z.le C;have m:=hM.le C;obtain⟨x,H⟩:∃x,lG ws=x:=⟨_,rfl⟩;by_cases o:z6 (lG ws)=true
 ·refine cO [0,1,2,6,7,8,9,10,11,12,13,14,15,16,17,18,19,20,27,32,37,44,55,65] Ht rfl (by kernel_rfl) λw0 M0=>?_;have o:=aW o;rw[H]at o⊢;rcases o with rfl|rfl|rfl|rfl|rfl|rfl;all_goals
   first|rw[GW H]|rw[JO H]|rw[AG H]|rw[Fu H]|rw[N_ H]|rw[JP H]
   simp only[ME,Xf,zX,seval,GG];first|refine Eg (i:=1) rfl rfl rfl d m G B (λn1 p l1=>?_) (λz q=>⟨by simp only[z,b_,eO],rfl,rfl⟩)|refine SB (i:=1) rfl rfl rfl m G B (λn1 p l1=>?_) (λz q=>⟨by simp only[z,b_,eO],rfl,rfl⟩)
   simp only[zX,seval,GG];try
    first|refine Eg (i:=2) rfl rfl rfl d m G (by omega) (λn2 O l2=>?_) (λz q=>⟨by simp only[p,z,b_,eO],rfl,rfl⟩)|refine SB (i:=2) rfl rfl rfl m G (by omega) (λn2 O l2=>?_) (λz q=>⟨by simp only[p,z,b_,eO],rfl,rfl⟩)
    simp only[zX,seval,GG]
   try refine Eg (i:=3) rfl rfl rfl d m G (by omega) (λn3 f3 l3=>?_) (λz q=>⟨by simp only[p,O,z,b_,eO],rfl,rfl⟩);simp only[zX,seval,GG];refine Eg (i:=4) rfl rfl rfl d m G (by omega) (λn4 f4 l4=>?_) (λz q=>⟨by simp only[p,O,f3,z,b_,eO],rfl,rfl⟩);simp only[zX,seval,GG]
   first|(refine⟨⟨rfl,rfl⟩,⟨rfl,rfl⟩,rfl,fT (k:=56) rfl rfl λt I a c=>fT (k:=64) rfl rfl λR M4 j u=>mn (l:=[.v (bT t),.v (bT R)]) rfl rfl rfl rfl ?_⟩;simp only[zX,seval,uJ,uK,hdelk];exact⟨_,_,_,_,by simp only[p,O,b_],rfl,aaQ (d.le (a.dC j)) (c.le j) u,rfl,rfl⟩)|(refine⟨⟨rfl,rfl⟩,rfl,fT (k:=72) rfl rfl λt I a c=>mn (l:=[.v (bT t)]) rfl rfl rfl rfl ?_⟩;simp only[zX,seval,uJ,uK,hdelk];exact⟨_,_,_,_,by simp only[p,b_],rfl,Ze (d.le a) c,rfl,rfl⟩)|(refine⟨⟨rfl,rfl⟩,rfl,fT (k:=80) rfl rfl λt I a c=>mn (l:=[.v (bT t)]) rfl rfl rfl rfl ?_⟩;simp only[zX,seval,uJ,uK,hdelk];exact⟨_,_,_,_,by simp only[p,b_],rfl,Pp (d.le a) c,rfl,rfl⟩)|(refine⟨⟨rfl,rfl⟩,⟨rfl,rfl⟩,rfl,fT (k:=88) rfl rfl λt I a c=>fT (k:=96) rfl rfl λR M4 j u=>mn (l:=[.v (bT t),.v (bT R)]) rfl rfl rfl rfl ?_⟩;simp only[zX,seval,uJ,uK,hdelk];exact⟨_,_,_,_,by simp only[p,O,b_],rfl,Wf (d.le (a.dC j)) (c.le j) u,rfl,rfl⟩)|(refine⟨⟨rfl,rfl⟩,⟨rfl,rfl⟩,⟨rfl,rfl⟩,⟨rfl,rfl⟩,rfl,fT (k:=104) rfl rfl λt I a c=>fT (k:=112) rfl rfl λR M4 j u=>fT (k:=120) rfl rfl λb2 M5 J hb2=>fT (k:=128) rfl rfl λb3 M6 D hb3=>mn (l:=[.v (bT t),.v (bT R),.v (bT b2),.v (bT b3)]) rfl rfl rfl rfl ?_⟩;simp only[zX,seval,uJ,uK,hdelk];exact⟨_,_,_,_,by simp only[p,O,f3,f4,b_],rfl,aaR (d.le (((a.dC j).dC J).dC D)) (c.le ((j.dC J).dC D)) (u.le (J.dC D)) (hb2.le D) hb3,rfl,rfl⟩)|(refine⟨⟨rfl,rfl⟩,rfl,fT (k:=136) rfl rfl λt I a c=>mn (l:=[.v (bT t)]) rfl rfl rfl rfl ?_⟩;simp only[zX,seval,uJ,uK,hdelk];exact⟨_,_,_,_,by simp only[p,b_],rfl,Zf (d.le a) c,rfl,rfl⟩)
 have S:gV ws=Df ws:=ai o;have o:=mj (Bool.eq_false_iff.2 o);rw[S];refine En (A:=λs=>[.v (bT Q),.v (.string ⟨(lG ws).toArray⟩),s]) (λs s' Y U h=>by simp only[aS,SV.cL,h]) 8000 rfl ?_;have e1:=ax λe=>o (.inl e);have e2:=ax λe=>o (.inr (.inl e));have e3:=ax λe=>o (.inr (.inr (.inl e)));have e4:=ax λe=>o (.inr (.inr (.inr (.inl e))));have e5:=ax λe=>o (.inr (.inr (.inr (.inr (.inl e)))));have e6:=ax λe=>o (.inr (.inr (.inr (.inr (.inr e)))));refine p8 Ht rfl (by kernel_rfl) λw0 M0=>?_;simp only[ME];refine i7 (eD (live:=[0,1,2,6,7,8,9,10,11,12,13,14,15,16,17,18,19,20,27,32,37,44,55,65]) _ _ _ _ _ ?_);simp only[zX,seval];refine i7 (eD (live:=[0,1,2,6,7,8,9,10,11,12,13,14,15,16,17,18,19,20,27,32,37,44,55,65]) _ _ _ _ _ ?_);simp only[zX,seval,e1,e2,e3,e4,e5,e6];refine i7 (i7 (eD (live:=[0,1,2,6,7,8,9,10,11,12,13,14,15,16,17,18,19,20,27,32,37,44,55,65]) _ _ _ _ _ ?_));simp only[zX,seval];refine kT (A:=λs=>[.v (bT Q),.v (.string ⟨(lG ws).toArray⟩),s]) 8000 (λs s' Y U h=>by simp only[aS,SV.cL,h]) rfl ?_;by_cases P:wZ (lG ws)=true;·have S:Df ws=nE ws:=aF P;rw[S];refine q6 rfl (Zg Z hM hd G B P (some (bT bl)) T b v rg wv M' C hT hR) (λs V E y⟨n,F,g,f,K,W,L,X⟩=>?_) (λch V E _ h=>h);subst W;refine⟨L.1,?_⟩;have N:(SV.fn g f).conc=true:=L.1;simp only[zX,seval,shB,N];refine i7 (rZ (A' 1 ?_));simp only[zY,seval,fH,nc];refine DA (s:=.fn g f) (r:=true) rfl rfl rfl rfl rfl (.inr ⟨rfl,λY=>⟨_,_,_,rfl⟩⟩) ⟨_,_,_,D0⟩ (Cj ?_);refine eD (live:=[0,1,2,6,7,8,9,10,11,12,13,14,15,16,17,18,19,20,27,32,37,44,55,65]) _ _ _ _ _ ?_;simp only[zX,seval];exact⟨n,F,g,f,K,rfl,L,X⟩
 ·have P:wZ (lG ws)=false:=Bool.eq_false_iff.2 P;have S:Df ws=iQ ws:=ai (by rw[P];decide);rw[S];refine q6 rfl (Tj P (some (bT bl)) T b v rg M') (λs V E y⟨W,X⟩=>?_) (λch V E _ h=>h.elim);subst W X;refine⟨rfl,?_⟩;simp only[zX,seval,shB];refine i7 (rZ (A' 1 ?_));simp only[zY,seval,fH,nc];refine DA (s:=.v .nilFunc) (r:=false) rfl rfl rfl rfl rfl (.inl ⟨rfl,λY=>rfl⟩) ⟨_,_,_,D0⟩ (Cj ?_);refine eD (live:=[0,1,2,6,7,8,9,10,11,12,13,14,15,16,17,18,19,20,27,32,37,44,55,65]) _ _ _ _ _ ?_;simp only[zX,seval];refine eD (live:=[0,1,2,6,7,8,9,10,11,12,13,14,15,16,17,18,19,20,27,32,37,44,55,65]) _ _ _ _ _ ?_;simp only[zX,seval];refine kT (A:=λs=>[.v (bT Q),.v (.string ⟨(lG ws).toArray⟩),s]) 8000 (λs s' Y U h=>by simp only[aS,SV.cL,h]) rfl (q6 rfl (Wg Z hM hd G B (some (bT bl)) T b v rg wv E (C.dC y) (hT.le y) hR) (λs V I a⟨n,F,g,f,K,W,L,X⟩=>?_) (λch V I _ h=>h));subst W;refine⟨L.1,?_⟩;have N:(SV.fn g f).conc=true:=L.1;simp only[zX,seval,shB,N];exact⟨n,F,g,f,K,rfl,L,X⟩
end Go.X.Dk
namespace Go.X.Dk
open Go Go.X Go.RowKit
def pr(e:Int)(t:Tx):Tx:=if e=0 then t else lO e.toNat
theorem jM{α:Type}{enc:α->List ay}{M:Mem}{v:ay}{l:List α}{i:Nat}{x:α}{c:ay}(a:RowM M v 1 (l.map enc))(b:l[i]?=some x)(f:enc x=[c]):(FC v i/\yU M v 1 i 0)/\xj M v 1 i 0=c/\isSl v=true/\c.oneCell'=true:=by
 have g:(l.map enc)[i]?=some (enc x):=by rw[aN,b];rfl
 have k:=(aI.1 b).1;obtain⟨h,j,d⟩:=a.fG g (off:=0) (by decide);have e:xj M v 1 i 0=c:=by rw[h,f];rfl
 rw[e]at d;exact⟨⟨a.ix (by omega) (by rw[ae];omega),j⟩,e,a.1.1,d⟩
theorem Tl(m:Nat):Rp.pe [(m:Int)]=if 2147483647<m then 1 else 0:=by
 simp only[Rp.pe];repeat' split
 all_goals omega
theorem By{E:Env}{s:dp}{H:HS}{M:Mem}{K:KP}{d k:Nat}{l:List Nat}(b:hget H k=some (.row 1 (l.map lD)))(c:aU (d<E.N)=true)(e:E.P=ab)(a:Lok l)(f:K ((d,true,.v (.string ⟨(dL l).toArray⟩))::s) H M):CallK E 20 [.own k] d K s H M:=dP (k:=k) b c rfl (λ_=>by simp only[SV.nK,SV.xN,cR];rfl) (λv L g h=>by rw[e];simp only[SV.nK,SV.xN,cR];exact s6 h (b6 a.1 (by decide)) a.2) f
theorem Tm{a b:Nat}{e m:ay}{M:Mem}(f:RowM M e 1 ([a,b].map lD)):Meets ab 22 [.v (.string ⟨([103,99,100]:Tx).toArray⟩),.v e,.v m] M λr _ _=>r=.tup [.v (.string ⟨(pr (zU a b) (dL [JN a b])).toArray⟩),.v (.bool true)]:=by
 refine aH [0,1,2,6,7,8,9,10,11,12,13,14,19,31,36,44,49,54,60,67,74,81,92,98,119,135,141] gH rfl (by kernel_rfl) rfl λw=>?_;simp only[ik,zW,seval];refine az ⟨rfl,rfl⟩ rfl (Rp.Yb e [(a:Int),(b:Int)] M f) ?_;have g:Rp.pe [(a:Int),(b:Int)]=zU a b:=by
  unfold zU;simp only[Rp.pe];repeat' split
  all_goals omega
 rw[g];obtain⟨j,n,o,_⟩:=jM (i:=0) f rfl rfl;obtain⟨k,p,_⟩:=jM (i:=1) f rfl rfl;by_cases h:2147483647<a\/2147483647<b;·have d:zU a b=1:=aF h;simp only[zW,seval,d];refine az ⟨rfl,rfl⟩ rfl (gF 1 M (by decide)) ?_;simp only[zW,seval];rfl
 have d:zU a b=0:=ai h;have q:JN a b=Pl.qe (Pol.sz b) a b:=aF d;have c:=L0 a b;rw[q]at c⊢;simp only[zW,seval,d];refine js (tk [0,3,1,4,2,5] (.one 6 (.one 7 (.one 8 (tk [9,10] .done))))) rfl (by kernel_rfl) ?_;simp only[zW,seval,fl,fm,fP,o,n,p];refine⟨j.1,k.1,j.2,k.2,az ⟨rfl,rfl⟩ rfl (Rp.Z0 (Pol.sz b) a b M (by omega) (by omega) (bc _)) ?_⟩;simp only[zW,seval,fl,fm,fP];refine By (l:=[Pl.qe (Pol.sz b) a b]) rfl rfl rfl (.Za c) ?_;simp only[zW,seval,fl,fm,fP];rfl
theorem Wh(m:Nat)(M:Mem)(a:m<=2147483647):Meets ab 35 [.v (.int .i64 (m:Int))] M λr _ _=>r=.v (.int .i64 ((vj m:Nat):Int)):=(Rb.aaD m M a).sS λr _ _ _⟨v,e,b⟩=>by rw[JM b,e]
theorem Zi(m:Nat)(M:Mem)(a:m<=2147483647)(b:1<=m):Meets ab 36 [.v (.int .i64 (m:Int))] M λr _ N=>∃v,r=.v v/\RowM N v 1 ((Y' m).map lD):=(Rb.aaE eh (Rb.SS m M a b)).sS λr _ _ _⟨v,l,e,c,d⟩=>⟨v,e,by rw[N9 d];exact c⟩
theorem Wi(s:Tx)(a b c:Nat)(M:Mem)(f:s.length<=600)(g:1<=a)(i:a<=b)(j:b<=600)(k:c<=65535):Meets ab 40 [.v (.string ⟨s.toArray⟩),.v (.int .i64 (a:Int)),.v (.int .i64 (b:Int)),.v (.int .i64 (c:Int))] M λr _ N=>∃v,r=.v v/\RowM N v 1 ((Cu.sC a b c 600 s).map lD):=(vz (sz:=1) (Φ:=λd _=>d=(Cu.sC a b c 600 s).map lD) eh (λ_ _ _ _ h=>h) ((Cu.Xn 600 s a b c M f (bc _) g i j k).sS λr H N _⟨l,e,m⟩=>⟨l,_,e,m,rfl⟩)).sS λr _ _ _⟨v,d,e,n,o⟩=>⟨v,e,by rw[<-o];exact n⟩
theorem Pq{a:Nat}{d m:ay}{M:Mem}(j:RowM M d 1 ([a].map lD)):Meets ab 22 [.v (.string ⟨([110,101,120,116]:Tx).toArray⟩),.v d,.v m] M λr _ _=>r=.tup [.v (.string ⟨(pr (Wa a (Po a)) (dL [Po a])).toArray⟩),.v (.bool true)]:=by
 refine aH [0,1,2,6,7,8,9,10,11,12,13,14,19,31,36,44,49,54,60,67,74,81,92,98,119,135,141] gH rfl (by kernel_rfl) rfl λw=>?_;simp only[ik,zW,seval,GG];refine az ⟨rfl,rfl⟩ rfl (Rp.Yb d [(a:Int)] M j) ?_;rw[Tl];obtain⟨k,c,n,_⟩:=jM (i:=0) j rfl rfl;by_cases h:2147483647<a;·have e:Wa a (Po a)=1:=aF h;simp only[zW,seval,aF h,e];refine az ⟨rfl,rfl⟩ rfl (gF 1 M (by decide)) ?_;simp only[zW,seval];rfl
 have e:Wa a (Po a)=Rb.Dm (Po a):=ai h;have o:Po a=vj a:=ai h;have b:=Te a;rw[e];rw[o]at b⊢;simp only[zW,seval,ai h,n,c];refine⟨k.1,k.2,az ⟨rfl,rfl⟩ rfl (Wh a M (by omega)) ?_⟩;by_cases c:vj a=0;·have f:((0:Int)<((vj a:Nat):Int))=False:=ax (by omega);simp only[zW,seval,f];refine az ⟨rfl,rfl⟩ rfl (gF 4 M (by decide)) ?_;have g:Rb.Dm (vj a)=4:=aF c;simp only[zW,seval,g];rfl
 ·have f:((0:Int)<((vj a:Nat):Int))=True:=aK (by omega);have g:Rb.Dm (vj a)=0:=ai c;simp only[zW,seval,f,g];refine By (l:=[vj a]) rfl rfl rfl (.Za b) ?_;simp only[zW,seval];rfl
theorem GX{a:Nat}{d k:ay}{M:Mem}(e:RowM M d 1 ([a].map lD)):Meets ab 22 [.v (.string ⟨([102,97,99,116,111,114,115]:Tx).toArray⟩),.v d,.v k] M λr _ _=>r=.tup [.v (.string ⟨(pr (zZ a) (dL (LY a))).toArray⟩),.v (.bool true)]:=by
 refine aH [0,1,2,6,7,8,9,10,11,12,13,14,19,31,36,44,49,54,60,67,74,81,92,98,119,135,141] gH rfl (by kernel_rfl) rfl λw=>?_;simp only[ik,zW,seval,GG];refine az ⟨rfl,rfl⟩ rfl (Rp.Yb d [(a:Int)] M e) ?_;rw[Tl];obtain⟨c,f,g,_⟩:=jM (i:=0) e rfl rfl;have b:=GU a;unfold LY zZ at*;by_cases h:2147483647<a;·simp only[zW,seval,aF h];refine az ⟨rfl,rfl⟩ rfl (gF 1 M (by decide)) ?_;simp only[zW,seval];rfl
 rw[ai h]at b⊢;by_cases j:a=0;·subst j;simp only[zW,seval,g,f];refine⟨c.1,c.2,az ⟨rfl,rfl⟩ rfl (gF 10 M (by decide)) ?_⟩;simp only[zW,seval];rfl
 rw[ai j,aF rfl]at*;have l:((a:Int)=0)=False:=ax (by omega);simp only[zW,seval,ai h,g,f,l];refine⟨c.1,c.2,c.1,c.2,jQ rfl rfl (Zi a M (by omega) (by omega)) (λr N⟨v,h,_⟩=>by subst h;rfl) λr p m⟨y,n,o⟩=>?_⟩;subst n;simp only[zW,seval];refine az ⟨rfl,rfl⟩ rfl (s6 o (b6 b.1 (by decide)) b.2) ?_;simp only[zW,seval];rfl
theorem L1{m:Nat}{t:Tx}{k n:ay}{M:Mem}(q:RowM M k 1 ([m].map lD))(s:RowM M n 1 ([t].map dG))(u:t.length<=70000):Meets ab 22 [.v (.string ⟨([112,114,105,110,116]:Tx).toArray⟩),.v k,.v n] M λr _ _=>r=.tup [.v (.string ⟨(pr (Pt.E0 m t) (dL [Y_ m t])).toArray⟩),.v (.bool true)]:=by
 refine aH [0,1,2,6,7,8,9,10,11,12,13,14,19,31,36,44,49,54,60,67,74,81,92,98,119,135,141] gH rfl (by kernel_rfl) rfl λw=>?_;obtain⟨d,o,p,_⟩:=jM (i:=0) q rfl rfl;obtain⟨a,f,g,_⟩:=jM (i:=0) s rfl rfl;have c:=Tf m t;unfold Y_ at*;simp only[ik,zW,seval,GG,p,o];refine⟨d.1,d.2,az ⟨rfl,rfl⟩ rfl (Mv.U6 (m:Int) M) ?_⟩;by_cases h:m<2\/2147483647<m;·have e:Mv.Q9 (m:Int)=1:=aF (by omega);have b:Pt.E0 m t=1:=aF (by omega);simp only[zW,seval,e,b];refine az ⟨rfl,rfl⟩ rfl (gF 1 M (by decide)) ?_;simp only[zW,seval];rfl
 have e:Mv.Q9 (m:Int)=0:=ai (by omega);by_cases x:600<t.length
 ·have j:((600:Int)<(t.length:Int))=True:=aK (by omega);have b:Pt.E0 m t=2:=by unfold Pt.E0;rw[ai (by omega),aF (by omega)]
  simp only[zW,seval,e,b,g,f,j];refine⟨a.1,a.2,az ⟨rfl,rfl⟩ rfl (gF 2 M (by decide)) ?_⟩;simp only[zW,seval];rfl
 have j:((600:Int)<(t.length:Int))=False:=ax (by omega);have b:Pt.E0 m t=0:=by unfold Pt.E0;rw[ai (by omega),ai (by omega)]
 rw[aF b]at c⊢;simp only[zW,seval,e,b,g,f,j];refine⟨a.1,a.2,js (tk [0,3,1,4,2,5] (.one 6 (.one 7 (.one 8 (tk [9,10] .done))))) rfl (by kernel_rfl) ?_⟩;simp only[zW,seval,fl,fm,fP,p,o,g,f];refine⟨d.1,a.1,d.2,a.2,az ⟨rfl,rfl⟩ rfl (Pt.CC m t M (by omega) (by omega) (by unfold dB;omega)) ?_⟩;simp only[zW,seval,fl,fm,fP];refine By (l:=[Pt.xl m t 1]) rfl rfl rfl (.Za c) ?_;simp only[zW,seval,fl,fm,fP];rfl
theorem Tn{a b c:Nat}{t:Tx}{B C:ay}{M:Mem}(o:RowM M B 1 ([a,b,c].map lD))(E:RowM M C 1 ([t].map dG))(I:t.length<=70000):Meets ab 22 [.v (.string ⟨([99,117,116]:Tx).toArray⟩),.v B,.v C] M λr _ _=>r=.tup [.v (.string ⟨(pr (Cu.oz t a b c) (dL (LZ t a b c))).toArray⟩),.v (.bool true)]:=by
 refine aH [0,1,2,6,7,8,9,10,11,12,13,14,19,31,36,44,49,54,60,67,74,81,92,98,119,135,141] gH rfl (by kernel_rfl) rfl λw=>?_;obtain⟨e,p,k,_⟩:=jM (i:=0) o rfl rfl;obtain⟨m,q,_⟩:=jM (i:=1) o rfl rfl;obtain⟨g,l,_⟩:=jM (i:=2) o rfl rfl;obtain⟨j,s,u,_⟩:=jM (i:=0) E rfl rfl;have f:=GV t a b c;unfold LZ at*;by_cases J:600<t.length;·have x:((600:Int)<(t.length:Int))=True:=aK (by omega);have d:Cu.oz t a b c=2:=aF (by omega);simp only[ik,zW,seval,GG,u,s,x,d];refine⟨j.1,j.2,az ⟨rfl,rfl⟩ rfl (gF 2 M (by decide)) ?_⟩;simp only[zW,seval];rfl
 have x:((600:Int)<(t.length:Int))=False:=ax (by omega);simp only[ik,zW,seval,GG,u,s,x];refine⟨j.1,j.2,js (tk [0,1,2,3,4,5,8,6,9,7,10] (.one 11 (tk [12,13,14,15,16,17,18,19] .done))) rfl (by kernel_rfl) ?_⟩;by_cases K:a<1
 ·have z:((a:Int)<1)=True:=aK (by omega);have d:Cu.oz t a b c=1:=by unfold Cu.oz;rw[ai (by omega),aF (by omega)]
  simp only[zW,seval,fl,fm,fP,k,p,q,l,z,d];refine⟨e.1,e.2,az ⟨rfl,rfl⟩ rfl (gF 1 M (by decide)) ?_⟩;simp only[zW,seval];rfl
 have z:((a:Int)<1)=False:=ax (by omega);simp only[zW,seval,fl,fm,fP,k,p,q,l,z];refine⟨e.1,e.2,m.1,e.1,m.2,e.2,az ⟨rfl,rfl⟩ rfl (Bg.uW b a 600 M) ?_⟩;by_cases D:(a:Int)<=b/\(b:Int)<=600;rotate_left
 ·have n:aU ((a:Int)<=b/\(b:Int)<=600)=false:=bI D;have d:Cu.oz t a b c=1:=by unfold Cu.oz;rw[ai (by omega),aF (by omega)]
  simp only[zW,seval,fl,fm,fP,n,d];refine az ⟨rfl,rfl⟩ rfl (gF 1 M (by decide)) ?_;simp only[zW,seval];rfl
 have n:aU ((a:Int)<=b/\(b:Int)<=600)=true:=cy D;by_cases L:65535<c
 ·have A:((65535:Int)<(c:Int))=True:=aK (by omega);have d:Cu.oz t a b c=1:=by unfold Cu.oz;rw[ai (by omega),aF (by omega)]
  simp only[zW,seval,fl,fm,fP,k,l,n,A,d];refine⟨g.1,g.2,az ⟨rfl,rfl⟩ rfl (gF 1 M (by decide)) ?_⟩;simp only[zW,seval];rfl
 have A:((65535:Int)<(c:Int))=False:=ax (by omega);have d:Cu.oz t a b c=0:=by unfold Cu.oz;rw[ai (by omega),ai (by omega)]
 rw[aF d]at f⊢;simp only[zW,seval,fl,fm,fP,k,l,n,A,d];refine⟨g.1,g.2,gE 12 rfl (by kernel_rfl) ?_⟩;simp only[zW,seval,k,p,q,l,u,s];refine⟨j.1,j.2,e.1,e.2,m.1,m.2,g.1,g.2,jQ rfl rfl (Wi t a b c M (by omega) (by omega) (by omega) (by omega) (by omega)) (λr N⟨v,h,_⟩=>by subst h;rfl) λr O F⟨y,G,H⟩=>?_⟩;subst G;simp only[zW,seval];refine az ⟨rfl,rfl⟩ rfl (s6 H (b6 f.1 (by decide)) f.2) ?_;simp only[zW,seval];rfl
theorem Pr{t:Tx}{j e:ay}{M:Mem}(k:RowM M e 1 ([t].map dG))(l:t.length<=70000):Meets ab 22 [.v (.string ⟨([115,104,117,116]:Tx).toArray⟩),.v j,.v e] M λr _ _=>r=.tup [.v (.string ⟨(pr (Pm t) (p_ (Xo t))).toArray⟩),.v (.bool true)]:=by
 refine aH [0,1,2,6,7,8,9,10,11,12,13,14,19,31,36,44,49,54,60,67,74,81,92,98,119,135,141] gH rfl (by kernel_rfl) rfl λw=>?_;obtain⟨a,f,g,_⟩:=jM (i:=0) k rfl rfl;have b:=Ti t;unfold Xo at*;by_cases h:600<t.length;·have c:((600:Int)<(t.length:Int))=True:=aK (by omega);have d:Pm t=2:=aF (by omega);simp only[ik,zW,seval,GG,g,f,c,d];refine⟨a.1,a.2,az ⟨rfl,rfl⟩ rfl (gF 2 M (by decide)) ?_⟩;simp only[zW,seval];rfl
 have c:((600:Int)<(t.length:Int))=False:=ax (by omega);have d:Pm t=0:=ai h;rw[ai h]at b⊢;simp only[ik,zW,seval,GG,g,f,c,d];refine⟨a.1,a.2,a.1,a.2,az ⟨rfl,rfl⟩ rfl (Bx.aaM t M (by omega)) ?_⟩;simp only[zW,seval];refine az ⟨rfl,rfl⟩ rfl (MW (by omega)) ?_;simp only[zW,seval];rfl
theorem Wj{x:Tx}{a b:ay}{M:Mem}(h:z6 x=false):Meets ab 22 [.v (.string ⟨x.toArray⟩),.v a,.v b] M λr _ _=>r=.tup [.v (.string ⟨([]:Tx).toArray⟩),.v (.bool false)]:=by have h:=mj h;refine aH [0,1,2,6,7,8,9,10,11,12,13,14,19,31,36,44,49,54,60,67,74,81,92,98,119,135,141] gH rfl (by kernel_rfl) rfl λw=>?_;have c:=ax λe=>h (.inl e);have d:=ax λe=>h (.inr (.inl e));have f:=ax λe=>h (.inr (.inr (.inl e)));have g:=ax λe=>h (.inr (.inr (.inr (.inl e))));have i:=ax λe=>h (.inr (.inr (.inr (.inr (.inl e)))));have j:=ax λe=>h (.inr (.inr (.inr (.inr (.inr e)))));simp only[ik,zW,seval,c,d,f,g,i,j]
end Go.X.Dk
namespace Go.X
open Go Go.RowKit
theorem z7{E:Env}{s σ':dp}{H H':HS}{M:Mem}{K:KP}{f d:Nat}{l:List SV}{cs e:List SV}(k:Nat){b:Nat}(m:SV.concs l=true)(n:hget H k=some (.box cs (some (bT b))))(g:hget H' k=some (.box e (some (bT b))))(o:Ent E s H M (σ',H',M))(h:CallK E f (.ptr k 0 0 0::l) d K σ' H' M):CallK E f (.ptr k 0 0 0::l) d K s H M:=by intro v a w p j;have q:v k=bT b:=(j.holds _ (bP n)).2 _ rfl;obtain⟨u,i,c⟩:=o a w ⟨v,p,j⟩;have r:u k=bT b:=(c.holds _ (bP g)).2 _ rfl;have :=h u a w i c;rw[lN l m (.ptr k 0 0 0) (.ptr k 0 0 0) u v (by simp only[SV.cL,q,r])]at this;exact this
end Go.X
namespace Go.X.Dk
open Go Go.X Go.RowKit Go.X.Vo Go.X.Tg Go.X.Th
def A0(x:Tx):List Tx->Nat->Int|[],_=>-1|y::l,i=>if x=y then(i:Int)else A0 x l (i+1)
theorem tC(v:ay)(l:List Tx)(x:Tx)(M:Mem)(b:RowM M v 1 (l.map dG)):Meets ab 42 [.v v,.v (.string ⟨x.toArray⟩)] M λr _ _=>r=.v (.int .i64 (A0 x l 0)):=by
 refine aH [0,1,4,5,7,8,9,16] gO rfl (by kernel_rfl) rfl λw=>?_;generalize h:A0 x l 0=c;have d:=b.eQ;rw[ae]at d;simp only[Proofs.Tryz.f42,zW,seval,b.gC,b.sl,ae];refine bE (X:=Nat) (λi=>([(0,true,.v v),(1,true,.v (.string ⟨x.toArray⟩)),(7,true,.v (.int .i64 l.length)),(8,true,.v (.int .i64 i))],[],M)) (λi=>i<=l.length/\A0 x (l.drop i) i=c) (λi=>l.length-i) 0 ⟨bJ _,h⟩ (aR ?_) ?_;·simp only[zV,seval]
 rintro i⟨o,a⟩;by_cases j:i<l.length
 ·obtain⟨y,k,m⟩:=Rp.jX j;obtain⟨g,n,_⟩:=jM b k rfl;have e:((i:Int)<(l.length:Int))=True:=aK (by omega);rw[m,A0]at a;simp only[zW,seval,e,n];refine⟨g.1,g.2,λf=>?_,λf=>⟨eV (by omega) (by omega),i+1,⟨⟨by omega,?_⟩,by omega⟩,aR ?_⟩⟩;·rw[aF f]at a;rw[a]
  ·rw[ai f]at a;exact a
  ·simp only[zV,seval,aJ,cB]
 ·have e:((i:Int)<(l.length:Int))=False:=ax (by omega);rw[bh (by omega),A0]at a;simp only[zW,seval,e];rw[a]
def pt:List Tx:=[[],[109,97,107,101],[100,114,111,112],[119,114,105,116,101],[116,114,105,109],[99,108,111,110,101]]
def rG:List Tx:=[[],[114,101,103,105,115,116,101,114],[114,101,115,101,114,118,101],[114,101,108,101,97,115,101],[99,108,101,97,114],[112,114,101,101,109,112,116]]
def AH(F:TG->iP)(T:TG):Tx:=pr (F T).2.1 (F T).2.2
def DB(x:Tx)(ns:List Nat)(ss:List Tx)(F:TG->iP):Prop:=∀(M:Mem)(a:Nat)(T:TG)(b v c d:ay)(e:List WV),TgM M T b v c e->TgR T->RowM M d 1 (ss.map dG)->LJ F->MeetsX ab 23 [.ptr 248 0 0 0,.v (.string ⟨x.toArray⟩),.own 808,.v d] [(808,.row 1 (ns.map lD)),(248,.box (fh T b v c) (some (bT a)))] M (λs G N=>s=.v (.string ⟨(AH F T).toArray⟩)/\YH a (F T).1 G N) (λ_ _ _=>False)
theorem qm{x:Tx}{ns:List Nat}{ss:List Tx}{w:Nat}{o:AV}(h:(∃a n,x=[109,97,107,101]/\ns=[w,a]/\ss=[n]/\o=(1,n,[],((a:Nat):Int),[]))\/(∃n,x=[100,114,111,112]/\ns=[w]/\ss=[n]/\o=(2,n,[],0,[]))\/(∃a n t,x=[119,114,105,116,101]/\ns=[w,a]/\ss=[n,t]/\o=(3,n,[],((a:Nat):Int),t))\/(∃a n,x=[116,114,105,109]/\ns=[w,a]/\ss=[n]/\o=(4,n,[],((a:Nat):Int),[]))\/(∃n t,x=[99,108,111,110,101]/\ns=[w]/\ss=[n,t]/\o=(5,n,t,0,[]))):DB x ns ss (GF w o):=by
 rintro M E T b v m p X F q u y;have G:GF w o T=((qk T w o).1,(qk T w o).2,yP):=rfl;have Y:0<=(qk T w o).2/\(qk T w o).2<=1000:=(y T q).1;have c:=vR q (w:Int) o;clear y;refine cO [0,1,2,3,8,9,10,11,12,13,14,15,20,28,34,40,55,81,87,110,116] pA rfl (by kernel_rfl) λZ M0=>?_;obtain⟨j,r,z,_⟩:=jM (i:=0) u (x:=ss.headD []) (by rcases h with⟨a,n,rfl,rfl,rfl,rfl⟩|⟨n,rfl,rfl,rfl,rfl⟩|⟨a,n,t,rfl,rfl,rfl,rfl⟩|⟨a,n,rfl,rfl,rfl,rfl⟩|⟨n,t,rfl,rfl,rfl,rfl⟩<;>rfl) rfl;have H:∀t,ss[1]?=some t->(FC p 1/\yU M p 1 1 0)/\xj M p 1 1 0=.string ⟨t.toArray⟩:=λt I=>by obtain⟨d,J,_⟩:=jM (i:=1) u I rfl;exact⟨d,J⟩
 have K:A0 ([109,97,107,101]:Tx) pt 0=1:=by decide
 have L:A0 ([100,114,111,112]:Tx) pt 0=2:=by decide
 have N:A0 ([119,114,105,116,101]:Tx) pt 0=3:=by decide
 have O:A0 ([116,114,105,109]:Tx) pt 0=4:=by decide
 have P:A0 ([99,108,111,110,101]:Tx) pt 0=5:=by decide
 rcases h with⟨a,n,rfl,rfl,rfl,rfl⟩|⟨n,rfl,rfl,rfl,rfl⟩|⟨a,n,t,rfl,rfl,rfl,rfl⟩|⟨a,n,rfl,rfl,rfl,rfl⟩|⟨n,t,rfl,rfl,rfl,rfl⟩;all_goals
  simp only[sJ,zX,seval];refine⟨rfl,cV ⟨_,gO,by kernel_rfl,by kernel_rfl⟩ (dP (k:=128) rfl rfl rfl (λ_=>rfl) (λl Q R s=>tC l pt _ Q s) ?_)⟩;simp only[K,L,N,O,P,List.headD]at r⊢;first|(have d:=H _ rfl;simp only[zX,seval,z,r,lD,a_,bA,d.2];refine⟨j.1,j.2,rfl,d.1.1,d.1.2,?_⟩)|(simp only[zX,seval,z,r,lD,a_,bA];refine⟨j.1,j.2,rfl,?_⟩)
  refine mF 5 rfl (by kernel_rfl) ?_;simp only[zX,seval];refine cV ⟨_,Proofs.Tryz.func43,by kernel_rfl,by kernel_rfl⟩ (z7 (σ':=[]) (H':=[(248,.box (fh T b v m) (some (bT E)))]) 248 rfl rfl rfl (aR (by simp only[zV,seval])) (aat (o:=(_,_,_,_,_)) rfl w F q λA l f S U g=>?_));simp only[AH,G];generalize qk T (w:Int) _=D at*;by_cases B:D.2=0;·have C:=aK B;simp only[zX,seval,C,pr];exact⟨rfl,A,l,m,f,rfl,g,c⟩
  ·have C:=ax B;obtain⟨e,V⟩:∃e:Nat,D.2=e:=⟨D.2.toNat,by omega⟩;have W:((e:Int)=0)=False:=ax (by omega);simp only[zX,seval,W,pr,V,cA];refine cV ⟨_,jK,by kernel_rfl,by kernel_rfl⟩ (az ⟨rfl,rfl⟩ rfl (gF e S (by omega)) ?_);simp only[zX,seval];exact⟨A,l,m,f,rfl,g,c⟩
theorem oY{x:Tx}{ns:List Nat}{ss:List Tx}{F:TG->iP}(h:(∃a c f,x=[114,101,103,105,115,116,101,114]/\ns=[a,c,f]/\ss=[]/\F=Jo a c f)\/(∃a c f,x=[114,101,115,101,114,118,101]/\ns=[a,c,f]/\ss=[]/\F=Jp a c f)\/(∃a c f,x=[114,101,108,101,97,115,101]/\ns=[a,c,f]/\ss=[]/\F=Jq a c f)\/(∃a c,x=[99,108,101,97,114]/\ns=[a,c]/\ss=[]/\F=Jr a c)\/(∃a c f t,x=[112,114,101,101,109,112,116]/\ns=[a,c,f,t]/\ss=[]/\F=Js a c f t)):DB x ns ss F:=by
 rintro M bt⟨A,⟨g,l,k,j⟩,p,d⟩b v B vs T V q hs U;have w:=(U _ q).1;clear U;refine cO [0,1,2,3,8,9,10,11,12,13,14,15,20,28,34,40,55,81,87,110,116] pA rfl (by kernel_rfl) λw0 M0=>?_;have W:A0 ([114,101,103,105,115,116,101,114]:Tx) rG 0=1:=by decide
 have X:A0 ([114,101,115,101,114,118,101]:Tx) rG 0=2:=by decide
 have Y:A0 ([114,101,108,101,97,115,101]:Tx) rG 0=3:=by decide
 have Z:A0 ([99,108,101,97,114]:Tx) rG 0=4:=by decide
 have i5:A0 ([112,114,101,101,109,112,116]:Tx) rG 0=5:=by decide
 have k1:A0 ([114,101,103,105,115,116,101,114]:Tx) pt 0=-1:=by decide
 have k2:A0 ([114,101,115,101,114,118,101]:Tx) pt 0=-1:=by decide
 have k3:A0 ([114,101,108,101,97,115,101]:Tx) pt 0=-1:=by decide
 have k4:A0 ([99,108,101,97,114]:Tx) pt 0=-1:=by decide
 have k5:A0 ([112,114,101,101,109,112,116]:Tx) pt 0=-1:=by decide
 rcases h with⟨a,c,f,rfl,rfl,rfl,rfl⟩|⟨a,c,f,rfl,rfl,rfl,rfl⟩|⟨a,c,f,rfl,rfl,rfl,rfl⟩|⟨a,c,rfl,rfl,rfl,rfl⟩|⟨a,c,f,t,rfl,rfl,rfl,rfl⟩;all_goals
  simp only[sJ,zX,seval];refine⟨rfl,cV ⟨_,gO,by kernel_rfl,by kernel_rfl⟩ (dP (k:=128) rfl rfl rfl (λ_=>rfl) (λG N H y=>tC G pt _ N y) ?_)⟩;simp only[k1,k2,k3,k4,k5];simp only[zX,seval];refine⟨rfl,cV ⟨_,gO,by kernel_rfl,by kernel_rfl⟩ (dP (k:=408) rfl rfl rfl (λ_=>rfl) (λG N H y=>tC G rG _ N y) ?_)⟩;simp only[W,X,Y,Z,i5];simp only[zX,seval,lD];refine⟨rfl,rfl,rfl,jU (EH (k:=464) rfl λvn D I n=>ie [248] (tk [0,4,5,8,11,14,1,6,9,12,15,2,7,10,13,16,3] (.one 17 (tk [18,19,20] (.one 21 (tk [22] .done))))) (by kernel_rfl) (by kernel_rfl) λys E=>?_)⟩;have m:=V.le I;have J:=n.fG (i:=0) rfl (off:=0) (by decide);have K:=n.fG (i:=1) rfl (off:=0) (by decide);have L:=n.fG (i:=2) rfl (off:=0) (by decide);have O:=n.fG (i:=3) rfl (off:=0) (by decide);simp only[na,im,iq,ir,zV,seval,fh,a_,bA]at E J K L O;simp only[zY,seval,im,iq,ir,nzs,fl,fm,fP,fh,m.regs.dj,m.bag.dj,m.vols.row.dj,E,n.sl,J.1,K.1,L.1,O.1,AH];first|(have u:Jo a c f ((A,(g,l,k,j),p,d):TG)=(lY (A,(g,l,k,j),p,d) (Rv.oq g l k j (a:Int) (c:Int) (f:Int)),(Rv.oq g l k j (a:Int) (c:Int) (f:Int)).1,yP):=rfl;have o:=gU q (S:=Rv.oq g l k j (a:Int) (c:Int) (f:Int)) (λr=>zI r);have C:=Rv.YA g B k j a c f 0 l D m.regs q.rv;rw[u]at w⊢;generalize Rv.oq g l k j (a:Int) (c:Int) (f:Int)=S at*)|(have u:Jp a c f ((A,(g,l,k,j),p,d):TG)=(lY (A,(g,l,k,j),p,d) (Rv.ot g l k j (a:Int) (c:Int) (f:Int)),(Rv.ot g l k j (a:Int) (c:Int) (f:Int)).1,yP):=rfl;have o:=gU q (S:=Rv.ot g l k j (a:Int) (c:Int) (f:Int)) (λr=>zJ r);have C:=Rv.YB g B k j a c f 0 l D m.regs q.rv;rw[u]at w⊢;generalize Rv.ot g l k j (a:Int) (c:Int) (f:Int)=S at*)|(have u:Jq a c f ((A,(g,l,k,j),p,d):TG)=(lY (A,(g,l,k,j),p,d) (Rv.ou g l k j (a:Int) (c:Int) (f:Int)),(Rv.ou g l k j (a:Int) (c:Int) (f:Int)).1,yP):=rfl;have o:=gU q (S:=Rv.ou g l k j (a:Int) (c:Int) (f:Int)) (λr=>zK r);have C:=Rv.YC g B k j a c f 0 l D m.regs q.rv;rw[u]at w⊢;generalize Rv.ou g l k j (a:Int) (c:Int) (f:Int)=S at*)|(have u:Jr a c ((A,(g,l,k,j),p,d):TG)=(lY (A,(g,l,k,j),p,d) (Rv.ov g l k j (a:Int) (c:Int)),(Rv.ov g l k j (a:Int) (c:Int)).1,yP):=rfl;have o:=gU q (S:=Rv.ov g l k j (a:Int) (c:Int)) (λr=>zL r);have C:=Rv.YD g B k j a c 0 0 l D m.regs q.rv;rw[u]at w⊢;generalize Rv.ov g l k j (a:Int) (c:Int)=S at*)|(have u:Js a c f t ((A,(g,l,k,j),p,d):TG)=(lY (A,(g,l,k,j),p,d) (Rv.ox g l k j (a:Int) (c:Int) (f:Int) (t:Int)),(Rv.ox g l k j (a:Int) (c:Int) (f:Int) (t:Int)).1,yP):=rfl;have o:=gU q (S:=Rv.ox g l k j (a:Int) (c:Int) (f:Int) (t:Int)) (λr=>zM r);have C:=Rv.YE g B k j a c f t l D m.regs q.rv;rw[u]at w⊢;generalize Rv.ox g l k j (a:Int) (c:Int) (f:Int) (t:Int)=S at*)
  have w:0<=S.1/\S.1<=1000:=w;simp only[Rv.kW,Rv.we]at C;refine⟨n.ix (i:=0) (by decide) (by simp),n.ix (i:=1) (by decide) (by simp),n.ix (i:=2) (by decide) (by simp),n.ix (i:=3) (by decide) (by simp),J.2.1,K.2.1,L.2.1,O.2.1,gS (Rv.O_ S) rfl rfl C λP M2 s z=>?_⟩;by_cases Q:S.1=0;·have c0:=aK Q;have R:lY (A,(g,l,k,j),p,d) S=(A,S.2,p,d):=aF Q;rw[R]at o⊢;simp only[Rv.VI,Rv.kW,zY,seval,im,iq,ir,nzs,fl,fm,fP,m.regs.dj,m.bag.dj,m.vols.row.dj,z.dj,s,E,c0,pr];exact⟨rfl,b,v,P,T,rfl,⟨m.bag.le s,m.vols.le s,m.vw,z⟩,o⟩
  ·obtain⟨e,r⟩:∃e:Nat,S.1=e:=⟨S.1.toNat,by omega⟩;have ce:((e:Int)=0)=False:=ax (by omega);have R:lY (A,(g,l,k,j),p,d) S=(A,(g,l,k,j),p,d):=ai Q;rw[R]at o⊢;simp only[Rv.VI,Rv.kW,zY,seval,im,iq,ir,nzs,fl,fm,fP,m.regs.dj,m.bag.dj,m.vols.row.dj,z.dj,s,E,r,ce,pr,cA];refine cV ⟨_,jK,by kernel_rfl,by kernel_rfl⟩ (az ⟨rfl,rfl⟩ rfl (gF e M2 (by omega)) ?_);simp only[zX,seval];exact⟨b,v,B,T,rfl,m.le s,o⟩
theorem JQ{w:Nat}{ss:List Tx}(u:w<=9999999999):DB [99,114,97,115,104] [w] ss (Jt w):=by
 rintro M h T b v i x y j m z A;refine cO [0,1,2,3,8,9,10,11,12,13,14,15,20,28,34,40,55,81,87,110,116] pA rfl (by kernel_rfl) λB C=>?_;have o:A0 ([99,114,97,115,104]:Tx) pt 0=-1:=by decide
 have p:A0 ([99,114,97,115,104]:Tx) rG 0=-1:=by decide
 simp only[sJ,zX,seval];refine⟨rfl,cV ⟨_,gO,by kernel_rfl,by kernel_rfl⟩ (dP (k:=128) rfl rfl rfl (λ_=>rfl) (λc N d a=>tC c pt _ N a) ?_)⟩;simp only[o];simp only[zX,seval];refine⟨rfl,cV ⟨_,gO,by kernel_rfl,by kernel_rfl⟩ (dP (k:=408) rfl rfl rfl (λ_=>rfl) (λc N d a=>tC c rG _ N a) ?_)⟩;simp only[p];simp only[zX,seval,lD,a_];refine cV ⟨_,Proofs.Tryz.func45,by kernel_rfl,by kernel_rfl⟩ (z7 (σ':=[]) (H':=[(248,.box (fh T b v i) (some (bT h)))]) 248 rfl rfl rfl (aR (by simp only[zV,seval])) (Sz rfl w (eV (by omega) (by omega)) j m λq c e D r f=>?_));have E:=(pT T w).2;have g:=C' T w;have s:Jt w T=(NC T w,0,dL [(xn T w).2.1.toNat]):=rfl;have t:((xn T (w:Int)).2.1)=(((xn T (w:Int)).2.1.toNat:Nat):Int):=by omega
 simp only[AH,s];rw[t];generalize(xn T (w:Int)).2.1.toNat=n at*;generalize NC T (w:Int)=F at*;simp only[zX,seval,pr];refine⟨rfl,cV ⟨_,Proofs.Tryz.func20,by kernel_rfl,by kernel_rfl⟩ (By (l:=[n]) rfl rfl rfl (.Za (by unfold Tb;omega)) ?_)⟩;simp only[zX,seval];exact⟨q,c,_,e,rfl,f,g⟩
theorem L3{w a:Nat}{n:Tx}:DB [114,101,97,100] [w,a] [n] (Xe w n a):=by
 rintro M D T b v m L u E j x y;have z:=y T j;clear y;have f:=LK j w n a;refine cO [0,1,2,3,8,9,10,11,12,13,14,15,20,28,34,40,55,81,87,110,116] pA rfl (by kernel_rfl) λO P=>?_;have F:A0 ([114,101,97,100]:Tx) pt 0=-1:=by decide
 have G:A0 ([114,101,97,100]:Tx) rG 0=-1:=by decide
 have H:(([114,101,97,100]:Tx)=[99,114,97,115,104])=False:=ax (by decide);simp only[sJ,zX,seval];refine⟨rfl,cV ⟨_,gO,by kernel_rfl,by kernel_rfl⟩ (dP (k:=128) rfl rfl rfl (λ_=>rfl) (λo N p g=>tC o pt _ N g) ?_)⟩;simp only[F];simp only[zX,seval];refine⟨rfl,cV ⟨_,gO,by kernel_rfl,by kernel_rfl⟩ (dP (k:=408) rfl rfl rfl (λ_=>rfl) (λo N p g=>tC o rG _ N g) ?_)⟩;simp only[G];obtain⟨q,A,B,_⟩:=jM (i:=0) x rfl rfl;simp only[zX,seval,lD,a_,H];refine jU (EH (k:=808) rfl λQ R l c=>js (tk [0,1,4,7,2,5,8,3,6,9] (.one 10 (tk [11,12,13,14,15] .done))) (by kernel_rfl) (by kernel_rfl) ?_);have h:=E.le l;have r:=c.fG (i:=0) rfl (off:=0) (by decide);have s:=c.fG (i:=1) rfl (off:=0) (by decide);obtain⟨q,A,B,_⟩:=jM (i:=0) (x.le l) rfl rfl;simp only[a_,bA]at r s;simp only[zY,seval,im,iq,ir,nzs,fl,fm,fP,fh,c.sl,r.1,s.1,B,A];refine⟨c.ix (i:=0) (by decide) (by simp),q.1,c.ix (i:=1) (by decide) (by simp),r.2.1,q.2,s.2.1,z7 (σ':=[]) (H':=[(248,.box (fh T b v m) (some (bT D)))]) 248 rfl rfl rfl (aR (by simp only[zV,seval,fh])) (VS rfl w n a h j λI d=>?_)⟩;have J:Xe w n a T=(T,(rC T w n a).2,p_ (rC T w n a).1):=rfl;simp only[AH,J]at z⊢;generalize rC T (w:Int) n (a:Int)=S at*;obtain⟨t,e⟩:=S;simp only at z f⊢;by_cases C:e=0;·subst C;simp only[zY,seval,im,iq,ir,nzs,fl,fm,fP,d,pr];refine cV ⟨_,Proofs.Tryz.func10,by kernel_rfl,by kernel_rfl⟩ (az ⟨rfl,rfl⟩ rfl (MW (b6 f (by decide))) ?_);simp only[zX,seval];exact⟨b,v,m,u,rfl,h.le d,j⟩
 ·obtain⟨e,rfl⟩:∃k:Nat,e=k:=⟨e.toNat,by omega⟩;have K:=ax C;simp only[zY,seval,im,iq,ir,nzs,fl,fm,fP,d,pr,K,cA];refine cV ⟨_,jK,by kernel_rfl,by kernel_rfl⟩ (az ⟨rfl,rfl⟩ rfl (gF e I (by omega)) ?_);simp only[zX,seval];exact⟨b,v,m,u,rfl,h.le d,j⟩
end Go.X.Dk
namespace Go.X.Dk
open Go Go.X Go.RowKit Go.X.Vo Go.X.Tg Go.X.Th
def To:Tx:=[103,99,100,32,78,78,44,110,101,120,116,32,78,44,102,97,99,116,111,114,115,32,78,44,112,114,105,110,116,32,78,84,44,99,117,116,32,84,78,78,78,44,115,104,117,116,32,84,44,109,97,107,101,32,78,87,78,44,100,114,111,112,32,78,87,44,119,114,105,116,101,32,78,87,78,84,44,116,114,105,109,32,78,87,78,44,99,108,111,110,101,32,78,87,87,44,114,101,97,100,32,78,87,78,44,114,101,103,105,115,116,101,114,32,78,78,78,44,114,101,115,101,114,118,101,32,78,78,78,44,114,101,108,101,97,115,101,32,78,78,78,44,99,108,101,97,114,32,78,78,44,112,114,101,101,109,112,116,32,78,78,78,78,44,99,114,97,115,104,32,78,44,97,108,108,32]
def kh:List (Tx×Tx):=[([103,99,100],[78,78]),([110,101,120,116],[78]),([102,97,99,116,111,114,115],[78]),([112,114,105,110,116],[78,84]),([99,117,116],[84,78,78,78]),([115,104,117,116],[84]),([109,97,107,101],[78,87,78]),([100,114,111,112],[78,87]),([119,114,105,116,101],[78,87,78,84]),([116,114,105,109],[78,87,78]),([99,108,111,110,101],[78,87,87]),([114,101,97,100],[78,87,78]),([114,101,103,105,115,116,101,114],[78,78,78]),([114,101,115,101,114,118,101],[78,78,78]),([114,101,108,101,97,115,101],[78,78,78]),([99,108,101,97,114],[78,78]),([112,114,101,101,109,112,116],[78,78,78,78]),([99,114,97,115,104],[78]),([97,108,108],[])]
def Ud(x:Tx):List (Tx×Tx)->Option Tx->Option Tx|[],r=>r|p::l,r=>Ud x l (if p.1=x then some p.2 else r)
theorem JR:dA 44 To=kh.map λp=>p.1++32::p.2:=by decide
theorem L4{x f:Tx}:∀{l:List (Tx×Tx)}{r:Option Tx},Ud x l r=some f->r=some f\/(x,f)∈l
 |[],r,h=>.inl h
 |p::l,r,h=>by
  rcases L4 (l:=l) h with h|h
  ·split at h;·rename_i e;cases h;subst e;exact .inr bn
   ·exact .inl h
  ·exact .inr (bm _ h)
theorem Oa{x:Tx}:∀{l:List (Tx×Tx)}{r:Option Tx},Ud x l r=none->r=none/\∀p∈l,p.1≠x
 |[],r,h=>⟨h,λp c=>by cases c⟩
 |p::l,r,h=>by
  obtain⟨a,d⟩:=Oa (l:=l) h;split at a;·cases a
  ·rename_i e;refine⟨a,λq b=>?_⟩;rcases aV.1 b with rfl|b;·exact e
   ·exact d q b
def Xq(x:Tx)(ns:List Nat)(ss:List Tx)(F:TG->iP):Prop:=∃e t,(∀T,F T=(T,e,t))/\∀(a b:ay)(M:Mem),RowM M a 1 (ns.map lD)->RowM M b 1 (ss.map dG)->(∀s∈ss,s.length<=70000)->Meets ab 22 [.v (.string ⟨x.toArray⟩),.v a,.v b] M λr _ _=>r=.tup [.v (.string ⟨(pr e t).toArray⟩),.v (.bool true)]
def Xr(x:Tx)(ns:List Nat)(ss:List Tx)(F:TG->iP):Prop:=(x=[97,108,108]/\F=Ju)\/(x≠[97,108,108]/\Xq x ns ss F)\/(x≠[97,108,108]/\z6 x=false/\DB x ns ss F)
theorem Tp{ws:List Tx}(h:∀p∈kh,p.1≠lG ws):gV ws=none:=by
 unfold gV Df iQ;generalize lG ws=x at*;simp only[kh,aV,cH,fK,forall_eq_or_imp,forall_eq]at h;obtain⟨l,m,n,o,q,r,s,t,u,i,j,k,a,b,c,d,e,f,g⟩:=h;rw[ai,ai,ai (wB a),ai (wB b),ai (wB c),ai (wB d),ai (wB e),ai (wB f),ai (wB g)];·intro h;rcases aW h with rfl|rfl|rfl|rfl|rfl|rfl;all_goals contradiction
 ·intro h;rcases aW h with rfl|rfl|rfl|rfl|rfl|rfl;all_goals contradiction
def nI(ns:List Nat)(i:Nat):Nat:=ns.getD i 0
def sI(ss:List Tx)(i:Nat):Tx:=ss.getD i []
noncomputable def FF(x:Tx)(ns:List Nat)(ss:List Tx):TG->iP:=if x=[103,99,100]then Pn (nI ns 0) (nI ns 1)else if x=[110,101,120,116]then nxO (nI ns 0)else if x=[102,97,99,116,111,114,115]then Wb (nI ns 0)else if x=[112,114,105,110,116]then prO (nI ns 0) (sI ss 0)else if x=[99,117,116]then Wc (sI ss 0) (nI ns 0) (nI ns 1) (nI ns 2)else if x=[115,104,117,116]then V_ (sI ss 0)else if x=[109,97,107,101]then GF (nI ns 0) (1,sI ss 0,[],((nI ns 1:Nat):Int),[])else if x=[100,114,111,112]then GF (nI ns 0) (2,sI ss 0,[],0,[])else if x=[119,114,105,116,101]then GF (nI ns 0) (3,sI ss 0,[],((nI ns 1:Nat):Int),sI ss 1)else if x=[116,114,105,109]then GF (nI ns 0) (4,sI ss 0,[],((nI ns 1:Nat):Int),[])else if x=[99,108,111,110,101]then GF (nI ns 0) (5,sI ss 0,sI ss 1,0,[])else if x=[114,101,97,100]then Xe (nI ns 0) (sI ss 0) (nI ns 1)else if x=[114,101,103,105,115,116,101,114]then Jo (nI ns 0) (nI ns 1) (nI ns 2)else if x=[114,101,115,101,114,118,101]then Jp (nI ns 0) (nI ns 1) (nI ns 2)else if x=[114,101,108,101,97,115,101]then Jq (nI ns 0) (nI ns 1) (nI ns 2)else if x=[99,108,101,97,114]then Jr (nI ns 0) (nI ns 1)else if x=[112,114,101,101,109,112,116]then Js (nI ns 0) (nI ns 1) (nI ns 2) (nI ns 3)else if x=[99,114,97,115,104]then Jt (nI ns 0)else Ju
def Xs:Tx->List Tx->Nat->Option (List Nat×List Tx)|[],_,_=>some ([],[])|c::f,a,i=>if c=78 then(lF a i).bind λn=>(Xs f a (i+1)).map λp=>(n::p.1,p.2)else if c=84 then(Pa a i).bind λt=>(Xs f a (i+1)).map λp=>(p.1,t::p.2)else(a[i]?).bind λw=>(Xs f a (i+1)).map λp=>(p.1,w::p.2)
theorem GY:∀(f:Tx)(ws:List Tx)(i:Nat),ws.length=i+f.length->Xs f ws i=n9 f (ws.drop i)|[],ws,i,h=>by rw[bh (by simp at h;omega)];rfl|c::f,ws,i,h=>by rw[aM]at h;obtain⟨w,a,b⟩:=Rp.jX (l:=ws) (i:=i) (by omega);have d:=GY f ws (i+1) (by omega);unfold Xs n9 lF Pa;rw[b,a,d];rfl
theorem Fv{ws:List Tx}(h:(wZ (lG ws)&&!z6 (lG ws))=true):gV ws=nE ws:=by simp only[ba,np]at h;unfold gV Df;rw[ai (by rw[h.2];decide),aF h.1]
theorem DC{ws:List Tx}(h:wZ (lG ws)=false)(a:z6 (lG ws)=false):gV ws=iQ ws:=by unfold gV Df;rw[ai (by rw[a];decide),ai (by rw[h];decide)]
theorem JS{ws:List Tx}{f:Tx}(h:(lG ws,f)∈kh):gV ws=(Xs f ws 1).bind λp=>some (1+f.length,FF (lG ws) p.1 p.2):=by
 have a:((84:UInt8)=78)=False:=ax (by decide);have b:((87:UInt8)=78)=False:=ax (by decide);have c:((87:UInt8)=84)=False:=ax (by decide);simp only[kh,aV,cH,fK,cD]at h;rcases h with⟨h,rfl⟩|⟨h,rfl⟩|⟨h,rfl⟩|⟨h,rfl⟩|⟨h,rfl⟩|⟨h,rfl⟩|⟨h,rfl⟩|⟨h,rfl⟩|⟨h,rfl⟩|⟨h,rfl⟩|⟨h,rfl⟩|⟨h,rfl⟩|⟨h,rfl⟩|⟨h,rfl⟩|⟨h,rfl⟩|⟨h,rfl⟩|⟨h,rfl⟩|⟨h,rfl⟩|⟨h,rfl⟩;all_goals
  first|rw[GW h,h]|rw[JO h,h]|rw[AG h,h]|rw[Fu h,h]|rw[N_ h,h]|rw[JP h,h]|rw[Fv (by rw[h];decide),Da h,h]|rw[Fv (by rw[h];decide),Db h,h]|rw[Fv (by rw[h];decide),AA h,h]|rw[Fv (by rw[h];decide),Dc h,h]|rw[Fv (by rw[h];decide),AB h,h]|rw[Fv (by rw[h];decide),Dd h,h]|rw[DC (by rw[h];decide) (by rw[h];decide),tP h,h]|rw[DC (by rw[h];decide) (by rw[h];decide),vd h,h]|rw[DC (by rw[h];decide) (by rw[h];decide),ve h,h]|rw[DC (by rw[h];decide) (by rw[h];decide),yu h,h]|rw[DC (by rw[h];decide) (by rw[h];decide),vf h,h]|rw[DC (by rw[h];decide) (by rw[h];decide),yv h,h]|rw[DC (by rw[h];decide) (by rw[h];decide),De h,h]
  simp only[Xs,Option.bind_map,Option.map_bind,Option.bind_assoc,b_,cJ,cR,a,b,c,cA,wi];rfl
theorem z8{x:Tx}{ns:List Nat}{ss:List Tx}{F:TG->iP}{e:Int}{t:Tx}(h:∀T,F T=(T,e,t))(c:∀(a b:ay)(M:Mem),RowM M a 1 (ns.map lD)->RowM M b 1 (ss.map dG)->(∀s∈ss,s.length<=70000)->Meets ab 22 [.v (.string ⟨x.toArray⟩),.v a,.v b] M λr _ _=>r=.tup [.v (.string ⟨(pr e t).toArray⟩),.v (.bool true)]):Xq x ns ss F:=⟨e,t,h,c⟩
def Wk(c:UInt8->Bool)(f:Tx):Nat:=(f.filter c).length
theorem GZ:∀{f:Tx}{j:List Tx}{ns:List Nat}{ss:List Tx},n9 f j=some (ns,ss)->ns.length=Wk (λc=>aU (c=78)) f/\ss.length=Wk (λc=>!aU (c=78)) f
 |[],[],ns,ss,h=>by simp only[n9,aO,cD]at h;obtain⟨rfl,rfl⟩:=h;exact⟨rfl,rfl⟩
 |[],_::_,ns,ss,h=>by simp[n9]at h
 |_::_,[],ns,ss,h=>by simp[n9]at h
 |c::f,w::j,ns,ss,h=>by
  unfold n9 at h;have b:∀{g:List Nat×List Tx->List Nat×List Tx},(n9 f j).map g=some (ns,ss)->∃n s,n9 f j=some (n,s)/\g (n,s)=(ns,ss):=λh=>by obtain⟨⟨n,s⟩,l,a⟩:=dy.1 h;exact⟨n,s,l,a⟩
  unfold Wk;rw[nH,nH];split at h;·rename_i m;subst m;obtain⟨n,l,h⟩:=nv.1 h;obtain⟨d,i,a,k⟩:=b h;obtain⟨o,p⟩:=GZ a;cases k;exact⟨by simp only[dr,cR,aM,o,Wk],by simpa[Wk]using p⟩
  ·rename_i m;have e:aU (c=78)=false:=bI m;have h:∃d i t,n9 f j=some (d,i)/\ns=d/\ss=t::i:=by
    split at h;·obtain⟨n,l,h⟩:=nv.1 h;obtain⟨d,i,a,k⟩:=b h;cases k;exact⟨_,_,_,a,rfl,rfl⟩
    ·obtain⟨d,i,a,k⟩:=b h;cases k;exact⟨_,_,_,a,rfl,rfl⟩
   obtain⟨d,i,t,a,rfl,rfl⟩:=h;obtain⟨o,p⟩:=GZ a;rw[e];exact⟨by simpa[Wk]using o,by simpa[Wk]using p⟩
theorem Bz:∀{f:Tx}{e:List Tx}{ns:List Nat}{ss:List Tx},n9 f e=some (ns,ss)->∀n∈ns,n<=9999999999
 |[],[],ns,ss,h=>by simp only[n9,aO,cD]at h;obtain⟨rfl,rfl⟩:=h;exactλn k=>by cases k
 |[],_::_,ns,ss,h=>by simp[n9]at h
 |_::_,[],ns,ss,h=>by simp[n9]at h
 |c::f,w::e,ns,ss,h=>by
  unfold n9 at h;split at h
  ·obtain⟨n,g,h⟩:=nv.1 h;obtain⟨⟨i,j⟩,a,b⟩:=dy.1 h;cases b;have :=FT g;intro m d;rcases aV.1 d with rfl|d;·omega
   ·exact Bz a m d
  ·split at h;·obtain⟨n,g,h⟩:=nv.1 h;obtain⟨⟨i,j⟩,a,b⟩:=dy.1 h;cases b;exact Bz a
   ·obtain⟨⟨i,j⟩,a,b⟩:=dy.1 h;cases b;exact Bz a
theorem A1{α:Type}{l:List α}(h:l.length=0):l=[]:=e_.1 h
theorem z'{α:Type}{l:List α}(h:l.length=1):∃a,l=[a]:=List.length_eq_one_iff.1 h
theorem JT{α:Type}{l:List α}(h:l.length=2):∃a b,l=[a,b]:=by match l,h with|[a,b],_=>exact⟨a,b,rfl⟩
theorem Wl{α:Type}{l:List α}(h:l.length=3):∃a b c,l=[a,b,c]:=by match l,h with|[a,b,c],_=>exact⟨a,b,c,rfl⟩
theorem abI{α:Type}{l:List α}(h:l.length=4):∃a b c d,l=[a,b,c,d]:=by match l,h with|[a,b,c,d],_=>exact⟨a,b,c,d,rfl⟩
theorem Zj{x f:Tx}{ns:List Nat}{ss:List Tx}(h:(x,f)∈kh)(e:ns.length=Wk (λc=>aU (c=78)) f)(g:ss.length=Wk (λc=>!aU (c=78)) f)(o:∀n∈ns,n<=9999999999):Xr x ns ss (FF x ns ss):=by
 simp only[kh,aV,cH,fK,cD]at h;rcases h with⟨rfl,rfl⟩|⟨rfl,rfl⟩|⟨rfl,rfl⟩|⟨rfl,rfl⟩|⟨rfl,rfl⟩|⟨rfl,rfl⟩|⟨rfl,rfl⟩|⟨rfl,rfl⟩|⟨rfl,rfl⟩|⟨rfl,rfl⟩|⟨rfl,rfl⟩|⟨rfl,rfl⟩|⟨rfl,rfl⟩|⟨rfl,rfl⟩|⟨rfl,rfl⟩|⟨rfl,rfl⟩|⟨rfl,rfl⟩|⟨rfl,rfl⟩|⟨rfl,rfl⟩;·obtain⟨a,b,rfl⟩:=JT e;obtain rfl:=A1 g;exact .inr (.inl ⟨by decide,z8 (λT=>rfl) λj k M i _ _=>Tm i⟩)
 ·obtain⟨a,rfl⟩:=z' e;obtain rfl:=A1 g;exact .inr (.inl ⟨by decide,z8 (λT=>rfl) λj k M i _ _=>Pq i⟩)
 ·obtain⟨a,rfl⟩:=z' e;obtain rfl:=A1 g;exact .inr (.inl ⟨by decide,z8 (λT=>rfl) λj k M i _ _=>GX i⟩)
 ·obtain⟨a,rfl⟩:=z' e;obtain⟨s,rfl⟩:=z' g;exact .inr (.inl ⟨by decide,z8 (λT=>rfl) λj k M i l m=>L1 i l (m s bn)⟩)
 ·obtain⟨a,b,c,rfl⟩:=Wl e;obtain⟨s,rfl⟩:=z' g;exact .inr (.inl ⟨by decide,z8 (λT=>rfl) λj k M i l m=>Tn i l (m s bn)⟩)
 ·obtain rfl:=A1 e;obtain⟨s,rfl⟩:=z' g;exact .inr (.inl ⟨by decide,z8 (λT=>rfl) λj k M _ l m=>Pr l (m s bn)⟩)
 ·obtain⟨a,b,rfl⟩:=JT e;obtain⟨s,rfl⟩:=z' g;exact .inr (.inr ⟨by decide,by decide,qm (.inl ⟨b,s,rfl,rfl,rfl,rfl⟩)⟩)
 ·obtain⟨a,rfl⟩:=z' e;obtain⟨s,rfl⟩:=z' g;exact .inr (.inr ⟨by decide,by decide,qm (.inr (.inl ⟨s,rfl,rfl,rfl,rfl⟩))⟩)
 ·obtain⟨a,b,rfl⟩:=JT e;obtain⟨s,t,rfl⟩:=JT g;exact .inr (.inr ⟨by decide,by decide,qm (.inr (.inr (.inl ⟨b,s,t,rfl,rfl,rfl,rfl⟩)))⟩)
 ·obtain⟨a,b,rfl⟩:=JT e;obtain⟨s,rfl⟩:=z' g;exact .inr (.inr ⟨by decide,by decide,qm (.inr (.inr (.inr (.inl ⟨b,s,rfl,rfl,rfl,rfl⟩))))⟩)
 ·obtain⟨a,rfl⟩:=z' e;obtain⟨s,t,rfl⟩:=JT g;exact .inr (.inr ⟨by decide,by decide,qm (.inr (.inr (.inr (.inr ⟨s,t,rfl,rfl,rfl,rfl⟩))))⟩)
 ·obtain⟨a,b,rfl⟩:=JT e;obtain⟨s,rfl⟩:=z' g;exact .inr (.inr ⟨by decide,by decide,L3⟩)
 ·obtain⟨a,b,c,rfl⟩:=Wl e;obtain rfl:=A1 g;exact .inr (.inr ⟨by decide,by decide,oY (.inl ⟨a,b,c,rfl,rfl,rfl,rfl⟩)⟩)
 ·obtain⟨a,b,c,rfl⟩:=Wl e;obtain rfl:=A1 g;exact .inr (.inr ⟨by decide,by decide,oY (.inr (.inl ⟨a,b,c,rfl,rfl,rfl,rfl⟩))⟩)
 ·obtain⟨a,b,c,rfl⟩:=Wl e;obtain rfl:=A1 g;exact .inr (.inr ⟨by decide,by decide,oY (.inr (.inr (.inl ⟨a,b,c,rfl,rfl,rfl,rfl⟩)))⟩)
 ·obtain⟨a,b,rfl⟩:=JT e;obtain rfl:=A1 g;exact .inr (.inr ⟨by decide,by decide,oY (.inr (.inr (.inr (.inl ⟨a,b,rfl,rfl,rfl,rfl⟩))))⟩)
 ·obtain⟨a,b,c,d,rfl⟩:=abI e;obtain rfl:=A1 g;exact .inr (.inr ⟨by decide,by decide,oY (.inr (.inr (.inr (.inr ⟨a,b,c,d,rfl,rfl,rfl,rfl⟩))))⟩)
 ·obtain⟨a,rfl⟩:=z' e;obtain rfl:=A1 g;exact .inr (.inr ⟨by decide,by decide,JQ (o a (by simp))⟩)
 ·obtain rfl:=A1 e;obtain rfl:=A1 g;exact .inl ⟨rfl,rfl⟩
theorem Ob{ws:List Tx}{f:Tx}{T:TG}(d:Ud (lG ws) kh none=some f)(h:ws.length≠1+f.length\/n9 f (ws.drop 1)=none):kG gV T ws=(T,lO 12):=by
 have g:(lG ws,f)∈kh:=(L4 d).elim (λh=>by cases h) id;unfold kG;rw[JS g];cases b:Xs f ws 1 with
  |none=>rfl
  |some p=>
   rcases h with h|h;·simp only[b_];rw[ai (λe=>h e.symm)]
   ·by_cases c:ws.length=1+f.length;·rw[GY f ws 1 c,h]at b;cases b
    ·simp only[b_];rw[ai (λe=>c e.symm)]
theorem Tq{ws:List Tx}{T:TG}(a:Ud (lG ws) kh none=none):kG gV T ws=(T,lO 12):=by unfold kG;rw[Tp (Oa a).2]
theorem Wm{ws:List Tx}{f:Tx}{ns:List Nat}{ss:List Tx}(e:Ud (lG ws) kh none=some f)(b:ws.length=1+f.length)(a:n9 f (ws.drop 1)=some (ns,ss)):∃F,(∀T,kG gV T ws=((F T).1,AH F T))/\LJ F/\Xr (lG ws) ns ss F:=by
 have c:(lG ws,f)∈kh:=(L4 e).elim (λh=>by cases h) id;obtain⟨g,i⟩:=GZ a;have d:gV ws=some (1+f.length,FF (lG ws) ns ss):=by rw[JS c,GY f ws 1 b,a];rfl
 refine⟨_,λT=>?_,okA ws _ _ d,Zj c g i (Bz a)⟩;unfold kG;rw[d];simp only;rw[aF b.symm];rfl
end Go.X.Dk
namespace Go.X.Dk
open Go Go.X Go.RowKit Go.X.Vo Go.X.Tg Go.X.Th
def aaS(p:Tx×Tx):List ay:=[.string ⟨(p.1++32::p.2).toArray⟩]
theorem Tr:∀p∈kh,32∉p.1:=by decide
theorem Ps:∀p∈kh,p.1.length+p.2.length<=20:=by decide
theorem Tt(c:UInt8)(a w:Tx)(ws:List Tx):n9 (c::a) (w::ws)=if c=78 then(nL w).bind λn=>(n9 a ws).map λp=>(n::p.1,p.2)else if c=84 then(l_ w).bind λt=>(n9 a ws).map λp=>(p.1,t::p.2)else(n9 a ws).map λp=>(p.1,w::p.2):=rfl
theorem L5:∀(k:Nat)(l t:Tx),K4 k l=some t->t.length<=l.length
 |k,[],t,h=>by cases k<;>(simp only[K4,aO]at h;subst h;exact bc _)
 |0,_::_,t,h=>by simp[K4]at h
 |k+1,c::r,t,h=>by
  unfold K4 at h;split at h;·cases h
  split at h;·obtain⟨a,b,rfl⟩:=dy.1 h;have :=L5 k r a b;simp only[aM];omega
  ·split at h
   ·split at h;·obtain⟨a,b,rfl⟩:=dy.1 h;have :=L5 k _ a b;simp only[aM];omega
    ·cases h
   ·cases h
theorem Tu{w t:Tx}(h:l_ w=some t):t.length<=w.length:=by
 unfold l_ at h;split at h;·cases h;exact bJ _
 ·exact L5 _ _ _ h
theorem Wn{ws:List Tx}{M:Mem}{bt:Nat}{T:TG}{b v q vw:ay}{G:List WV}(hG:GlobM M)(hT:TgM M T b v q G)(H:TgR T)(R:RowM M vw 1 (ws.map dG))(hne:1<=ws.length)(hl:∀w∈ws,w.length<=70000):MeetsX ab 7 [.ptr 248 0 0 0,.v vw] [(248,.box (fh T b v q) (some (bT bt)))] M (λs H' M'=>s=.v (.string ⟨(kG gV T ws).2.toArray⟩)/\YH bt (kG gV T ws).1 H' M') (λ_ _ _=>False):=by
 obtain⟨x,hx⟩:∃x,ws[0]?=some x:=⟨_,aP (by omega)⟩;have hw0:lG ws=x:=by cases ws with|nil=>cases hx|cons a l=>exact d_ hx
 obtain⟨i0,g0,gl,_⟩:=jM R hx rfl;refine cO [0,1,4,5,6,8,9,10,12,13,14,15,16,17,18,20,21,22,23,24,25,26,39,51,54,55,56,57,63,68,77,79,87,97,125,126,127,128,153] Proofs.Tryz.func7 rfl (by kernel_rfl) λw0 M0=>?_;simp only[Proofs.Tryz.f7,zX,seval];refine cV ⟨_,Kf,by kernel_rfl,by kernel_rfl⟩ (jQ rfl rfl (FZ (s:=To) hG (by decide)) (λr M'⟨v,h,_⟩=>by subst h;rfl) λr C I⟨fv,hr,A⟩=>?_);subst hr;rw[JR,jB]at A;have A:RowM C fv 1 (kh.map aaS):=A;have hfl:eB fv=19:=by rw[A.gC];rfl
 have g:=hT.le I;have S:=R.le I;obtain⟨z,g1,_⟩:=jM S hx rfl;simp only[zX,seval,hfl,A.sl];refine uO (X:=Nat×Option Tx) (λy=>([(0,true,.ptr 248 0 0 0),(1,true,.v vw),(5,true,.v (.string ⟨(y.2.getD []).toArray⟩)),(6,true,.v (.bool y.2.isSome)),(23,true,.v fv),(24,true,.v (.int .i64 19)),(25,true,.v (.int .i64 (y.1:Int)))],[(248,.box (fh T b v q) (some (bT bt)))],C)) (λy=>(y.1<=19/\(y.2.getD []).length<=20)/\Ud x (kh.drop y.1) y.2=Ud x kh none) (λy=>19-y.1) (0,none) ⟨⟨by decide,by decide⟩,rfl⟩ (aR ?_) ?_;·simp only[zV,seval,o6,nk]
 rintro⟨k,cur⟩⟨⟨k1,k2⟩,D⟩;simp only at k1 k2 D;by_cases hk:k<19
 ·have d1:((k:Int)<19)=True:=aK (by omega);obtain⟨p,hp,hd⟩:=Rp.jX (l:=kh) (i:=k) hk;have hpm:=aL hp;obtain⟨J,e0,_⟩:=jM A hp rfl;rw[hd,Ud]at D;have hpl:=Ps p hpm;have hc:=QK (s:=p.1++32::p.2) (sep:=[32]) (M:=C) (hG.le I) (by rw[aG,aM];omega);rw[K3 (Tr p hpm)]at hc;simp only[zX,seval,d1,e0];refine⟨J.1,J.2,cV ⟨_,Mc,by kernel_rfl,by kernel_rfl⟩ (az ⟨rfl,rfl⟩ rfl hc ?_)⟩;by_cases K:p.1=x;·have U:=aK K;rw[aF K]at D;simp only[zX,seval,gl,g1,U];refine⟨z.1,z.2,eV (by omega) (by omega),(k+1,some p.2),⟨⟨⟨by simp only;omega,by simp only[dn];omega⟩,D⟩,by simp only;omega⟩,aR ?_⟩;simp only[zV,seval,aJ,dn,nj]
  ·have U:=ax K;rw[ai K]at D;simp only[zX,seval,gl,g1,U];refine⟨z.1,z.2,eV (by omega) (by omega),(k+1,cur),⟨⟨⟨by simp only;omega,k2⟩,D⟩,by simp only;omega⟩,aR ?_⟩;simp only[zV,seval,aJ]
 have d1:((k:Int)<19)=False:=ax (by omega);have hkn:kh.drop k=[]:=bh (by show kh.length<=k;have :kh.length=19:=rfl;omega);rw[hkn,Ud,<-hw0]at D;have E:eB vw=ws.length:=by rw[R.gC,ae]
 have hll:=R.eQ;rw[ae]at hll;cases cur with
  |none=>rw[Tq D.symm];simp only[zX,seval,d1,nk,o6];refine cV ⟨_,jK,by kernel_rfl,by kernel_rfl⟩ (az ⟨rfl,rfl⟩ rfl (gF 12 C (by decide)) ?_);simp only[zX,seval];exact⟨b,v,q,G,rfl,g,H⟩
  |some f=>
   simp only[dn]at k2;by_cases P:ws.length=1+f.length;rotate_left;·rw[Ob D.symm (.inl P)];have U:((ws.length:Int)=1+(f.length:Int))=False:=ax (by omega);simp only[zX,seval,d1,nj,dn,E,R.sl,U];refine⟨eV (by omega) (by omega),cV ⟨_,jK,by kernel_rfl,by kernel_rfl⟩ (az ⟨rfl,rfl⟩ rfl (gF 12 C (by decide)) ?_)⟩;simp only[zX,seval];exact⟨b,v,q,G,rfl,g,H⟩
   have U:((ws.length:Int)=1+(f.length:Int))=True:=aK (by omega);simp only[zX,seval,d1,nj,dn,E,R.sl,U];have hcp:=R.1.2.2.1;rw[E]at hcp;have m:=S.XO (lo:=1) (hi:=ws.length) hne (by rw[ae];exact bc _);have etl:(((ws.map dG).drop 1).take (ws.length-1))=(ws.drop 1).map dG:=by rw[<-fI,bz (by rw[ae,aT];exact bc _)]
   rw[etl]at m;generalize lC vw 1 1 ws.length=tv at*;have htll:(ws.drop 1).length=f.length:=by rw[aT];omega
   have htm:∀w∈ws.drop 1,w.length<=70000:=λw h=>hl w (cG h);have hok:=λns ss=>Wm (ns:=ns) (ss:=ss) D.symm P;have V:=λh=>Ob (T:=T) D.symm (.inr h);generalize ws.drop 1=tl at*;have hlt:eB tv=f.length:=by rw[m.gC,ae,htll]
   rw[hlt];refine⟨eV (by omega) (by omega),⟨by omega,by omega⟩,m.1.1,?_⟩;refine eI 12 101 1 rfl rfl rfl (eI 13 102 1 rfl rfl rfl ?_);refine uO (X:=Nat×List Nat×List Tx) (λy=>([(0,true,.ptr 248 0 0 0),(1,true,.v vw),(5,true,.v (.string ⟨f.toArray⟩)),(12,true,.own 808),(13,true,.own 816),(54,true,.v tv),(55,true,.v (.int .i64 (f.length:Int))),(56,true,.v (.int .i64 (y.1:Int)))],[(816,.row 1 (y.2.2.map dG)),(808,.row 1 (y.2.1.map lD)),(248,.box (fh T b v q) (some (bT bt)))],C)) (λy=>(y.1<=f.length/\y.2.1.length<=y.1/\y.2.2.length<=y.1)/\(∀t∈y.2.2,t.length<=70000)/\n9 f tl=(n9 (f.drop y.1) (tl.drop y.1)).map λp=>(y.2.1++p.1,y.2.2++p.2)) (λy=>f.length-y.1) (0,[],[]) ⟨⟨bJ _,bc _,bc _⟩,(λt h=>by cases h),by simp⟩ (aR ?_) ?_;·simp only[zV,seval,aZ,cr]
   rintro⟨i,ns,ss⟩⟨⟨n1,n2,n3⟩,n4,o⟩;simp only at n1 n2 n3 n4 o;have hnl:(ns.map lD).length=ns.length:=ae ..;have hsl:(ss.map dG).length=ss.length:=ae ..;by_cases hi:i<f.length;rotate_left
   ·have W:((i:Int)<(f.length:Int))=False:=ax (by omega);obtain rfl:i=f.length:=by omega
    have etd:tl.drop f.length=[]:=bh (by omega);rw[List.drop_length,etd]at o;obtain⟨F,hF1,hF2,hF3⟩:=hok ns ss (by rw[o];simp[n9]);rw[hF1 T];rw[hw0]at hF3;clear hok V o m htm D;rcases hF3 with⟨rfl,rfl⟩|⟨Y,e,t,he,hm⟩|⟨Y,hnc,hAs⟩
    ·simp only[zX,seval,W,gl,g1];refine⟨z.1,z.2,jU (ie [248] (tk [0,6,11,16,1,7,12,17,2,8,13,18,3,9,14,19,4,10,15,20,5] (.one 21 (.one 22 (tk [23] .done)))) (by kernel_rfl) (by kernel_rfl) λys hy=>?_)⟩;simp only[na,fh]at hy;simp only[zX,seval,fl,fm,fP,fh,g.bag.dj,g.vols.row.dj,g.regs.dj,hy,g.bag.gC,g.bag.sl,ae];obtain⟨hB,hV,_⟩:=lj H.st;have hBl:=Bp.lr hB;have hVo:=gQ hV;obtain⟨r1,r2,r3,r4,r5,r6⟩:=Rv.gq H.rv;have r7:T.2.1.2.2.2<=7:=by
      rcases(C_ H.rv).2.2 with⟨_,h⟩|⟨_,h,_⟩|⟨_,_,_,h⟩;·omega
      ·omega
      ·exact(yr r2 h).2
     have wl:G.length=T.1.2.length:=by rw[<-g.vw,ae]
     have hrow:([[.int .i64 (T.1.1.length:Int)],[.int .i64 T.2.1.1],[.int .i64 T.2.1.2.2.1],[.int .i64 T.2.1.2.2.2]]:List (List ay))=[T.1.1.length,T.2.1.1.toNat,T.2.1.2.2.1.toNat,T.2.1.2.2.2.toNat].map lD:=by simp only[lD,ca,cr,pv r1.1,pv r3.1,pv r6]
     have hLn:∀n∈[T.1.1.length,T.2.1.1.toNat,T.2.1.2.2.1.toNat,T.2.1.2.2.2.toNat],n<=9223372036854775807:=λn hn=>by simp only[aV,cH,fK]at hn;omega
     have hLl:=vS _ hLn;refine dP (s:=.v (.string ⟨(dL [T.1.1.length,T.2.1.1.toNat,T.2.1.2.2.1.toNat,T.2.1.2.2.2.toNat]).toArray⟩)) (k:=952) rfl rfl rfl (λ_=>rfl) (λv3 M3 Z hv3=>?_) ?_;·rw[hrow]at hv3;exact s6 hv3 (by simp) hLn
     have hall:AH Ju T=dL [T.1.1.length,T.2.1.1.toNat,T.2.1.2.2.1.toNat,T.2.1.2.2.2.toNat]++T.1.2.flatMap pK:=rfl;rw[hall,show(dL [T.1.1.length,T.2.1.1.toNat,T.2.1.2.2.1.toNat,T.2.1.2.2.2.toNat])=dL [T.1.1.length,T.2.1.1.toNat,T.2.1.2.2.1.toNat,T.2.1.2.2.2.toNat]++(T.1.2.take 0).flatMap pK by simp];generalize dL [T.1.1.length,T.2.1.1.toNat,T.2.1.2.2.1.toNat,T.2.1.2.2.2.toNat]=L at*;simp only[zX,seval,fl,fm,fP,g.bag.dj,g.vols.row.dj,g.regs.dj,g.vols.row.gC,g.vols.row.sl,ae,wl];have e0:T.1.2.take 0=[]:=rfl;refine uO (X:=Nat) (λk=>([(18,true,.v (.string ⟨(L++(T.1.2.take k).flatMap pK).toArray⟩)),(125,true,.v v),(126,true,.v (.int .i64 T.1.2.length)),(127,true,.v (.int .i64 k))],[(248,.box (fh T b v q) (some (bT bt)))],C)) (λk=>k<=T.1.2.length) (λk=>T.1.2.length-k) 0 (bJ _) (aR ?_) ?_;·simp only[zV,seval,aZ,fh]
     intro k hk;by_cases hkl:k<T.1.2.length
     ·have e1:((k:Int)<(T.1.2.length:Int))=True:=aK (by omega);obtain⟨r,hr⟩:∃r,G[k]?=some r:=⟨_,aP (by omega)⟩;have hr2:T.1.2[k]?=some r.2:=by rw[<-g.vw,aN,hr];rfl
      obtain⟨⟨u1,u2⟩,⟨u3,u4⟩,u5⟩:=iM g.vols hr;have ub:=g.vols.blk r (aL hr);obtain⟨w1,w2,_⟩:=hVo.2 r.2 (aL hr2);have w3:=Lg.yl w2;have hdl:=jw 1 r.2.2.length (by have :(10:Nat)^(1+1)=100:=(by decide);omega);have htk:(T.1.2.take (k+1)).flatMap pK=(T.1.2.take k).flatMap pK++pK r.2:=by rw[cm,hr2,PD,iv];simp
      have hsz:=yw hVo.2 k;have hnk:∀d,SV.jn d (fh T b v q)=true:=λ_=>rfl;have hcc:SV.concs (fh T b v q)=true:=rfl;simp only[zX,seval,e1,u1,u2,u3,u4,u5,hnk,ub.dj,g.vols.row.sl];refine jU (ie [160] (tk [0,1,5,2,6,3,7,4] (.one 8 (tk [9,10,11] .done))) rfl (by kernel_rfl) λys hy=>?_);simp only[na]at hy;simp only[zX,seval,fl,fm,fP,ZB,hy,hcc,hnk,ub.gC,ub.sl,ae,dz];have hll:L.length<=100:=b6 hLl (by simp);refine⟨by omega,by omega,az ⟨rfl,rfl⟩ rfl (F2 r.2.2.length C (by omega)) ?_⟩;have hv1:(32::(r.2.1++[58]))++cF r.2.2.length=pK r.2:=by simp[pK]
      simp only[zX,seval,fl,fm,fP,ZB,hy,hcc,hnk,hv1,dz];have hvl:(pK r.2).length<=40:=by rw[<-hv1];simp only[aG,aM,bM];omega
      refine⟨by simp only[aG,aM,bM];omega,by rw[aG];omega,eV (by omega) (by omega),k+1,⟨by omega,by omega⟩,aR ?_⟩;simp only[zV,seval,aJ,htk,bN]
     ·have e1:((k:Int)<(T.1.2.length:Int))=False:=ax (by omega);simp only[zX,seval,e1];have hke:T.1.2.take k=T.1.2:=bz (by omega);rw[hke];exact⟨by simp only[oE,cS],b,v,q,G,rfl,g,H⟩
    ·have cx:=ax Y;simp only[zX,seval,W,gl,g1,cx];refine⟨z.1,z.2,z.1,z.2,cV ⟨_,gH,by kernel_rfl,by kernel_rfl⟩ (iZ (k:=816) rfl λvs M2 N hvs=>?_)⟩;have j:=g.le N;simp only[zY,seval,im,iq,ir,nzs,fh,j.bag.dj,j.vols.row.dj,j.regs.dj];refine dP (k:=808) rfl rfl rfl (λ_=>rfl) (λvn M3 Z hvn=>hm vn vs M3 hvn (hvs.le Z) n4) ?_;simp only[zX,seval,AH,he];exact⟨b,v,q,G,rfl,j,H⟩
    ·have cx:=ax Y;simp only[zX,seval,W,gl,g1,cx];refine⟨z.1,z.2,z.1,z.2,cV ⟨_,gH,by kernel_rfl,by kernel_rfl⟩ (iZ (k:=816) rfl λvs M2 N hvs=>?_)⟩;have j:=g.le N;obtain⟨i2,g2,_⟩:=jM (S.le N) hx rfl;simp only[zY,seval,im,iq,ir,nzs,fh,j.bag.dj,j.vols.row.dj,j.regs.dj];refine dP (k:=808) rfl rfl rfl (λ_=>rfl) (λvn M3 Z hvn=>Wj hnc) ?_;simp only[zX,seval,gl,g2];refine⟨i2.1,i2.2,q6 rfl (hAs M2 bt T b v q vs G j H hvs hF2) (λs H' M'' hM''⟨hs,hE⟩=>?_) (λch H' M'' _ h=>h)⟩;subst hs;refine⟨rfl,?_⟩;simp only[zX,seval,shB];exact hE
   have W:((i:Int)<(f.length:Int))=True:=aK (by omega);obtain⟨c,hc,hcd⟩:=Rp.jX hi;obtain⟨w,hwi,hwd⟩:=Rp.jX (l:=tl) (i:=i) (by omega);have hwl:=htm w (aL hwi);obtain⟨J,e0,_⟩:=jM m hwi rfl;have hxs:fc f (i:Int)=((c.toNat:Nat):Int):=by unfold fc;simp[hc]
   rw[hcd,hwd]at o;rw[Tt]at o;by_cases c78:c=78
   ·subst c78;have O:((((78:UInt8).toNat:Nat):Int)=78)=True:=aK rfl;rw[aF rfl]at o;have hnb:=OP (s:=w) (M:=C) (by omega);simp only[zX,seval,W,m.sl,e0,hxs,O];refine⟨J.1,J.2,by omega,cV ⟨_,DO,by kernel_rfl,by kernel_rfl⟩ (az ⟨rfl,rfl⟩ rfl hnb ?_)⟩;simp only[zX,seval,hnl];refine⟨rfl,⟨by omega,by omega⟩,rfl,cV ⟨_,DO,by kernel_rfl,by kernel_rfl⟩ (az ⟨rfl,rfl⟩ rfl hnb ?_)⟩;cases Q:nL w with
     |none=>rw[V (by rw[o,Q];rfl)];simp only[zX,seval,vE Q];refine cV ⟨_,jK,by kernel_rfl,by kernel_rfl⟩ (az ⟨rfl,rfl⟩ rfl (gF 12 C (by decide)) ?_);simp only[zX,seval];exact⟨b,v,q,G,rfl,g,H⟩
     |some n=>
      have cn:((n:Int)<0)=False:=ax (by omega);have en:ns.map lD++[[.int .i64 (n:Int)]]=(ns++[n]).map lD:=by rw[bq];rfl
      simp only[zX,seval,EZ Q,cn,en];refine⟨eV (by omega) (by omega),(i+1,ns++[n],ss),⟨⟨⟨by simp only;omega,by simp only[aG,bG];omega,by simp only;omega⟩,n4,?_⟩,by simp only;omega⟩,?_⟩;·rw[o,Q];simp[Ev,wi]
      ·refine i6 12 101 592 1 _ rfl rfl rfl rfl (aR ?_);simp only[zV,seval,aJ,cB]
   have O:((c.toNat:Int)=78)=False:=ax (λe=>c78 (rJ.1 (by show c.toNat=78;omega)));rw[ai c78]at o;by_cases c84:c=84
   ·subst c84;have e84:((((84:UInt8).toNat:Nat):Int)=84)=True:=aK rfl;rw[aF rfl]at o;have htx:=UT (w:=w) (M:=C) (hG.le I) (by omega);simp only[zX,seval,W,m.sl,e0,hxs,O,e84];refine⟨J.1,J.2,by omega,cV ⟨_,Proofs.Tryz.func19,by kernel_rfl,by kernel_rfl⟩ (az ⟨rfl,rfl⟩ rfl htx ?_)⟩;cases Q:l_ w with
     |none=>rw[V (by rw[o,Q];rfl)];simp only[zX,seval,nk,o6];refine cV ⟨_,jK,by kernel_rfl,by kernel_rfl⟩ (az ⟨rfl,rfl⟩ rfl (gF 12 C (by decide)) ?_);simp only[zX,seval];exact⟨b,v,q,G,rfl,g,H⟩
     |some t=>
      have en:ss.map dG++[[.string ⟨t.toArray⟩]]=(ss++[t]).map dG:=by rw[bq];rfl
      simp only[zX,seval,nj,dn,hsl,en];refine⟨rfl,⟨by omega,by omega⟩,rfl,eV (by omega) (by omega),(i+1,ns,ss++[t]),⟨⟨⟨by simp only;omega,by simp only;omega,by simp only[aG,bG];omega⟩,λu B=>?_,?_⟩,by simp only;omega⟩,?_⟩
      ·rcases bU.1 B with B|B;·exact n4 u B
       ·simp only[bD]at B;subst B;exact b6 (Tu Q) hwl
      ·rw[o,Q];simp[Ev,wi]
      ·refine i6 13 102 736 1 _ rfl rfl rfl rfl (aR ?_);simp only[zV,seval,aJ,cB]
   have e84:((c.toNat:Int)=84)=False:=ax (λe=>c84 (rJ.1 (by show c.toNat=84;omega)));rw[ai c84]at o;have en:ss.map dG++[[.string ⟨w.toArray⟩]]=(ss++[w]).map dG:=by rw[bq];rfl
   simp only[zX,seval,W,m.sl,e0,hxs,O,e84,hsl,en];refine⟨J.1,J.2,by omega,rfl,⟨by omega,by omega⟩,rfl,eV (by omega) (by omega),(i+1,ns,ss++[w]),⟨⟨⟨by simp only;omega,by simp only;omega,by simp only[aG,bG];omega⟩,λu B=>?_,?_⟩,by simp only;omega⟩,?_⟩
   ·rcases bU.1 B with B|B;·exact n4 u B
    ·simp only[bD]at B;subst B;exact hwl
   ·rw[o];simp[Ev,wi]
   ·refine i6 13 102 536 1 _ rfl rfl rfl rfl (aR ?_);simp only[zV,seval,aJ,cB]
end Go.X.Dk
namespace Go.X.Dk
theorem BA{n:Nat}(h:n<16):33<=(wc n).toNat/\(wc n).toNat<=126/\mG (wc n)=some n:=by
 have :∀n:Fin 16,33<=(wc n.val).toNat/\(wc n.val).toNat<=126/\mG (wc n.val)=some n.val:=by decide
 exact this ⟨n,h⟩
theorem Pu(b:UInt8):∀c∈ma b,33<=c.toNat/\c.toNat<=126:=by
 intro c a;unfold ma at a;split at a;·rename_i h;simp only[bD]at a;subst a;have :=aW h.1;exact⟨this.1,this.2.1⟩
 ·have d:=gu b;simp only[aV,cH,fK]at a;rcases a with rfl|rfl|rfl;·decide
  ·exact⟨(BA (by omega)).1,(BA (by omega)).2.1⟩
  ·exact⟨(BA (Af _ (by decide))).1,(BA (Af _ (by decide))).2.1⟩
theorem JU(s:Tx):∀c∈p_ s,33<=c.toNat/\c.toNat<=126:=by
 intro c a;unfold p_ at a;split at a;·simp only[bD]at a;subst a;decide
 ·obtain⟨b,_,h⟩:=List.mem_flatMap.1 a;exact Pu b c h
theorem Wo(s:Tx):32∉p_ s/\10∉p_ s:=⟨λh=>absurd (JU s _ h).1 (by decide),λh=>absurd (JU s _ h).1 (by decide)⟩
/-! the session -/
end Go.X.Dk
namespace Go.X
open Go Go.RowKit
section
variable{E:Env}{σ:dp}{H:HS}{M M':Mem}{K:KP}{o:db}{b:Nat}
theorem Wp(k:Nat){cs:List SV}{t:Option ay}(d:hget H k=some (.box cs t))(h:∀b,OpK E o K σ (hset k (.box cs (some (bT b))) H) M):OpK E o K σ H M:=by rintro a w⟨V,f,e⟩;obtain⟨⟨b,T,c,j⟩,l⟩:=e.holds _ (bP d);simp only at c;exact h b a w ⟨V,f,e.ML d λg=>⟨g.1,λv i=>by cases i;exact c⟩⟩
theorem Tw(j k:Nat){cs:List SV}{t:Option ay}(g:hget H k=some (.box cs (some (bT b))))(i:hget H j=some (.box [.ptr k 0 0 0] t))(h:OpK E o K σ (hset j (.box [.v (bT b)] t) H) M):OpK E o K σ H M:=by rintro a w⟨V,l,e⟩;have d:V k=bT b:=(e.holds _ (bP g)).2 _ rfl;refine h a w ⟨V,l,e.ML i λf=>⟨?_,f.2⟩⟩;obtain⟨c,T,m,n⟩:=f.1;refine⟨c,T,m,?_⟩;rw[n];simp only[aS,SV.cL,d,KD,Nat.mul_zero,eJ]
def z_:ay->Bool|.int .u8 _=>false|.pointer _=>false|.slice _ _ _=>false|_=>true
def Oc:ay->Bool|.pointer _=>true|.slice _ _ _=>true|_=>false
def Ty(b:Nat)(M:Mem):Prop:=∃p v T c,M b=some (.cells #[p,v] T c)/\Oc p=true/\Oc v=true
theorem BldC.aaT{T e:bL}{l:List UInt8}(h:BldC E T e b l M):Ty b M:=by
 obtain⟨p,v,a,c,i,h⟩:=h.is;refine⟨p,v,T,(0,0),c,?_,?_⟩
 ·rcases a with rfl|rfl;·rfl
  ·rfl
 ·rcases h with⟨rfl,_⟩|⟨g,d,f,rfl,_⟩;·rfl
  ·rfl
theorem Keep.aaU(j:Keep b M M')(l:Ty b M){a:qz}{c:ay}(f:jT M a=some c)(r:z_ c=true):M' a.block=M a.block:=by
 unfold jT at f;cases g:M a.block with
  |none=>rw[g]at f;cases f
  |some m=>
   rw[g]at f;cases m with
    |cells h T s=>
     simp only at f;split at f;·cases f
     have d:c∈h.toList:=by rw[<-cu]at f;exact aL f
     refine j _ _ g (λe=>?_) (λo=>?_)
     ·obtain⟨p,v,t,q,i,u,w⟩:=l;rw[<-e,g]at i;cases i;simp only[aV,cH,fK]at d;rcases d with rfl|rfl;·cases c<;>simp_all[z_,Oc]
      ·cases c<;>simp_all[z_,Oc]
     ·have :=o c d;cases c with|int k n=>cases k<;>simp_all[zf,z_]|_=>simp[zf]at this
    |_=>cases f
theorem Pv{a b:qz}(h:M' a.block=M a.block)(e:b.block=a.block):jT M' b=jT M b:=by unfold jT;rw[e,h]
theorem Aa(a:qz)(j:Nat):(a.add j).block=a.block:=by unfold Ac;split<;>rfl
theorem RowM.aaV{v:ay}{sz:Nat}{es:List (List ay)}(h:RowM M v sz es)(l:∀a n c,v=.slice (some a) n c->es≠[]->M' a.block=M a.block):RowM M' v sz es:=by
 refine⟨h.1,h.2.1,λi e b=>⟨(h.2.2 i e b).1,λj c g=>⟨?_,((h.2.2 i e b).2 j c g).2⟩⟩⟩;have d:=((h.2.2 i e b).2 j c g).1;cases v with
  |slice m n k=>
   cases m with
    |none=>exact d
    |some a=>
     have f:es≠[]:=λo=>by rw[o]at b;simp at b
     show jT M' (a.add _)=_;rw[Pv (l a n k rfl f) (Aa a _)];exact d
  |_=>exact d
theorem Keep.row(g:Keep b M M')(k:Ty b M){v:ay}{sz:Nat}{es:List (List ay)}(h:RowM M v sz es)(l:es=[]\/∃(i j:Nat)(e:List ay)(c:ay),es[i]?=some e/\e[j]?=some c/\z_ c=true):RowM M' v sz es:=by
 refine h.aaV λa n c m d=>?_;rcases l with rfl|⟨i,j,e,x,o,p,f⟩;·exact absurd rfl d
 ·have q:=((h.2.2 i e o).2 j x p).1;subst m;have r:jT M (a.add (i*sz+j))=some x:=q;have :=g.aaU k r f;rwa[Aa]at this
theorem Keep.Ab{α:Type}(a:Keep b M M')(d:Ty b M){v:ay}{sz:Nat}{enc:α->List ay}{l:List α}(h:RowM M v sz (l.map enc))(j:Nat)(e:∀x,∃c,(enc x)[j]?=some c/\z_ c=true):RowM M' v sz (l.map enc):=by refine a.row d h ?_;cases l with|nil=>exact .inl rfl|cons x l=>obtain⟨c,f,g⟩:=e x;exact .inr ⟨0,j,enc x,c,rfl,f,g⟩
theorem Keep.box(l:Keep b M M'){d:Nat}{x:ay}(g:d≠b)(h:BoxM M d [x])(k:zf x=false):BoxM M' d [x]:=by
 have a:=h 0 x rfl;unfold jT at a;cases f:M d with
  |none=>simp only[f]at a;cases a
  |some m=>
   simp only[f]at a;cases m with
    |cells i T q=>
     simp only at a;have e:x∈i.toList:=by simp only[nk,bp,cA]at a;rw[<-cu]at a;exact aL a
     have n:=l d _ f g (λo=>by rw[o x e]at k;cases k);intro j c p;have :=h j c p;unfold jT at this⊢;simp only[f]at this;simp only[n];exact this
    |_=>cases a
/-! a block that is forgotten -/
def vl(c:Nat)(M:Mem):Mem:=λj=>if j=c then none else M j
theorem DD{c j:Nat}(h:j≠c):vl c M j=M j:=ai h
theorem Tz{c:Nat}(h:M.le M')(b:M c=none):M.le (vl c M'):=λj d a=>by rw[DD (λe=>by rw[e,b]at a;cases a)];exact h j d a
theorem RowM.Od{c:Nat}{x:ay}{T:bL}{s:Nat×Nat}(t:M c=some (.cells #[x] T s)){v:ay}{sz:Nat}{es:List (List ay)}(u:2<=sz)(h:RowM M v sz es):RowM (vl c M) v sz es:=by
 refine h.aaV λa n k w o=>DD λe=>?_;obtain⟨f,d,rfl⟩:∃f d,es=f::d:=by cases es with|nil=>exact absurd rfl o|cons f d=>exact⟨_,_,rfl⟩
 obtain⟨g,b⟩:=h.2.2 0 f rfl;obtain⟨l,m,r,rfl⟩:∃l m r,f=l::m::r:=by match f,g with|[],g=>simp at g;omega|[_],g=>simp at g;omega|l::m::r,_=>exact⟨_,_,_,rfl⟩
 have i:=(b 0 l rfl).1;have j:=(b 1 m rfl).1;subst w;simp only[mS,o7,b7]at i j;unfold jT at i j;rw[Aa,e,t]at i j;obtain⟨y,z,q⟩:=a;cases q with|none=>simp only[Ac]at i j;simp at j|some p=>simp[Ac]at i
theorem DE{f d:Nat}{l tc:List SV}{t:Option ay}{R:SV->List SV->Mem->Prop}{X:XP}(k:Nat){bt:Nat}(I:SV.concs l=true)(J:aU (d<E.N)=true)(z:SV.concs tc=true)(L:t=some (bT bt))(h:MeetsX E.P f l [(248,.box tc (some (bT bt)))] M (λs H' M'=>s.conc=true/\∃c,SV.concs c=true/\H'=[(248,.box c (some (bT bt)))]/\R s c M') (λ_ _ _=>False))(O:∀s c M',M.le M'->R s c M'->K ((d,true,s)::σ) [(k,.box c t)] M'):CallK E f l d K σ [(k,.box tc t)] M:=by
 subst L;intro ν a w Q n;obtain⟨⟨b,T,S,U⟩,F⟩:=n.holds (k,.box tc (some (bT bt))) bn;have o:ν k=bT bt:=F _ rfl;let g:Nat->ay:=λj=>if j=248 then ν k else .bool false;have m:g 248=ν k:=by simp[g]
 have x:fp g [(248,PO.box tc (some (bT bt)))]=fp ν [(k,PO.box tc (some (bT bt)))]:=by simp only[fp,bK,eu,m]
 have A:Heap ⟨E.P,0,E.w0,M⟩ g [(248,.box tc (some (bT bt)))] M w:=by
  refine⟨λp y=>?_,by rw[x];exact n.nodup,by rw[x];exact n.apart,n.mem,n.below,cg M,λb B=>.inl B,λj=>?_⟩;·simp only[bD]at y;subst y;refine⟨⟨b,T,by rw[m];exact S,?_⟩,λv V=>by cases V;rw[m];exact o⟩;rw[U,cl (ν:=ν) (ν':=g) tc z]
  ·by_cases G:j=248;·simp only[g,G,cR];exact n.one k
   ·simp only[g,G,cA];rfl
 have H:=h.2 E.w0 M g w A;rw[cl (ν:=ν) (ν':=g) l I]at H;refine .inl ⟨h.1,H.mono ?_⟩;rintro e w'(⟨s,H',M',u,rfl,i,C,c,D,rfl,W⟩|⟨_,_,_,_,_,_,Y⟩);rotate_left;·exact Y.elim
 refine⟨_,rfl,_,_,M',⟨ν,Q.ml (aW J) (by rw[dM];exact fz s C),?_⟩,O s c M' i.le0 W⟩;obtain⟨⟨Z,T2,q1,q2⟩,q3⟩:=i.holds (248,.box c (some (bT bt))) bn;have q:u 248=ν k:=by rw[o];exact q3 _ rfl
 have r:fp ν [(k,PO.box c (some (bT bt)))]=fp u [(248,PO.box c (some (bT bt)))]:=by simp only[fp,bK,eu,q]
 refine⟨λp y=>?_,by rw[r];exact i.nodup,by rw[r];exact i.apart,i.mem,i.below,n.le0.dC i.le0,λb B=>(i.fresh b B).elim (λh=>n.fresh b h) .inr,n.one⟩;simp only[bD]at y;subst y;refine⟨⟨Z,T2,by rw[<-q];exact q1,?_⟩,F⟩;rw[q2,cl (ν:=u) (ν':=ν) c D]
end
end Go.X
namespace Go.X.Dk
open Go Go.X Go.RowKit Go.X.Vo Go.X.Tg
theorem JV{b:Nat}{M M':Mem}(a:Keep b M M')(c:Ty b M){T:TG}{x v d:ay}{ws:List WV}(h:TgM M T x v d ws):TgM M' T x v d ws:=⟨a.Ab c h.bag 0 λx=>⟨_,rfl,rfl⟩,⟨a.Ab c h.vols.row 0 λx=>⟨_,rfl,rfl⟩,λw e=>a.Ab c (h.vols.blk w e) 0 λx=>⟨_,rfl,rfl⟩⟩,h.vw,a.Ab c h.regs 0 λx=>⟨_,rfl,rfl⟩⟩
theorem vY{c:Nat}{x:ay}{t:bL}{e:Nat×Nat}{M:Mem}(a:M c=some (.cells #[x] t e)){T:TG}{b v d:ay}{ws:List WV}(h:TgM M T b v d ws):TgM (vl c M) T b v d ws:=⟨h.bag.Od a (by decide),⟨h.vols.row.Od a (by decide),λw f=>(h.vols.blk w f).Od a (by decide)⟩,h.vw,h.regs.Od a (by decide)⟩
end Go.X.Dk
namespace Go.X
open Go Go.RowKit
section
variable{E:Env}{σ:dp}{H:HS}{M:Mem}{K:KP}{o:db}
theorem Eo{d:Nat}{x:bB}{t u:bL}{v:ay}{s:SV}(g:o.op=.typeAssert x u t true)(h:o.dst=some d)(i:aU (d<E.N)=true)(j:opv σ x=some (true,.v (.iface t v)))(b:∀ν,s.cL ν=.tuple #[v,.bool true])(c:∃e,E.P.underlying t=some (.struct e))(k:K ((d,true,s)::σ) H M):OpK E o K σ H M:=by
 refine jq λν a w f l=>?_;obtain⟨e,c⟩:=c;have m:a.eval x=.iface t v:=by rw[f.mA j rfl];rfl
 refine⟨.tuple #[v,.bool true],w,?_,_,_,_,⟨ν,?_,l⟩,k⟩;·simp only[da,g,m,Instr.typeAssert,a7,a8 c,aQ,cR,bC]
 ·rw[h];exact f.ml (aW i) (by rw[dM,b ν])
end
end Go.X
namespace Go.X.Dk
open Go Go.X Go.RowKit
theorem L6(p:qz)(w:bQ):CallsD ab 28 #[.pointer (some p)] .returning w λe u' w'=>e=.returned (.tuple #[])/\u'=.returning/\w'=w:=by refine callsD_of_wpS Hu rfl λc₀ cs hu=>?_;apply wpS_seq;apply wpS_region;simp[wpOpsS,go_sem,recoverD,hu,He,T6];apply wpS_seq;apply wpS_region;simp[wpOpsS,go_sem,T6,xg];refine wpS_cond (t:=false) (by simp[Act.eval,nV]) ?_;simp only[bp,cA];refine wpS_of_wp (wp_skip ?_);cases c₀;simp_all[bodyPostS,results,Proofs.Tryz.results28]
theorem lk2{N:Nat}{ν:Nat->ay}{s t:SV}{x y:ay}(c:x=s.cL ν)(d:y=t.cL ν){a:xp}(f:a.tmps[0]?=some x)(h:a.tmps[1]?=some y)(i:a.tmps.size=N)(j:a.defers=[]):Slots N ν [(0,true,s),(1,true,t)] a:=by
 refine⟨i,j,λk g r b=>?_⟩;simp only[lk]at b;split at b;·rename_i e;cases b;rw[e,f,c];rfl
 ·split at b;·rename_i e;cases b;rw[e,h,d];rfl
  ·cases b
theorem JW{w0 w:bQ}{M0 M:Mem}{ν:Nat->ay}{c bt:Nat}{x:ay}{tc:List SV}{e:Nat}(hG:GlobM M)(he:e<=1000)(htc:SV.concs tc=true)(htk:∀d,SV.jn d tc=true)(older:List Uf)(hh:Heap ⟨ab,0,w0,M0⟩ ν [(8000,.box [.v x] (some (bT c))),(248,.box tc (some (bT bt)))] M w):CallsD ab 28 #[bT c] (.panicking ({v:=sZ e,recovered:=false}::older)) w λe' u' w'=>e'=.returned (.tuple #[])/\u'=.panicking ({v:=sZ e,recovered:=true}::older)/\∃ν',Heap ⟨ab,0,w0,M0⟩ ν' [(8000,.box [.v (.string ⟨(lO e).toArray⟩)] (some (bT c))),(248,.box tc (some (bT bt)))] M w':=by
 refine callsD_of_wpS Hu rfl λc₀ cs hu=>?_;have hν:ν 8000=bT c:=(hh.holds _ bn).2 _ rfl;apply wpS_seq;apply wpS_region;unfold sZ at hu⊢;simp[wpOpsS,go_sem,recoverD,hu,He,T6];refine wpS_of_wp (kq (P:=ab) (Q:=AM ⟨ab,19,w0,M0⟩ λe' _ H' M'=>e'=.normal/\(hget H' 8000=some (.box [.v (.string ⟨(lO e).toArray⟩)] (some (bT c)))/\hget H' 248=some (.box tc (some (bT bt))))/\M'=M) ?_ ((?_:CodeK ⟨ab,19,w0,M0⟩ _ _ [(0,true,.ptr 8000 0 0 0),(1,true,.v (sZ e))] [(8000,.box [.v x] (some (bT c))),(248,.box tc (some (bT bt)))] M) _ w ⟨ν,?_,⟨hh.holds,hh.nodup,hh.apart,hh.mem,hh.below,hh.le0,hh.fresh,hh.one⟩⟩));·rintro e' a w'⟨σ',H',M',⟨ν',hs',hh'⟩,rfl,⟨k1,k2⟩,rfl⟩;have h2:=hh'.two k1 k2 (by decide);exact⟨hs'.2.1,_,rfl,_,results_none rfl _ _ _,rfl,rfl,ν',⟨h2.holds,h2.nodup,h2.apart,h2.mem,h2.below,h2.le0,h2.fresh,h2.one⟩⟩
 ·refine i7 (rZ (A' 1 ?_));simp only[shs,zts,sos,sls,zss,eqs,RegX_nil,RegX_call,RegX_panic,RegX_step,opX,qD,qE,fJ,jI,dM,ln,xCall_ev,xPanic_ev,wpX_skip,wpX_ret,wpX_exit,wpX_region,wpX_draw,wpX_seq,wpX_block,wpX_cond,wpX_loop,condX_ev,seqX_normal,seqX_ret,seqX_exit,seqX_panic,blkQ_panic,rndQ_panic,xPan_ev,RetX_panic,RetX_ret,RetX_normal,isIfc,sx,sb1,sb2,sb3,sb4,sb5,sb6,sb7,↓reduceIte,aj,ak,al,af,aA,ag,reduceCtorEq,aB,aC,aD,aE,aq,ar,au,av,ah,dI,aZ,cB,aX,aw,fH,nc];refine Co (v:=sZ e) rfl rfl rfl rfl rfl (.inr ⟨_,_,rfl⟩) ⟨_,xg⟩ (Cj ?_);have hif:isIfc (sZ e)=true:=rfl;refine eD (live:=[0,1,2,3,6,13]) _ _ _ _ _ ?_;simp only[shs,zts,sos,sls,zss,eqs,RegX_nil,RegX_call,RegX_panic,RegX_step,opX,qD,qE,fJ,jI,dM,ln,xCall_ev,xPanic_ev,wpX_skip,wpX_ret,wpX_exit,wpX_region,wpX_draw,wpX_seq,wpX_block,wpX_cond,wpX_loop,condX_ev,seqX_normal,seqX_ret,seqX_exit,seqX_panic,blkQ_panic,rndQ_panic,xPan_ev,RetX_panic,RetX_ret,RetX_normal,isIfc,sx,sb1,sb2,sb3,sb4,sb5,sb6,sb7,↓reduceIte,aj,ak,al,af,aA,ag,reduceCtorEq,aB,aC,aD,aE,aq,ar,au,av,ah,dI,aZ,cB,aX,aw,nzs,hif,c_,eT,cZ,fL];refine⟨λ_=>⟨rfl,Eo (s:=.tup [.agg [.v (.int .i64 e)],.v (.bool true)]) rfl rfl rfl rfl (λ_=>rfl) ⟨_,Proofs.Tryz.underlying78⟩ ?_⟩,λh=>nomatch h⟩;simp only[shs,zts,sos,sls,zss,eqs,RegX_nil,RegX_call,RegX_panic,RegX_step,opX,qD,qE,fJ,jI,dM,ln,xCall_ev,xPanic_ev,wpX_skip,wpX_ret,wpX_exit,wpX_region,wpX_draw,wpX_seq,wpX_block,wpX_cond,wpX_loop,condX_ev,seqX_normal,seqX_ret,seqX_exit,seqX_panic,blkQ_panic,rndQ_panic,xPan_ev,RetX_panic,RetX_ret,RetX_normal,isIfc,sx,sb1,sb2,sb3,sb4,sb5,sb6,sb7,↓reduceIte,aj,ak,al,af,aA,ag,reduceCtorEq,aB,aC,aD,aE,aq,ar,au,av,ah,dI,aZ,cB,aX,aw,nzs];refine⟨htk _,?_⟩;refine cV ⟨_,A6,by kernel_rfl,by kernel_rfl⟩ (az ⟨rfl,rfl⟩ rfl (FY (n:=(e:Int)) hG (eV (by omega) (by omega))) ?_);have hit:Lib.itoa (e:Int)=cF e:=Lib.itoa_nonneg e;simp only[shs,zts,sos,sls,zss,eqs,RegX_nil,RegX_call,RegX_panic,RegX_step,opX,qD,qE,fJ,jI,dM,ln,xCall_ev,xPanic_ev,wpX_skip,wpX_ret,wpX_exit,wpX_region,wpX_draw,wpX_seq,wpX_block,wpX_cond,wpX_loop,condX_ev,seqX_normal,seqX_ret,seqX_exit,seqX_panic,blkQ_panic,rndQ_panic,xPan_ev,RetX_panic,RetX_ret,RetX_normal,isIfc,sx,sb1,sb2,sb3,sb4,sb5,sb6,sb7,↓reduceIte,aj,ak,al,af,aA,ag,reduceCtorEq,aB,aC,aD,aE,aq,ar,au,av,ah,dI,aZ,cB,aX,aw,nzs,hit];have hl:=jw 3 e (by have :(10:Nat)^(3+1)=10000:=(by decide);omega);exact⟨by omega,rfl⟩
 ·refine lk2 (x:=bT c) (y:=sZ e) (tz hν).symm rfl ?_ ?_ ?_ rfl;·simp
  ·simp[sZ]
  ·simp
end Go.X.Dk
namespace Go.X
open Go Go.RowKit
section
variable{E:Env}{H:HS}{M:Mem}{w:bQ}{ν:Nat->ay}
theorem Heap.TA{P:bZ}{b:bQ}{c:Mem}(a:Heap ⟨P,0,b,c⟩ ν H M w):Heap ⟨P,0,b,M⟩ ν H M w:=⟨a.holds,a.nodup,a.apart,a.mem,a.below,cg M,λ_ d=>.inl d,a.one⟩
theorem Heap.G0{P:bZ}{a:bQ}{c:Mem}(d:Heap ⟨P,0,a,c⟩ ν H M w){ν':Nat->ay}{H':HS}{N:Mem}{w':bQ}(h:Heap ⟨P,0,a,M⟩ ν' H' N w'):Heap ⟨P,0,a,c⟩ ν' H' N w':=⟨h.holds,h.nodup,h.apart,h.mem,h.below,d.le0.dC h.le0,λb e=>(h.fresh b e).elim (λh=>d.fresh b h) .inr,h.one⟩
theorem Heap.env{P:bZ}{b:bQ}{c:Mem}{N N':Nat}(a:Heap ⟨P,N,b,c⟩ ν H M w):Heap ⟨P,N',b,c⟩ ν H M w:=⟨a.holds,a.nodup,a.apart,a.mem,a.below,a.le0,a.fresh,a.one⟩
theorem Heap.Xt(z:Heap E ν H M w){c:Nat}{x:ay}{T:bL}(s:M c=some (.cells #[x] T (0,0)))(A:E.w0.heap.size<=c)(B:E.M0 c=none){tc:List SV}{t:Option ay}(C:hget H 248=some (.box tc t))(l:SV.concs tc=true):∃ν',Heap E ν' [(8000,.box [.v x] (some (bT c))),(248,.box tc t)] (vl c M) w:=by
 have g:=z.SA C;have m:c∉fp ν [(248,PO.box tc t)]:=λn=>by have :=(g.apart c n).1;rw[s]at this;cases this
 let d:Nat->ay:=λj=>if j=8000 then bT c else ν j;have q:d 8000=bT c:=by simp[d]
 have u:d 248=ν 248:=by simp[d]
 have r:=g.mem c _ s;have h:fp d [(8000,PO.box [.v x] (some (bT c))),(248,.box tc t)]=c::fp ν [(248,PO.box tc t)]:=by simp only[fp,bK,eu,q,u,ee]
 refine⟨d,λp y=>?_,?_,λb i=>?_,λj o f=>?_,g.below,λj o f=>?_,λj f=>?_,λj=>?_⟩
 ·simp only[aV,cH,fK]at y;rcases y with rfl|rfl;·exact⟨⟨c,T,q,by rw[r];rfl⟩,λv D=>by cases D;exact q⟩
  ·have k:=g.holds (248,.box tc t) bn;obtain⟨⟨b,F,G,I⟩,J⟩:=k;simp only[u];exact⟨⟨b,F,G,by rw[I,cl (ν:=ν) (ν':=d) tc l]⟩,J⟩
 ·rw[h];exact gK.2 ⟨m,g.nodup⟩
 ·rw[h]at i;rcases aV.1 i with rfl|n;·exact⟨aF rfl,A⟩
  ·have k:=g.apart b n;exact⟨by unfold vl;split<;>first|rfl|exact k.1,k.2⟩
 ·unfold vl at f;split at f;·cases f
  ·exact g.mem j o f
 ·rw[DD (λe=>by rw[e,B]at f;cases f)];exact g.le0 j o f
 ·unfold vl at f;split at f;·exact absurd rfl f
  ·exact g.fresh j f
 ·by_cases f:j=8000;·simp only[d,f,cR];rfl
  ·simp only[d,f,cA];exact g.one j
end
end Go.X
namespace Go.X.Dk
open Go Go.X Go.RowKit Go.X.Vo Go.X.Tg
theorem xc{P:bZ}{f:kH}{a:Array ay}{w:bQ}{Q:Ending->bQ->Prop}(h:Calls P f a w Q):∃b:Ending->bQ->Prop,(∀e w',b e w'->Q e w')/\Calls P f a w b:=⟨_,λ_ _ h=>h,h⟩
theorem Xu{tmps:Array ay}{c:Nat}{x:ByteArray}{w:bQ}(h4:tmps[4]?=some (bT c))(hc:w.cell? ⟨c,0,none⟩=some (.string x)):(results kU tmps).run ab w=.ok (.string x) w:=by simp[results,Proofs.Tryz.results14,Array.getD_eq_getD_getElem?,h4,go_sem,hc]
def rcv(c:Nat):Deferred:={target:=.fn (.func 28) #[bT c],args:=#[]}
theorem xd{w0 w3:bQ}{M0 M3:Mem}{H3:HS}{ν3:Nat->ay}{c bt:Nat}{x:ay}{tc:List SV}{tmps:Array ay}{e:Nat}{RR:Ending->bQ->Prop}(hG:GlobM (vl c M3))(hh3:Heap ⟨ab,0,w0,M0⟩ ν3 H3 M3 w3)(hc:M3 c=some (.cells #[x] 9 (0,0)))(hb:w0.heap.size<=c)(h0:M0 c=none)(hk:hget H3 248=some (.box tc (some (bT bt))))(htc:SV.concs tc=true)(htk:∀d,SV.jn d tc=true)(h4:tmps[4]?=some (bT c))(he:e<=1000)(hR:∀ν' w',Heap ⟨ab,0,w0,M0⟩ ν' [(248,.box tc (some (bT bt)))] (vl c M3) w'->RR (.returned (.string ⟨(lO e).toArray⟩)) w'):bodyPostD ab kU RR (.panic (jv e)) {tmps:=tmps,defers:=[rcv c]} w3:=by
 obtain⟨ν',h1⟩:=hh3.Xt hc hb h0 hk htc;show Leaves ab kU tmps RR [rcv c] (.panicking (jv e)) w3;refine leaves_cons (f:=28) (args:=#[bT c]) (by simp) (by simp[go_sem]) ?_;refine(JW hG he htc htk [] h1).mono ?_;rintro e' u' w''⟨rfl,rfl,ν2,h2⟩;show Leaves ab kU tmps RR [] .returning w'';obtain⟨⟨b,T,e1,e2⟩,e3⟩:=h2.holds _ bn;have hbc:bT c=bT b:=(e3 _ rfl).symm.trans e1;obtain rfl:c=b:=by cases hbc;rfl
 exact⟨_,Xu h4 (by rw[gI e2];rfl),hR ν2 w'' (h2.SA rfl)⟩
theorem Wq{w3:bQ}{c:Nat}{x:ByteArray}{tmps:Array ay}{RR:Ending->bQ->Prop}(h4:tmps[4]?=some (bT c))(hc:w3.cell? ⟨c,0,none⟩=some (.string x))(hR:RR (.returned (.string x)) w3):bodyPostD ab kU RR .ret {tmps:=tmps,defers:=[rcv c]} w3:=by show Leaves ab kU tmps RR [rcv c] .returning w3;refine leaves_cons (f:=28) (args:=#[bT c]) (by simp) (by simp[go_sem]) ?_;refine(L6 ⟨c,0,none⟩ w3).mono ?_;rintro e' u' w''⟨rfl,rfl,rfl⟩;show Leaves ab kU tmps RR [] .returning w'';exact⟨_,Xu h4 hc,hR⟩
set_option maxHeartbeats 2000000 in theorem TB{A:List Tx->Option (Nat×(TG->iP))}{bt bd n c:Nat}{ad:qz}{ws:List Tx}{M:Mem}(hG:GlobM M)(hM:RowM M (.slice (some ad) n c) 1 (ws.map dG))(hne:ws≠[])(hA:YI 30 A bt bd (.slice (some ad) n c) ws M)(hF:∀n F,A ws=some (n,F)->LJ F){T:TG}{b v rg:ay}{wv:List WV}(hT:TgM M T b v rg wv)(hR:TgR T):MeetsX ab 14 [.v (bT bd),.v (.slice (some ad) n c)] [(248,.box (fh T b v rg) (some (bT bt)))] M (λs H' M'=>s=.v (.string ⟨(kG A T ws).2.toArray⟩)/\VT bt (kG A T ws).1 H' M') (λ_ _ _=>False):=by
 refine⟨⟨_,Hv,by kernel_rfl,by kernel_rfl⟩,λw0 M0 ν w hh=>?_⟩;obtain⟨x,r,rfl⟩:∃x r,ws=x::r:=by cases ws with|nil=>exact absurd rfl hne|cons x r=>exact⟨x,r,rfl⟩
 have hn:0<n:=by have h1:=hM.1.2.1;rw[ae,aM]at h1;have h3:eB (.slice (some ad) n c)=n:=rfl;omega
 have hcell:jT M ad=some (.string ⟨x.toArray⟩):=by
  have h1:=((hM.2.2 0 (dG x) rfl).2 0 _ rfl).1;have h2:ad.add 0=ad:=by obtain⟨a1,a2,a3⟩:=ad;cases a3<;>rfl
  have h3:jT M (ad.add 0)=some (.string ⟨x.toArray⟩):=h1;rwa[h2]at h3
 have hargs:(aS ν [.v (bT bd),.v (.slice (some ad) n c)]).toArray=#[bT bd,.slice (some ad) n c]:=rfl;rw[hargs];have hMc:M w.heap.size=none:=by cases hm:M w.heap.size with|none=>rfl|some ob=>have :=(bV.1 (hh.mem _ ob hm)).1;omega
 have hM0c:M0 w.heap.size=none:=by cases hm:M0 w.heap.size with|none=>rfl|some ob=>rw[hh.le0 _ ob hm]at hMc;cases hMc
 have hcb:w0.heap.size<=w.heap.size:=hh.below.size;obtain⟨M1,hM1,hc1,hh1⟩:=hh.ET (w':=w.alloc (.cells #[.string ⟨#[]⟩] 9)) (gm w _) (eP w _);have hs1:(w.alloc (.cells #[.string ⟨#[]⟩] 9)).heap.size=w.heap.size+1:=by show(w.heap.push _).size=_;rw[Array.size_push]
 have hh2:Heap ⟨ab,0,w0,M0⟩ (λj=>if j/8=1000 then bT (w.heap.size+1)else ν j) [(8000,.box (jW (.slice (some ad) n c) 1) (some (bT (w.heap.size+1)))),(248,.box (fh T b v rg) (some (bT bt)))] M1 ((w.alloc (.cells #[.string ⟨#[]⟩] 9)).alloc (.cells #[.slice (some ad) n c,.int .i64 1] 82)):=by
  have h3:=hh1.mE (gm (w.alloc (.cells #[.string ⟨#[]⟩] 9)) (.cells #[.slice (some ad) n c,.int .i64 1] 82));refine h3.HK (d:=1000) (p:=.box (jW (.slice (some ad) n c) 1) (some (bT (w.heap.size+1)))) rfl (λk hk=>ai hk) (λk=>?_) ?_ (λb' hb'=>?_)
  ·show(if k/8=1000 then bT (w.heap.size+1)else ν k).oneCell'=true;split;·rfl
   ·exact hh.one k
  ·have e:(if(8*1000)/8=1000 then bT (w.heap.size+1)else ν (8*1000))=bT (w.heap.size+1):=rfl;refine⟨⟨w.heap.size+1,82,rfl,?_⟩,λv hv=>by cases hv;rfl⟩;rw[<-hs1];exact eP _ _
  ·obtain rfl:w.heap.size+1=b':=by have h4:some (w.heap.size+1)=some b':=hb';exact d_ h4
   have hM1n:M1 (w.heap.size+1)=none:=by cases hm:M1 (w.heap.size+1)with|none=>rfl|some ob=>have :=(bV.1 (hh1.mem _ ob hm)).1;omega
   refine⟨λhm=>?_,hM1n,by show w0.heap.size<=_;omega⟩;have :=hh1.qL hm;omega
 have hr:=(hA (w.heap.size+1) T b v rg wv M1 hM1 (hT.le hM1) hR).2 w0 M1 _ _ hh2.TA;have hra:(aS (λj=>if j/8=1000 then bT (w.heap.size+1)else ν j) [.v (bT bd),.v (.string ⟨(lG (x::r)).toArray⟩),.ptr 8000 0 0 0]).toArray=#[bT bd,.string ⟨x.toArray⟩,bT (w.heap.size+1)]:=rfl;rw[hra]at hr;have hcw:((w.alloc (.cells #[.string ⟨#[]⟩] 9)).alloc (.cells #[.slice (some ad) n c,.int .i64 1] 82)).cell? ad=some (.string ⟨x.toArray⟩):=uy hh2.mem (BJ hM1 hcell);have hmf:∀(fn:Fn)(first cap:Array ay)(w:bQ),(Instr.makeFunc fn first cap).run ab w=.ok (.func fn first cap) w:=λ_ _ _ _=>rfl;have h01:((ad.add 0))=ad:=by obtain⟨a1,a2,a3⟩:=ad;cases a3<;>rfl
 have hn2:¬n<=0:=by omega
 have htc:∀b v rg,SV.concs (fh T b v rg)=true:=λ_ _ _=>rfl;have htk:∀b v rg d,SV.jn d (fh T b v rg)=true:=λ_ _ _ _=>rfl;have hGe:∀M3,M1.le M3->GlobM (vl w.heap.size M3):=λM3 h=>hG.le (Tz (hM1.dC h) hMc);obtain⟨Q1,hQ1,hr1⟩:=xc hr;clear hr;go_enter_defers Hv,Proofs.Tryz.ntmps14;go_wp2_with(go_at_call 30;refine hr1.mono ?_);intro e w3 hq;rcases hQ1 e w3 hq with⟨s,H3,M3,ν3,rfl,hh3,n',F,g,caps,hA1,rfl,hC,hL1,hL2⟩|⟨ch,ν3,H3,M3,rfl,hh3,hA2,rfl,hL2⟩;rotate_left
 ·clear hQ1 hr1;have hh4:=hh2.G0 hh3;have hM3:=hh3.le0;have hans:kG A T (x::r)=(T,lO 12):=by unfold kG;rw[hA2]
  refine xd (tmps:=_) (hGe M3 hM3) hh4 (hM3 _ _ hc1) hcb hM0c hL2 (htc _ _ _) (htk _ _ _) rfl (by decide) λν' w' h5=>?_;rw[hans];exact .inl ⟨.v _,_,_,ν',rfl,h5,rfl,b,v,rg,wv,rfl,vY (hM3 _ _ hc1) ((hT.le hM1).le hM3),hR⟩
 clear hQ1 hr1;have hh4:=hh2.G0 hh3;have hM3:=hh3.le0;have h2:=hh4.two hL1 hL2 (by decide);have ht8:ν3 8000=bT (w.heap.size+1):=(h2.holds _ bn).2 _ rfl;have hend:CallX ⟨ab,1,w0,M0⟩ 31 [.ptr 8000 0 0 0] 0 (λ_ H' M'=>n'=(x::r).length/\(H'=[(8000,.box (jW (.slice (some ad) n c) n') (some (bT (w.heap.size+1)))),(248,.box (fh T b v rg) (some (bT bt)))]/\M'=M3)) (λch H' M'=>n'≠(x::r).length/\ch=jv 12/\(H'=[(8000,.box (jW (.slice (some ad) n c) n') (some (bT (w.heap.size+1)))),(248,.box (fh T b v rg) (some (bT bt)))]/\M'=M3)) [] [(8000,.box (jW (.slice (some ad) n c) n') (some (bT (w.heap.size+1)))),(248,.box (fh T b v rg) (some (bT bt)))] M3:=n8 (A:=λs=>[s]) 8000 (λs s' ν ν' h=>by simp only[aS,h]) rfl rfl rfl (λq' M' hM'=>ZU (((hM.le hM1).le hM3).le hM')) (λs cs'⟨hi,hcs⟩=>by subst hcs;exact⟨hi,rfl,rfl⟩) (λch cs'⟨hi,hch,hcs⟩=>by subst hcs;exact⟨hi,hch,rfl,rfl⟩);have hr2:=(hend ν3 {tmps:=#[dN],defers:=[]} w3 ⟨rfl,rfl,λk g s h=>by simp[lk]at h⟩ h2.env).2;have hra2:(aS ν3 [.ptr 8000 0 0 0]).toArray=#[bT (w.heap.size+1)]:=by simp only[aS,tz ht8];rfl
 rw[hra2]at hr2;obtain⟨Q2,hQ2,hr2⟩:=xc hr2;obtain⟨⟨fn,hf1,hf2,hf3⟩,hclo⟩:=hC.2 T b v rg wv M3 (cg M3) ((hT.le hM1).le hM3) hR;have hcv:∀ν',aS ν' caps=aS ν3 caps:=λν'=>cl (ν:=ν3) (ν':=ν') caps hC.1;have hsv:SV.cL ν3 (SV.fn g caps)=.func (.func g) #[] (aS ν3 caps).toArray:=rfl;rw[hsv];generalize hcvv:(aS ν3 caps).toArray=cv;have hcf:∀w,(callFunc g cv).run ab w=.ok (.enter g cv) w:=λw=>by simp only[callFunc,a7,run_program,aQ,hf1,hf2,hf3,bp,cA,bC]
 dsimp only;clear hend hsv hra2 hC;go_wp2_with(go_at_call 31;refine hr2.mono ?_);intro e4 w4 hq4;rcases hQ2 e4 w4 hq4 with⟨v4,rfl,σ4,H4,M4,⟨ν4,hs4,hh5⟩,hi,rfl,rfl⟩|⟨ch,rfl,ν4,H4,M4,hh5,hi,rfl,rfl,rfl⟩;rotate_left
 ·have hans:kG A T (x::r)=(T,lO 12):=by unfold kG;rw[hA1];simp only[ai hi]
  refine xd (tmps:=_) (hGe _ hM3) hh5.env (hM3 _ _ hc1) hcb hM0c rfl (htc _ _ _) (htk _ _ _) rfl (by decide) λν' w' h5=>?_;rw[hans];exact .inl ⟨.v _,_,_,ν',rfl,h5,rfl,b,v,rg,wv,rfl,vY (hM3 _ _ hc1) ((hT.le hM1).le hM3),hR⟩
 clear hQ2 hr2 hq4 hs4;have h248:Heap ⟨ab,0,w0,M0⟩ ν4 [(248,.box (fh T b v rg) (some (bT bt)))] M4 w4:=(hh5.env (N':=0)).SA rfl;have hr3:=hclo w0 M4 ν4 w4 h248.TA;rw[hcv ν4,hcvv]at hr3;obtain⟨Q3,hQ3,hr3⟩:=xc hr3;dsimp only;clear hclo hcv;go_wp2;refine hr3.mono ?_;intro e5 w5 hq5;obtain⟨⟨hF1,hF2⟩,_⟩:=hF n' F hA1 T hR;rcases hQ3 e5 w5 hq5 with⟨s5,H5,M5,ν5,rfl,hh6,⟨_,hE0,rfl⟩,b5,v5,rg5,wv5,rfl,hT5,hR5⟩|⟨ch,ν5,H5,M5,rfl,hh6,⟨hE0,rfl⟩,b5,v5,rg5,wv5,rfl,hT5,hR5⟩;rotate_left
 ·have hh7:=h248.G0 hh6;have hc5:=hh6.le0 _ _ (hM3 _ _ hc1);have hans:kG A T (x::r)=((F T).1,lO (F T).2.1.toNat):=by unfold kG;rw[hA1];simp only[aF hi,ai hE0]
  have he:jv (F T).2.1=jv (((F T).2.1.toNat:Nat):Int):=by rw[pv hF1]
  rw[he];refine xd (tmps:=_) (hGe _ (hM3.dC hh6.le0)) hh7 hc5 hcb hM0c rfl (htc _ _ _) (htk _ _ _) rfl (by omega) λν' w' h5=>?_;rw[hans];exact .inl ⟨.v _,_,_,ν',rfl,h5,rfl,b5,v5,rg5,wv5,rfl,vY hc5 hT5,hR5⟩
 have hh7:=h248.G0 hh6;have hc5:=hh6.le0 _ _ (hM3 _ _ hc1);have hw5:=hh7.mem _ _ hc5;have k1:w5.cell? ⟨w.heap.size,0,none⟩=some (.string ⟨#[]⟩):=by rw[gI hw5];rfl
 have k2:w5.frozen? ⟨w.heap.size,0,none⟩=false:=Lib.frozen_of_heap hw5 0;have hans:kG A T (x::r)=((F T).1,(F T).2.2):=by unfold kG;rw[hA1];simp only[aF hi,aF hE0]
 obtain⟨ν6,h8⟩:=hh7.Xt hc5 hcb hM0c (rfl:hget [(248,PO.box (fh (F T).1 b5 v5 rg5) (some (bT bt)))] 248=_) (htc _ _ _);have hv5:SV.cL ν5 (.v (.string ⟨(F T).2.2.toArray⟩))=.string ⟨(F T).2.2.toArray⟩:=rfl;rw[hv5];clear hQ3 hr3 hq5;dsimp only;go_wp2;have hlt:w.heap.size<w5.heap.size:=(bV.1 hw5).1;have hset5:(w5.setCell ⟨w.heap.size,0,none⟩ (.string ⟨(F T).2.2.toArray⟩)).heap[w.heap.size]?=some (.cells #[.string ⟨(F T).2.2.toArray⟩] 9 (0,0)):=by simp[px,gr,hw5]
 refine Wq (c:=w.heap.size) (tmps:=_) rfl (by rw[gI hset5];rfl) ?_;rw[hans];have h9:=h8.Ql (k:=8000) (b:=w.heap.size) (p:=.box [.v (.string ⟨(F T).2.2.toArray⟩)] (some (bT w.heap.size))) (w':=w5.setCell ⟨w.heap.size,0,none⟩ (.string ⟨(F T).2.2.toArray⟩)) rfl (by have :=(h8.holds _ bn).2 _ rfl;rw[this];rfl) (λj hj=>rI _ _ _ _ (by simpa using hj)) (by simp[px]) ⟨rfl,rfl,rfl⟩ ⟨⟨w.heap.size,9,(h8.holds _ bn).2 _ rfl,hset5⟩,λv hv=>by cases hv;exact(h8.holds _ bn).2 _ rfl⟩;exact .inl ⟨.v _,_,_,ν6,rfl,h9.SA (j:=248) rfl,rfl,b5,v5,rg5,wv5,rfl,vY hc5 hT5,hR5⟩
end Go.X.Dk
namespace Go.X.Tg
open Go Go.X Go.RowKit Go.X.Bg Go.X.Nm Go.X.Bp Go.X.Sb Go.X.Vo
def Ue:TG:=(uk,(0,[],0,0),[],0)
def z0:ay:=.slice none 0 0
theorem Fw:TgR Ue:=⟨rfl,rfl,bc _,bJ _⟩
theorem Oe(M:Mem):TgM M Ue z0 z0 z0 []:=⟨bY _ _,(gi M).2,rfl,bY _ _⟩
theorem new(M:Mem):Meets ab 12 [] M (aap (fh Ue z0 z0 z0)):=by refine aH [0] Proofs.Tryz.func12 rfl (by kernel_rfl) rfl λw=>?_;simp only[Proofs.Tryz.f12,zW,seval];exact⟨_,rfl,rfl⟩
section
variable{N:Nat}{w0:bQ}{M0 M:Mem}{σ:dp}{K:KP}{d:Nat}{T:TG}{b v rg:ay}{ws:List WV}
end
end Go.X.Tg
namespace Go.X.Dk
open Go Go.X Go.RowKit Go.X.Vo Go.X.Tg Go.X.Th
def uc(A:List Tx->Option (Nat×(TG->iP))):TG->List (List Tx)->Tx|_,[]=>[]|T,a::r=>(kG A T a).2++10::uc A (kG A T a).1 r
def Ep(A:List Tx->Option (Nat×(TG->iP)))(s:Tx):Tx:=if 65536<s.length\/200<(dY s).length then[101,114,114,111,114,32,50,10]else uc A Ue (gY s)
theorem aaW{I m n o q r s t y z:Prop}{E:Env}{f d:Nat}{K:KP}{h i:dp}{M:Mem}(R:ay->Prop)(x v:ay)(A:I)(B:m->o/\q/\r/\s/\(y->R x))(C:n->t/\(z->R v))(D:Ent E h [] M ([(3,true,.v x)],[],M))(e2:Ent E i [] M ([(3,true,.v v)],[],M))(F:∀j,R j->CallK E f [] d K [(3,true,.v j)] [] M):I/\(m->o/\q/\r/\s/\(y->CallK E f [] d K h [] M))/\(n->t/\(z->CallK E f [] d K i [] M)):=by
 have w:∀{S j},Ent E S [] M ([(3,true,.v j)],[],M)->R j->CallK E f [] d K S [] M:=λG H V a w J L=>by obtain⟨u,k,l⟩:=G a w ⟨V,J,L⟩;exact F _ H u a w k l
 refine⟨A,λp=>?_,λp=>?_⟩;·obtain⟨a,b,c,d,e⟩:=B p;exact⟨a,b,c,d,λg=>w D (e g)⟩
 ·obtain⟨d,e⟩:=C p;exact⟨d,λg=>w e2 (e g)⟩
theorem DF:∀{L:List Tx}{a:Tx},L[L.length-1]?=some a->(a=[]->tL L=(L.drop 0).take (L.length-1-0))/\(a≠[]->tL L=L)
 |[],a,h=>by simp at h
 |[x],a,h=>by simp at h;subst h;exact⟨λe=>by simp[tL,e],λe=>by simp[tL,e]⟩
 |x::y::r,a,h=>by
  have b:(y::r)[(y::r).length-1]?=some a:=by simp only[aM,Nat.add_sub_cancel]at h⊢;rw[Ae]at h;exact h
  obtain⟨c,d⟩:=DF b;rw[wN _ (by simp)];refine⟨λe=>?_,λe=>by rw[d e]⟩;rw[c e];simp
theorem xe{c:UInt8}:∀(s w:Tx),w∈dA c s->w.length<=s.length
 |[],w,h=>by simp only[dA,bD]at h;subst h;exact bc _
 |b::l,w,h=>by
  have a:=xe (c:=c) l;unfold dA at h;split at h
  ·rcases aV.1 h with rfl|h;·exact bJ _
   ·exact Nat.le_succ_of_le (a w h)
  ·split at h;·rename_i e;exact absurd e (pQ c l)
   ·rename_i x t e;rw[e]at a;rcases aV.1 h with rfl|h;·simp only[aM];have :=a x bn;omega
    ·exact Nat.le_succ_of_le (a w (bm _ h))
theorem DG{c:UInt8}:∀(s:Tx),(dA c s).length<=s.length+1
 |[]=>bc _
 |b::l=>by
  have a:=DG (c:=c) l;unfold dA;split;·simp only[aM];omega
  ·split;·simp only[aM,bM];omega
   ·rename_i x t e;rw[e]at a;simp only[aM]at a⊢;omega
theorem Fx:∀{L:List Tx}{l:Tx},l∈tL L->l∈L
 |[],l,h=>by simp[tL]at h
 |[x],l,h=>by
  unfold tL at h;split at h;·cases h
  ·exact h
 |x::y::r,l,h=>by
  rw[wN _ (by simp)]at h;rcases aV.1 h with rfl|h;·exact bn
  ·exact bm _ (Fx h)
theorem JX{s l:Tx}(h:l∈dY s):l.length<=s.length:=xe _ _ (Fx h)
theorem JY{l w:Tx}(h:w∈lh l):w.length<=l.length:=xe _ _ (BI.1 h).1
theorem TC{M:Mem}{v:ay}{sz:Nat}{es:List (List ay)}(h:RowM M v sz es)(b:es≠[]):∃ad n c,v=.slice (some ad) n c:=by have d:=h.2.1 b;cases v with
                                                                                                                  |slice a n c=>cases a with|none=>simp[someV]at d|some ad=>exact⟨_,_,_,rfl⟩
                                                                                                                  |_=>simp[someV]at d
theorem Wr(n:Nat):(cF n).length<=n+1:=by
 induction n using Hk with|ind n a=>
                           rw[cF];split;·simp
                           ·have :=a (n/10) (by omega);rw[aG,bG];omega
theorem JZ{A:List Tx->Option (Nat×(TG->iP))}{T:TG}{ws:List Tx}(b:OkP (A ws))(c:TgR T):(kG A T ws).2.length<=60000:=by
 have a:∀n:Nat,n<=1000->(lO n).length<=60000:=λn e=>by unfold lO;rw[aG];have :=Wr n;simp only[aM,bM];omega
 unfold kG;cases h:A ws with
  |none=>exact a 12 (by omega)
  |some p=>
   obtain⟨n,F⟩:=p;have d:=b n F h T c;simp only;split
   ·simp only;split;·exact d.2
    ·exact a _ (by omega)
   ·exact a 12 (by omega)
theorem aaX{A:List Tx->Option (Nat×(TG->iP))}{s:Tx}{M:Mem}(hG:GlobM M)(hs:s.length<4294967281)(hA:∀ws∈gY s,∀bt D vw N,GlobM N->RowM N vw 1 (ws.map dG)->BoxM N D [bT bt]->(∀w∈ws,w.length<=70000)->YI 30 A bt D vw ws N)(hF:∀ws∈gY s,OkP (A ws)):Meets ab 5 [.v (.string ⟨s.toArray⟩)] M λr _ _=>r=.v (.string ⟨(Ep A s).toArray⟩):=by
 refine aH [0,2,3,4,5,6,8,9,11,21,33,37,38,39,40,44,45,46,47,51,65] Proofs.Tryz.func5 rfl (by kernel_rfl) rfl λw=>?_;simp only[Proofs.Tryz.f5,zW,seval];refine jQ rfl rfl (FZ hG hs) (λr N⟨v,h,_⟩=>by subst h;rfl) λr M1 hM1⟨v,hr,E⟩=>?_;subst hr;have hvl:=E.eQ;rw[ae]at hvl;have hne:=pQ 10 s;have hpos:0<(dA 10 s).length:=List.length_pos_iff.2 hne;obtain⟨lw,hlw⟩:∃lw,(dA 10 s)[(dA 10 s).length-1]?=some lw:=⟨_,aP (by omega)⟩;obtain⟨j1,j2⟩:=DF hlw;have d:=E.fG (i:=(dA 10 s).length-1) (e:=dG lw) (by rw[aN,hlw];rfl) (off:=0) (by omega);have f:xj M1 v 1 ((dA 10 s).length-1) 0=.string ⟨lw.toArray⟩:=d.1;have g:=E.ix (i:=(((dA 10 s).length-1:Nat):Int)) (by omega) (by rw[ae];omega);have n:(((dA 10 s).length:Int)-1)=(((dA 10 s).length-1:Nat):Int):=by omega
 have hcp:=E.1.2.2.1;rw[E.gC,ae]at hcp;have j:=E.XO (lo:=0) (hi:=(dA 10 s).length-1) (bJ _) (by rw[ae];omega);simp only[zW,seval,E.gC,E.sl,ae,n,f,d.2.1,g,dz];generalize U:lC v 1 0 ((dA 10 s).length-1)=x at*;have p:∀k:Nat,(65536<(s.length:Int)\/200<(k:Int))->k=(dY s).length->(SV.v (.string ⟨#[101,114,114,111,114,32,50,10]⟩))=.v (.string ⟨(Ep A s).toArray⟩):=λk h hk=>by unfold Ep;rw[aF (by omega)]
 have hlx:lw=[]->eB x=(dY s).length:=λh=>by have :=j.gC;rw[this,a6,aT,ae];unfold dY;rw[j1 h,a6,aT]
 refine aaW (λF=>RowM M1 F 1 ((dY s).map dG)/\s.length<=65536/\(dY s).length<=200) x v ?_ (λh=>⟨?_,?_,?_,?_,λG=>?_⟩) (λh=>⟨?_,λG=>?_⟩) (aR ?_) (aR ?_) (λF⟨hv',hsl,hll⟩=>?_);·(first|exact eV (by omega) (by simp only[dB]at hvl;omega)|exact eV (by omega) (by omega))
 ·(first|exact eV (by omega) (by simp only[dB]at hvl;omega)|exact eV (by omega) (by omega))
 ·exact⟨by omega,by omega⟩
 ·exactλh=>⟨h,j.1.1⟩
 ·exactλh'=>p _ h' (hlx h)
 ·refine⟨?_,by omega,by have :=hlx h;omega⟩;have e:dY s=((dA 10 s).drop 0).take ((dA 10 s).length-1-0):=j1 h;rw[e,eH,fI];exact j
 ·exactλh'=>p _ h' (by rw[show dY s=dA 10 s from j2 h])
 ·have e:dY s=dA 10 s:=j2 h;rw[e];exact⟨E,by omega,by omega⟩
 ·exact⟨⟨⟨rfl,trivial⟩,trivial⟩,rfl⟩
 ·exact⟨⟨⟨rfl,trivial⟩,trivial⟩,rfl⟩
 clear U j hlx p j1 j2 d f g E;have hrs:Ep A s=uc A Ue (gY s):=by unfold Ep;rw[ai (by omega)]
 rw[hrs];refine Gz rfl rfl (new M1) rfl rfl λM2 hM2=>?_;simp only[zW,seval];refine⟨rfl,Wp 272 rfl λbt=>Tw 288 272 rfl rfl (fT (k:=288) rfl rfl λD M3 hM3 hbd=>Au (e:=5) rfl rfl rfl ⟨_,_,rfl,rfl,rfl⟩ λb M4 hM4 hb0 hB=>?_)⟩;simp only[zW,seval,uJ,uK,hdelk,hset];have hnl:eB F=(dY s).length:=by rw[hv'.gC,ae]
 rw[hnl];have hBb:BoxM M4 D [bT bt]:=hbd.le hM4;have V:D≠b:=λe=>by have H:=hbd 0 (bT bt) rfl;unfold jT at H;rw[e]at H;simp only[hb0]at H;cases H
 have hv4:RowM M4 F 1 ((dY s).map dG):=hv'.le (hM2.dC (hM3.dC hM4));clear hv' hbd;refine⟨hv4.1.1,?_⟩;refine bE (X:=Nat×TG×Tx×(ay×ay×ay×List WV)×Mem) (λx=>([(5,true,.v (bT D)),(6,true,.v (bT b)),(37,true,.v F),(38,true,.v (.int .i64 ((dY s).length:Int))),(39,true,.v (.int .i64 (x.1:Int)))],[(272,.box (fh x.2.1 x.2.2.2.1.1 x.2.2.2.1.2.1 x.2.2.2.1.2.2.1) (some (bT bt)))],x.2.2.2.2)) (λx=>((x.1<=(dY s).length/\x.2.2.1.length<=x.1*70000)/\TgM x.2.2.2.2 x.2.1 x.2.2.2.1.1 x.2.2.2.1.2.1 x.2.2.2.1.2.2.1 x.2.2.2.1.2.2.2/\TgR x.2.1)/\(BldC ⟨ab,73,w,M⟩ 52 5 b x.2.2.1 x.2.2.2.2/\RowM x.2.2.2.2 F 1 ((dY s).map dG)/\BoxM x.2.2.2.2 D [bT bt])/\uc A Ue (gY s)=x.2.2.1++uc A x.2.1 ((((dY s).drop x.1).map lh).filter uQ)) (λx=>(dY s).length-x.1) (0,Ue,[],(z0,z0,z0,[]),M4) ⟨⟨⟨bJ _,bJ _⟩,Oe M4,Fw⟩,⟨hB,hv4,hBb⟩,rfl⟩ (aR ?_) ?_;·simp only[zV,seval,aZ]
 rintro⟨k,T,o,⟨x1,x2,x3,wv⟩,M5⟩⟨⟨⟨k1,k2⟩,hTM,t⟩,⟨I,J,Y⟩,K⟩;simp only at k1 k2 hTM t I J Y K;by_cases hk:k<(dY s).length;rotate_left;·have d1:((k:Int)<((dY s).length:Int))=False:=ax (by omega);simp only[zW,seval,d1];refine sc Proofs.s4 Proofs.rn rfl rfl rfl rfl ⟨_,Uo,by kernel_rfl,by kernel_rfl⟩ I ?_;rw[bh (by omega)]at K;simp only[zW,seval,K,cr,List.filter_nil,uc,cS]
 have d1:((k:Int)<((dY s).length:Int))=True:=aK (by omega);obtain⟨l,hl⟩:∃l,(dY s)[k]?=some l:=⟨_,aP hk⟩;have hlm:l∈dY s:=aL hl;have hll2:=JX hlm;have hdr:(dY s).drop k=l::(dY s).drop (k+1):=by rw[ft hk];congr 1;rw[aP hk]at hl;exact d_ hl
 rw[hdr,ca,nH]at K;have d:=J.fG (i:=k) (e:=dG l) (by rw[aN,hl];rfl) (off:=0) (by omega);have f:xj M5 F 1 k 0=.string ⟨l.toArray⟩:=d.1;have g:=J.ix (i:=(k:Int)) (by omega) (by rw[ae];omega);simp only[zW,seval,d1,f,d.2.1,g,dz];refine jQ rfl rfl (FZ (hG.le I.le) (by omega)) (λr N⟨v,h,_⟩=>by subst h;rfl) λr M6 L⟨v2,hr2,O⟩=>?_;subst hr2;have y:eB v2=(dA 32 l).length:=by rw[O.gC,ae]
 have hl2:=DG (c:=32) l;simp only[zW,seval,y];refine⟨O.1.1,?_⟩;refine eI 9 75 1 rfl rfl rfl ?_;refine bE (X:=Nat×List Tx) (λx=>([(5,true,.v (bT D)),(6,true,.v (bT b)),(9,true,.own 600),(37,true,.v F),(38,true,.v (.int .i64 ((dY s).length:Int))),(39,true,.v (.int .i64 (k:Int))),(44,true,.v v2),(45,true,.v (.int .i64 ((dA 32 l).length:Int))),(46,true,.v (.int .i64 (x.1:Int)))],[(600,.row 1 (x.2.map dG)),(272,.box (fh T x1 x2 x3) (some (bT bt)))],M6)) (λx=>x.1<=(dA 32 l).length/\x.2.length<=x.1/\x.2=((dA 32 l).take x.1).filter QG) (λx=>(dA 32 l).length-x.1) (0,[]) ⟨bJ _,bJ _,rfl⟩ (aR ?_) ?_;·simp only[zV,seval,aZ,cr]
 rintro⟨i,Z⟩⟨i1,i2,i3⟩;simp only at i1 i2 i3;by_cases hi:i<(dA 32 l).length
 ·have d2:((i:Int)<((dA 32 l).length:Int))=True:=aK (by omega);obtain⟨x,U⟩:∃x,(dA 32 l)[i]?=some x:=⟨_,aP hi⟩;have d:=O.fG (i:=i) (e:=dG x) (by rw[aN,U];rfl) (off:=0) (by omega);have f:xj M6 v2 1 i 0=.string ⟨x.toArray⟩:=d.1;have g:=O.ix (i:=(i:Int)) (by omega) (by rw[ae];omega);have htk:(dA 32 l).take (i+1)=(dA 32 l).take i++[x]:=by rw[cm,U];rfl
  have P:((dA 32 l).take (i+1)).filter QG=Z++(if QG x=true then[x]else[]):=by rw[htk,G',<-i3,nH,List.filter_nil]
  by_cases H:x=[]
  ·have e0:(x=[])=True:=aK H;have w0:QG x=false:=by rw[H];rfl
   rw[w0]at P;simp only[zW,seval,d2,f,d.2.1,g,dz,e0,dr,not_true,dW,c_,bp,cZ];refine⟨eV (by omega) (by omega),(i+1,Z),⟨⟨by simp only;omega,by simp only;omega,?_⟩,by simp only;omega⟩,aR ?_⟩;·simp only[P,bp,cA,cS]
   ·simp only[zV,seval,aJ,cB]
  ·have e0:(x=[])=False:=ax H;have w0:QG x=true:=by cases x with|nil=>exact absurd rfl H|cons a r=>rfl
   rw[w0]at P;simp only[zW,seval,d2,f,d.2.1,g,dz,e0,gy,dr,dW,c_,bp,cZ];have e:Z.map dG++[[.string ⟨x.toArray⟩]]=(Z++[x]).map dG:=by rw[bq];rfl
   have hal:(Z.map dG).length=Z.length:=ae ..;rw[e,hal];refine⟨rfl,⟨by omega,by omega⟩,rfl,eV (by omega) (by omega),(i+1,Z++[x]),⟨⟨by simp only;omega,by simp only[aG,bG];omega,?_⟩,by simp only;omega⟩,?_⟩;·simp only[P,cR]
   ·refine i6 9 75 440 1 _ rfl rfl rfl rfl (aR ?_);simp only[zV,seval,aJ,cB]
 have d2:((i:Int)<((dA 32 l).length:Int))=False:=ax (by omega);have hac:Z=lh l:=by rw[i3,bz (by omega)];rfl
 subst hac;have hwl:∀w∈lh l,w.length<=70000:=λw hw=>by have :=JY hw;omega
 have hin:uQ (lh l)=true->lh l∈gY s:=λh=>BI.2 ⟨dq.2 ⟨l,hlm,rfl⟩,h⟩;generalize lh l=W at*;have hv6:RowM M6 F 1 ((dY s).map dG):=J.le L;have m:BoxM M6 D [bT bt]:=Y.le L;have hT6:=hTM.le L;have z:=I.X4 L;by_cases G:uQ W=true;rotate_left
 ·rw[ai G]at K;cases W with
   |nil=>simp only[zW,seval,d2,cr,bM,aZ,dr];refine⟨eV (by omega) (by omega),(k+1,T,o,(x1,x2,x3,wv),M6),⟨⟨⟨⟨by simp only;omega,b6 k2 (il _ (Nat.le_succ k))⟩,hT6,t⟩,⟨z,hv6,m⟩,K⟩,by simp only;omega⟩,aR ?_⟩;simp only[zV,seval,aJ,cB]
   |cons x r=>
    have U:x=[35]:=by have :=mj (Bool.eq_false_iff.2 G);exact kx this
    subst U;have hn:((((r.map dG).length+1:Nat):Int)=0)=False:=ax (by omega);have n:((0:Int)<(((r.map dG).length+1:Nat):Int))=True:=aK (by omega);have y:(0<(r.map dG).length+1)=True:=aK (by omega);simp only[zW,seval,d2,hn,n,y,dG,dr,dW,gy,c_,fL];refine⟨eV (by omega) (by omega),(k+1,T,o,(x1,x2,x3,wv),M6),⟨⟨⟨⟨by simp only;omega,b6 k2 (il _ (Nat.le_succ k))⟩,hT6,t⟩,⟨z,hv6,m⟩,K⟩,by simp only;omega⟩,aR ?_⟩;simp only[zV,seval,aJ,cB]
 rw[aF G]at K;cases W with
  |nil=>cases G
  |cons x r=>
   have U:x≠[35]:=aW G;have hn:((((r.map dG).length+1:Nat):Int)=0)=False:=ax (by omega);have n:((0:Int)<(((r.map dG).length+1:Nat):Int))=True:=aK (by omega);have y:(0<(r.map dG).length+1)=True:=aK (by omega);have ex:(x=[35])=False:=ax U;simp only[zW,seval,d2,hn,n,y,ex,dG,dr,dW,gy,c_,fL];refine iZ (k:=600) rfl λvw M7 Q hvw=>?_;have B:RowM M7 vw 1 ((x::r).map dG):=hvw;obtain⟨ad,nn,cc,rfl⟩:=TC B (by simp);have hG7:=(hG.le z.le).le Q;have hA7:=hA (x::r) (hin G) bt D _ M7 hG7 B (m.le Q) hwl;have hF7:=hF (x::r) (hin G);refine DE (X:=λ_ _ _=>False) 272 (bt:=bt) (R:=λs tc' N=>s=.v (.string ⟨(kG A T (x::r)).2.toArray⟩)/\∃b v rg ws,tc'=fh (kG A T (x::r)).1 b v rg/\TgM N (kG A T (x::r)).1 b v rg ws/\TgR (kG A T (x::r)).1) rfl rfl rfl rfl ((TB hG7 B (by simp) hA7 hF7 (hT6.le Q) t).Ij ?_ ?_) λs tc' M8 hM8⟨hs8,y1,y2,y3,wv',htc,hT8,hR8⟩=>?_;·rintro s H' N⟨rfl,b',F,rg',ws',rfl,h1,h2⟩;exact⟨rfl,_,rfl,rfl,rfl,_,_,_,_,rfl,h1,h2⟩
   ·exactλ_ _ _ h=>h
   subst hs8 htc;have hlen:=JZ (T:=T) hF7 t;generalize hq:kG A T (x::r)=q at*;obtain⟨T',u⟩:=q;simp only at hlen hT8 hR8;have S:=Q.dC hM8;have hou:(o++(u++[10])).length<=(k+1)*70000:=by simp only[aG,bG];have :(k+1)*70000=k*70000+70000:=Nat.succ_mul k 70000;omega
   have hks:k*70000<=14000000:=by
    have :k<=200:=by omega
    exact il 70000 this
   have hoo:uc A Ue (gY s)=(o++(u++[10]))++uc A T' ((((dY s).drop (k+1)).map lh).filter uQ):=by rw[K];show o++((kG A T (x::r)).2++10::uc A (kG A T (x::r)).1 _)=_;rw[hq];simp only[bN,gW,eX]
   have hul:bl ⟨u.toArray⟩=u:=rfl;simp only[zV,seval,im,iq,ir,nzs];refine wo Proofs.pE Proofs.oI rfl rfl rfl rfl ⟨_,AK,by kernel_rfl,by kernel_rfl⟩ (z.X4 S) (by show o.length+u.length<=_;omega) λM9 hB9 hK9=>?_;rw[hul]at hB9;have b8:=(z.X4 S).aaT;simp only[zW,seval];refine uT (c:=10) Proofs.xW Proofs.wq rfl rfl rfl rfl ⟨_,Ki,by kernel_rfl,by kernel_rfl⟩ hB9 (by rw[aG];omega) λM10 hB10 C=>?_;rw[bN]at hB10;have b9:=hB9.aaT;simp only[zW,seval];refine⟨eV (by omega) (by omega),(k+1,T',o++(u++[10]),(y1,y2,y3,wv'),M10),⟨⟨⟨⟨by simp only;omega,hou⟩,JV C b9 (JV hK9 b8 hT8),hR8⟩,⟨hB10,C.Ab b9 (hK9.Ab b8 (hv6.le S) 0 λx=>⟨_,rfl,rfl⟩) 0 λx=>⟨_,rfl,rfl⟩,C.box V (hK9.box V (m.le S) rfl) rfl⟩,hoo⟩,by simp only;omega⟩,aR ?_⟩;simp only[zV,seval,aJ,cB]
end Go.X.Dk
namespace Go.X.Dk
open Go Go.X Go.RowKit Go.X.Vo Go.X.Tg Go.X.Th
theorem L7(n:Nat):(10:UInt8)∉cF n:=λh=>by have :=MX (l7.1 (FR n) _ h);have e:(10:UInt8).toNat=10:=rfl;omega
theorem TD(l:List Nat):(10:UInt8)∉dL l:=λh=>by
 unfold dL yP at h;rcases bU.1 h with h|h;·exact absurd h (by decide)
 ·obtain⟨n,_,h⟩:=List.mem_flatMap.1 h;rcases aV.1 h with h|h;·exact absurd h (by decide)
  ·exact L7 n h
theorem DH(n:Nat):(10:UInt8)∉lO n:=λh=>by
 unfold lO at h;rcases bU.1 h with h|h;·exact absurd h (by decide)
 ·exact L7 n h
def NoF(F:TG->iP):Prop:=∀T,TgR T->(10:UInt8)∉(F T).2.2
def NoP(o:Option (Nat×(TG->iP))):Prop:=∀n F,o=some (n,F)->NoF F
theorem J0:NoP none:=λ_ _ h=>by cases h
theorem yE{n:Nat}{F:TG->iP}(h:NoF F):NoP (some (n,F)):=λ_ _ e=>by cases e;exact h
theorem TE{α:Type}{o:Option α}{f:α->Option (Nat×(TG->iP))}(h:∀a,NoP (f a)):NoP (o.bind f):=by cases o with|none=>exact J0|some a=>exact h a
theorem Zk:NoF Ju:=λT c h=>by
 obtain⟨f,d,_⟩:=lj c.st;have a:=gQ d;have h:(10:UInt8)∈dL _++T.1.2.flatMap pK:=h;rcases bU.1 h with h|h;·exact TD _ h
 ·obtain⟨v,e,h⟩:=List.mem_flatMap.1 h;obtain⟨_,b,_⟩:=a.2 v e;unfold pK at h;rcases bU.1 h with h|h
  ·rcases bU.1 h with h|h
   ·rcases bU.1 h with h|h;·exact absurd h (by decide)
    ·unfold Nm.uX at b;rw[ba]at b;exact absurd (l7.1 b.2 _ h) (by decide)
   ·exact absurd h (by decide)
  ·exact L7 _ h
theorem noA(ws:List Tx):NoP (gV ws):=by
 have a:(10:UInt8)∉yP:=by decide
 unfold gV vk Df nE iQ;repeat' split
 all_goals repeat'(refine TE λ_=>?_)
 all_goals first|exact J0|exact yE Zk|exact yE λ_ _=>TD _|exact yE λ_ _=>(Wo _).2|exact yE λ_ _=>a
theorem Zl{T:TG}(a:TgR T)(ws:List Tx):(10:UInt8)∉(kG gV T ws).2:=by
 unfold kG;cases h:gV ws with
  |none=>exact DH 12
  |some p=>
   have b:=noA ws _ _ h T a;simp only;split
   ·simp only;split;·exact b
    ·exact DH _
   ·exact DH 12
def RgP(o:Option (Nat×(TG->iP))):Prop:=∀n F,o=some (n,F)->∀T,TgR T->TgR (F T).1
theorem J1:RgP none:=λ_ _ h=>by cases h
theorem oZ{n:Nat}{F:TG->iP}(h:∀T,TgR T->TgR (F T).1):RgP (some (n,F)):=λ_ _ e=>by cases e;exact h
theorem TF{α:Type}{o:Option α}{f:α->Option (Nat×(TG->iP))}(h:∀a,RgP (f a)):RgP (o.bind f):=by cases o with|none=>exact J1|some a=>exact h a
theorem rgA(ws:List Tx):RgP (gV ws):=by
 unfold gV vk Df nE iQ;repeat' split
 all_goals repeat'(refine TF λ_=>?_)
 all_goals first|exact J1|exact oZ λ_ a=>a|exact oZ λ_ a=>vR a _ _|exact oZ λ_ a=>gU a λb=>zI b|exact oZ λ_ a=>gU a λb=>zJ b|exact oZ λ_ a=>gU a λb=>zK b|exact oZ λ_ a=>gU a λb=>zL b|exact oZ λ_ a=>gU a λb=>zM b|exact oZ λT _=>C' T _
theorem Pw{T:TG}(a:TgR T)(ws:List Tx):TgR (kG gV T ws).1:=by
 unfold kG;cases h:gV ws with
  |none=>exact a
  |some p=>
   simp only;split;·exact rgA ws _ _ h T a
   ·exact a
theorem J2:∀(l:List (List Tx))(T:TG),TgR T->(uc gV T l).length<=60001*l.length|[],_,_=>bJ _|a::l,T,b=>by have c:=JZ (okA a) b;have d:=J2 l _ (Pw b a);unfold uc;rw[aG,aM,aM];omega
theorem Xv{s:Tx}{M:Mem}(f:GlobM M)(g:s.length<4294967281):Meets ab 5 [.v (.string ⟨s.toArray⟩)] M λr _ _=>r=.v (.string ⟨(Ep gV s).toArray⟩):=aaX f g (λb c j k m N d e h i=>Zh d e h i (by have :=(BI.1 c).2;cases b with|nil=>cases this|cons a l=>simp)) (λb _=>okA b)
end Go.X.Dk
