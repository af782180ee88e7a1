/- Contracts of functions, and the logic in which they are proved. Conditions: none. -/
import Derived.Test.YthafjlokddpjfaaGreatDoorMa
import Derived.MapKept
import Derived.Laws.Externs
import Derived.Lib.Overlaps
import Derived.Laws.IdiomStrings
import Derived.Laws.RangeString
import Derived.Lib.OthersKept
import Derived.Lib.Split
import Derived.Lib.IndexMore
import Derived.Lib.ItoaNum
import Derived.Lib.AtoiAll
import Derived.WalkKit
import Derived.Shelf.Lays
import Derived.Shelf.LaysM
import Derived.Shelf.LaysC
import Derived.Shelf.Strconv.AtoiAll
import Derived.Shelf.Strconv.Itoa3
import Derived.Shelf.Strings.Split
import Derived.Shelf.Strings.Cut
import Derived.Shelf.Small.Strs
import Derived.Lib.Builder
import Derived.Shelf.Strings.Builder1
import Derived.KernelRfl
import Derived.Shelf.Strings.SlTrimAscii
set_option linter.all false
set_option maxHeartbeats 4000000
set_option maxRecDepth 20000
open And renaming intro->aa
open Array renaming ext'->j6,getElem?_append_left->mO,getElem?_eq_getElem->eC,getElem?_eq_some_iff->bV,getElem?_modify->gr,getElem?_setIfInBounds->Er,getElem?_toList->cu,length_toList->jE,size_append->Ew,toList_append->xu,toList_map->ud,toList_push->TP
open BitVec renaming ofInt->dR
open Bool renaming and_eq_true->ba,and_self->cK,and_true->yI,false_and->jI,false_eq_true->bp,false_or->T0,not_eq_true'->np,not_false->nQ,not_true->yH,true_and->fJ,true_eq_false->eT
open ByteArray renaming size->pc
open Classical renaming not_not->kv
open Decidable renaming decide->aU
open Go renaming Act->xp,Addr->qz,Code->lp,FuncId->kH,IntKind->jN,MapEntry->nh,Oper->db,Operand->bB,PanicEntry->Uf,Program->bZ,ResultVar->mh,TypeId->bL,Value->ay,World->bQ,asIntOf->Eu,bytesRow->q8,eqGuard->Es,execOp->da,grownCap->nt,heap_alloc_new->AL,madeCells->TO,maxLen->dB,resolve->PL,run_underlying->a8,typeInfo->Ad,zeroValue->wA
open Go.Addr renaming add->Ac,add_lit->mg,add_zero'->jZ
open Go.Builtin renaming append_->fC,clear_->DY,firstCells->L8,zeroCells->cU
open Go.Code renaming wp_mono->kq
open Go.Deferred renaming ofValue->yK
open Go.Ending renaming returned->uq
open Go.Extern.SlicesOverlaps renaming overlaps->nP
open Go.Instr renaming checkKey->oD,findAsking->BE,findNow->Hl,keyThatStays->PN,sameBits->G5
open Go.IntKind renaming i64->bX,u64->o5,u8->ig
open Go.Lib renaming IsBuilder->PC,alloc_old->Kh,atoiAll->kY,byteCells->eN,byteCells_length->iV,cell_of_heap->gI,countB->Hm,countFrom->Kg,cut->yR,decDigits->cF,decDigits_one->nu,index->qn,splitK->Ug,strCells->lR,trimS->DR
open Go.MapKept renaming heap_set->sK,run_getObj_map->iU,run_setObj_map->kX
open Go.Op renaming bytesLess->cd,equal->kI,equalIn->nO,maxDepth->Et
open Go.Oper renaming upon->sF,wp->oC
open Go.Proofs.Builder renaming Extra->gR
open Go.Proofs.Lays renaming n166->xh,n167->J7,n169->BH
open Go.Proofs.Tryz renaming f110->Kd,f134->Kj,f19->Mh,f193->Kn,f21->Mf,f273->Km,f31->Ma,f318->Kk,f319->Kl,f39->PX,f57->Mk,f62->L_,f66->Ml,f71->Me,func101->TX,func11->Kf,func111->PS,func116->Un,func13->AK,func134->G7,func15->Ki,func155->TY,func16->Uo,func17->jK,func18->DO,func190->J9,func29->A6,func39->PW,func57->DP,func63->wj,func66->DQ,func71->PT,func8->Mc,isAgg0->Oi,isAgg148->DZ,isAgg189->BG,isAgg3->xt,isAgg4->PR,isAgg5->tF,isAgg50->TR,isAgg9->tG,prog->ab,sizeOf0->J6,sizeOf148->A7,sizeOf189->Ah,sizeOf3->vm,sizeOf4->Mb,sizeOf5->qF,sizeOf50->PB,sizeOf9->qG,underlying0->yL,underlying103->Oj,underlying148->uf,underlying189->tH,underlying192->TS,underlying195->TT,underlying20->xg,underlying234->Ke,underlying235->TU,underlying3->jk,underlying316->TV,underlying317->TW,underlying319->DM,underlying321->DN,underlying4->pU,underlying5->l8,underlying50->Ez,underlying54->DL,underlying58->D0,underlying9->gX,zeroValue0->AJ,zeroValue148->v8,zeroValue189->ur,zeroValue192->Ui,zeroValue195->Uj,zeroValue234->Uk,zeroValue3->dJ,zeroValue316->Ul,zeroValue317->Um,zeroValue4->BF,zeroValue5->mP,zeroValue50->G6,zeroValue9->mQ
open Go.Question renaming forced->PQ
open Go.Region renaming lexTailB->DK
open Go.Result renaming andThen_ok->aQ
open Go.RowKit renaming Below->um
open Go.RowKit.Below renaming heap_setCell->rI,refl->dQ
open Go.Sem renaming run_bind'->my,run_bind->a7,run_pure->bC
open Go.Shelf renaming Ren->lH
open Go.Sort renaming grow->qo
open Go.Value renaming int->cz,oneCell'->iR,ownBlock->dZ,string->iF
open Go.World renaming cell?->qv,setCell->px,setRow->v7
open Int renaming add_sub_cancel->Uq,cast_ofNat_Int->dI,natCast_add->aJ,natCast_one->cB,natCast_zero->aZ,reduceAdd->aq,reduceEq->aB,reduceLE->aE,reduceLT->aD,reduceMul->au,reduceNe->aC,reduceNeg->av,reducePow->gL,reduceSub->ar,reduceToNat->ah,toNat_natCast->aX,toNat_of_nonneg->pv
open List renaming all_cons->xf,all_eq_true->l7,append_assoc->bN,append_nil->cS,cons_append->gW,count_append->mC,count_eq_zero_of_not_mem->D3,drop->nc,drop_drop->l6,drop_eq_getElem_cons->ft,drop_eq_nil_of_le->bh,drop_of_length_le->TQ,drop_zero->cQ,eq_nil_of_length_eq_zero->lB,ext_getElem?->gA,filterMap_cons->bK,filterMap_nil->eu,filter_cons_of_pos->Uh,flatMap_append->iv,flatMap_cons->lq,flatMap_nil->oE,flatten_append->j4,foldl_cons->lf,foldl_nil->Mg,getD_cons_succ->bA,getD_cons_zero->a_,getD_eq_getElem?_getD->cN,getElem?_append_left->cW,getElem?_cons_succ->Ae,getElem?_cons_zero->dS,getElem?_drop->fx,getElem?_eq_getElem->aP,getElem?_eq_none->dm,getElem?_eq_some_iff->aI,getElem?_map->aN,getElem?_range->A4,getElem?_set->nr,getElem?_take->i_,getElem?_toArray->dH,getLast?_eq_getElem?->Hn,getLast?_nil->Ur,isPrefixOf->Ey,length->dU,length_append->aG,length_cons->aM,length_drop->aT,length_eq_zero_iff->e_,length_flatten->Ag,length_map->ae,length_nil->bM,length_singleton->bG,length_take->a6,map_append->bq,map_cons->ca,map_map->jB,map_nil->cr,map_set->oB,map_take->eH,mem_append->bU,mem_cons->aV,mem_cons_self->bn,mem_filterMap->bH,mem_flatten->rH,mem_map->dq,mem_of_getElem?->aL,mem_of_mem_drop->cG,mem_of_mem_take->cq,mem_singleton->bD,nil_append->eX,nodup_cons->gK,nodup_nil->kM,not_mem_nil->cH,range->sE,replicate->bg,size_toArray->dh,take->fH,take_add_one->cm,take_append_drop->iT,take_append_of_le_length->jC,take_length->sH,take_of_length_le->bz,take_zero->fE,toArray_eq_iff->rO
open List.cons renaming inj->J4,injEq->A3
open Nat renaming add_zero->eJ,div_eq_of_lt->Up,div_eq_of_lt_le->rM,div_le_self->v_,le_of_lt->vo,le_refl->bc,le_trans->b6,lt_or_ge->bR,min->qC,min_eq_left->cT,mod_lt->Af,mul_comm->o8,mul_div_cancel_left->PU,mul_le_mul->Mj,mul_le_mul_right->il,pow_le_pow_right->ew,pow_succ->eK,pow_zero->tV,reduceAdd->aj,reduceBEq->aw,reduceDiv->al,reduceEqDiff->af,reduceLT->aA,reduceLeDiff->ag,reduceMul->ak,strongRecOn->Hk,sub_zero->iS,testBit_and->J8,testBit_eq_decide_div_mod_eq->PV,testBit_mod_two_pow->Mi,testBit_two_pow->rN,testBit_xor->FA,two_pow_pos->lI,xor_assoc->kN,xor_comm->jL,xor_div_two_pow->TZ,xor_lt_two_pow->TL,xor_mod_two_eq_one->Ol,xor_self->yM,xor_zero->nG,zero_add->b7,zero_le->bJ,zero_mul->o7,zero_xor->jD
open Option renaming getD_some->dn,isNone_none->qD,isNone_some->qE,isSome_none->nk,isSome_some->nj,map_eq_some_iff->dy,map_some->cJ,toList_some->PD
open Option.some renaming inj->d_,injEq->aO
open Prod.mk renaming injEq->cD
open UInt8 renaming lt_iff_toNat_lt->j5,ofNat->bo,ofNat_toNat->jm,toNat_inj->rJ,toNat_lt->gu
namespace Go.X
open Go Go.RowKit
def enumK:Nat->List PO->HS|_,[]=>[]|k,p::r=>(k,p)::enumK (k+1) r
def heldL(H:HS):List Nat->List PO->Prop|[],[]=>True|k::a,p::b=>hget H k=some p/\heldL H a b|_,_=>False
def ksv(ks:List Nat):Nat->SV:=λi=>.own (ks.getD i 0)
def kd(d:Nat):Nat->SV:=λi=>.own (d+i)
def HY(ν ν':Nat->ay):List PO->List PO->Prop|[],[]=>True|p::a,q::b=>(∀w x,p.jJ ν w x->q.jJ ν' w x)/\HY ν ν' a b|_,_=>False
def Qz(f a:Nat->SV)(ν ν':Nat->ay):Prop:=∀i,i<8->(f i).cL ν=(a i).cL ν'
def aa5{α:Type}(P:α->(Nat->SV)->List PO):Prop:=∀x f a ν u,Qz f a ν u->HY ν u (P x f) (P x a)
def aa6{α:Type}(T:α->(Nat->SV)->SV):Prop:=∀x f a ν u,Qz f a ν u->(T x f).cL ν=(T x a).cL u
def ZQ{α:Type}(T:α->(Nat->SV)->SV)(P:α->(Nat->SV)->List PO)(Φ:α->Mem->Prop):RP:=λr H M=>∃x a,r=T x (ksv a)/\(a.Nodup/\a.length<=8)/\heldL H a (P x (ksv a))/\Φ x M
def sigConcA:List Nat->dp->dp|_,[]=>[]|D,(j,g,s)::σ=>bif memN j D then sigConcA D σ else bif s.conc then(j,g,s)::sigConcA D σ else sigConcA (j::D) σ
def sigConc(σ:dp):dp:=sigConcA [] σ
section
variable{E:Env}{σ:dp}{H:HS}{M:Mem}{a:xp}{w:bQ}{ν:Nat->ay}{K:KP}{o:db}
theorem qP:∀{σ:dp}{D:List Nat}{k:Nat}{p:Bool×SV},lk (sigConcA D σ) k=some p->memN k D=false/\lk σ k=some p/\p.2.conc=true
 |[],D,k,p,h=>by simp[sigConcA,lk]at h
 |(j,g,s)::σ,D,k,p,h=>by
  simp only[sigConcA]at h;cases d:memN j D with
   |true=>rw[d,dM]at h;obtain⟨a,b,c⟩:=qP h;refine⟨a,?_,c⟩;simp only[lk];rw[ai (λe=>by rw[e,d]at a;cases a)];exact b
   |false=>
    rw[d,ln]at h;cases f:s.conc with
     |true=>
      rw[f,dM]at h;simp only[lk]at h;split at h;·rename_i e;subst e;simp only[aO]at h;subst h;exact⟨d,by simp[lk],f⟩
      ·rename_i e;obtain⟨a,b,c⟩:=qP h;exact⟨a,by simp only[lk];rw[ai e];exact b,c⟩
     |false=>
      rw[f,ln]at h;obtain⟨a,b,c⟩:=qP h;simp only[memN]at a;split at a;·cases a
      ·rename_i e;exact⟨a,by simp only[lk];rw[ai e];exact b,c⟩
theorem Slots.ZR{N:Nat}{ν':Nat->ay}(b:Slots N ν σ a):Slots N ν' (sigConc σ) a:=⟨b.1,b.2.1,λk g s c=>by obtain⟨_,d,e⟩:=qP c;rw[b.2.2 k g s d,fz s e]⟩
theorem y5:∀{ks:List Nat}{ps:List PO}{k:Nat},heldL H ks ps->k∈ks->∃p,hget H k=some p
 |[],[],k,_,a=>by cases a
 |j::ks,p::ps,k,h,a=>by
  rcases aV.1 a with rfl|a;·exact⟨p,h.1⟩
  ·exact y5 h.2 a
theorem y6:∀{ks:List Nat}{ps:List PO},heldL H ks ps->ks.length=ps.length|[],[],_=>rfl|j::ks,p::ps,h=>by simp only[aM,y6 h.2]
theorem y7{ν ν':Nat->ay}:∀{ps qs:List PO},HY ν ν' ps qs->ps.length=qs.length|[],[],_=>rfl|p::ps,q::qs,h=>by simp only[aM,y7 h.2]
theorem Cb(i:Heap E ν H M w):∀{ks:List Nat}{ps:List PO},heldL H ks ps->ks.Nodup->(ks.filterMap λk=>ee (ν k)).Nodup
 |[],_,_,_=>by simp
 |k::ks,p::ps,h,l=>by
  obtain⟨c,d⟩:=gK.1 l;have j:=Cb i h.2 d;rw[bK];split;·exact j
  ·rename_i b m;refine gK.2 ⟨λn=>?_,j⟩;obtain⟨o,a,f⟩:=bH.1 n;obtain⟨q,g⟩:=y5 h.2 a;exact uz i h.1 m _ (bP g) (λe=>c (e▸a)) f
theorem Cc{ν ν2:Nat->ay}:∀{ks:List Nat}{qs:List PO}{base:Nat},ks.length=qs.length->(∀i,i<ks.length->ν2 (base+i)=ν (ks.getD i 0))->fp ν2 (enumK base qs)=ks.filterMap λk=>ee (ν k)|[],[],_,_,_=>rfl|k::ks,q::qs,base,c,h=>by have a:=h 0 (by simp);simp only[eJ,a_]at a;have b:=Cc (ν:=ν) (ν2:=ν2) (ks:=ks) (qs:=qs) (base:=base+1) (by simpa using c) (λi d=>by have :=h (i+1) (by simp;omega);rw[bA]at this;rw[<-this];congr 1;omega);simp only[enumK,fp,bK,a]at b⊢;rw[b]
theorem EM:∀{qs:List PO}{base:Nat}{r:Nat×PO},r∈enumK base qs->∃i,qs[i]?=some r.2/\r.1=base+i|q::qs,base,r,h=>by
                                                                                             simp only[enumK]at h;rcases aV.1 h with rfl|h;·exact⟨0,rfl,rfl⟩
                                                                                             ·obtain⟨i,a,b⟩:=EM h;exact⟨i+1,by simpa using a,by omega⟩
theorem HZ{ν ν':Nat->ay}:∀{ps qs:List PO}{i:Nat}{q:PO},HY ν ν' ps qs->qs[i]?=some q->∃p,ps[i]?=some p/\∀w x,p.jJ ν w x->q.jJ ν' w x|p::ps,b::qs,0,q,h,a=>by simp only[dS,aO]at a;subst a;exact⟨p,rfl,h.1⟩|p::ps,b::qs,i+1,q,h,a=>by simp only[Ae]at a;obtain⟨c,d,e⟩:=HZ h.2 a;exact⟨c,by simpa using d,e⟩|[],[],i,q,_,a=>by simp at a
theorem H0:∀{ks:List Nat}{ps:List PO}{i:Nat}{p:PO},heldL H ks ps->ps[i]?=some p->hget H (ks.getD i 0)=some p|k::ks,b::ps,0,p,h,a=>by simp only[dS,aO]at a;subst a;exact h.1|k::ks,b::ps,i+1,p,h,a=>by simp only[Ae]at a;rw[bA];exact H0 h.2 a|[],[],i,p,_,a=>by simp at a
theorem Heap.aa7{N:Nat}(c:Heap E ν H M w){ks:List Nat}{ps qs:List PO}(s:ks.Nodup)(e:heldL H ks ps){ν2:Nat->ay}(m:HY ν ν2 ps qs){base:Nat}(d:∀i,i<ks.length->ν2 (base+i)=ν (ks.getD i 0))(t:∀k,(ν2 k).oneCell'=true):Heap ⟨E.P,N,E.w0,E.M0⟩ ν2 (enumK base qs) M w:=by
 have a:ks.length=qs.length:=(y6 e).trans (y7 m);have n:=Cc (ν:=ν) (ν2:=ν2) (base:=base) a d;refine⟨λr u=>?_,by rw[n];exact Cb c e s,λb o=>?_,c.mem,c.below,c.le0,c.fresh,t⟩
 ·obtain⟨i,q,v⟩:=EM u;obtain⟨p,f,g⟩:=HZ m q;have j:i<ks.length:=by rw[a];exact(aI.1 q).1
  have :=c.holds _ (bP (H0 e f));rw[v,d i j];exact g _ _ this
 ·rw[n]at o;obtain⟨k,x,l⟩:=bH.1 o;obtain⟨p,f⟩:=y5 e x;exact c.apart b (bH.2 ⟨_,bP f,l⟩)
theorem KS{f d:Nat}{l:List SV}{α:Type}{T:α->(Nat->SV)->SV}{P:α->(Nat->SV)->List PO}{Φ:α->Mem->Prop}(U:aa6 T)(V:aa5 P)(W:SV.concs l=true)(X:aU (d<E.N)=true)(h:Meets E.P f l M (ZQ T P Φ))(Q:hNoKey d (hdel d H)=true)(Y:∀x L,M.le L->Φ x L->K ((d,true,T x (kd (8*d)))::sigDrop d σ) (enumK (8*d) (P x (kd (8*d)))++hdel d H) L):CallK E f l d K σ H M:=by
 intro ν a w Z C;refine .inl ⟨h.1,?_⟩;rw[cl (ν:=vu) (ν':=ν) l W];refine(h.2 w C.mem).mono ?_;rintro e w'⟨s,H',L,ν',rfl,u,x,G,rfl,⟨O,hkl⟩,o,hp⟩;let ν2:Nat->ay:=λj=>if j/8=d then ν' (G.getD (j%8) 0)else ν j;have v:∀j,j/8≠d->ν2 j=ν j:=λj I=>by simp[ν2,I]
 have p:∀i,i<8->ν2 (8*d+i)=ν' (G.getD i 0):=λi J=>by
  have e1:(8*d+i)/8=d:=by omega
  have e2:(8*d+i)%8=i:=by omega
  simp only[ν2,e1,cR,e2]
 have r:Qz (ksv G) (kd (8*d)) ν' ν2:=λi J=>by simp only[ksv,kd,SV.cL,p i J]
 have y:∀k,(ν2 k).oneCell'=true:=λj=>by
  by_cases I:j/8=d;·simp only[ν2,I,cR];exact u.one _
  ·simp only[ν2,I,cA];exact C.one j
 have D:=V x _ _ _ _ r;have m:=u.aa7 (N:=0) O o D (base:=8*d) (λi J=>p i (by omega)) y;have g:=(C.D_ u).gB (fR d H);have F:G.length=(P x (kd (8*d))).length:=(y6 o).trans (y7 D);have hf:=Cc (ν:=ν') (ν2:=ν2) (base:=8*d) F (λi J=>p i (by omega));have A:fp ν2 (hdel d H)=fp ν (hdel d H):=BW v Q;have z:fp ν2 (enumK (8*d) (P x (kd (8*d)))++hdel d H)=fp ν2 (enumK (8*d) (P x (kd (8*d))))++fp ν2 (hdel d H):=by simp only[fp,List.filterMap_append]
 have t:∀b∈fp ν2 (enumK (8*d) (P x (kd (8*d)))),L b=none/\w.heap.size<=b:=λb n=>m.apart b n;refine⟨_,rfl,_,_,_,⟨ν2,(Z.wF v).ml (aW X) (by rw[dM];exact U x _ _ _ _ r),?_⟩,Y x L u.le0 hp⟩;refine⟨λq B=>?_,?_,λb n=>?_,g.mem,g.below,g.le0,g.fresh,y⟩
 ·rcases bU.1 B with B|B;·exact m.holds q B
  ·obtain⟨R,h3⟩:=wD Q q B;rw[v q.1 R];exact pZ v h3 (g.holds q B)
 ·rw[z];refine List.nodup_append.2 ⟨m.nodup,by rw[A];exact g.nodup,λb n c S e=>?_⟩;subst e;rw[A]at S;have h1:=(t b n).2;have R:=(C.gB (fR d H)).qL S;omega
 ·rw[z]at n;rcases bU.1 n with n|n;·exact⟨(t b n).1,b6 C.below.size (t b n).2⟩
  ·rw[A]at n;exact g.apart b n
def MeetsH(P:bZ)(f:kH)(args:List SV)(H:HS)(M:Mem)(R:RP):Prop:=jr P f/\∀(b:bQ)(c:Mem)(ν:Nat->ay)(w:bQ),Heap ⟨P,0,b,c⟩ ν H M w->Calls P f (aS ν args).toArray w λe W=>∃s G N u,e=.returned (s.cL u)/\Heap ⟨P,0,b,c⟩ u G N W/\R s G N
theorem fS{P:bZ}{f:kH}{d:Func}{c:lp}{args:List SV}{R:RP}(live:List Nat)(t:P.funcs[f]?=some d)(A:d.body=some c)(p:wG d args.length=true)(h:∀w n,ui ⟨P,d.ntmps,w,n⟩ live c (yY P d.results.toList R) (params d.ntmps 0 args) H M):MeetsH P f args H M R:=by
 simp only[wG,ba,np,br]at p;refine⟨⟨d,t,p.1.1,p.1.2⟩,λq n ν w b=>?_⟩;refine calls_of_wp t A ?_;have j:(aS ν args).length=args.length:=by rw[cC];simp
 have m:Heap ⟨P,d.ntmps,q,n⟩ ν H M w:=⟨b.holds,b.nodup,b.apart,b.mem,b.below,b.le0,b.fresh,b.one⟩;refine kq ?_ (iY c _ _ _ _ (h q n) _ w ⟨ν,⟨?_,rfl,?_⟩,m⟩)
 ·rintro e a u⟨σ,H,N,⟨ν,x,b⟩,l⟩;have o:(match p4 P σ H N d.results.toList with|some (y,C)=>C/\R (one? y) H N|none=>False)->a.defers=[]/\∃v,(results d a.tmps).run P u=.ok v u/\∃s G N ν,uq v=.returned (s.cL ν)/\Heap ⟨P,0,q,n⟩ ν G N u/\R s G N:=by
   intro l;split at l;·rename_i y C B;exact⟨x.2.1,_,j9 x b B l.1,_,_,_,ν,rfl,⟨b.holds,b.nodup,b.apart,b.mem,b.below,b.le0,b.fresh,b.one⟩,l.2⟩
   ·exact l.elim
  cases e with|normal=>exact o l|ret=>exact o l|_=>exact l.elim
 ·simp only[Ew,dh,Array.size_replicate,j];omega
 ·intro k g s D;obtain⟨i,rfl,z,r⟩:=mW D;simp only at z r;subst z;have E:i<args.length:=(aI.1 r).1;rw[mO (by simp only[dh,j];omega),dH,cC,aN,b7,r];rfl
theorem vA{k k2:Nat}{v:ay}{p:PO}(a:k≠k2):∀{H:HS},hget H k=some p->hget (hpub k2 v H) k=some (poPub k2 v p)
 |[],h=>by simp[hget]at h
 |(j,q)::H,h=>by
  simp only[hget]at h;simp only[hpub];split at h;·rename_i e;subst e;rw[ai a];simp only[aO]at h;subst h;simp only[hget,cR]
  ·rename_i e;split;·exact vA a h
   ·simp only[hget,ai e];exact vA a h
theorem df{k:Nat}{cs:List SV}{t:Option ay}(a:hget H k=some (.box cs t)):HEnt E H M (hset k (.box cs none) H):=Qy a λν w h=>⟨h.1,λv b=>by cases b⟩
theorem lU{id:Nat}{ops:Array db}{X:Type}(I:X->Prop)(S:X->dp×HS×Mem)(h:DrawK E id ops (λσ H M=>∃x,I x/\Ent E σ H M (S x)) σ H M)(c:∀x,I x->K (S x).1 (S x).2.1 (S x).2.2):DrawK E id ops K σ H M:=by intro a w d;refine kq ?_ (h a w d);rintro e f u⟨rfl,t,G,N,b,x,g,i⟩;exact⟨rfl,_,_,_,i f u b,c x g⟩
/-!### publishing a box -/
def BoxM(M:Mem)(b:Nat)(cs:List ay):Prop:=∀j c,cs[j]?=some c->jT M ⟨b,j,none⟩=some c
theorem BoxM.le{M N:Mem}{b:Nat}{cs:List ay}(h:BoxM M b cs)(a:M.le N):BoxM N b cs:=λj c d=>BJ a (h j c d)
theorem BoxM.at{M:Mem}{b:Nat}{cs:List ay}(h:BoxM M b cs){j:Nat}{c:ay}(a:cs[j]?=some c):Xy M ⟨b,0,none⟩ j=c/\Xz M ⟨b,0,none⟩ j:=by
 have e:(⟨b,0,none⟩:qz).add j=⟨b,j,none⟩:=by unfold Ac;split<;>simp_all
 have :=h j c a;unfold Xy Xz;rw[e,this];exact⟨rfl,rfl⟩
mutual
def SV.p6(k b:Nat):SV->SV|.v x=>.v x|.own j=>if j=k then .v (.pointer (some ⟨b,0,none⟩))else .own j|.ptr j e i d=>if j=k then .v (.pointer (some ⟨b,i*e+d,none⟩))else .ptr j e i d|.ea x a b c=>.ea x a b c|.agg l=>.agg (SV.uI k b l)|.tup l=>.tup (SV.uI k b l)|.fn f l=>.fn f (SV.uI k b l)
def SV.uI(k b:Nat):List SV->List SV|[]=>[]|s::l=>SV.p6 k b s::SV.uI k b l
end
mutual
theorem Ap{ν:Nat->ay}{k b:Nat}(h:ν k=.pointer (some ⟨b,0,none⟩)):∀s:SV,(s.p6 k b).cL ν=s.cL ν
 |.v _=>rfl
 |.own j=>by
  simp only[SV.p6];split;·rename_i e;subst e;simp only[SV.cL,h]
  ·rfl
 |.ptr j _ _ _=>by
  simp only[SV.p6];split;·rename_i e;subst e;simp only[SV.cL,h,KD]
  ·rfl
 |.ea _ _ _ _=>rfl
 |.agg l=>by simp only[SV.p6,SV.cL,mq h l]
 |.tup l=>by simp only[SV.p6,SV.cL,mq h l]
 |.fn _ l=>by simp only[SV.p6,SV.cL,mq h l]
theorem mq{ν:Nat->ay}{k b:Nat}(h:ν k=.pointer (some ⟨b,0,none⟩)):∀l:List SV,aS ν (SV.uI k b l)=aS ν l|[]=>rfl|s::l=>by simp only[SV.uI,aS,Ap h s,mq h l]
end
def sigPubP(k b:Nat):dp->dp|[]=>[]|(j,g,s)::σ=>(j,g,s.p6 k b)::sigPubP k b σ
theorem MK{k b:Nat}:∀{σ:dp}{j:Nat}{g:Bool}{s:SV},lk (sigPubP k b σ) j=some (g,s)->∃a,s=a.p6 k b/\lk σ j=some (g,a)
 |[],j,g,s,h=>by simp[sigPubP,lk]at h
 |(d,f,c)::σ,j,g,s,h=>by
  simp only[sigPubP,lk]at h;simp only[lk];split at h;·rename_i e;rw[aF e];simp only[aO,cD]at h;obtain⟨rfl,rfl⟩:=h;exact⟨c,rfl,rfl⟩
  ·rename_i e;rw[ai e];exact MK h
theorem Cd{N k b:Nat}(h:ν k=.pointer (some ⟨b,0,none⟩))(c:Slots N ν σ a):Slots N ν (sigPubP k b σ) a:=⟨c.1,c.2.1,λj g s d=>by obtain⟨e,rfl,f⟩:=MK d;rw[c.2.2 j g e f,Ap h]⟩
theorem EN{k:Nat}{cs:List SV}{t:Option ay}(d:Heap E ν H M w)(m:hget H k=some (.box cs t))(a:SV.concs cs=true):∃b N,ν k=.pointer (some ⟨b,0,none⟩)/\M.le N/\BoxM N b (aS vu cs)/\Heap E ν (hdelk k H) N w:=by
 obtain⟨⟨b,T,f,s⟩,_⟩:=d.holds _ (bP m);simp only at f;have g:ee (ν k)=some b:=by rw[f];rfl
 obtain⟨n,p⟩:=d.apart b (bH.2 ⟨(k,_),bP m,g⟩);let N:Mem:=λc=>if c=b then some (.cells (aS ν cs).toArray T (0,0))else M c;have i:N b=some (.cells (aS ν cs).toArray T (0,0)):=by simp[N]
 have l:M.le N:=λc o a=>by simp only[N];rw[ai (λe=>by rw[e,n]at a;cases a)];exact a
 have q:=d.gB (fq k H);refine⟨b,N,f,l,λj c u=>?_,q.holds,q.nodup,λc a=>?_,λc o a=>?_,d.below,d.le0.dC l,λc a=>?_,d.one⟩;·simp only[jT,i];simp only[nk,bp,cA,dH];rw[cl (ν:=vu) (ν':=ν) cs a];exact u
 ·have r:c≠b:=by rintro rfl;exact kz d m g 0 _ (fq k H) (jo k H) a
  simp only[N,ai r];exact q.apart c a
 ·simp only[N]at a;split at a;·rename_i e;subst e;simp only[aO]at a;subst a;exact s
  ·exact d.mem c o a
 ·simp only[N]at a;split at a;·rename_i e;subst e;exact .inr p
  ·exact d.fresh c a
theorem nY{f d k:Nat}{l:List SV}{cs:List SV}{t:Option ay}(e:hget H k=some (.box cs t))(g:SV.concs cs=true)(h:∀b N,M.le N->BoxM N b (aS vu cs)->CallK E f (SV.uI k b l) d K (sigPubP k b σ) (hdelk k H) N):CallK E f l d K σ H M:=by intro ν a w i j;obtain⟨b,N,c,m,n,o⟩:=EN j e g;have :=h b N m n ν a w (Cd c i) o;rw[mq c]at this;exact this
theorem fT{k:Nat}{cs:List SV}{t:Option ay}(d:hget H k=some (.box cs t))(e:SV.concs cs=true)(h:∀b N,M.le N->BoxM N b (aS vu cs)->OpK E o K (sigPubP k b σ) (hdelk k H) N):OpK E o K σ H M:=by rintro a w⟨ν,f,g⟩;obtain⟨b,N,c,i,j,l⟩:=EN g d e;exact h b N i j a w ⟨ν,Cd c f,l⟩
end
theorem uJ:type_of%(aa (aa (aa @enumK.eq_1 @enumK.eq_2) (aa @kd.eq_1 @ksv.eq_1)) (aa (aa (aa @sigConcA.eq_1 @sigConcA.eq_2) (aa @sigConc.eq_1 @heldL.eq_1)) (aa @heldL.eq_2 @sigPubP.eq_1))):=aa (aa (aa @enumK.eq_1 @enumK.eq_2) (aa @kd.eq_1 @ksv.eq_1)) (aa (aa (aa @sigConcA.eq_1 @sigConcA.eq_2) (aa @sigConc.eq_1 @heldL.eq_1)) (aa @heldL.eq_2 @sigPubP.eq_1))
theorem uK:type_of%(aa (aa (aa @sigPubP.eq_2 @SV.p6.eq_1) (aa @SV.p6.eq_2 @SV.p6.eq_3)) (aa (aa (aa @SV.p6.eq_4 @SV.p6.eq_5) (aa @SV.p6.eq_6 @SV.p6.eq_7)) (aa @SV.uI.eq_1 @SV.uI.eq_2))):=aa (aa (aa @sigPubP.eq_2 @SV.p6.eq_1) (aa @SV.p6.eq_2 @SV.p6.eq_3)) (aa (aa (aa @SV.p6.eq_4 @SV.p6.eq_5) (aa @SV.p6.eq_6 @SV.p6.eq_7)) (aa @SV.uI.eq_1 @SV.uI.eq_2))
end Go.X
namespace Go.X
open Go Go.RowKit
section
variable{E:Env}{σ:dp}{H:HS}{M:Mem}{a:xp}{w:bQ}{ν:Nat->ay}{K:KP}{o:db}
theorem Heap.ML{k:Nat}{p q:PO}(a:Heap E ν H M w)(e:hget H k=some p)(h:p.jJ ν w (ν k)->q.jJ ν w (ν k)):Heap E ν (hset k q H) M w:=by
 refine⟨λr c=>?_,by rw[qM];exact a.nodup,λb d=>a.apart b (by rw[qM]at d;exact d),a.mem,a.below,a.le0,a.fresh,a.one⟩;rcases BX c with rfl|c;·exact h (a.holds _ (bP e))
 ·exact a.holds _ c
abbrev bT(b:Nat):ay:=.pointer (some ⟨b,0,none⟩)
theorem OH{f d:Nat}{l:List SV}(k:Nat){cs:List SV}{t:Option ay}(e:hget H k=some (.box cs t))(h:∀b,CallK E f l d K σ (hset k (.box cs (some (bT b))) H) M):CallK E f l d K σ H M:=by intro ν a w i g;obtain⟨⟨b,T,c,n⟩,o⟩:=g.holds _ (bP e);simp only at c;exact h b ν a w i (g.ML e λj=>⟨j.1,λv m=>by cases m;exact c⟩)
end
theorem BoxM.H6{M:Mem}{b:Nat}{cs:List ay}(h:BoxM M b cs){j:Nat}{c:ay}(a:cs[j]?=some c):Xy M ((⟨b,0,none⟩:qz).add j) 0=c/\Xz M ((⟨b,0,none⟩:qz).add j) 0:=by have :=h.at a;unfold Xy Xz at this⊢;rw[Addr.add_add,eJ];exact this
theorem sigConcA_if(D:List Nat)(j:Nat)(g:Bool)(s:SV)(σ:dp):sigConcA D ((j,g,s)::σ)=if memN j D=true then sigConcA D σ else if s.conc=true then(j,g,s)::sigConcA D σ else sigConcA (j::D) σ:=by simp only[sigConcA];cases memN j D<;>cases s.conc<;>rfl
theorem shB:type_of%(aa (aa @sigConc.eq_1 (aa @sigConcA.eq_1 @sigConcA_if)) (aa (aa @enumK.eq_1 @enumK.eq_2) (aa @kd.eq_1 @ksv.eq_1))):=aa (aa @sigConc.eq_1 (aa @sigConcA.eq_1 @sigConcA_if)) (aa (aa @enumK.eq_1 @enumK.eq_2) (aa @kd.eq_1 @ksv.eq_1))
end Go.X
namespace Go.X
open Go Go.RowKit
def nJ{α:Type}[DecidableEq α](a:α):List (α×ay)->Nat->Option (Nat×ay)|[],_=>none|p::l,i=>if a=p.1 then some (i,p.2)else nJ a l (i+1)
def jt{α:Type}(enc:α->ay)(l:List (α×ay)):List (ay×ay):=l.map λp=>(enc p.1,p.2)
structure KeyT(P:bZ)(kt:bL){α:Type}[DecidableEq α](enc:α->ay):Prop where
 known:∃d,P.underlying kt=some d
 check:∀e w a,(oD e 10000 kt (enc a)).run P w=.ok () w
 eq:∀w a b,(kI kt (enc a) (enc b)).run P w=.ok (aU (a=b)) w
 now:∀d a b,P.underlying kt=some d->Instr.sameNow d (enc a) (enc b)=some (aU (a=b))\/Instr.sameNow d (enc a) (enc b)=none
 same:∀a,G5 10000 (enc a) (enc a)=true
section
variable{P:bZ}{kt:bL}{α:Type}[DecidableEq α]{enc:α->ay}
theorem KeyT.Ce(K:KeyT P kt enc)(w:bQ)(a:α):∀(l:List (α×ay))(es:List nh)(i:Nat),es.map (λe=>(e.key,e.val))=jt enc l->(BE kt (enc a) es i).run P w=.ok (nJ a l i) w
 |[],[],i,_=>by simp[BE,nJ]
 |[],_::_,i,h=>by simp[jt]at h
 |_::_,[],i,h=>by simp[jt]at h
 |p::l,e::es,i,h=>by
  simp only[jt,ca,A3,cD]at h;obtain⟨⟨c,d⟩,f⟩:=h;have g:=KeyT.Ce K w a l es (i+1) f;simp only[BE,a7,c,K.eq,aQ,nJ];by_cases b:a=p.1;·simp[b,d]
  ·simp only[b,dW,bp,cA];exact g
theorem KeyT.MM(K:KeyT P kt enc){d:TypeDesc}(b:P.underlying kt=some d)(a:α):∀(l:List (α×ay))(es:List nh)(i:Nat),es.map (λe=>(e.key,e.val))=jt enc l->Hl d (enc a) es i=some (nJ a l i)\/Hl d (enc a) es i=none
 |[],[],i,_=>.inl rfl
 |[],_::_,i,h=>by simp[jt]at h
 |_::_,[],i,h=>by simp[jt]at h
 |p::l,e::es,i,h=>by
  simp only[jt,ca,A3,cD]at h;obtain⟨⟨f,g⟩,j⟩:=h;have k:=KeyT.MM K b a l es (i+1) j;simp only[Hl,f,nJ];rcases K.now d a p.1 b with h|h
  ·rw[h];by_cases c:a=p.1;·simp[c,g]
   ·simp only[c,dW,cA];exact k
  ·rw[h];exact .inr rfl
theorem KeyT.vB(K:KeyT P kt enc)(w:bQ)(a:α){l:List (α×ay)}{es:List nh}(h:es.map (λe=>(e.key,e.val))=jt enc l):(Instr.findKey kt (enc a) es).run P w=.ok (nJ a l 0) w:=by
 obtain⟨d,c⟩:=K.known;simp only[Instr.findKey,a7,a8 c,aQ];rcases K.MM c a l es 0 h with b|b;·rw[b];rfl
 ·rw[b];exact K.Ce w a l es 0 h
theorem lM(a:α):∀(l:List (α×ay))(i:Nat),(nJ a l i=none/\∀p∈l,p.1≠a)\/∃j v,nJ a l i=some (i+j,v)/\l[j]?=some (a,v)
 |[],i=>.inl ⟨rfl,λp b=>by cases b⟩
 |p::l,i=>by
  simp only[nJ];by_cases b:a=p.1;·rw[aF b];exact .inr ⟨0,p.2,rfl,by rw[b];rfl⟩
  ·rw[ai b];rcases lM a l (i+1)with⟨c,d⟩|⟨j,v,c,d⟩
   ·refine .inl ⟨c,λq f=>?_⟩;rcases aV.1 f with rfl|f;·exactλe=>b e.symm
    ·exact d q f
   ·exact .inr ⟨j+1,v,by rw[c];congr 2;omega,by simpa using d⟩
def KU(a:α)(v:ay)(l:List (α×ay)):List (α×ay):=match nJ a l 0 with|some (i,_)=>l.set i (a,v)|none=>l++[(a,v)]
end
theorem Cf{m:Array nh}{c:Nat}{k v:ay}(h:m.size=c/\∀(j:Nat)(e:nh),m[j]?=some e->e.born=j):(m.push {key:=k,val:=v,born:=c}).size=c+1/\∀(j:Nat)(e:nh),(m.push {key:=k,val:=v,born:=c})[j]?=some e->e.born=j:=by
 refine⟨by simp[h.1],λj e a=>?_⟩;rw[Array.getElem?_push]at a;split at a;·rename_i b;cases a;show c=j;rw[b];exact h.1.symm
 ·exact h.2 j e a
theorem y8{m:Array nh}{c i:Nat}{f:nh->nh}(h:m.size=c/\∀(j:Nat)(e:nh),m[j]?=some e->e.born=j)(b:∀e,(f e).born=e.born):(m.modify i f).size=c/\∀(j:Nat)(e:nh),(m.modify i f)[j]?=some e->e.born=j:=by
 refine⟨by rw[Array.size_modify];exact h.1,λj e a=>?_⟩;rw[gr]at a;split at a;·rw[dy]at a;obtain⟨x,d,rfl⟩:=a;rw[b];exact h.2 j x d
 ·exact h.2 j e a
def UI{α:Type}[DecidableEq α](a:α)(l:List (α×ay)):Nat:=match nJ a l 0 with|some (i,_)=>i|none=>l.length
def QA{α:Type}[DecidableEq α](a:α)(z:ay)(l:List (α×ay)):List (α×ay):=match nJ a l 0 with|some _=>l|none=>l++[(a,z)]
theorem XR{α:Type}[DecidableEq α](a:α)(z:ay)(l:List (α×ay)):∃v,(QA a z l)[UI a l]?=some (a,v)/\((nJ a l 0).map (·.2)).getD z=v:=by
 unfold QA UI;rcases lM a l 0 with⟨b,_⟩|⟨j,v,b,c⟩;·rw[b];exact⟨z,by simp,rfl⟩
 ·rw[b];exact⟨v,by simpa using c,rfl⟩
theorem UJ{α:Type}[DecidableEq α](a:α)(z u:ay)(l:List (α×ay)):(QA a z l).set (UI a l) (a,u)=KU a u l:=by
 unfold QA UI KU;rcases lM a l 0 with⟨b,_⟩|⟨j,v,b,c⟩;·rw[b];simp[List.set_append]
 ·rw[b]
theorem FM{α:Type}[DecidableEq α](a:α)(b:List (α×ay)):∀(l:List (α×ay))(i:Nat),nJ a (l++b) i=match nJ a l i with|some p=>some p|none=>nJ a b (i+l.length)
 |[],i=>rfl
 |p::l,i=>by
  simp only[gW,nJ,aM];split;·rfl
  ·rw[FM a b l (i+1),show i+1+l.length=i+(l.length+1)by omega]
theorem H7{α:Type}[DecidableEq α](a b:α)(u v:ay):∀(l:List (α×ay))(i j:Nat),l[j]?=some (b,v)->(∀q p,q<j->l[q]?=some p->p.1≠b)->((nJ a (l.set j (b,u)) i).map (·.2))=if a=b then some u else(nJ a l i).map (·.2)
 |[],i,j,h,_=>by simp at h
 |p::l,i,0,h,_=>by
  simp only[dS,aO]at h;subst h;simp only[List.set_cons_zero,nJ];by_cases c:a=b;·rw[aF c,aF c];rfl
  ·rw[ai c,ai c,ai c]
 |p::l,i,j+1,h,f=>by
  have g:=H7 a b u v l (i+1) j (by simpa using h) (λq p k m=>f (q+1) p (by omega) (by simpa using m));simp only[List.set_cons_succ,nJ];by_cases d:a=p.1;·rw[aF d,aF d,ai (λe=>f 0 p (by omega) rfl (by rw[<-d,e]))]
  ·rw[ai d,ai d,g]
theorem EO{α:Type}[DecidableEq α](a:α):∀(l:List (α×ay))(i j:Nat)(v:ay),nJ a l i=some (i+j,v)->∀q p,q<j->l[q]?=some p->p.1≠a
 |[],i,j,v,h=>by cases h
 |x::l,i,j,v,h=>by
  simp only[nJ]at h;split at h
  ·have :i=i+j:=by simpa using aY (·.map (·.1)) h
   intro q p d;omega
  ·rename_i f;intro q p d b;cases q with|zero=>simp at b;subst b;exactλe=>f e.symm|succ q=>obtain⟨c,rfl⟩:∃c,j=c+1:=⟨j-1,by omega⟩;exact EO a l (i+1) c v (by rw[h];congr 2;omega) q p (by omega) (by simpa using b)
theorem UK{α:Type}[DecidableEq α](a b:α)(u:ay)(l:List (α×ay)):((nJ a (KU b u l) 0).map (·.2))=if a=b then some u else(nJ a l 0).map (·.2):=by
 unfold KU;rcases lM b l 0 with⟨d,e⟩|⟨j,v,d,e⟩
 ·rw[d];simp only;rw[FM];by_cases c:a=b;·subst c;rw[d,aF rfl];simp[nJ]
  ·rw[ai c];cases nJ a l 0 with|some p=>rfl|none=>simp[nJ,c]
 ·rw[d];simp only;rw[b7];exact H7 a b u v l 0 j e (EO b l 0 j v d)
section
variable{E:Env}{σ:dp}{H:HS}{M:Mem}{a:xp}{w:bQ}{ν:Nat->ay}{K:KP}{o:db}
theorem oN{t d:Nat}(f:o.op=.makeMap t none)(g:o.dst=some d)(i:aU (d<E.N)=true)(k:hNoKey d (hdel d H)=true)(l:K ((d,true,.own (8*d))::sigDrop d σ) ((8*d,.mp [])::hdel d H) M):OpK E o K σ H M:=by
 refine jq λν a w m n=>?_;refine⟨.map (some w.heap.size),w.alloc (.map #[] 0),?_,_,_,_,?_,l⟩;·simp[da,f,Instr.makeMap]
 ·rw[g];refine mU m n (aW i) (fR d H) k (gm w _) rfl (λu c=>?_) (λb p=>by simp only[ee,aO]at p;omega) (λu h=>h);exact⟨w.heap.size,#[],0,rfl,eP w _,rfl,rfl,λj e h=>by simp at h⟩
theorem Heap.H8(a:Heap E ν H M w){k:Nat}{es:List (ay×ay)}(d:hget H k=some (.mp es)):∃b m c,ν k=.map (some b)/\w.heap[b]?=some (.map m c)/\m.toList.map (λe=>(e.key,e.val))=es/\(m.size=c/\∀(j:Nat)(e:nh),m[j]?=some e->e.born=j):=a.holds _ (bP d)
theorem nZ{t d kt et k:Nat}{x y:bB}{α:Type}[DecidableEq α]{enc:α->ay}{key:α}{l:List (α×ay)}{s:SV}{z:ay}(i:KeyT E.P kt enc)(n:o.op=.lookup t x y false)(q:o.dst=some d)(r:aU (d<E.N)=true)(u:E.P.underlying t=some (.map kt et))(A:∀w,(wA et).run E.P w=.ok z w)(B:opv σ x=some (true,.own k))(C:opv σ y=some (true,s))(e:∀ν,s.cL ν=enc key)(D:hget H k=some (.mp (jt enc l)))(F:K ((d,true,.v (((nJ key l 0).map (·.2)).getD z))::σ) H M):OpK E o K σ H M:=by
 refine jq λν a w f j=>?_;obtain⟨b,m,c,g,G,I,J⟩:=j.H8 D;have L:a.eval x=.map (some b):=by rw[f.mA B rfl];exact g
 have O:a.eval y=enc key:=by rw[f.mA C rfl];exact e ν
 refine⟨((nJ key l 0).map (·.2)).getD z,w,?_,_,_,_,⟨ν,?_,j⟩,F⟩;·simp only[da,n,L,O,Instr.lookup,a7,a8 u,aQ,iU G,bC,i.check,i.vB w key I];cases Q:nJ key l 0 with|none=>simp[A]|some p=>simp
 ·rw[q];exact f.ml (aW r) rfl
theorem Cg{t kt et k:Nat}{x y v:bB}{α:Type}[DecidableEq α]{enc:α->ay}{key:α}{l:List (α×ay)}{s:SV}{u:ay}(B:KeyT E.P kt enc)(S:o.op=.mapUpdate t x y v)(Z:o.dst=none)(T:E.P.underlying t=some (.map kt et))(hx:opv σ x=some (true,.own k))(hy:opv σ y=some (true,s))(O:∀ν,s.cL ν=enc key)(hv:opv σ v=some (true,.v u))(U:hget H k=some (.mp (jt enc l)))(hK:K σ (hset k (.mp (jt enc (KU key u l))) H) M):OpK E o K σ H M:=by
 rintro a w⟨ν,N,V⟩;obtain⟨b,m,c,f,q,r,C⟩:=V.H8 U;have W:a.eval x=.map (some b):=by rw[N.mA hx rfl];exact f
 have X:a.eval y=enc key:=by rw[N.mA hy rfl];exact O ν
 have Y:a.eval v=u:=N.mA hv rfl;have hbl:b<w.heap.size:=(bV.1 q).1;obtain⟨g,D,F,Q,G⟩:∃g D,(da a.eval o).run E.P w=.ok .skip {w with heap:=w.heap.setIfInBounds b (.map g D)}/\g.toList.map (λe=>(e.key,e.val))=jt enc (KU key u l)/\(g.size=D/\∀(j:Nat)(e:nh),g[j]?=some e->e.born=j):=by
  have d:m.toList.length=l.length:=by have :=aY dU r;simpa[jt]using this
  rcases lM key l 0 with⟨z,I⟩|⟨j,v0,z,I⟩
  ·refine⟨m.push {key:=enc key,val:=u,born:=c},c+1,?_,?_,Cf C⟩;·simp only[da,S,W,X,Y,Instr.mapUpdate,a7,a8 T,aQ,iU q,B.check,B.vB w key r,z,kX _ q,bC]
   ·simp only[KU,z,TP,bq,r,jt,ca,cr]
  ·have n:m[j]?=some (m[j]'(by rw[<-jE,d];exact(aI.1 I).1)):=eC _;have J:(m[j]'(by rw[<-jE,d];exact(aI.1 I).1)).key=enc key:=by
    have A:(m.toList.map (λe=>(e.key,e.val)))[j]?=(jt enc l)[j]?:=by rw[r]
    rw[jt,aN,aN,I,cu,n]at A;simp only[cJ,aO,cD]at A;exact A.1
   rw[b7]at z;refine⟨m.modify j λe=>{e with key:=enc key,val:=u},c,?_,?_,y8 C (λ_=>rfl)⟩;·simp only[da,S,W,X,Y,Instr.mapUpdate,a7,a8 T,aQ,iU q,B.check,B.vB w key r,z,n,cJ,dn,J,PN,B.same,cR,kX _ q,bC]
   ·apply gA;intro i;have A:(m.toList.map (λe=>(e.key,e.val)))[i]?=(jt enc l)[i]?:=by rw[r]
    simp only[KU,z,jt,aN,cu,gr,nr]at A⊢;by_cases L:j=i;·subst L;have R:j<l.length:=(aI.1 I).1;simp[n,R]
    ·simp only[L,cA];exact A
 obtain⟨g1,g2⟩:=sK (o':=.map g D) q;unfold oC;rw[F];simp only[sF];rw[Z];exact⟨_,_,_,⟨ν,N,V.Ql U (p:=.mp (jt enc (KU key u l))) (b:=b) (by rw[f];rfl) g2 (by simp) ⟨rfl,rfl,rfl⟩ ⟨b,g,D,f,g1,Q,G⟩⟩,hK⟩
theorem xP{t d kt et k:Nat}{x y:bB}{α:Type}[DecidableEq α]{enc:α->ay}{key:α}{l:List (α×ay)}{s:SV}{z:ay}(A:KeyT E.P kt enc)(X:o.op=.mapEntry t x y)(Y:o.dst=some d)(Z:aU (d<E.N)=true)(ht:E.P.underlying t=some (.map kt et))(hz:∀w,(wA et).run E.P w=.ok z w)(hx:opv σ x=some (true,.own k))(hy:opv σ y=some (true,s))(J:∀ν,s.cL ν=enc key)(L:hget H k=some (.mp (jt enc l)))(G:K ((d,true,.tup [.v (((nJ key l 0).map (·.2)).getD z),.v (.int .i64 ((UI key l:Nat):Int))])::σ) (hset k (.mp (jt enc (QA key z l))) H) M):OpK E o K σ H M:=by
 refine jq λν a w I O=>?_;obtain⟨b,m,c,f,r,u,n⟩:=O.H8 L;have ex:a.eval x=.map (some b):=by rw[I.mA hx rfl];exact f
 have ey:a.eval y=enc key:=by rw[I.mA hy rfl];exact J ν
 have B:m.toList.length=l.length:=by have :=aY dU u;simpa[jt]using this
 have Q:m.size=l.length:=by rw[<-jE];exact B
 rcases lM key l 0 with⟨g,R⟩|⟨j,v0,g,R⟩
 ·obtain⟨S,T⟩:=sK (o':=.map (m.push {key:=enc key,val:=z,born:=c}) (c+1)) r;have U:UI key l=c:=by unfold UI;rw[g];exact Q.symm.trans n.1
  have V:QA key z l=l++[(key,z)]:=by unfold QA;rw[g]
  rw[g,U,V]at G;refine⟨.tuple #[z,.int .i64 (c:Int)],{w with heap:=w.heap.setIfInBounds b (.map (m.push {key:=enc key,val:=z,born:=c}) (c+1))},?_,_,_,_,⟨ν,?_,?_⟩,G⟩;·simp only[da,X,ex,ey,Instr.mapEntry,a7,a8 ht,aQ,iU r,A.check,A.vB w key u,g,hz,kX _ r,bC,goInt]
  ·rw[Y];exact I.ml (aW Z) rfl
  ·exact O.Ql L (p:=.mp (jt enc (l++[(key,z)]))) (b:=b) (by rw[f];rfl) T (by simp) ⟨rfl,rfl,rfl⟩ ⟨b,_,c+1,f,S,by simp only[TP,bq,u,jt,ca,cr],Cf n⟩
 ·rw[b7]at g;have hjl:j<l.length:=(aI.1 R).1;have q:m[j]?=some (m[j]'(by omega)):=eC _;have C:(m[j]'(by omega)).key=enc key:=by
   have D:(m.toList.map (λe=>(e.key,e.val)))[j]?=(jt enc l)[j]?:=by rw[u]
   rw[jt,aN,aN,R,cu,q]at D;simp only[cJ,aO,cD]at D;exact D.1
  have W:=n.2 j _ q;obtain⟨S,T⟩:=sK (o':=.map (m.modify j λe=>{e with key:=enc key}) c) r;have U:UI key l=j:=by unfold UI;rw[g]
  have V:QA key z l=l:=by unfold QA;rw[g]
  rw[g,U,V]at G;refine⟨.tuple #[v0,.int .i64 (j:Int)],{w with heap:=w.heap.setIfInBounds b (.map (m.modify j λe=>{e with key:=enc key}) c)},?_,_,_,_,⟨ν,?_,?_⟩,G⟩;·simp only[da,X,ex,ey,Instr.mapEntry,a7,a8 ht,aQ,iU r,A.check,A.vB w key u,g,q,cJ,dn,C,W,PN,A.same,cR,kX _ r,bC,goInt]
  ·rw[Y];exact I.ml (aW Z) rfl
  ·refine O.Ql L (p:=.mp (jt enc l)) (b:=b) (by rw[f];rfl) T (by simp) ⟨rfl,rfl,rfl⟩ ⟨b,_,c,f,S,?_,y8 n (λ_=>rfl)⟩;apply gA;intro i;have D:(m.toList.map (λe=>(e.key,e.val)))[i]?=(jt enc l)[i]?:=by rw[u]
   rw[<-D];simp only[aN,cu,gr];by_cases F:j=i;·subst F;rw[aF rfl,q];simp only[cJ,C]
   ·rw[ai F]
theorem uL{t k j:Nat}{x y v:bB}{α:Type}{enc:α->ay}{key:α}{l:List (α×ay)}{u G:ay}(I:o.op=.entryStore t x y v)(J:o.dst=none)(L:opv σ x=some (true,.own k))(N:opv σ y=some (true,.v (.int .i64 ((j:Nat):Int))))(O:opv σ v=some (true,.v u))(B:hget H k=some (.mp (jt enc l)))(C:l[j]?=some (key,G))(Q:K σ (hset k (.mp (jt enc (l.set j (key,u)))) H) M):OpK E o K σ H M:=by
 rintro a w⟨ν,s,D⟩;obtain⟨b,m,c,d,z,F,f⟩:=D.H8 B;have R:a.eval x=.map (some b):=by rw[s.mA L rfl];exact d
 have S:a.eval y=.int .i64 ((j:Nat):Int):=s.mA N rfl;have T:a.eval v=u:=s.mA O rfl;have n:m.toList.length=l.length:=by have :=aY dU F;simpa[jt]using this
 have U:m.size=l.length:=by rw[<-jE];exact n
 have A:j<l.length:=(aI.1 C).1;have V:m.findIdx? (λe=>(e.born:Int)==(j:Int))=some j:=by
  rw[Array.findIdx?_eq_some_iff_getElem];refine⟨by omega,?_,λi Y=>?_⟩;·have :=f.2 j _ (eC (by omega));simp[this]
  ·have :=f.2 i _ (eC (by omega));simp only[this,pj];omega
 obtain⟨W,X⟩:=sK (o':=.map (m.modify j λe=>{e with val:=u}) c) z;have q:(da a.eval o).run E.P w=.ok .skip {w with heap:=w.heap.setIfInBounds b (.map (m.modify j λe=>{e with val:=u}) c)}:=by simp only[da,I,R,S,T,Instr.entryStore,a7,aQ,iU z,asInt,Eu,bC,V,kX _ z]
 unfold oC;rw[q];simp only[sF];rw[J];refine⟨_,_,_,⟨ν,s,D.Ql B (p:=.mp (jt enc (l.set j (key,u)))) (b:=b) (by rw[d];rfl) X (by simp) ⟨rfl,rfl,rfl⟩ ⟨b,_,c,d,W,?_,y8 f (λ_=>rfl)⟩⟩,Q⟩;apply gA;intro i;have r:(m.toList.map (λe=>(e.key,e.val)))[i]?=(jt enc l)[i]?:=by rw[F]
 simp only[jt,aN,cu,gr,nr]at r⊢;by_cases g:j=i;·subst g;rw[C,eC (show j<m.size by omega)]at r;simp only[cJ,aO,cD]at r;rw[aF rfl,aF rfl,aF A,eC (show j<m.size by omega)];simp only[cJ,r.1]
 ·rw[ai g,ai g];exact r
end
end Go.X
namespace Go.X
open Go Go.RowKit
section
variable{E:Env}{σ:dp}{H:HS}{M:Mem}{a:xp}{w:bQ}{ν:Nat->ay}{K:KP}{o:db}
theorem Heap.H9(f:Heap E ν H M w){w':bQ}(v:∀b∈fp ν H,w'.heap[b]?=w.heap[b]?)(x:M.on w')(y:um E.w0.heap.size E.w0 w'):Heap E ν H M w':=by refine⟨λq s=>?_,f.nodup,f.apart,x,y,f.le0,f.fresh,f.one⟩;have g:=f.holds q s;have i:∀b,ee (ν q.1)=some b->w'.heap[b]?=w.heap[b]?:=λb h=>v b (bH.2 ⟨q,s,h⟩);obtain⟨j,z⟩:=q;simp only at i g;cases z with|box C t=>obtain⟨⟨a,T,e,h⟩,A⟩:=g;exact⟨⟨a,T,e,by rw[i a (by rw[e];rfl)];exact h⟩,A⟩|row B u=>obtain⟨l,n⟩:=g;refine⟨l,n.imp id ?_⟩;rintro⟨a,d,T,o,e,k,p,r,h⟩;exact⟨a,d,T,o,e,k,p,r,by rw[i a (by rw[e];rfl)];exact h⟩|tab B u=>obtain⟨l,n⟩:=g;refine⟨l,n.imp id ?_⟩;rintro⟨a,d,T,o,e,k,p,r,h⟩;exact⟨a,d,T,o,e,k,p,r,by rw[i a (by rw[e];rfl)];exact h⟩|mp u=>obtain⟨a,m,c,e,h,k⟩:=g;exact⟨a,m,c,e,by rw[i a (by rw[e];rfl)];exact h,k⟩
def Ctxs(A:SV->List SV):Prop:=∀s a ν u,s.cL ν=a.cL u->aS ν (A s)=aS u (A a)
theorem lN(l:List SV)(a:SV.concs l=true):Ctxs (λs=>s::l):=λs b ν ν' h=>by simp only[aS,h,cl (ν:=ν') (ν':=ν) l a]
theorem eR{f d sz D:Nat}{l:List SV}{es F:List (List ay)}{A:SV->List SV}{T:SV->SV}(k:Nat)(hA:Ctxs A)(hT:Ctx T)(hl:l=A (.own k))(R:hget H k=some (.row sz es))(hd:aU (d<E.N)=true)(h:∀O,M.le O->MeetsH E.P f (A (.own 8000)) [(8000,.row sz es)] O (OwnR T D F))(hn:hNoKey d (hdelk k (hdel d H))=true)(hK:K ((d,true,T (.own (8*d)))::sigDrop d σ) ((8*d,.row D F)::hdelk k (hdel d H)) M):CallK E f l d K σ H M:=by
 intro ν a w hs v;refine .inl ⟨(h M (cg M)).1,?_⟩;have x:(hdelk k (hdel d H)).Sublist H:=(fq k _).trans (fR d H);let g:=hdelk k (hdel d H);have m:Heap E ν g M w:=v.gB x;let u:Mem:=λb=>if b∈fp ν g then w.heap[b]? else M b;have y:M.le u:=λb o c=>by
  simp only[u];by_cases Z:b∈fp ν g;·have :=(m.apart b Z).1;rw[c]at this;cases this
  ·rw[ai Z];exact c
 have G:u.on w:=λb o c=>by
  simp only[u]at c;split at c;·exact c
  ·exact v.mem b o c
 let n:Nat->ay:=λj=>if j=8000 then ν k else .bool false;have S:n 8000=ν k:=by simp[n]
 have V:Heap ⟨E.P,0,E.w0,u⟩ n [(8000,.row sz es)] u w:=by
  have hr:=v.holds _ (bP R);have W:∀b,b∈fp n [(8000,.row sz es)]->ee (ν k)=some b:=λb c=>by
   simp only[fp,bK,eu,S]at c;split at c;·cases c
   ·rename_i b' he;simp only[bD]at c;rw[c];exact he
  refine⟨λp hp=>?_,?_,λb c=>?_,G,v.below,cg _,λb c=>.inl c,λj=>?_⟩;·simp only[bD]at hp;subst hp;rw[S];exact hr
  ·simp only[fp,bK,eu];split<;>simp
  ·have z:=W b c;have B:=v.apart b (bH.2 ⟨_,bP R,z⟩);refine⟨?_,B.2⟩;simp only[u];rw[ai (kz v R z d g x (jo k _))];exact B.1
  ·simp only[n];split;·exact v.one k
   ·rfl
 rw[hl,hA (.own k) (.own 8000) ν n (by simp only[SV.cL,S])];refine((h u y).2 E.w0 u n w V).mono ?_;rintro e w'⟨s,H',O,U,rfl,i,k',rfl,I⟩;let q:Nat->ay:=λj=>if j/8=d then U k' else ν j;have J:∀j,j/8≠d->q j=ν j:=λj Q=>by simp[q,Q]
 have r:q (8*d)=U k':=by simp[q,show(8*d)/8=d by omega]
 have X:M.on w':=λb o c=>i.mem b o (i.le0 b o (y b o c));have t:∀b∈fp ν g,∃C,w.heap[b]?=some C/\O b=some C:=λb c=>by have L:=m.qL c;refine⟨w.heap[b],eC L,i.le0 b _ ?_⟩;simp only[u,aF c];exact eC L
 have Y:Heap E ν g M w':=m.H9 (λb c=>by obtain⟨C,z,B⟩:=t b c;rw[z];exact i.mem b C B) X i.below;refine⟨_,rfl,_,_,_,⟨q,(hs.wF J).ml (aW hd) ?_,Y.HK hn J (λj=>?_) ?_ (λb c=>?_)⟩,hK⟩;·rw[dM];exact hT _ _ _ _ (by simp only[SV.cL,r])
 ·by_cases Q:j/8=d;·simp only[q,Q,cR];exact i.one _
  ·simp only[q,Q,cA];exact v.one j
 ·rw[r];exact i.holds _ (bP I)
 ·rw[r]at c;obtain⟨z,B⟩:=i.apart b (bH.2 ⟨_,bP I,c⟩);refine⟨λhm=>?_,?_,B⟩;·obtain⟨C,_,h3⟩:=t b hm;rw[z]at h3;cases h3
  ·cases hM:M b with|none=>rfl|some C=>have :=i.le0 b _ (y b _ hM);rw[z]at this;cases this
/-!### rows laid open -/
def uj(l:List ay):List SV:=l.map .v
theorem ju(ν:Nat->ay)(l:List ay):aS ν (uj l)=l:=Qw ν l
theorem uM{P:bZ}{f:kH}{R:RP}{A:SV->List SV}{sz:Nat}{es:List (List ay)}(k:Nat)(m:Ctxs A)(j:es=[]->MeetsH P f (A (.v (.slice none 0 0))) [] M R)(h:∀b cap sp,es.length<=cap->cap<=dB->dU sp=(cap-es.length)*sz->(∀e∈es,e.length=sz/\∀c∈e,c.oneCell'=true)->MeetsH P f (A (.v (.slice (some ⟨b,0,none⟩) es.length cap))) [(k,.box (uj (es.flatten++sp)) (some (bT b)))] M R)(l:jr P f):MeetsH P f (A (.own k)) [(k,.row sz es)] M R:=by
 refine⟨l,λn o ν w i=>?_⟩;obtain⟨q,r⟩:=i.holds (k,.row sz es) bn;simp only at q r;rcases r with⟨d,rfl⟩|⟨b,cap,T,sp,d,t,u,x,y⟩;·rw[m (.own k) (.v (.slice none 0 0)) ν ν (by simp only[SV.cL,d])];exact(j rfl).2 n o ν w (i.gB (List.nil_sublist _))
 ·let g:Nat->ay:=λ_=>bT b;rw[m (.own k) (.v (.slice (some ⟨b,0,none⟩) es.length cap)) ν g (by simp only[SV.cL,d])];refine(h b cap sp t u x q).2 n o g w ⟨λp s=>?_,by simp[fp,g,ee],λc l=>?_,i.mem,i.below,i.le0,i.fresh,λ_=>rfl⟩;·simp only[bD]at s;subst s;refine⟨⟨b,T,rfl,by rw[ju];exact y⟩,λv z=>?_⟩;cases z;rfl
  ·simp only[fp,bK,eu,g,ee,bD]at l;subst l;exact i.apart c (by simp[fp,d,ee])
def QB(T:SV->SV)(sz:Nat)(es:List (List ay)):RP:=λr H _=>∃b k a c,r=T (.v (.slice (some ⟨b,0,none⟩) es.length a))/\hget H k=some (.box (uj (es.flatten++c)) (some (bT b)))/\es.length<=a/\a<=dB/\dU c=(a-es.length)*sz
theorem gz{P:bZ}{f:kH}{args:List SV}{T:SV->SV}{sz:Nat}{es:List (List ay)}(n:Ctx T)(g:∀e∈es,e.length=sz/\∀c∈e,c.oneCell'=true)(h:MeetsH P f args H M (λr H' N=>QB T sz es r H' N\/(r=T (.v (.slice none 0 0))/\es=[])\/OwnR T sz es r H' N)):MeetsH P f args H M (OwnR T sz es):=by
 refine⟨h.1,λt x ν w y=>(h.2 t x ν w y).mono ?_⟩;rintro e W⟨s,H',N,u,rfl,a,⟨b,k,d,z,rfl,o,A,B,C⟩|⟨rfl,rfl⟩|D⟩
 ·obtain⟨⟨G,E,l,q⟩,F⟩:=a.holds _ (bP o);have m:=F _ rfl;simp only at l m;rw[m]at l;cases l;rw[ju]at q;refine⟨T (.own 0),[(0,.row sz es)],N,λ_=>.slice (some ⟨b,0,none⟩) es.length d,by rw[n (.v _) (.own 0) u (λ_=>.slice (some ⟨b,0,none⟩) es.length d) rfl],⟨λp i=>?_,by simp[fp,ee],λc j=>?_,a.mem,a.below,a.le0,a.fresh,λ_=>rfl⟩,0,rfl,rfl⟩;·simp only[bD]at i;subst i;exact⟨g,.inr ⟨b,d,E,z,rfl,A,B,C,q⟩⟩
  ·simp only[fp,bK,eu,ee,bD]at j;subst j;exact a.apart c (bH.2 ⟨_,bP o,by rw[m];rfl⟩)
 ·refine⟨T (.own 0),[(0,.row sz [])],N,λ_=>.slice none 0 0,by rw[n (.v _) (.own 0) u (λ_=>.slice none 0 0) rfl],⟨λp i=>?_,by simp[fp,ee],λc j=>by simp[fp,ee]at j,a.mem,a.below,a.le0,a.fresh,λ_=>rfl⟩,0,rfl,rfl⟩;simp only[bD]at i;subst i;exact⟨g,.inl ⟨rfl,rfl⟩⟩
 ·exact⟨s,H',N,u,rfl,a,D⟩
theorem OI{P:bZ}{f:kH}{args:List SV}{R:RP}(e:SV.concs args=true)(h:MeetsH P f args [] M R):Meets P f args M R:=by refine⟨h.1,λw c=>?_⟩;have :=h.2 w M vu w ⟨λp d=>(by cases d),by simp[fp],λb a=>(by simp[fp]at a),c,dQ _ w,cg M,λb a=>.inl a,λ_=>rfl⟩;exact this
/-! operations on what lies open -/
theorem qQ{x:bB}{t d e:Nat}{y:ay}(g:o.op=.call ⟨.builtin .cap,#[x],#[t]⟩)(h:o.dst=some d)(i:aU (d<E.N)=true)(j:E.P.underlying t=some (.slice e))(k:opv σ x=some (true,.v y))(b:isSl y=true)(l:K ((d,true,.v (.int .i64 (gh y)))::σ) H M):OpK E o K σ H M:=by
 refine jq λν a w c m=>?_;have f:=c.mA k rfl;simp only[SV.cL]at f;refine⟨.int .i64 (gh y),w,?_,_,_,_,⟨ν,?_,m⟩,l⟩
 ·cases y<;>simp only[isSl]at b<;>first|cases b|skip
  simp[da,g,PL,invoke,builtin,f,Builtin.cap_,a8 j,gh,goInt]
 ·rw[h];exact c.ml (aW i) rfl
def Reads(H:HS)(M:Mem)(ad:qz)(news:List ay):Prop:=(∃k b,hget H k=some (.box (uj b) (some (bT ad.block)))/\ad.spot=none/\∀j u,news[j]?=some u->b[ad.off+j]?=some u)\/∀j u,news[j]?=some u->jT M (ad.add j)=some u
theorem Reads.QC{ad:qz}{news:List ay}(p:Reads H M ad news)(l:Heap E ν H M w)(a:bQ)(q:a.heap=w.heap):∀j u,news[j]?=some u->a.cell? (ad.add j)=some u:=by
 intro j u m;have b:∀x:qz,a.cell? x=w.cell? x:=λx=>by unfold qv;rw[q]
 rw[b];rcases p with⟨k,t,r,c,h⟩|h;·obtain⟨⟨v,T,g,n⟩,s⟩:=l.holds _ (bP r);have i:=s _ rfl;simp only at g i;rw[i]at g;obtain⟨d,e,o⟩:=ad;simp only at c h i;subst c;cases g;rw[ju]at n;have f:(⟨d,e,none⟩:qz).add j=⟨d,e+j,none⟩:=mg ..;rw[f,iK n];exact h j u m
 ·exact uy l.mem (h j u m)
theorem Heap.QD(g:Heap E ν H M w){k b off:Nat}{cs news:List ay}(h:hget H k=some (.box (uj cs) (some (bT b))))(i:off+news.length<=cs.length)(l:∀u∈news,u.oneCell'=true):∃w',(storeCells ⟨b,off,none⟩ news).run E.P w=.ok () w'/\Heap E ν (hset k (.box (uj (km cs off news)) (some (bT b))) H) M w':=by
 obtain⟨⟨p,T,e,f⟩,m⟩:=g.holds _ (bP h);have c:=m _ rfl;simp only at e c;rw[c]at e;cases e;rw[ju]at f;have d:=run_storeCells_at E.P b off T news 0 _ w f (by simpa using i) l;simp only[eJ]at d;refine⟨_,d,g.Ql h (b:=b) (by rw[c];rfl) (λj n=>ny w b _ n) (by simp[v7]) ⟨rfl,rfl,rfl⟩ ⟨⟨b,T,c,?_⟩,λv o=>?_⟩⟩;·rw[ju];exact rT w b _ _ T _ f
 ·cases o;exact c
def xQ(d:Option Nat)(v:SV)(σ:dp):dp:=match d with|some d=>(d,true,v)::σ|none=>σ
theorem Slots.aa8{N:Nat}(b:Slots N ν σ a){d:Option Nat}(c:(match d with|some d=>aU (d<N)|none=>true)=true){v:ay}:Slots N ν (xQ d (.v v) σ) (a.put d v):=by cases d with|none=>exact b|some d=>exact b.ml (aW c) rfl
theorem EP{s x:bB}{t tx d e e2 sz bt k b off n c m p:Nat}{ad:qz}{R cs news:List ay}(S:o.op=.call ⟨.builtin .append,#[s,x],#[t,tx]⟩)(T:o.dst=some d)(U:aU (d<E.N)=true)(q:D8 E.P t=some (e,sz,bt,R))(h:E.P.underlying tx=some (.slice e2))(r:opv σ s=some (true,.v (.slice (some ⟨b,off,none⟩) n c)))(y:opv σ x=some (true,.v (.slice (some ad) m p)))(V:hget H k=some (.box (uj cs) (some (bT b))))(A:news.length=m*sz)(X:Reads H M ad news)(G:∀u∈news,u.oneCell'=true)(g:n+m<=c)(j:off+n*sz+news.length<=cs.length)(Y:K ((d,true,.v (.slice (some ⟨b,off,none⟩) (n+m) c))::σ) (hset k (.box (uj (km cs (off+n*sz) news)) (some (bT b))) H) M):OpK E o K σ H M:=by
 obtain⟨i,z,Z,hi,hz,f,rfl,rfl⟩:=oL q;refine jq λν a w B I=>?_;have J:=B.mA r rfl;have L:=B.mA y rfl;simp only[SV.cL]at J L;obtain⟨W,C,D⟩:=I.QD V j G;have O:=Src.ofSlice (P:=E.P) (size:=i.size) w h ad m p news (by rw[f];exact A) (X.QC I w rfl) G;have l:(fC #[t,tx] o.type #[.slice (some ⟨b,off,none⟩) n c,.slice (some ad) m p]).run E.P w=.ok (.slice (some ⟨b,off,none⟩) (n+m) c) W:=by have hL:=O.len w;have Q:=O.cells;rw[f]at Q;simp[fC,a8 Z,a8 h,sizeOf,Ad,hi,hL,g,Q,mg,f,C]
 have F:(da a.eval o).run E.P w=.ok (.value (.slice (some ⟨b,off,none⟩) (n+m) c)) W:=by simp[da,S,PL,invoke,builtin,J,L,l]
 refine⟨_,_,F,_,_,_,⟨ν,?_,D⟩,Y⟩;rw[T];exact B.ml (aW U) rfl
theorem iz{s x:bB}{t tx e sz bt k b off n c m C:Nat}{ad:qz}{J cs news:List ay}(L:o.op=.call ⟨.builtin .copy,#[s,x],#[t,tx]⟩)(O:(match o.dst with|some d=>aU (d<E.N)|none=>true)=true)(j:D8 E.P t=some (e,sz,bt,J))(l:opv σ s=some (true,.v (.slice (some ⟨b,off,none⟩) n c)))(p:opv σ x=some (true,.v (.slice (some ad) m C)))(Q:hget H k=some (.box (uj cs) (some (bT b))))(q:news.length=qC m n*sz)(R:Reads H M ad news)(S:∀u∈news,u.oneCell'=true)(f:off+news.length<=cs.length)(T:K (xQ o.dst (.v (.int .i64 (qC m n:Nat))) σ) (hset k (.box (uj (km cs off news)) (some (bT b))) H) M):OpK E o K σ H M:=by
 obtain⟨i,z,U,V,X,g,rfl,rfl⟩:=oL j;refine jq λν a w r D=>?_;have F:=r.mA l rfl;have G:=r.mA p rfl;simp only[SV.cL]at F G;obtain⟨W,y,A⟩:=D.QD Q f S;have I:=run_loadCells_list (P:=E.P) w ad news (R.QC D w rfl);rw[q]at I;have h:(Builtin.copy_ #[t,tx] o.type #[.slice (some ⟨b,off,none⟩) n c,.slice (some ad) m C]).run E.P w=.ok (.int .i64 (qC m n:Nat)) W:=by simp[Builtin.copy_,a8 U,Builtin.lenOf,L8,sizeOf,Ad,V,g,I,y,goInt]
 have B:(da a.eval o).run E.P w=.ok (.value (.int .i64 (qC m n:Nat))) W:=by simp[da,L,PL,invoke,builtin,F,G,h]
 exact⟨_,_,B,_,_,_,⟨ν,r.aa8 O,A⟩,T⟩
theorem qR{x:bB}{t e sz bt k b off n c:Nat}{m cs:List ay}(G:o.op=.call ⟨.builtin .clear,#[x],#[t]⟩)(I:o.dst=none)(p:D8 E.P t=some (e,sz,bt,m))(q:opv σ x=some (true,.v (.slice (some ⟨b,off,none⟩) n c)))(J:hget H k=some (.box (uj cs) (some (bT b))))(r:onesV m=true)(s:m.length=sz)(h:off+n*sz<=cs.length)(L:K σ (hset k (.box (uj (km cs off (bg n m).flatten)) (some (bT b))) H) M):OpK E o K σ H M:=by
 obtain⟨i,z,f,N,O,d,rfl,rfl⟩:=oL p;rintro a w⟨ν,D,Q⟩;have F:=D.mA q rfl;simp only[SV.cL]at F;have y:(bg n z.cells.toList).flatten.length=n*i.size:=by rw[Ag];simp[s,d]
 obtain⟨W,g,A⟩:=Q.QD J (off:=off) (news:=(bg n z.cells.toList).flatten) (by rw[y,d];exact h) (λu f=>by obtain⟨l,R,f⟩:=rH.1 f;rw[List.eq_of_mem_replicate R]at f;exact mV r u f);have B:(cU z.cells n).toList=(bg n z.cells.toList).flatten:=by have :=yX z.cells n;rw[<-this];simp[cU,TO]
 have j:(DY #[t] o.type #[.slice (some ⟨b,off,none⟩) n c]).run E.P w=.ok (.tuple #[]) W:=by cases n with|zero=>simp only[List.replicate_zero,List.flatten_nil,storeCells,bC]at g;simp[DY,a8 f];simpa using g|succ n=>simp[DY,a8 f,wA,Ad,N,O,B,g]
 unfold oC;have C:(da a.eval o).run E.P w=.ok (.value (.tuple #[])) W:=by simp[da,G,PL,invoke,builtin,F,j]
 rw[C];simp only[sF];rw[I];exact⟨_,_,_,⟨ν,D,A⟩,L⟩
theorem qS{s x:bB}{t tx d e sz bt c n:Nat}{m:Nat}{base:Option qz}{W olds:List ay}{kn k2:jN}(ho:o.op=.call ⟨.builtin .append,#[s,x],#[t,tx]⟩)(hd:o.dst=some d)(hN:aU (d<E.N)=true)(X:D8 E.P t=some (e,sz,bt,W))(I:E.P.underlying tx=some (.int kn))(Y:opv σ s=some (true,.v (.slice base n c)))(Z:opv σ x=some (true,.v (.int k2 m)))(J:base=none/\n=0/\olds=[]\/∃ad,base=some ad/\olds.length=n*sz/\Reads H M ad olds)(D:c<n+m)(hbt:bt<=4096)(L:W.length=sz)(hbig:(n+m)*bt<=70368744177664)(hbig2:n+m<=70368744177664)(hn:hNoKey d (hdel d H)=true)(hK:∀b cap sp,n+m<=cap->cap<=dB->dU sp=(cap-(n+m))*sz->K ((d,true,.v (.slice (some ⟨b,0,none⟩) (n+m) cap))::sigDrop d σ) ((8*d,.box (uj (olds++(bg m W).flatten++sp)) (some (bT b)))::hdel d H) M):OpK E o K σ H M:=by
 obtain⟨i,z,hu,hi,hz,p,O,rfl⟩:=oL X;refine jq λν a w hs G=>?_;have es:=hs.mA Y rfl;have ex:=hs.mA Z rfl;simp only[SV.cL]at es ex;have Q:bX.wrap (m:Int)=m:=by rw[IntKind.wrap_i64];omega
 have l:=nextslicecap_le D;have hge:=grownCap_ge w (n+m) c e;have hle:=grownCap_le_maxLen w (n+m) c e (by simp only[dB];omega);have R:¬(281474976710656<Builtin.nextslicecap (n+m) c*i.bytes):=by have :=il i.bytes l;rw[O]at this⊢;rw[Nat.mul_assoc]at this;omega
 have r:¬(281474976710656<(m:Int)*(i.bytes:Int)):=by rw[<-Int.natCast_mul,O];have :m*bt<=(n+m)*bt:=il _ (by omega);omega
 have y:¬((m:Int)<0):=by omega
 have S:¬(n+m<=c):=by omega
 have T:¬(9223372036854775807<((n:Int)+(m:Int))):=by omega
 have hfc:∀f:bQ,f.heap=w.heap->(L8 i.size n (.slice base n c)).run E.P f=.ok olds.toArray f:=by
  intro f hw;rcases J with⟨rfl,rfl,rfl⟩|⟨ad,rfl,hol,hr⟩;·exact run_firstCells_none f i.size 0 0 c
  ·exact run_firstCells_some f i.size n ad n c olds (by rw[p];exact hol) (hr.QC G f hw)
 have g:∀q,(cU z.cells q).toList=(bg q z.cells.toList).flatten:=λq=>by rw[<-yX z.cells q];simp[cU,TO]
 have hap:(if m*i.size=0 then(pure #[]:Sem (Array ay))else do pure (cU (<-wA e).cells m)).run E.P w.drew=.ok (cU z.cells m) w.drew:=by
  by_cases F:m*i.size=0
  ·rw[aF F];have :cU z.cells m=#[]:=by
    apply j6;rw[g];rcases Nat.mul_eq_zero.1 F with h|h;·simp[h]
    ·rw[p]at h;subst h;simp[e_.1 L]
   rw[this];rfl
  ·rw[ai F];simp[wA,Ad,hi,hz]
 have U:(fC #[t,tx] o.type #[.slice base n c,.int k2 m]).run E.P w=.ok (.slice (some ⟨w.heap.size,0,none⟩) (n+m) (nt w (n+m) c e)) (w.drew.alloc (.cells (olds.toArray++cU z.cells m++cU z.cells (nt w (n+m) c e-(n+m))) e)):=by
  have hf:=hfc w.drew rfl;by_cases F:m*i.size=0
  ·have k:=hap;rw[aF F]at k;simp only[bC]at k;have :cU z.cells m=#[]:=by injection k with h _;exact h.symm
   rw[this];simp[fC,a8 hu,a8 I,sizeOf,Ad,wA,hi,hz,asInt,Eu,Q,y,F,S,T,R,r,PQ,hf,newRow,nt]
  ·simp[fC,a8 hu,a8 I,sizeOf,Ad,wA,hi,hz,asInt,Eu,Q,y,F,S,T,R,r,PQ,hf,newRow,nt]
 have hex:(da a.eval o).run E.P w=.ok (.value (.slice (some ⟨w.heap.size,0,none⟩) (n+m) (nt w (n+m) c e))) (w.drew.alloc (.cells (olds.toArray++cU z.cells m++cU z.cells (nt w (n+m) c e-(n+m))) e)):=by simp[da,ho,PL,invoke,builtin,es,ex,U]
 refine⟨_,_,hex,_,_,_,?_,hK w.heap.size (nt w (n+m) c e) (cU z.cells (nt w (n+m) c e-(n+m))).toList hge hle (by rw[g,Ag];simp[L])⟩;rw[hd];let v:ay:=.slice (some ⟨w.heap.size,0,none⟩) (n+m) (nt w (n+m) c e);let u:Nat->ay:=λj=>if j/8=d then bT w.heap.size else ν j;have A:∀j,j/8≠d->u j=ν j:=λj V=>by simp[u,V]
 have B:u (8*d)=bT w.heap.size:=by simp[u,show(8*d)/8=d by omega]
 have C:=fR d H;have hgr:Heap E ν (hdel d H) M (w.drew.alloc (.cells (olds.toArray++cU z.cells m++cU z.cells (nt w (n+m) c e-(n+m))) e)):=(G.gB C).mE ((dQ _ w).drew.alloc (bc _) _);refine⟨u,(hs.wF A).ml (aW hN) rfl,hgr.HK hn A (λj=>?_) ?_ (λb hb=>?_)⟩
 ·by_cases V:j/8=d;·simp[u,V,iR]
  ·simp only[u,V,cA];exact G.one j
 ·rw[B];refine⟨⟨w.heap.size,e,rfl,?_⟩,λv hv=>?_⟩;·rw[ju];have :=eP w.drew (.cells (olds.toArray++cU z.cells m++cU z.cells (nt w (n+m) c e-(n+m))) e (0,0));rw[show w.drew.heap.size=w.heap.size from rfl]at this;rw[this];congr 2;apply j6;simp[g]
  ·cases hv;rfl
 ·rw[B]at hb;simp only[bT,ee,aO]at hb;subst hb;have hnf:w.heap.size∉fp ν (hdel d H):=λh=>Nat.lt_irrefl _ ((G.gB C).qL h);refine⟨hnf,?_,G.below.size⟩;cases hM:M w.heap.size with|none=>rfl|some ob=>exact absurd (bV.1 (G.mem _ _ hM)).1 (Nat.lt_irrefl _)
theorem dK(b n cap sz lo hi:Nat):lC (.slice (some ⟨b,0,none⟩) n cap) sz lo hi=.slice (some ⟨b,if cap=lo then 0 else lo*sz,none⟩) (hi-lo) (cap-lo):=by
 unfold lC;by_cases h:cap=lo;·simp[h]
 ·simp[h,mg]
theorem gp{k b:Nat}{cs news:List ay}(c:hget H k=some (.box (uj cs) (some (bT b)))){off:Nat}(h:∀j u,news[j]?=some u->cs[off+j]?=some u):Reads H M ⟨b,off,none⟩ news:=.inl ⟨k,cs,c,rfl,h⟩
theorem kc(b n cap sz hi:Nat):lC (.slice (some ⟨b,0,none⟩) n cap) sz 0 hi=.slice (some ⟨b,0,none⟩) hi cap:=by rw[dK];simp
theorem H_(cs:List ay)(o:Nat):km cs o []=cs:=by simp[km]
theorem mZ(A sp news:List ay):km (A++sp) A.length news=A++(news++sp.drop news.length):=by unfold km;rw[List.take_left,<-l6,List.drop_left,bN]
theorem n7{sz:Nat}{es:List (List ay)}(h:∀e∈es,e.length=sz)(j:Nat):es.flatten.take (j*sz)=(es.take j).flatten:=by
 have b:es.flatten=(es.take j).flatten++(es.drop j).flatten:=by rw[<-j4,iT]
 have a:=cX (λe c=>h e (cq (i:=j) c));rw[a6]at a;by_cases d:j<=es.length;·rw[cT d]at a;rw[b,<-a,List.take_left]
 ·rw[bz (l:=es) (by omega),bz];rw[cX h];exact il _ (by omega)
theorem rY{sz:Nat}{es:List (List ay)}(h:∀e∈es,e.length=sz)(j:Nat):es.flatten.drop (j*sz)=(es.drop j).flatten:=by
 have b:es.flatten=(es.take j).flatten++(es.drop j).flatten:=by rw[<-j4,iT]
 have a:=cX (λe c=>h e (cq (i:=j) c));rw[a6]at a;by_cases d:j<=es.length;·rw[cT d]at a;rw[b,<-a,List.drop_left]
 ·rw[TQ (l:=es) (by omega),TQ];·rfl
  ·rw[cX h];exact il _ (by omega)
theorem kQ{l news sp:List ay}{o:Nat}(h:news=l.drop o){j:Nat}{u:ay}(a:news[j]?=some u):(l++sp)[o+j]?=some u:=by subst h;rw[fx]at a;rw[cW (aI.1 a).1];exact a
end
end Go.X
namespace Go.X
open Go Go.RowKit
section
variable{E:Env}{σ:dp}{H:HS}{M:Mem}{a:xp}{w:bQ}{ν:Nat->ay}{K:KP}{o:db}
theorem y9{k sz:Nat}{es:List (List ay)}(a:Heap E ν H M w)(l:hget H k=some (.row sz es)):Heap E ν (hpub k (ν k) H) M w:=by
 have c:(fp ν (hpub k (ν k) H)).Sublist (fp ν H):=by rw[wI];exact(fq k H).filterMap _
 refine⟨λq d=>?_,a.nodup.sublist c,λb f=>a.apart b (c.subset f),a.mem,a.below,a.le0,a.fresh,a.one⟩;obtain⟨p,g,i⟩:=xO d;have :=a.holds _ g;rw[i];cases p with|box m t=>obtain⟨⟨b,T,e,h⟩,j⟩:=this;exact⟨⟨b,T,e,by rw[fW];exact h⟩,j⟩|row sz es=>exact this|tab sz es=>simp only[poPub];rw[sL]at this⊢;rw[wH];exact this|mp es=>exact this
theorem Aq{k e sz:Nat}{es:List (List ay)}(n:hget H k=some (.row sz es))(y:∀v,hNoKey e (hpub k v H)=true)(z:Rep E σ H M a w):(es=[]/\Rep E (sigPub k (.slice none 0 0) σ) (hpub k (.slice none 0 0) H) M a w)\/∃b cap sp,(es.length<=cap/\cap<=dB/\dU sp=(cap-es.length)*sz)/\(∀e∈es,e.length=sz/\∀c∈e,c.oneCell'=true)/\Rep E (sigDrop e (sigPub k (.slice (some ⟨b,0,none⟩) es.length cap) σ)) ((8*e,.box (uj (es.flatten++sp)) (some (bT b)))::hpub k (.slice (some ⟨b,0,none⟩) es.length cap) H) M a w:=by
 obtain⟨ν,A,l⟩:=z;obtain⟨t,x⟩:=l.holds _ (bP n);simp only at t x;have o:=y9 l n;have d:=mX (k:=k) A;rcases x with⟨f,rfl⟩|⟨b,cap,T,sp,f,B,C,D,F⟩;·rw[f]at o d;exact .inl ⟨rfl,ν,d,o⟩
 ·rw[f]at o d;have m:ee (ν k)=some b:=by rw[f];rfl
  obtain⟨q,r⟩:=l.apart b (bH.2 ⟨(k,_),bP n,m⟩);let u:Nat->ay:=λj=>if j/8=e then bT b else ν j;have g:∀j,j/8≠e->u j=ν j:=λj p=>by simp[u,p]
  have i:u (8*e)=bT b:=by simp[u,show(8*e)/8=e by omega]
  refine .inr ⟨b,cap,sp,⟨B,C,D⟩,t,u,d.wF g,o.HK (y _) g (λj=>?_) ?_ (λc s=>?_)⟩
  ·by_cases p:j/8=e;·simp[u,p,iR]
   ·simp only[u,p,cA];exact l.one j
  ·rw[i];refine⟨⟨b,T,rfl,by rw[ju];exact F⟩,λv G=>?_⟩;cases G;rfl
  ·rw[i]at s;simp only[bT,ee,aO]at s;subst s;refine⟨?_,q,r⟩;rw[wI];exact kz l n m 0 _ (fq k H) (jo k H)
theorem oO{k sz:Nat}{es:List (List ay)}(e:Nat)(f:hget H k=some (.row sz es))(g:∀v,hNoKey e (hpub k v H)=true)(i:es=[]->OpK E o K (sigPub k (.slice none 0 0) σ) (hpub k (.slice none 0 0) H) M)(j:∀b cap sp,(es.length<=cap/\cap<=dB/\dU sp=(cap-es.length)*sz)->(∀e∈es,e.length=sz/\∀c∈e,c.oneCell'=true)->OpK E o K (sigDrop e (sigPub k (.slice (some ⟨b,0,none⟩) es.length cap) σ)) ((8*e,.box (uj (es.flatten++sp)) (some (bT b)))::hpub k (.slice (some ⟨b,0,none⟩) es.length cap) H) M):OpK E o K σ H M:=by
 intro a w l;rcases Aq (e:=e) f g l with⟨h,d⟩|⟨b,cap,sp,m,n,d⟩;·exact i h a w d
 ·exact j b cap sp m n a w d
theorem mr{c:lp}{Q:QP}{k sz:Nat}{es:List (List ay)}(e:Nat)(f:hget H k=some (.row sz es))(g:∀v,hNoKey e (hpub k v H)=true)(i:es=[]->CodeK E c Q (sigPub k (.slice none 0 0) σ) (hpub k (.slice none 0 0) H) M)(j:∀b cap sp,(es.length<=cap/\cap<=dB/\dU sp=(cap-es.length)*sz)->(∀e∈es,e.length=sz/\∀c∈e,c.oneCell'=true)->CodeK E c Q (sigDrop e (sigPub k (.slice (some ⟨b,0,none⟩) es.length cap) σ)) ((8*e,.box (uj (es.flatten++sp)) (some (bT b)))::hpub k (.slice (some ⟨b,0,none⟩) es.length cap) H) M):CodeK E c Q σ H M:=by
 intro a w l;rcases Aq (e:=e) f g l with⟨h,d⟩|⟨b,cap,sp,m,n,d⟩;·exact i h a w d
 ·exact j b cap sp m n a w d
theorem k9{live:List Nat}{c:lp}{Q:QP}(h:ui E live c Q σ H M):CodeK E c Q σ H M:=λa w b=>iY c Q σ H M h a w b
theorem Rep.ZS{j k b cap sz e:Nat}{es:List (List ay)}{sp:List ay}(F:lk σ j=some (true,.v (.slice (some ⟨b,0,none⟩) es.length cap)))(G:j<E.N)(p:hget H k=some (.box (uj (es.flatten++sp)) (some (bT b))))(q:es.length<=cap/\cap<=dB/\dU sp=(cap-es.length)*sz)(r:∀e∈es,e.length=sz/\∀c∈e,c.oneCell'=true)(I:hNoKey e (hdelk k H)=true)(J:Rep E σ H M a w):Rep E ((j,true,.own (8*e))::sigDrop e σ) ((8*e,.row sz es)::hdelk k H) M a w:=by
 obtain⟨ν,C,n⟩:=J;obtain⟨⟨L,T,t,D⟩,K⟩:=n.holds _ (bP p);have x:=K _ rfl;simp only at t x;rw[x]at t;cases t;rw[ju]at D;have o:ee (ν k)=some b:=by rw[x];rfl
 obtain⟨y,z⟩:=n.apart b (bH.2 ⟨(k,_),bP p,o⟩);let v:ay:=.slice (some ⟨b,0,none⟩) es.length cap;let u:Nat->ay:=λi=>if i/8=e then v else ν i;have l:∀i,i/8≠e->u i=ν i:=λi f=>by simp[u,f]
 have d:u (8*e)=v:=by simp[u,show(8*e)/8=e by omega]
 have m:=C.wF l;refine⟨u,⟨m.1,m.2.1,λi g s f=>?_⟩,(n.gB (fq k H)).HK I l (λi=>?_) ?_ (λc A=>?_)⟩
 ·simp only[lk]at f;split at f;·rename_i B;subst B;simp only[aO,cD]at f;obtain⟨rfl,rfl⟩:=f;have :=C.2.2 _ _ _ F;rw[this];simp only[dM,SV.cL,d,v]
  ·exact m.2.2 i g s f
 ·by_cases f:i/8=e;·simp[u,f,v,iR]
  ·simp only[u,f,cA];exact n.one i
 ·rw[d];exact⟨r,.inr ⟨b,cap,T,sp,rfl,q.1,q.2.1,q.2.2,D⟩⟩
 ·rw[d]at A;simp only[v,ee,aO]at A;subst A;exact⟨kz n p o 0 _ (fq k H) (jo k H),y,z⟩
theorem y'(j k e:Nat){b cap sz:Nat}{es:List (List ay)}{sp:List ay}(g:lk σ j=some (true,.v (.slice (some ⟨b,0,none⟩) es.length cap)))(d:aU (j<E.N)=true)(i:hget H k=some (.box (uj (es.flatten++sp)) (some (bT b))))(l:es.length<=cap/\cap<=dB/\dU sp=(cap-es.length)*sz)(f:∀e∈es,e.length=sz/\∀c∈e,c.oneCell'=true)(m:hNoKey e (hdelk k H)=true)(h:OpK E o K ((j,true,.own (8*e))::sigDrop e σ) ((8*e,.row sz es)::hdelk k H) M):OpK E o K σ H M:=λa w n=>h a w (n.ZS g (aW d) i l f m)
theorem ER{live:List Nat}{c:lp}{Q:QP}{X:Type}(S:X->dp×HS×Mem)(I:X->Prop)(m:X->Nat)(z:X)(J:I z)(r:Ent E σ H M (S z))(K:∀x,I x->CodeK E c (Ea E S I m x Q) (S x).1 (S x).2.1 (S x).2.2):LoopK E live c Q σ H M:=by
 intro a w i b k A;have B:∀n x,m x=n->I x->∀a w,Rep E (S x).1 (S x).2.1 (S x).2.2 a w->∃e y W,AM E Q e y W/\Arrives E.P (lone (b.at a (.code c::.inLoop c::k)) A w) b k A e y W:=by intro n;induction n using Hk with|_ n L=>intro x O R a w i;obtain⟨e,g,h,⟨t,G,N,d,o⟩,f⟩:=K x R a w i b (.inLoop c::k) A;cases e with|normal=>obtain⟨F,⟨C,D⟩,p⟩:=o;obtain⟨s,u,v,q,j⟩:=L (m F) (O▸D) F rfl C g h (p _ _ d);exact⟨s,u,v,q,.of_steps (Steps.trans f (.one step_inLoop)) j⟩|exit T=>exact⟨_,g,h,⟨t,G,N,d,o⟩,.pass (x:=.inLoop c) rfl (λ_ _=>.inl (by simp)) f⟩|goto l=>exact⟨_,g,h,⟨t,G,N,d,o⟩,.pass (x:=.inLoop c) rfl (λ_ _=>.inl (by simp)) f⟩|ret=>exact⟨_,g,h,⟨t,G,N,d,o⟩,.pass (x:=.inLoop c) rfl (λ_ _=>.inl (by simp)) f⟩|panic U=>exact⟨_,g,h,⟨t,G,N,d,o⟩,.pass (x:=.inLoop c) rfl (λ_ _=>.inl (by simp)) f⟩|outgrown=>exact⟨_,g,h,⟨t,G,N,d,o⟩,.pass (x:=.inLoop c) rfl (λ_ _=>.inl (by simp)) f⟩
 obtain⟨e,y,W,o,f⟩:=B _ z rfl J a w (r a w i);exact⟨e,y,W,o,.of_steps (.one step_loop) f⟩
theorem sW{f d sz F O:Nat}{l:List SV}{es G Q:List (List ay)}{A:SV->SV->List SV}{T:SV->SV}(k k2:Nat)(hA:∀s t s' t' ν ν',s.cL ν=s'.cL ν'->t.cL ν=t'.cL ν'->aS ν (A s t)=aS ν' (A s' t'))(hT:Ctx T)(hl:l=A (.own k) (.own k2))(hk:hget H k=some (.row sz es))(B:hget H k2=some (.row F G))(hne:aU (k≠k2)=true)(hd:aU (d<E.N)=true)(h:∀M',M.le M'->MeetsH E.P f (A (.own 8000) (.own 8008)) [(8000,.row sz es),(8008,.row F G)] M' (OwnR T O Q))(hn:hNoKey d (hdelk k2 (hdelk k (hdel d H)))=true)(hK:K ((d,true,T (.own (8*d)))::sigDrop d σ) ((8*d,.row O Q)::hdelk k2 (hdelk k (hdel d H))) M):CallK E f l d K σ H M:=by
 intro ν a w hs u;refine .inl ⟨(h M (cg M)).1,?_⟩;have x:(hdelk k2 (hdelk k (hdel d H))).Sublist H:=(fq k2 _).trans ((fq k _).trans (fR d H));have R:=aW hne;let c:=hdelk k2 (hdelk k (hdel d H));have hrk:∀q∈c,q.1≠k:=λq hq=>jo k _ q ((fq k2 _).subset hq);have S:∀q∈c,q.1≠k2:=jo k2 _;have n:Heap E ν c M w:=u.gB x;let v:Mem:=λb=>if b∈fp ν c then w.heap[b]? else M b;have I:M.le v:=λb o g=>by
  simp only[v];by_cases hf:b∈fp ν c;·have :=(n.apart b hf).1;rw[g]at this;cases this
  ·rw[ai hf];exact g
 have U:v.on w:=λb o g=>by
  simp only[v]at g;split at g;·exact g
  ·exact u.mem b o g
 let m:Nat->ay:=λj=>if j=8000 then ν k else if j=8008 then ν k2 else .bool false;have e1:m 8000=ν k:=by simp[m]
 have e2:m 8008=ν k2:=by simp[m]
 have V:∀b,ee (ν k)=some b->v b=none/\E.w0.heap.size<=b:=λb g=>by have C:=u.apart b (bH.2 ⟨_,bP hk,g⟩);refine⟨?_,C.2⟩;simp only[v];rw[ai (kz u hk g d c x hrk)];exact C.1
 have J:∀b,ee (ν k2)=some b->v b=none/\E.w0.heap.size<=b:=λb g=>by have C:=u.apart b (bH.2 ⟨_,bP B,g⟩);refine⟨?_,C.2⟩;simp only[v];rw[ai (kz u B g d c x S)];exact C.1
 have hp1:Heap ⟨E.P,0,E.w0,v⟩ m [(8000,.row sz es),(8008,.row F G)] v w:=by
  refine⟨λp hp=>?_,?_,λb g=>?_,U,u.below,cg _,λb g=>.inl g,λj=>?_⟩
  ·simp only[aV,cH,fK]at hp;rcases hp with rfl|rfl;·rw[e1];exact u.holds _ (bP hk)
   ·rw[e2];exact u.holds _ (bP B)
  ·simp only[fp,bK,eu,e1,e2];cases hb1:ee (ν k)with|none=>simp only[];cases W:ee (ν k2)<;>simp|some b1=>cases W:ee (ν k2)with|none=>simp|some b2=>simp only[gK,aV,cH,fK,gy,kM,fL];rintro rfl;exact uz u hk hb1 _ (bP B) (λe=>R e.symm) W
  ·obtain⟨q,hq,D⟩:=bH.1 g;simp only[aV,cH,fK]at hq;rcases hq with rfl|rfl;·rw[e1]at D;exact V b D
   ·rw[e2]at D;exact J b D
  ·simp only[m];split;·exact u.one k
   ·split;·exact u.one k2
    ·rfl
 rw[hl,hA (.own k) (.own k2) (.own 8000) (.own 8008) ν m (by simp only[SV.cL,e1]) (by simp only[SV.cL,e2])];refine((h v I).2 E.w0 v m w hp1).mono ?_;rintro e w'⟨s,H',M',ν',rfl,i,k',rfl,X⟩;let r:Nat->ay:=λj=>if j/8=d then ν' k' else ν j;have Y:∀j,j/8≠d->r j=ν j:=λj hj=>by simp[r,hj]
 have y:r (8*d)=ν' k':=by simp[r,show(8*d)/8=d by omega]
 have hMw:M.on w':=λb o g=>i.mem b o (i.le0 b o (I b o g));have z:∀b∈fp ν c,∃L,w.heap[b]?=some L/\M' b=some L:=λb g=>by have Z:=n.qL g;refine⟨w.heap[b],eC Z,i.le0 b _ ?_⟩;simp only[v,aF g];exact eC Z
 have hmv:Heap E ν c M w':=n.H9 (λb g=>by obtain⟨L,h1,C⟩:=z b g;rw[h1];exact i.mem b L C) hMw i.below;refine⟨_,rfl,_,_,_,⟨r,(hs.wF Y).ml (aW hd) ?_,hmv.HK hn Y (λj=>?_) ?_ (λb g=>?_)⟩,hK⟩;·rw[dM];exact hT _ _ _ _ (by simp only[SV.cL,y])
 ·by_cases hj:j/8=d;·simp only[r,hj,cR];exact i.one _
  ·simp only[r,hj,cA];exact u.one j
 ·rw[y];exact i.holds _ (bP X)
 ·rw[y]at g;obtain⟨h1,C⟩:=i.apart b (bH.2 ⟨_,bP X,g⟩);refine⟨λhm=>?_,?_,C⟩;·obtain⟨L,_,h3⟩:=z b hm;rw[h1]at h3;cases h3
  ·cases hM:M b with|none=>rfl|some L=>have :=i.le0 b _ (I b _ hM);rw[h1]at this;cases this
theorem p7{f d tS tR e sz:Nat}{k k2 b g u z m n A B:Nat}{cs cs2:List ay}(F:aU (d<E.N)=true)(G:E.P.underlying tS=some (.slice e))(I:∀w,(sizeOf e).run E.P w=.ok sz w)(j:∀w x y v,(nP #[tS,tS] #[tR] #[x,y]).run E.P w=.ok v w->(callFunc f #[x,y]).run E.P w=.ok (.value v) w)(C:hget H k=some (.box (uj cs) (some (bT b))))(c:hget H k2=some (.box (uj cs2) (some (bT g))))(l:aU (k≠k2)=true)(o:cs2.length≠0)(J:K ((d,true,.v (.bool false))::σ) H M):CallK E f [.v (.slice (some ⟨b,u,none⟩) m A),.v (.slice (some ⟨g,z,none⟩) n B)] d K σ H M:=by
 intro ν a w L h;obtain⟨⟨U,T,p,i⟩,O⟩:=h.holds _ (bP C);have q:=O _ rfl;simp only at p q;rw[q]at p;cases p;obtain⟨⟨Q,R,r,D⟩,S⟩:=h.holds _ (bP c);have s:=S _ rfl;simp only at r s;rw[s]at r;cases r;rw[ju]at i D;have t:b≠g:=by rintro rfl;exact uz h C (b:=b) (by rw[q];rfl) _ (bP c) (λe=>(aW l) e.symm) (by simp only[s];rfl)
 refine .inr ⟨.bool false,w,j w _ _ _ (Lib.run_overlaps_apart w tS tR e G sz I ⟨b,u,none⟩ ⟨g,z,none⟩ m A n B t T R cs.length cs2.length (by simp[World.shape?,i]) (by simp[World.shape?,D]) o (by simp[World.frozen?,i]) (by simp[World.frozen?,i])),_,_,_,⟨ν,L.ml (aW F) rfl,h⟩,J⟩
theorem rj{f d k sz:Nat}{l:List SV}{es:List (List ay)}(e:Nat)(q:hget H k=some (.row sz es))(D:∀v,hNoKey e (hpub k v H)=true)(s:es≠[])(F:∀b cap sp,(es.length<=cap/\cap<=dB/\dU sp=(cap-es.length)*sz)->(∀e∈es,e.length=sz/\∀c∈e,c.oneCell'=true)->CallK E f (SV.nK k (.slice (some ⟨b,0,none⟩) es.length cap) l) d K (sigDrop e (sigPub k (.slice (some ⟨b,0,none⟩) es.length cap) σ)) ((8*e,.box (uj (es.flatten++sp)) (some (bT b)))::hpub k (.slice (some ⟨b,0,none⟩) es.length cap) H) M)(t:∀v,SV.concs (SV.nK k v l)=true):CallK E f l d K σ H M:=by
 intro ν a w G n;obtain⟨A,B⟩:=n.holds _ (bP q);simp only at A B;rcases B with⟨_,I⟩|⟨b,cap,T,sp,m,J,L,N,O⟩;·exact absurd I s
 have C:=y9 n q;have o:=mX (k:=k) G;rw[m]at C o;have p:ee (ν k)=some b:=by rw[m];rfl
 obtain⟨u,x⟩:=n.apart b (bH.2 ⟨(k,_),bP q,p⟩);let ν':Nat->ay:=λj=>if j/8=e then bT b else ν j;have g:∀j,j/8≠e->ν' j=ν j:=λj r=>by simp[ν',r]
 have i:ν' (8*e)=bT b:=by simp[ν',show(8*e)/8=e by omega]
 have y:Heap E ν' ((8*e,.box (uj (es.flatten++sp)) (some (bT b)))::hpub k (.slice (some ⟨b,0,none⟩) es.length cap) H) M w:=by
  refine C.HK (D _) g (λj=>?_) ?_ (λc z=>?_)
  ·by_cases r:j/8=e;·simp[ν',r,iR]
   ·simp only[ν',r,cA];exact n.one j
  ·rw[i];refine⟨⟨b,T,rfl,by rw[ju];exact O⟩,λv P=>?_⟩;cases P;rfl
  ·rw[i]at z;simp only[bT,ee,aO]at z;subst z;refine⟨?_,u,x⟩;rw[wI];exact kz n q p 0 _ (fq k H) (jo k H)
 have :=F b cap sp ⟨J,L,N⟩ A ν' a w (o.wF g) y;rw[<-m]at this;have Q:aS ν' (SV.nK k (ν k) l)=aS ν l:=by rw[cl (ν:=ν) (ν':=ν') _ (t _),fW]
 rw[Q]at this;exact this
theorem o9{P:bZ}{f:kH}{d:Func}{c:lp}{args:List SV}{R:RP}(t:P.funcs[f]?=some d)(A:d.body=some c)(p:wG d args.length=true)(h:∀w n,CodeK ⟨P,d.ntmps,w,n⟩ c (yY P d.results.toList R) (params d.ntmps 0 args) H M):MeetsH P f args H M R:=by
 simp only[wG,ba,np,br]at p;refine⟨⟨d,t,p.1.1,p.1.2⟩,λq n ν w b=>?_⟩;refine calls_of_wp t A ?_;have j:(aS ν args).length=args.length:=by rw[cC];simp
 have m:Heap ⟨P,d.ntmps,q,n⟩ ν H M w:=⟨b.holds,b.nodup,b.apart,b.mem,b.below,b.le0,b.fresh,b.one⟩;refine kq ?_ (h q n _ w ⟨ν,⟨?_,rfl,?_⟩,m⟩)
 ·rintro e a u⟨σ,H,N,⟨ν,x,b⟩,l⟩;have o:(match p4 P σ H N d.results.toList with|some (y,C)=>C/\R (one? y) H N|none=>False)->a.defers=[]/\∃v,(results d a.tmps).run P u=.ok v u/\∃s G N ν,uq v=.returned (s.cL ν)/\Heap ⟨P,0,q,n⟩ ν G N u/\R s G N:=by
   intro l;split at l;·rename_i y C B;exact⟨x.2.1,_,j9 x b B l.1,_,_,_,ν,rfl,⟨b.holds,b.nodup,b.apart,b.mem,b.below,b.le0,b.fresh,b.one⟩,l.2⟩
   ·exact l.elim
  cases e with|normal=>exact o l|ret=>exact o l|_=>exact l.elim
 ·simp only[Ew,dh,Array.size_replicate,j];omega
 ·intro k g s D;obtain⟨i,rfl,z,r⟩:=mW D;simp only at z r;subst z;have E:i<args.length:=(aI.1 r).1;rw[mO (by simp only[dh,j];omega),dH,cC,aN,b7,r];rfl
theorem wL(cs D x:List ay)(o:Nat)(h:o+x.length<=cs.length):km (km cs (o+x.length) D) o x=cs.take o++x++(D++cs.drop (o+x.length+D.length)):=by
 unfold km;have a:(cs.take (o+x.length)).length=o+x.length:=by rw[a6];omega
 rw[bN,bN,bN];congr 1;·rw[jC (by omega),List.take_take,cT (by omega)]
 ·congr 1;have b:=List.drop_left (l₁:=cs.take (o+x.length)) (l₂:=D++cs.drop (o+x.length+D.length));rwa[a]at b
theorem uN{l news sp:List ay}{o:Nat}(h:news=l.take o){j:Nat}{u:ay}(a:news[j]?=some u):(l++sp)[0+j]?=some u:=by
 subst h;rw[i_]at a;split at a;·rw[b7,cW (aI.1 a).1];exact a
 ·cases a
theorem opn_noKeys(d:Nat)(l:List ay):SV.jn d (uj l)=true:=B_ d l
theorem opn_pubs(k:Nat)(v:ay)(l:List ay):SV.nK k v (uj l)=uj l:=KR k v l
theorem AO:type_of%(aa @opn_noKeys @opn_pubs):=aa @opn_noKeys @opn_pubs
theorem Ch{c:lp}{Q:QP}{σ':dp}(h:CodeK E c Q σ' H M)(b:subS σ σ'/\subH H H):CodeK E c Q σ H M:=λa w d=>h a w (aR (S:=(σ',H,M)) ⟨b,rfl⟩ a w d)
end
end Go.X
namespace Go.X
open Go Go.RowKit
section
variable{E:Env}{σ:dp}{H:HS}{M:Mem}{a:xp}{w:bQ}{ν:Nat->ay}{K:KP}{o:db}
theorem Heap.QE(e:Heap E ν H M w){k j:Nat}{cs:List SV}{t:Option ay}{s c:SV}(f:hget H k=some (.box cs t))(d:cs[j]?=some c)(g:s.cL ν=c.cL ν):Heap E ν (hset k (.box (cs.set j s) t) H) M w:=by
 refine e.ML (p:=.box cs t) f (λh=>?_);obtain⟨⟨b,T,l,m⟩,n⟩:=h;refine⟨⟨b,T,l,?_⟩,n⟩;rw[m];congr 3;rw[cC,cC,oB];apply gA;intro i;rw[nr];split;·rename_i o;subst o;have a:j<cs.length:=(aI.1 d).1;rw[ae,aF a,aN,d];simp only[cJ,g]
 ·rfl
theorem Rep.XS(k j e sz:Nat){cs:List SV}{t:Option ay}(z:hget H k=some (.box cs t))(A:cs[j]?=some (.v (.slice none 0 0)))(o:(k/8==e)=false)(B:hNoKey e H=true)(p:sigNoKey e σ=true)(C:Rep E σ H M a w):Rep E σ ((8*e,.row sz [])::hset k (.box (cs.set j (.own (8*e))) t) H) M a w:=by
 obtain⟨ν,q,r⟩:=C;let c:Nat->ay:=λi=>if i/8=e then .slice none 0 0 else ν i;have l:∀i,i/8≠e->c i=ν i:=λi f=>by simp[c,f]
 have d:c (8*e)=.slice none 0 0:=by simp[c,show(8*e)/8=e by omega]
 have m:k/8≠e:=by simpa using o
 have D:Heap E c ((8*e,.row sz [])::H) M w:=by
  refine r.HK B l (λi=>?_) ?_ (λb u=>by rw[d]at u;simp[ee]at u)
  ·by_cases f:i/8=e;·simp[c,f,iR]
   ·simp only[c,f,cA];exact r.one i
  ·rw[d];exact⟨λe x=>by simp at x,.inl ⟨rfl,rfl⟩⟩
 have n:¬8*e=k:=λx=>m (by omega);have y:=D.QE (k:=k) (j:=j) (s:=.own (8*e)) (by simp only[hget];rw[ai (λF=>n F.symm)];exact z) A (by simp only[SV.cL,d]);simp only[hset,ai n]at y;exact⟨c,⟨q.1,q.2.1,λi g s f=>by rw[q.2.2 i g s f,nw l s (uA p f)]⟩,y⟩
theorem sX{live:List Nat}{b:lp}{Q:QP}(k j e sz:Nat){cs:List SV}{t:Option ay}(f:hget H k=some (.box cs t))(g:cs[j]?=some (.v (.slice none 0 0)))(c:(k/8==e)=false)(i:hNoKey e H=true)(d:sigNoKey e σ=true)(h:LoopK E live b Q σ ((8*e,.row sz [])::hset k (.box (cs.set j (.own (8*e))) t) H) M):LoopK E live b Q σ H M:=λa w l=>h a w (l.XS k j e sz f g c i d)
theorem gT{S:dp×HS×Mem}(s j d e sz:Nat)(es:List (List ay)){cs:List SV}{t:Option ay}(k:hget H d=some (.row sz es))(p:hget ((8*e,.row sz es)::hdelk d (hdel e H)) s=some (.box cs t))(u:cs[j]?=some (.own d))(q:(d/8==e)=false)(v:hNoKey e (hdelk d (hdel e H))=true)(h:Ent E (sigDrop e σ) (hset s (.box (cs.set j (.own (8*e))) t) ((8*e,.row sz es)::hdelk d (hdel e H))) M S):Ent E σ H M S:=by
 rintro a w⟨ν,x,m⟩;refine h a w ?_;have n:d/8≠e:=by simpa using q
 let c:Nat->ay:=λi=>if i/8=e then ν d else ν i;have l:∀i,i/8≠e->c i=ν i:=λi o=>by simp[c,o]
 have f:c (8*e)=ν d:=by simp[c,show(8*e)/8=e by omega]
 have g:(hdelk d (hdel e H)).Sublist H:=(fq d _).trans (fR e H);have y:Heap E c ((8*e,.row sz es)::hdelk d (hdel e H)) M w:=by
  refine(m.gB g).HK v l (λi=>?_) ?_ (λb r=>?_)
  ·by_cases o:i/8=e;·simp only[c,o,cR];exact m.one d
   ·simp only[c,o,cA];exact m.one i
  ·rw[f];exact m.holds _ (bP k)
  ·rw[f]at r;obtain⟨z,A⟩:=m.apart b (bH.2 ⟨(d,_),bP k,r⟩);exact⟨kz m k r e _ g (jo d _),z,A⟩
 exact⟨c,x.wF l,y.QE p u (by simp only[SV.cL,f,l d n])⟩
end
end Go.X
namespace Go.X
open Go Go.RowKit
abbrev XP:=List Uf->HS->Mem->Prop
def CallX(E:Env)(f:kH)(args:List SV)(d:Nat)(K:KP)(X:XP)(σ:dp)(H:HS)(M:Mem):Prop:=∀ν a w,Slots E.N ν σ a->Heap E ν H M w->jr E.P f/\Calls E.P f (aS ν args).toArray w (λe W=>(∃v,e=.returned v/\∃t G L,Rep E t G L (a.put (some d) v) W/\K t G L)\/(∃b,e=.panicked b/\∃u G L,Heap E u G L W/\X b G L))
def RegK(E:Env)(ops:Array db)(Q:QP)(b:List db):KP:=λσ H M=>∀a w,Rep E σ H M a w->wpList E.P ops (AM E Q) b a w
def MeetsX(P:bZ)(f:kH)(args:List SV)(H:HS)(M:Mem)(R:RP)(X:XP):Prop:=jr P f/\∀b c ν w,Heap ⟨P,0,b,c⟩ ν H M w->Calls P f (aS ν args).toArray w λe W=>(∃s G N u,e=.returned (s.cL u)/\Heap ⟨P,0,b,c⟩ u G N W/\R s G N)\/(∃d u G N,e=.panicked d/\Heap ⟨P,0,b,c⟩ u G N W/\X d G N)
section
variable{E:Env}{σ:dp}{H:HS}{M:Mem}{a:xp}{w:bQ}{ν:Nat->ay}{K:KP}{Q Q':QP}
theorem Ci{c:lp}(h:CodeK E c Q σ H M)(d:∀e σ H M,Q e σ H M->Q' e σ H M):CodeK E c Q' σ H M:=λa w f=>kq (λ_ _ _⟨t,G,N,b,g⟩=>⟨t,G,N,b,d _ _ _ _ g⟩) (h a w f)
theorem i7{c d:lp}(h:CodeK E c (λe σ H M=>match e with|.normal=>CodeK E d Q σ H M|e=>Q e σ H M) σ H M):CodeK E (.seq c d) Q σ H M:=by intro a w b;refine wp_seq (kq ?_ (h a w b));rintro e a w⟨σ,H,M,b,f⟩;cases e<;>first|exact f a w b|exact⟨σ,H,M,b,f⟩
theorem Ia{i:Nat}{b:lp}(h:CodeK E b (λe σ H M=>match e with|.exit j=>if j=i then Q .normal σ H M else Q (.exit j) σ H M|e=>Q e σ H M) σ H M):CodeK E (.block i b) Q σ H M:=by
 intro a w d;refine wp_block (kq ?_ (h a w d));rintro e a w⟨σ,H,M,d,c⟩;cases e with
  |exit j=>
   simp only[Exit.inBlock];simp only at c;split;·rename_i e;rw[aF e]at c;exact⟨σ,H,M,d,c⟩
   ·rename_i e;rw[ai e]at c;exact⟨σ,H,M,d,c⟩
  |_=>exact⟨σ,H,M,d,c⟩
theorem KV{c:bB}{t e:lp}{b:Bool}(g:opv σ c=some (true,.v (.bool b)))(h:b=true->CodeK E t Q σ H M)(i:b=false->CodeK E e Q σ H M):CodeK E (.cond c t e) Q σ H M:=λa w d=>wp_cond_split (HL d g) (λf=>h f a w d) (λf=>i f a w d)
theorem KW(h:Q .normal σ H M):CodeK E .skip Q σ H M:=λa w b=>wp_skip ⟨σ,H,M,b,h⟩
theorem OJ(h:Q .ret σ H M):CodeK E .ret Q σ H M:=λa w b=>wp_ret ⟨σ,H,M,b,h⟩
theorem rZ{id:Nat}{ops:Array db}(h:RegK E ops Q ops.toList σ H M):CodeK E (.region id ops false) Q σ H M:=λa w b=>wp_region_list (h a w b)
theorem Cj{ops:Array db}(h:Q .normal σ H M):RegK E ops Q [] σ H M:=λa w b=>⟨σ,H,M,b,h⟩
theorem Ib{ops:Array db}(b:List db):∀(c:List db)(σ:dp)(H:HS)(M:Mem),BV E ops.toList (RegK E ops Q b) c σ H M->RegK E ops Q (c++b) σ H M
 |[],σ,H,M,h=>h
 |o::d,σ,H,M,h=>λa w e=>by
  unfold BV at h;split at h;·exact h.elim
  ·rename_i g j;obtain⟨ν,i,k⟩:=e;refine wpList_step λm f=>?_;have :=oH i j o rfl;simp only[Array.toArray_toList]at this;rw[this];exact lK (λσ H M a w e l=>f _ _ (Ib b d σ H M l a w e)) i k h
theorem A'{ops:Array db}(n:Nat)(h:BV E ops.toList (RegK E ops Q (ops.toList.drop n)) (ops.toList.take n) σ H M):RegK E ops Q ops.toList σ H M:=by have :=Ib (E:=E) (Q:=Q) (ops:=ops) (ops.toList.drop n) (ops.toList.take n) σ H M h;rwa[iT]at this
theorem KX{ops:Array db}{o:db}{b:List db}{x:bB}{v:ay}(d:o.op=.panic x)(e:o.guard=none)(f:opv σ x=some (true,.v v))(g:∀w,(Instr.panic v).run E.P w=.halt (.panic v) w)(h:Q (.panic [{v:=v,recovered:=false}]) σ H M):RegK E ops Q (o::b) σ H M:=by
 rintro a w⟨ν,c,i⟩;refine wpList_plain e λk _=>?_;have j:a.eval x=v:=c.mA f rfl;unfold oC;have :(da a.eval o).run E.P w=.halt (.panic v) w:=by simp only[da,d,j,a7,g w];rfl
 rw[this];exact⟨σ,H,M,⟨ν,c,i⟩,h⟩
theorem KY{ops:Array db}{o:db}{c:List db}{y:bB}{j:Array bB}{A:Array bL}{f d:Nat}{b l:List SV}(B:o.op=.call ⟨.value y,j,A⟩)(C:o.guard=none)(D:o.dst=some d)(F:opv σ y=some (true,.fn f b))(I:kj σ j.toList=some (true,l))(h:CallX E f (l++b) d (RegK E ops Q c) (λz H M=>Q (.panic z) [] H M) σ H M):RegK E ops Q (o::c) σ H M:=by
 rintro a w⟨ν,i,J⟩;obtain⟨⟨X,m,n,p⟩,K⟩:=h ν a w i J;refine wpList_plain C λY q=>?_;have L:=i.mA F rfl;have O:=mD i I rfl;have R:j.map a.eval=(aS ν l).toArray:=by apply j6;simp[<-O]
 have S:aS ν (l++b)=aS ν l++aS ν b:=by simp[cC]
 have T:(da a.eval o).run E.P w=.ok (.enter f (aS ν (l++b)).toArray) w:=by simp only[da,B,PL,L,SV.cL,yK,a7,bC,aQ,invoke,callFunc,run_program,m,n,p,R,bp,cA];rw[S];simp
 unfold oC;rw[T];simp only[sF];refine K.mono λe Z r=>?_;rcases r with⟨v,t,V,G,N,W,u⟩|⟨z,t,U,G,N,x,r⟩;·subst t;simp only[D];exact q _ _ (u _ _ W)
 ·subst t;exact⟨[],G,N,⟨U,⟨i.1,i.2.1,λk g s u=>by simp[lk]at u⟩,x⟩,r⟩
theorem OK{f d:Nat}{l:List SV}{R:RP}{X:XP}(i:aU (d<E.N)=true)(j:SV.concs l=true)(h:Meets E.P f l M R)(c:∀s H' L,M.le L->R s H' L->s.conc=true/\K ((d,true,s)::σ) H L):CallX E f l d K X σ H M:=by intro ν a w k g;refine⟨h.1,?_⟩;rw[cl (ν:=vu) (ν':=ν) l j];refine(h.2 w g.mem).mono ?_;rintro e u⟨s,H',L,ν',rfl,b,m⟩;obtain⟨n,c⟩:=c s H' L b.le0 m;exact .inl ⟨_,rfl,_,_,_,⟨ν,k.ml (aW i) (by rw[dM];exact fz s n),g.D_ b⟩,c⟩
theorem gJ{f d:Nat}{l:List SV}{X:XP}{k:List Uf}(q:SV.concs l=true)(h:MeetsX E.P f l [] M (λ_ _ _=>False) (λc _ _=>c=k))(m:X k H M):CallX E f l d K X σ H M:=by
 intro ν a w r g;refine⟨h.1,?_⟩;refine(h.2 w M ν w ⟨λp n=>(by cases n),kM,λb i=>by simp[fp]at i,g.mem,dQ _ _,cg _,λb i=>.inl i,g.one⟩).mono ?_;rintro e W(⟨_,_,_,_,_,_,o⟩|⟨c,u,G,N,rfl,j,rfl⟩);·exact o.elim
 ·exact .inr ⟨_,rfl,ν,H,M,g.mE j.below,m⟩
end
def KZ(P:bZ)(b:List mh)(R:RP)(X:XP):QP:=λe σ H M=>match e with|.panic c=>X c H M|e=>yY P b R e σ H M
theorem p8{P:bZ}{f:kH}{d:Func}{c:lp}{args:List SV}{H:HS}{M:Mem}{R:RP}{X:XP}(y:P.funcs[f]?=some d)(D:d.body=some c)(r:wG d args.length=true)(h:∀n o,CodeK ⟨P,d.ntmps,n,o⟩ c (KZ P d.results.toList R X) (params d.ntmps 0 args) H M):MeetsX P f args H M R X:=by
 simp only[wG,ba,np,br]at r;refine⟨⟨d,y,r.1.1,r.1.2⟩,λn o ν w l=>?_⟩;refine calls_of_wp y D ?_;have m:(aS ν args).length=args.length:=by rw[cC];simp
 refine kq ?_ (h n o _ w ⟨ν,⟨?_,rfl,?_⟩,⟨l.holds,l.nodup,l.apart,l.mem,l.below,l.le0,l.fresh,l.one⟩⟩)
 ·rintro e a W⟨σ,G,N,⟨u,t,b⟩,j⟩;have p:(match p4 P σ G N d.results.toList with|some (z,C)=>C/\R (one? z) G N|none=>False)->a.defers=[]/\∃v,(results d a.tmps).run P W=.ok v W/\((∃s G N u,uq v=.returned (s.cL u)/\Heap ⟨P,0,n,o⟩ u G N W/\R s G N)\/(∃q u G N,uq v=.panicked q/\Heap ⟨P,0,n,o⟩ u G N W/\X q G N)):=by
   intro j;split at j;·rename_i z C E;exact⟨t.2.1,_,j9 t b E j.1,.inl ⟨_,_,_,u,rfl,⟨b.holds,b.nodup,b.apart,b.mem,b.below,b.le0,b.fresh,b.one⟩,j.2⟩⟩
   ·exact j.elim
  cases e with|normal=>exact p j|ret=>exact p j|panic q=>exact⟨t.2.1,.inr ⟨q,u,G,N,rfl,⟨b.holds,b.nodup,b.apart,b.mem,b.below,b.le0,b.fresh,b.one⟩,j⟩⟩|_=>exact j.elim
 ·simp only[Ew,dh,Array.size_replicate,m];omega
 ·intro k g s F;obtain⟨i,rfl,B,x⟩:=mW F;simp only at B x;subst B;have I:i<args.length:=(aI.1 x).1;rw[mO (by simp only[dh,m];omega),dH,cC,aN,b7,x];rfl
section
variable{E:Env}{σ:dp}{H:HS}{M:Mem}{a:xp}{w:bQ}{ν:Nat->ay}{K:KP}{Q Q':QP}
theorem rk{k:Nat}{cs:List SV}{t:Option ay}(d:Heap E ν H M w)(a:hget H k=some (.box cs t)):∃b T,ν k=.pointer (some ⟨b,0,none⟩)/\w.heap[b]?=some (.cells (aS ν cs).toArray T (0,0))/\Ux t (ν k)/\b∈fp ν H:=by obtain⟨⟨b,T,c,e⟩,f⟩:=d.holds _ (bP a);exact⟨b,T,c,e,f,bH.2 ⟨_,bP a,by simp only[c,ee]⟩⟩
theorem Heap.UL(n:Heap E ν H M w){k b:Nat}{cs c:List SV}{t:Option ay}(o:hget H k=some (.box cs t))(m:ν k=.pointer (some ⟨b,0,none⟩)){w':bQ}{T:bL}(h:w'.heap[b]?=some (.cells (aS ν c).toArray T (0,0)))(d:∀j∈fp ν H,j≠b->w'.heap[j]?=w.heap[j]?)(r:M.on w')(s:um E.w0.heap.size E.w0 w'):Heap E ν (hset k (.box c t) H) M w':=by
 obtain⟨u,A,q,v,x,y⟩:=rk n o;rw[m]at q;obtain rfl:b=u:=by cases q;rfl
 have i:b<w.heap.size:=(bV.1 v).1;let g:bQ:={w with heap:=w.heap.setIfInBounds b (.cells (aS ν c).toArray T (0,0))};have z:Heap E ν (hset k (.box c t) H) M g:=by
  refine n.Ql o (p:=.box c t) (b:=b) (by rw[m];rfl) (λj l=>?_) (by simp[g]) ⟨rfl,rfl,rfl⟩ ⟨⟨b,T,m,?_⟩,x⟩;·simp only[g,Er];rw[ai (λe=>l e.symm)]
  ·simp[g,i]
 refine z.H9 (λj l=>?_) r s;rw[qM]at l;by_cases f:j=b;·subst f;rw[h];simp[g,i]
 ·rw[d j l f];simp only[g,Er];rw[ai (λe=>f e.symm)]
theorem n8{f d:Nat}{A:SV->List SV}{cs:List SV}{t:Option ay}{R:SV->List SV->Prop}{X0:List Uf->List SV->Prop}{X:XP}(k:Nat)(hA:Ctxs A)(hd:aU (d<E.N)=true)(hk:hget H k=some (.box cs t))(G:SV.concs cs=true)(h:∀q L,M.le L->MeetsX E.P f (A (.ptr 8000 0 0 0)) [(8000,.box cs q)] L (λs H' _=>∃c,(s.conc=true/\SV.concs c=true)/\hget H' 8000=some (.box c q)/\R s c) (λu H' _=>∃c,SV.concs c=true/\hget H' 8000=some (.box c q)/\X0 u c))(hK:∀s c,R s c->K ((d,true,s)::σ) (hset k (.box c t) H) M)(hX:∀u c,X0 u c->X u (hset k (.box c t) H) M):CallX E f (A (.ptr k 0 0 0)) d K X σ H M:=by
 classical
  intro ν a w hs r;obtain⟨b,T,z,e2,e3,B⟩:=rk r hk;let n:Mem:=λj=>if j∈fp ν H/\j≠b then w.heap[j]? else M j;have x:M.le n:=λj o g=>by
   have hn:j∉fp ν H:=λhf=>by rw[(r.apart j hf).1]at g;cases g
   simp only[n];rw[ai (λe=>hn e.1)];exact g
  have I:n.on w:=λj o g=>by
   simp only[n]at g;split at g;·exact g
   ·exact r.mem j o g
  let l:Nat->ay:=λj=>if j=8000 then ν k else .bool false;have m:l 8000=ν k:=by simp[l]
  have J:n b=none:=by simp only[n];rw[ai (λe=>e.2 rfl)];exact(r.apart b B).1
  have O:Heap ⟨E.P,0,E.w0,n⟩ l [(8000,.box cs (some (ν k)))] n w:=by
   refine⟨λp hp=>?_,?_,λj g=>?_,I,r.below,cg _,λj g=>.inl g,λj=>?_⟩;·simp only[bD]at hp;subst hp;exact⟨⟨b,T,by rw[m];exact z,by rw[e2,cl (ν:=ν) (ν':=l) cs G]⟩,λv hv=>by cases hv;exact m⟩
   ·simp[fp,m,z,ee]
   ·simp only[fp,bK,eu,m,z,ee,bD]at g;rw[g];exact⟨J,(r.apart b B).2⟩
   ·by_cases g:j=8000;·simp only[l,g,cR];exact r.one k
    ·simp only[l,g,cA];rfl
  have hc:=(h (some (ν k)) n x).2 E.w0 n l w O;rw[hA (.ptr 8000 0 0 0) (.ptr k 0 0 0) l ν (by simp only[SV.cL,m])]at hc;have C:∀(W:bQ)(ν':Nat->ay)(H':HS)(L:Mem)(c:List SV),Heap ⟨E.P,0,E.w0,n⟩ ν' H' L W->SV.concs c=true->hget H' 8000=some (.box c (some (ν k)))->Heap E ν (hset k (.box c t) H) M W:=by
   intro W ν' H' L c i Q D;obtain⟨b2,T2,q1,S,q3,_⟩:=rk i D;have U:b2=b:=by have :=q3 _ rfl;rw[q1,z]at this;cases this;rfl
   rw[U]at S;rw[cl (ν:=ν) (ν':=ν') c Q]at S;refine r.UL hk z S (λj g V=>?_) (λj o g=>i.mem j o (i.le0 j o (x j o g))) i.below;have y:=r.qL g;have F:w.heap[j]?=some (w.heap[j]'y):=eC y;have Y:n j=some (w.heap[j]'y):=by simp only[n];rw[aF ⟨g,V⟩];exact F
   rw[i.mem j _ (i.le0 j _ Y),F]
  refine⟨(h (some (ν k)) n x).1,hc.mono λe W Z=>?_⟩;rcases Z with⟨s,H',L,ν',rfl,i,c,⟨c1,c2⟩,D,hr⟩|⟨u,ν',H',L,rfl,i,c,c2,D,Z⟩;·exact .inl ⟨_,rfl,_,_,M,⟨ν,hs.ml (aW hd) (by rw[dM];exact fz s c1),C W ν' H' L c i c2 D⟩,hK s c hr⟩
  ·exact .inr ⟨u,rfl,ν,_,M,C W ν' H' L c i c2 D,hX u c Z⟩
end
end Go.X
namespace Go.X
open Go Go.RowKit
def ES(E:Env)(d:Option Nat)(K:KP)(Q:QP)(σ:dp)(H:HS)(M:Mem):Option (Bool×SV)->Option (Bool×List SV)->Prop
 |some (true,.fn f a),some (true,l)=>match d with|some d=>CallX E f (l++a) d K (λb H M=>Q (.panic b) [] H M) σ H M|none=>False
 |_,_=>False
def isIfc:ay->Bool|.iface _ _=>true|_=>false
def y_(Q:QP)(σ:dp)(H:HS)(M:Mem):Option (Bool×SV)->Prop|some (true,.v v)=>isIfc v=true/\Q (.panic [{v:=v,recovered:=false}]) σ H M|_=>False
def opX(o:db):Bool:=match o.op with|.call ⟨.value _,_,_⟩=>true|.panic _=>true|_=>false
def xOp(E:Env)(K:KP)(Q:QP)(σ:dp)(H:HS)(M:Mem)(o:db):Prop:=match o.op with|.call ⟨.value f,a,_⟩=>ES E o.dst K Q σ H M (opv σ f) (kj σ a.toList)|.panic x=>y_ Q σ H M (opv σ x)|_=>False
def RegX(E:Env)(live:List Nat)(all:List db)(Q:QP):List db->dp->HS->Mem->Prop|[],σ,H,M=>Q .normal (wa live σ) H M|o::a,σ,H,M=>bif(o.guard.isNone&&opX o)then xOp E (RegX E live all Q a) Q σ H M o else KM E (RegX E live all Q a) σ H M o (mc all σ o.guard)
def DrawX(E:Env)(live:List Nat)(id:Nat)(ops:Array db)(Q:QP):KP:=CodeK E (.region id ops true) Q
def xk(E:Env)(live:List Nat):lp->QP->dp->HS->Mem->Prop
 |.skip,Q,σ,H,M=>Q .normal σ H M
 |.ret,Q,σ,H,M=>Q .ret σ H M
 |.exit i,Q,σ,H,M=>Q (.exit i) σ H M
 |.region h d g,Q,σ,H,M=>bif g then DrawX E live h d Q σ H M else RegX E live d.toList Q d.toList σ H M
 |.seq a b,Q,σ,H,M=>xk E live a (λe σ H M=>match e with|.normal=>xk E live b Q σ H M|e=>Q e σ H M) σ H M
 |.block i b,Q,σ,H,M=>xk E live b (FK i Q) σ H M
 |.cond c t e,Q,σ,H,M=>match opv σ c with|some (true,.v (.bool b))=>(b=true->xk E live t Q σ H M)/\(b=false->xk E live e Q σ H M)|_=>False
 |.loop b,Q,σ,H,M=>LoopK E live b Q σ H M
 |.rangeFunc f p a b,Q,σ,H,M=>CodeK E (.rangeFunc f p a b) Q σ H M
 |.scope b,Q,σ,H,M=>CodeK E (.scope b) Q σ H M
 |.label l,Q,σ,H,M=>CodeK E (.label l) Q σ H M
 |.goto l,Q,σ,H,M=>CodeK E (.goto l) Q σ H M
 |.refuse _,_,_,_,_=>False
section
variable{E:Env}{live:List Nat}{Q:QP}{σ:dp}{H:HS}{M:Mem}
theorem p9{all:List db}:∀(l:List db)(σ:dp)(H:HS)(M:Mem),RegX E live all Q l σ H M->RegK E all.toArray Q l σ H M
 |[],σ,H,M,h=>λa w i=>⟨_,_,_,i.UB,h⟩
 |o::b,σ,H,M,h=>by
  unfold RegX at h;by_cases c:(o.guard.isNone&&opX o)=true
  ·rw[c,dM]at h;simp only[ba,Option.isNone_iff_eq_none]at c;unfold xOp at h;split at h
   ·rename_i A B C m;unfold ES at h;split at h
    ·rename_i f r l s t;split at h;·rename_i d u;exact KY m c.1 u s t (λV a w j k=>⟨(h V a w j k).1,(h V a w j k).2.mono λe W n=>n.imp (λ⟨v,y,σ',H',N,i,p⟩=>⟨v,y,σ',H',N,i,p9 b σ' H' N p⟩) id⟩)
     ·exact h.elim
    ·exact h.elim
   ·rename_i x m;unfold y_ at h;split at h
    ·rename_i v n;refine KX m c.1 n (λw=>?_) h.2;have :=h.1;unfold isIfc at this;split at this;·rfl
     ·cases this
    ·exact h.elim
   ·exact h.elim
  ·rw[Bool.not_eq_true]at c;rw[c,ln]at h;unfold KM at h;split at h;·rename_i g z;rintro a w⟨V,j,k⟩;refine wpList_step λD q=>?_;have :=oH j z o rfl;rw[this];exact lK (λσ H M a w i p=>q _ _ (p9 b σ H M p a w i)) j k h
   ·exact h.elim
theorem eD:∀(c:lp)(Q:QP)(σ:dp)(H:HS)(M:Mem),xk E live c Q σ H M->CodeK E c Q σ H M
 |.skip,Q,σ,H,M,h=>KW h
 |.ret,Q,σ,H,M,h=>OJ h
 |.exit i,Q,σ,H,M,h=>λa w m=>wp_exit ⟨σ,H,M,m,h⟩
 |.region n d g,Q,σ,H,M,h=>by cases g with|false=>have :=p9 (E:=E) (live:=live) (all:=d.toList) d.toList σ H M h;rw[Array.toArray_toList]at this;exact rZ this|true=>exact h
 |.seq x y,Q,σ,H,M,h=>by refine i7 (Ci (eD x _ σ H M h) λe σ H M k=>?_);cases e<;>first|exact eD y Q σ H M k|exact k
 |.block i b,Q,σ,H,M,h=>Ia (Ci (eD b _ σ H M h) λe σ H M k=>k)
 |.cond c t e,Q,σ,H,M,h=>by
  simp only[xk]at h;split at h;·rename_i b j;exact KV j (λj=>eD t Q σ H M (h.1 j)) (λj=>eD e Q σ H M (h.2 j))
  ·exact h.elim
 |.loop b,Q,σ,H,M,h=>h
 |.rangeFunc f p x y,Q,σ,H,M,h=>h
 |.scope b,Q,σ,H,M,h=>h
 |.label l,Q,σ,H,M,h=>h
 |.goto l,Q,σ,H,M,h=>h
 |.refuse r,Q,σ,H,M,h=>h.elim
theorem jU{id:Nat}{ops:Array db}(h:DrawK E id ops (Qs live Q) σ H M):DrawX E live id ops Q σ H M:=λa w b=>kq (λe a w⟨c,σ,H,M,b,d⟩=>by subst c;exact⟨_,_,_,b.UB,d⟩) (h a w b)
theorem mF{id:Nat}{ops:Array db}(n:Nat)(e:E.P.follows .mixedOrders=true)(f:DK .any ops n=true)(h:PH E ops.toList (RegX E live ops.toList Q (ops.toList.drop n)) (ops.toList.take n) σ H M):DrawX E live id ops Q σ H M:=by rintro a w⟨v,b,d⟩;·refine uF (C:=λu=>Heap E v H M u) n e f (d.mE ((dQ _ _).drew)) ?_;have :=vx (E:=E) (ops:=ops.toList) (K:=RegX E live ops.toList Q (ops.toList.drop n)) (Nx:=λg=>∀u,Heap E v H M u->wpList E.P ops (AM E Q) (ops.toList.drop n) g u) (λσ a b i u c=>by have :=p9 (ops.toList.drop n) σ H M i a u ⟨v,b,c⟩;simpa using this) (λu=>Heap E v H M u) (λ_ h=>h) (λw u h j=>h.mE j) w d (ops.toList.take n) σ a b h;simpa using this
theorem Ic{c:lp}{X:Type}(S:X->dp×HS×Mem)(I:X->Prop)(m:X->Nat)(z:X)(F:I z)(r:Ent E σ H M (S z))(G:∀x,I x->CodeK E c (Ea E S I m x Q) (S x).1 (S x).2.1 (S x).2.2):LoopK E live c Q σ H M:=by
 intro a w i b k A;have s:∀n x,m x=n->I x->∀a w,Rep E (S x).1 (S x).2.1 (S x).2.2 a w->∃e y W,AM E Q e y W/\Arrives E.P (lone (b.at a (.code c::.inLoop c::k)) A w) b k A e y W:=by intro n;induction n using Hk with|_ n J=>intro x K L a w i;obtain⟨e,g,h,⟨σ',H',N,d,o⟩,f⟩:=G x L a w i b (.inLoop c::k) A;cases e with|normal=>obtain⟨D,⟨B,C⟩,p⟩:=o;obtain⟨t,u,v,q,j⟩:=J (m D) (K▸C) D rfl B g h (p _ _ d);exact⟨t,u,v,q,.of_steps (Steps.trans f (.one step_inLoop)) j⟩|exit O=>exact⟨_,g,h,⟨σ',H',N,d,o⟩,.pass (x:=.inLoop c) rfl (λ_ _=>.inl (by simp)) f⟩|goto l=>exact⟨_,g,h,⟨σ',H',N,d,o⟩,.pass (x:=.inLoop c) rfl (λ_ _=>.inl (by simp)) f⟩|ret=>exact⟨_,g,h,⟨σ',H',N,d,o⟩,.pass (x:=.inLoop c) rfl (λ_ _=>.inl (by simp)) f⟩|panic R=>exact⟨_,g,h,⟨σ',H',N,d,o⟩,.pass (x:=.inLoop c) rfl (λ_ _=>.inl (by simp)) f⟩|outgrown=>exact⟨_,g,h,⟨σ',H',N,d,o⟩,.pass (x:=.inLoop c) rfl (λ_ _=>.inl (by simp)) f⟩
 obtain⟨e,y,W,o,f⟩:=s _ z rfl F a w (r a w i);exact⟨e,y,W,o,.of_steps (.one step_loop) f⟩
theorem uO{a:lp}{X:Type}(S:X->dp×HS×Mem)(I:X->Prop)(m:X->Nat)(c:X)(d:I c)(b:Ent E σ H M (S c))(e:∀x,I x->xk E live a (Ea E S I m x Q) (S x).1 (S x).2.1 (S x).2.2):LoopK E live a Q σ H M:=Ic S I m c d b λx f=>eD _ _ _ _ _ (e x f)
end
theorem cO{P:bZ}{f:kH}{a:Func}{c:lp}{args:List SV}{H:HS}{M:Mem}{R:RP}{X:XP}(live:List Nat)(e:P.funcs[f]?=some a)(g:a.body=some c)(i:wG a args.length=true)(h:∀b d,xk ⟨P,a.ntmps,b,d⟩ live c (KZ P a.results.toList R X) (params a.ntmps 0 args) H M):MeetsX P f args H M R X:=p8 e g i λb d=>eD c _ _ _ _ (h b d)
/-! the simp words -/
section
variable(E:Env)(live:List Nat)(Q:QP)(σ:dp)(H:HS)(M:Mem)(all:List db)
def K1(b:lp)(Q:QP):QP:=λe σ H M=>match e with|.normal=>xk E live b Q σ H M|e=>Q e σ H M
def MN(t e:lp):Option (Bool×SV)->Prop|some (true,.v (.bool b))=>(b=true->xk E live t Q σ H M)/\(b=false->xk E live e Q σ H M)|_=>False
def ZT(Q:QP):XP:=λa H M=>Q (.panic a) [] H M
theorem RegX_nil:RegX E live all Q [] σ H M=Qs live Q σ H M:=rfl
theorem RegX_call(d:Nat)(f:bB)(e:Array bB)(g:Array bL)(h:bL)(b)(c)(a:List db):RegX E live all Q (⟨some d,.call ⟨.value f,e,g⟩,h,b,c,none⟩::a) σ H M=ES E (some d) (RegX E live all Q a) Q σ H M (opv σ f) (kj σ e.toList):=rfl
theorem RegX_panic(x:bB)(d)(e:bL)(b)(c)(a:List db):RegX E live all Q (⟨d,.panic x,e,b,c,none⟩::a) σ H M=y_ Q σ H M (opv σ x):=rfl
theorem RegX_step(o:db)(a:List db)(h:(o.guard.isNone&&opX o)=false):RegX E live all Q (o::a) σ H M=KM E (RegX E live all Q a) σ H M o (mc all σ o.guard):=by rw[RegX,h,ln]
theorem xCall_ev(d:Nat)(K:KP)(f:kH)(a l:List SV):ES E (some d) K Q σ H M (some (true,.fn f a)) (some (true,l))=CallX E f (l++a) d K (ZT Q) σ H M:=rfl
theorem xPanic_ev(v:ay):y_ Q σ H M (some (true,.v v))=(isIfc v=true/\Q (.panic [{v:=v,recovered:=false}]) σ H M):=rfl
theorem wpX_skip:xk E live .skip Q σ H M=Q .normal σ H M:=rfl
theorem wpX_ret:xk E live .ret Q σ H M=Q .ret σ H M:=rfl
theorem wpX_exit(i:Nat):xk E live (.exit i) Q σ H M=Q (.exit i) σ H M:=rfl
theorem wpX_region(id:Nat)(ops:Array db):xk E live (.region id ops false) Q σ H M=RegX E live ops.toList Q ops.toList σ H M:=rfl
theorem wpX_draw(id:Nat)(ops:Array db):xk E live (.region id ops true) Q σ H M=DrawX E live id ops Q σ H M:=rfl
theorem wpX_seq(a b:lp):xk E live (.seq a b) Q σ H M=xk E live a (K1 E live b Q) σ H M:=rfl
theorem wpX_block(i:Nat)(b:lp):xk E live (.block i b) Q σ H M=xk E live b (FK i Q) σ H M:=rfl
theorem wpX_cond(c:bB)(t e:lp):xk E live (.cond c t e) Q σ H M=MN E live Q σ H M t e (opv σ c):=rfl
theorem wpX_loop(b:lp):xk E live (.loop b) Q σ H M=LoopK E live b Q σ H M:=rfl
theorem condX_ev(t e:lp)(b:Bool):MN E live Q σ H M t e (some (true,.v (.bool b)))=((b=true->xk E live t Q σ H M)/\(b=false->xk E live e Q σ H M)):=rfl
theorem seqX_normal(b:lp):K1 E live b Q .normal σ H M=xk E live b Q σ H M:=rfl
theorem seqX_ret(b:lp):K1 E live b Q .ret σ H M=Q .ret σ H M:=rfl
theorem seqX_exit(b:lp)(i:Nat):K1 E live b Q (.exit i) σ H M=Q (.exit i) σ H M:=rfl
theorem seqX_panic(b:lp)(a:List Uf):K1 E live b Q (.panic a) σ H M=Q (.panic a) σ H M:=rfl
theorem blkQ_panic(i:Nat)(a:List Uf):FK i Q (.panic a) σ H M=Q (.panic a) σ H M:=rfl
theorem rndQ_panic{X:Type}(S:X->dp×HS×Mem)(I:X->Prop)(m:X->Nat)(x:X)(a:List Uf):Ea E S I m x Q (.panic a) σ H M=Q (.panic a) σ H M:=rfl
theorem xPan_ev(a:List Uf):ZT Q a H M=Q (.panic a) [] H M:=rfl
theorem RetX_panic(P:bZ)(b:List mh)(R:RP)(X:XP)(a:List Uf):KZ P b R X (.panic a) σ H M=X a H M:=rfl
theorem RetX_ret(P:bZ)(a:List mh)(R:RP)(X:XP):KZ P a R X .ret σ H M=yY P a R .ret σ H M:=rfl
theorem RetX_normal(P:bZ)(a:List mh)(R:RP)(X:XP):KZ P a R X .normal σ H M=yY P a R .normal σ H M:=rfl
end
section
variable{E:Env}{live:List Nat}{Q:QP}{σ σ':dp}{H H':HS}{M:Mem}{all:List db}{K:KP}
@[congr]theorem ZG{c:lp}(h:σ=σ')(a:H=H'):xk E live c Q σ H M=xk E live c Q σ' H' M:=by rw[h,a]
@[congr]theorem XT{l:List db}(h:σ=σ')(a:H=H'):RegX E live all Q l σ H M=RegX E live all Q l σ' H' M:=by rw[h,a]
@[congr]theorem XU{b:lp}{e:Exit}(h:σ=σ')(a:H=H'):K1 E live b Q e σ H M=K1 E live b Q e σ' H' M:=by rw[h,a]
@[congr]theorem WQ{t e:lp}{r a:Option (Bool×SV)}(h:σ=σ')(b:H=H')(c:r=a):MN E live Q σ H M t e r=MN E live Q σ' H' M t e a:=by rw[h,b,c]
@[congr]theorem WR{d:Option Nat}{r a:Option (Bool×SV)}{s b:Option (Bool×List SV)}(h:σ=σ')(c:H=H')(e:r=a)(f:s=b):ES E d K Q σ H M r s=ES E d K Q σ' H' M a b:=by rw[h,c,e,f]
@[congr]theorem UM{r a:Option (Bool×SV)}(h:σ=σ')(b:H=H')(c:r=a):y_ Q σ H M r=y_ Q σ' H' M a:=by rw[h,b,c]
@[congr]theorem WS{f d:Nat}{l a:List SV}{X:XP}(b:l=a)(h:σ=σ')(c:H=H'):CallX E f l d K X σ H M=CallX E f a d K X σ' H' M:=by rw[b,h,c]
@[congr]theorem WT{id:Nat}{ops:Array db}(h:σ=σ')(a:H=H'):DrawX E live id ops Q σ H M=DrawX E live id ops Q σ' H' M:=by rw[h,a]
@[congr]theorem XV{P:bZ}{a:List mh}{R:RP}{X:XP}{e:Exit}(h:σ=σ')(b:H=H'):KZ P a R X e σ H M=KZ P a R X e σ' H' M:=by rw[h,b]
end
end Go.X
namespace Go.X
open Go Go.RowKit
section
variable{E:Env}{σ:dp}{H:HS}{M:Mem}{a:xp}{w:bQ}{ν:Nat->ay}{K:KP}{o:db}
theorem Heap.ET(i:Heap E ν H M w){w':bQ}{j:Obj}(l:um w.heap.size w w')(m:w'.heap[w.heap.size]?=some j):∃N,M.le N/\N w.heap.size=some j/\Heap E ν H N w':=by
 have f:=i.mE l;have k:M w.heap.size=none:=by cases n:M w.heap.size with|none=>rfl|some o=>have :=i.mem.lt n;omega
 let N:Mem:=λc=>if c=w.heap.size then some j else M c;have g:M.le N:=λc o d=>by simp only[N];rw[ai (λe=>by rw[e,k]at d;cases d)];exact d
 refine⟨N,g,by simp[N],f.holds,f.nodup,λb h=>?_,λc p d=>?_,f.below,f.le0.dC g,λc d=>?_,f.one⟩;·have :=i.qL h;simp only[N,ai (show b≠w.heap.size by omega)];exact f.apart b h
 ·simp only[N]at d;split at d;·rename_i e;simp only[aO]at d;subst d e;exact m
  ·exact f.mem c p d
 ·simp only[N]at d;split at d;·rename_i e;subst e;exact .inr i.below.size
  ·exact f.fresh c d
theorem FN{s t e d:Nat}{x:bB}{b:ByteArray}(y:o.op=.convert s t x)(A:o.dst=some d)(B:aU (d<E.N)=true)(k:E.P.underlying s=some .string)(C:E.P.underlying t=some (.slice e))(D:E.P.underlying e=some (.int .u8))(F:opv σ x=some (true,.v (.string b)))(X:b.size<=70368744177664)(G:∀v L,M.le L->RowM L v 1 ((bl b).map iy)->K ((d,true,.v v)::σ) H L):OpK E o K σ H M:=by
 refine jq λν a w q I=>?_;have J:=q.mA F rfl;have O:=run_bytes_of_string (P:=E.P) w s t e b k C D;have l:=grownCap_ge w b.size 0 e;have m:=grownCap_le_maxLen w b.size 0 e (by simp only[dB];omega);generalize nt w b.size 0 e=f at*;have n:=eP w.drew (.cells (q8 b f) e ((q8 b f).size,(q8 b f).size+1));have Q:w.drew.heap.size=w.heap.size:=rfl;obtain⟨L,R,S,T⟩:=I.ET (w':=w.drew.alloc (.cells (q8 b f) e ((q8 b f).size,(q8 b f).size+1))) ((dQ _ w).drew.alloc (bc _) _) n;refine⟨.slice (some ⟨w.heap.size,0,none⟩) b.size f,w.drew.alloc (.cells (q8 b f) e ((q8 b f).size,(q8 b f).size+1)),?_,(d,true,.v (.slice (some ⟨w.heap.size,0,none⟩) b.size f))::σ,H,L,?_,G _ L R ?_⟩;·simp only[da,y,J,SV.cL,a7,O,aQ,bC]
 ·rw[A];exact⟨ν,q.ml (aW B) rfl,T⟩
 ·refine⟨⟨rfl,?_,l,m⟩,λ_=>rfl,λi c r=>?_⟩;·show b.size=_;rw[ae,pB]
  ·rw[aN,dy]at r;obtain⟨z,U,rfl⟩:=r;refine⟨rfl,λj u p=>?_⟩;have V:j=0:=by have :=(aI.1 p).1;simp only[iy,bG]at this;omega
   subst V;simp only[iy,dS,aO]at p;subst p;refine⟨?_,rfl⟩;have g:(⟨w.heap.size,0,none⟩:qz).add (i*1+0)=⟨w.heap.size,i,none⟩:=by unfold Ac;split<;>simp_all
   simp only[mS,jT,g,S];simp only[nk,bp,cA];have h:b.data[i]?=some z:=by simpa[bl]using U
   have W:i<b.data.size:=(bV.1 h).1;unfold q8;rw[Array.getElem?_append,aF (by simpa using W),Array.getElem?_map,h];rfl
end
end Go.X
namespace Go.X
open Go Go.RowKit
def o_(M:Mem)(b:Nat)(o:Obj):Mem:=λc=>if c=b then some o else M c
def Ck(M:Mem)(b:Nat):Mem:=λc=>if c=b then none else M c
theorem A_(M:Mem)(b:Nat)(o:Obj):o_ M b o b=some o:=by simp[o_]
theorem QF(M:Mem)(b:Nat)(o o':Obj):o_ (o_ M b o) b o'=o_ M b o':=by funext c;unfold o_;split<;>rfl
theorem FO{M N:Mem}{b:Nat}{o:Obj}(h:N.le M)(d:N b=none):N.le (o_ M b o):=λc x a=>by unfold o_;rw[ai (λe=>by rw[e,d]at a;cases a)];exact h c x a
theorem MO(M:Mem)(b:Nat):(Ck M b).le M:=λc x a=>by
 unfold Ck at a;split at a;·cases a
 ·exact a
theorem UN{M N:Mem}{b:Nat}(h:N.le M)(d:N b=none):N.le (Ck M b):=λc x a=>by unfold Ck;rw[ai (λe=>by rw[e,d]at a;cases a)];exact h c x a
section
variable{E:Env}{σ:dp}{H:HS}{M:Mem}{a:xp}{w:bQ}{ν:Nat->ay}{K:KP}{o:db}
theorem Heap.off(a:Heap E ν H M w){b:Nat}(f:E.M0 b=none):Heap E ν H (Ck M b) w:=by
 refine⟨a.holds,a.nodup,λc d=>⟨?_,(a.apart c d).2⟩,λc x d=>a.mem c x (MO M b c x d),a.below,UN a.le0 f,λc d=>a.fresh c ?_,a.one⟩
 ·unfold Ck;split;·rfl
  ·exact(a.apart c d).1
 ·intro e;unfold Ck at d;split at d;·exact d rfl
  ·exact d e
theorem Heap.WU(f:Heap E ν H M w){b:Nat}{x n:Obj}(o:M b=some x)(i:E.M0 b=none){w':bQ}(h:∀j,j≠b->w'.heap[j]?=w.heap[j]?)(q:w'.heap.size=w.heap.size)(l:w'.os=w.os/\w'.tape=w.tape/\w'.output=w.output)(r:w'.heap[b]?=some n):Heap E ν H (o_ M b n) w':=by
 have s:E.w0.heap.size<=b:=(f.fresh b (by rw[o];exactλe=>by cases e)).resolve_left (λe=>e i);have p:∀c∈fp ν H,c≠b:=λc d e=>by have :=(f.apart c d).1;rw[e,o]at this;cases this
 have g:=(f.off i).H9 (w':=w') (λc d=>h c (p c d)) (λc y d=>by
  have m:c≠b:=λe=>by simp[Ck,e]at d
  rw[h c m];exact f.mem c y (MO M b c y d)) (f.below.trans ⟨l.1,l.2.1,l.2.2,Nat.le_of_eq q.symm,λk t=>h k (by omega)⟩);refine⟨g.holds,g.nodup,λc d=>⟨?_,(g.apart c d).2⟩,λc y d=>?_,g.below,FO f.le0 i,λc d=>?_,g.one⟩;·unfold o_;rw[ai (p c d)];exact(f.apart c d).1
 ·unfold o_ at d;split at d;·rename_i e;cases d;rw[e];exact r
  ·rename_i e;rw[h c e];exact f.mem c y d
 ·unfold o_ at d;split at d;·rename_i e;exact .inr (by omega)
  ·exact f.fresh c d
/-!### a range over a string: its iterator -/
theorem FP{t d:Nat}{x:bB}{s:ByteArray}(m:o.op=.range t x)(n:o.dst=some d)(p:aU (d<E.N)=true)(q:E.P.underlying t=some .string)(r:opv σ x=some (true,.v (.string s)))(u:∀b,M b=none->E.M0 b=none->K ((d,true,.v (bT b))::σ) H (o_ M b (.stringIter s 0))):OpK E o K σ H M:=by
 refine jq λν a w k i=>?_;have z:=k.mA r rfl;have h:M w.heap.size=none:=by cases j:M w.heap.size with|none=>rfl|some o=>have :=i.mem.lt j;omega
 have l:E.M0 w.heap.size=none:=by cases j:E.M0 w.heap.size with|none=>rfl|some y=>rw[i.le0 _ _ j]at h;cases h
 obtain⟨L,A,B,C⟩:=i.ET (w':=w.iter s 0) (gm w _) (World.iter_heap w s 0);refine⟨.pointer (some ⟨w.heap.size,0,none⟩),w.iter s 0,?_,(d,true,.v (bT w.heap.size))::σ,H,o_ M w.heap.size (.stringIter s 0),?_,u _ h l⟩;·simp only[da,m,z,SV.cL,a7,run_range_string w t s q,aQ,bC]
 ·rw[n];refine⟨ν,k.ml (aW p) rfl,?_⟩;have g:=i.mE (gm w (.stringIter s 0));refine⟨g.holds,g.nodup,λc f=>⟨?_,(g.apart c f).2⟩,λc y f=>?_,g.below,FO g.le0 l,λc f=>?_,g.one⟩;·unfold o_;rw[ai (by have :=i.qL f;omega)];exact(g.apart c f).1
  ·unfold o_ at f;split at f;·rename_i e;cases f;rw[e];exact World.iter_heap w s 0
   ·exact g.mem c y f
  ·unfold o_ at f;split at f;·rename_i e;exact .inr (by rw[e];exact i.below.size)
   ·exact g.fresh c f
theorem Eb{d b i:Nat}{x:bB}{s:List UInt8}{c:UInt8}(p:o.op=.next x true)(q:o.dst=some d)(r:aU (d<E.N)=true)(t:opv σ x=some (true,.v (bT b)))(f:M b=some (.stringIter ⟨s.toArray⟩ i))(u:E.M0 b=none)(g:s[i]?=some c)(y:c.toNat<128)(z:K ((d,true,.tup [.v (.bool true),.v (.int .i64 (i:Int)),.v (.int .i32 (c.toNat:Int))])::σ) H (o_ M b (.stringIter ⟨s.toArray⟩ (i+1)))):OpK E o K σ H M:=by
 refine jq λν a w h k=>?_;have A:=h.mA t rfl;have l:=k.mem b _ f;have B:i<s.length:=(aI.1 g).1;have e:i<(ByteArray.mk s.toArray).size:=by simpa[pc]using B
 have m:(ByteArray.mk s.toArray)[i]'e=c:=by have :=(aI.1 g).2;show s.toArray[i]'e=c;simpa using this
 have n:=Lib.run_next_ascii_at (P:=E.P) w b ⟨s.toArray⟩ i o.type l e (by rw[m];exact y);rw[m]at n;refine⟨.tuple #[.bool true,.int .i64 (i:Int),.int .i32 (c.toNat:Int)],w.iterAt b ⟨s.toArray⟩ (i+1),?_,(d,true,.tup [.v (.bool true),.v (.int .i64 (i:Int)),.v (.int .i32 (c.toNat:Int))])::σ,H,_,?_,z⟩;·simp only[da,p,A,SV.cL,a7,bT,n,aQ,bC]
 ·rw[q];exact⟨ν,h.ml (aW r) rfl,k.WU f u (λj C=>Lib.iterAt_other w b j _ _ C) (Lib.iterAt_size w b _ _) ⟨rfl,rfl,rfl⟩ (Lib.iterAt_heap w b _ _ _ l)⟩
theorem Ie{d b i:Nat}{x:bB}{s:List UInt8}(g:o.op=.next x true)(h:o.dst=some d)(j:aU (d<E.N)=true)(k:opv σ x=some (true,.v (bT b)))(l:M b=some (.stringIter ⟨s.toArray⟩ i))(m:s.length<=i)(n:K ((d,true,.tup [.v (.bool false)])::σ) H M):OpK E o K σ H M:=by
 refine jq λν a w e f=>?_;have p:=e.mA k rfl;have q:=f.mem b _ l;have c:¬i<(ByteArray.mk s.toArray).size:=by simpa[pc]using m
 have r:=Lib.run_next_end_at (P:=E.P) w b ⟨s.toArray⟩ i o.type q c;refine⟨.tuple #[.bool false],w,?_,(d,true,.tup [.v (.bool false)])::σ,H,M,?_,n⟩;·simp only[da,g,p,SV.cL,a7,bT,r,aQ,bC]
 ·rw[h];exact⟨ν,e.ml (aW j) rfl,f⟩
variable{g:Bool}{d:Option Nat}{ty:bL}{pos:String}{aft:Array Edge}{gd:Option (Nat×Bool)}
theorem stepK_range(t:bL)(x:bB):stepK E ⟨d,.range t x,ty,pos,aft,gd⟩ g K σ H M=(g=true/\OpK E ⟨d,.range t x,ty,pos,aft,gd⟩ K σ H M):=rfl
theorem stepK_next(x:bB)(s:Bool):stepK E ⟨d,.next x s,ty,pos,aft,gd⟩ g K σ H M=(g=true/\OpK E ⟨d,.next x s,ty,pos,aft,gd⟩ K σ H M):=rfl
end
theorem sT:type_of%(aa @stepK_range @stepK_next):=⟨@stepK_range,@stepK_next⟩
end Go.X
namespace Go.X
open Go Go.RowKit
theorem uP{P:bZ}{f:kH}{args:List SV}{sz:Nat}{M:Mem}{T:SV->SV}{es:List (List ay)}(g:Ctx T)(h:Meets P f args M (λr H N=>(r=T (.v (.slice none 0 0))/\es=[])\/OwnR T sz es r H N)):Meets P f args M (OwnR T sz es):=by
 refine⟨h.1,λw i=>(h.2 w i).mono ?_⟩;rintro e u⟨s,G,N,ν,c,a,b⟩;rcases b with⟨rfl,rfl⟩|b
 ·refine⟨T (.own 0),[(0,.row sz [])],N,λ_=>.slice none 0 0,?_,⟨λp d=>?_,by simp[fp,ee],by simp[fp,ee],a.mem,a.below,a.le0,a.fresh,λ_=>rfl⟩,0,rfl,rfl⟩;·rw[c,g (.v (.slice none 0 0)) (.own 0) ν (λ_=>.slice none 0 0) rfl]
  ·simp only[bD]at d;subst d;exact⟨λe j=>by simp at j,.inl ⟨rfl,rfl⟩⟩
 ·exact⟨s,G,N,ν,c,a,b⟩
theorem sY{T:SV->SV}{sz:Nat}{es:List (List ay)}{P:bZ}{f:kH}{args:List SV}{M:Mem}(h:Meets P f args M (OwnR T sz es)):Meets P f args M (RowR T sz es):=h.sS λ_ _ _ _⟨k,a,b⟩=>⟨.own k,a,b⟩
theorem jV{α:Type}(p:α->Bool):∀(l:List α)(i:Nat),(fg p l i=-1/\∀x∈l,p x=false)\/∃j x,fg p l i=((i+j:Nat):Int)/\l[j]?=some x/\p x=true/\∀q y,q<j->l[q]?=some y->p y=false
 |[],i=>.inl ⟨rfl,λx c=>by cases c⟩
 |a::l,i=>by
  cases b:p a with
   |true=>exact .inr ⟨0,a,by simp[fg,b],rfl,b,λq y g=>by omega⟩
   |false=>
    rcases jV p l (i+1)with⟨d,e⟩|⟨j,x,d,e,h,k⟩
    ·refine .inl ⟨by simp[fg,b,d],λx c=>?_⟩;rcases aV.1 c with rfl|c;·exact b
     ·exact e x c
    ·refine .inr ⟨j+1,x,by simp only[fg,b];simp;rw[d];omega,e,h,λq y g f=>?_⟩;cases q with|zero=>simp at f;subst f;exact b|succ q=>exact k q y (by omega) f
theorem Cl{α b:Type}(g:α->b)(p:b->Bool):∀(l:List α)(i:Nat),fg p (l.map g) i=fg (λx=>p (g x)) l i
 |[],_=>rfl
 |a::l,i=>by
  simp only[ca,fg];split;·rfl
  ·exact Cl g p l (i+1)
end Go.X
namespace Go.X.Dk
abbrev Tx:=List UInt8
/-! pieces -/
def dA(c:UInt8):Tx->List Tx|[]=>[[]]|b::l=>if b=c then[]::dA c l else match dA c l with|[]=>[[b]]|h::t=>(b::h)::t
theorem pQ(c:UInt8):∀l,dA c l≠[]
 |[]=>by simp[dA]
 |b::l=>by
  unfold dA;split;·simp
  ·split<;>simp
theorem vC{c:UInt8}:∀{l:Tx},c∉l->qn l [c]=-1
 |[],_=>rfl
 |b::l,h=>by
  have a:b≠c:=λe=>h (by simp[e]);have d:c∉l:=λe=>h (by simp[e]);have f:(c==b)=false:=by simpa usingλe=>a e.symm
  unfold qn;rw[ai (by simp[Ey,f]),vC d];rfl
theorem xR{c:UInt8}:∀{p r:Tx},c∉p->qn (p++c::r) [c]=p.length
 |[],r,_=>by show qn (c::r) [c]=0;unfold qn;rw[aF (by simp[Ey])]
 |b::p,r,h=>by
  have a:b≠c:=λe=>h (by simp[e]);have d:c∉p:=λe=>h (by simp[e]);have f:(c==b)=false:=by simpa usingλe=>a e.symm
  have g:=xR (c:=c) (p:=p) (r:=r) d;show qn (b::(p++c::r)) [c]=_;unfold qn;rw[ai (by simp[Ey,f]),g,ai (by simp)];simp
theorem Ba{c:UInt8}:∀{l:Tx},c∈l->∃p r,l=p++c::r/\c∉p
 |[],h=>by cases h
 |b::l,h=>by
  by_cases a:b=c;·exact⟨[],l,by rw[a];rfl,by simp⟩
  ·have :c∈l:=by
    rcases aV.1 h with e|e;·exact absurd e.symm a
    ·exact e
   obtain⟨p,r,d,f⟩:=Ba this;exact⟨b::p,r,by rw[d];rfl,λe=>(aV.1 e).elim (λe=>a e.symm) f⟩
theorem vD{c:UInt8}:∀{l:Tx},c∉l->dA c l=[l]|[],_=>rfl|b::l,h=>by have a:b≠c:=λe=>h (by simp[e]);have d:c∉l:=λe=>h (by simp[e]);unfold dA;rw[ai a,vD d]
theorem za{c:UInt8}:∀{p r:Tx},c∉p->dA c (p++c::r)=p::dA c r|[],r,_=>by show dA c (c::r)=_;rw[dA,aF rfl]|b::p,r,h=>by have a:b≠c:=λe=>h (by simp[e]);have d:c∉p:=λe=>h (by simp[e]);show dA c (b::(p++c::r))=_;rw[dA,ai a,za d]
theorem Ig{c:UInt8}:∀(k:Nat)(l:Tx),l.count c<=k->Ug [c] 0 k l=dA c l
 |0,l,h=>by
  have :c∉l:=λa=>by have :=List.count_pos_iff.2 a;omega
  rw[vD this];rfl
 |k+1,l,h=>by
  by_cases a:c∈l
  ·obtain⟨p,r,rfl,d⟩:=Ba a;have b:=xR (r:=r) d;unfold Ug;rw[b,ai (by simp),za d,aX,eJ,List.take_left' rfl];have e:(p++c::r).drop (p.length+[c].length)=r:=by rw[List.drop_append];simp
   rw[e,Ig k r (by rw[mC,List.count_cons_self]at h;omega)]
  ·have b:=vC a;unfold Ug;rw[b,vD a];rfl
theorem XW{c:UInt8}{l:Tx}(h:c∉l):yR l [c]=(l,[],false):=by unfold yR;rw[vC h,ai (by decide)]
theorem K3{c:UInt8}{p r:Tx}(h:c∉p):yR (p++c::r) [c]=(p,r,true):=by
 unfold yR;rw[xR h,aF (by omega),aX,List.take_left' rfl];have a:(p++c::r).drop (p.length+[c].length)=r:=by rw[List.drop_append];simp
 rw[a]
/-! the lines of a script, the words of a line -/
def QG(w:Tx):Bool:=!w.isEmpty
def lh(l:Tx):List Tx:=(dA 32 l).filter QG
def tL:List Tx->List Tx|[]=>[]|[x]=>if x=[]then[]else[x]|x::r=>x::tL r
def dY(s:Tx):List Tx:=tL (dA 10 s)
def uQ(ws:List Tx):Bool:=match ws with|[]=>false|w::_=>aU (w≠[35])
def gY(s:Tx):List (List Tx):=((dY s).map lh).filter uQ
theorem wM:dY []=[]:=rfl
theorem EU{l:Tx}(h:10∉l)(a:l≠[]):dY l=[l]:=by unfold dY;rw[vD h];simp[tL,a]
theorem wN(x:Tx){l:List Tx}(h:l≠[]):tL (x::l)=x::tL l:=by cases l with|nil=>exact absurd rfl h|cons a t=>rfl
theorem EV{p r:Tx}(h:10∉p):dY (p++10::r)=p::dY r:=by unfold dY;rw[za h,wN _ (pQ _ _)]
/-! numerals -/
def tW(s:Tx):Nat:=s.foldl (λn b=>10*n+(b.toNat-48)) 0
def T8(b:UInt8):Bool:=aU (48<=b.toNat/\b.toNat<=57)
def nL(s:Tx):Option Nat:=if s.all T8=true/\s.length<=10/\cF (tW s)=s then some (tW s)else none
/-! words for texts -/
def mG(b:UInt8):Option Nat:=if 48<=b.toNat/\b.toNat<=57 then some (b.toNat-48)else if 97<=b.toNat/\b.toNat<=102 then some (b.toNat-87)else none
def wc(n:Nat):UInt8:=if n<10 then bo (48+n)else bo (87+n)
def kf(b:UInt8):Bool:=aU (33<=b.toNat/\b.toNat<=126/\b.toNat≠95)
def K4:Nat->Tx->Option Tx|_,[]=>some []|0,_=>none|k+1,c::r=>if kf c=false then none else if c.toNat≠37 then(K4 k r).map (c::·)else match r with
                          |a::b::d=>match mG a,mG b with|some x,some y=>(K4 k d).map (bo (16*x+y)::·)|_,_=>none
                          |_=>none
def l_(w:Tx):Option Tx:=if w=[95]then some []else K4 w.length w
def ma(b:UInt8):Tx:=if kf b=true/\b.toNat≠37 then[b]else[37,wc (b.toNat/16),wc (b.toNat%16)]
def p_(s:Tx):Tx:=if s=[]then[95]else s.flatMap ma
def yP:Tx:=[111,107]
def dL(l:List Nat):Tx:=yP++l.flatMap λn=>32::cF n
def lO(e:Nat):Tx:=[101,114,114,111,114,32]++cF e
def n9:Tx->List Tx->Option (List Nat×List Tx)|[],[]=>some ([],[])|f::b,w::c=>if f=78 then(nL w).bind λn=>(n9 b c).map λp=>(n::p.1,p.2)else if f=84 then(l_ w).bind λt=>(n9 b c).map λp=>(p.1,t::p.2)else(n9 b c).map λp=>(p.1,w::p.2)|_,_=>none
end Go.X.Dk
namespace Go.X.Dk
/-! words -/
def uR(w:Tx):List Tx:=if w=[]then[]else[w]
def wl:Tx->Tx->List Tx|w,[]=>uR w|w,b::l=>if b=32 then uR w++wl [] l else wl (w++[b]) l
theorem xS(w:Tx)(t:List Tx):uR w++t.filter QG=(w::t).filter QG:=by
 unfold uR;split;·rename_i h;subst h;rfl
 ·rename_i h;have :QG w=true:=by simp[QG,h]
  rw[Uh this];rfl
theorem Cm:∀(l w:Tx)(h:Tx)(t:List Tx),dA 32 l=h::t->wl w l=((w++h)::t).filter QG
 |[],w,h,t,e=>by simp only[dA,A3]at e;obtain⟨rfl,rfl⟩:=e;rw[cS];have :=xS w [];simpa[wl]using this
 |b::l,w,h,t,e=>by
  unfold wl;rw[dA]at e;by_cases f:b=32;·rw[aF f]at e⊢;obtain⟨rfl,rfl⟩:=J4 e;rw[cS];cases a:dA 32 l with|nil=>exact absurd a (pQ _ _)|cons c d=>rw[Cm l [] c d a,eX];exact xS w _
  ·rw[ai f]at e⊢;cases a:dA 32 l with|nil=>exact absurd a (pQ _ _)|cons c d=>rw[a]at e;obtain⟨rfl,rfl⟩:=J4 e;rw[Cm l (w++[b]) c d a,bN];rfl
theorem QH(l:Tx):wl [] l=lh l:=by cases a:dA 32 l with|nil=>exact absurd a (pQ _ _)|cons h t=>rw[Cm l [] h t a,eX];unfold lh;rw[a]
/-! numerals -/
theorem MP(l:Tx)(b:UInt8):tW (l++[b])=10*tW l+(b.toNat-48):=by unfold tW;rw[List.foldl_append];rfl
theorem Bb{d:Nat}(h:d<10):(bo (48+d)).toNat=48+d:=by have :(bo (48+d)).toNat=(48+d)%256:=rfl;omega
theorem FQ(n:Nat):tW (cF n)=n:=by
 induction n using Hk with|_ n a=>
                           rw[cF];by_cases h:n<10;·rw[dif_pos h];show 10*0+((bo (48+n)).toNat-48)=n;rw[Bb h];omega
                           ·rw[dif_neg h,MP,a (n/10) (by omega),Bb (Af _ (by decide))];omega
theorem FR(n:Nat):(cF n).all T8=true:=by
 induction n using Hk with|_ n a=>
                           rw[cF];by_cases h:n<10;·rw[dif_pos h];simp only[xf,List.all_nil,yI,T8,Bb h,br];omega
                           ·rw[dif_neg h,List.all_append,a (n/10) (by omega)];have :=Af n (show 0<10 by decide);simp only[xf,List.all_nil,yI,fJ,T8,Bb this,br];omega
theorem qd{s:Tx}{n:Nat}:nL s=some n↔s=cF n/\s.length<=10:=by
 unfold nL;constructor
 ·intro h;split at h;·rename_i a;cases h;exact⟨a.2.2.symm,a.2.1⟩
  ·cases h
 ·rintro⟨rfl,h⟩;rw[aF ⟨FR n,h,by rw[FQ]⟩,FQ]
theorem Cn(n:Nat):n<10^(cF n).length:=by
 induction n using Hk with|_ n a=>
                           rw[cF];by_cases h:n<10;·rw[dif_pos h];simpa using h
                           ·rw[dif_neg h,aG,bG,eK];have :=a (n/10) (by omega);omega
theorem FT{s:Tx}{n:Nat}(h:nL s=some n):n<10000000000:=by
 obtain⟨rfl,a⟩:=qd.1 h;have b:=Cn n;have c:10^(cF n).length<=10^10:=ew (by decide) a;have d:(10:Nat)^10=10000000000:=by decide
 omega
theorem EW:∀(l:Tx)(a k:Nat),(∀c∈l,T8 c=true)->a<10^k->l.length+k<=18->Lib.parseUint10 a l=.ok (l.foldl (λn c=>10*n+(c.toNat-48)) a)
 |[],a,k,_,_,_=>rfl
 |c::r,a,k,h,g,b=>by
  have d:48<=c.toNat/\c.toNat<=57:=aW (h c (by simp));simp only[aM]at b;have i:10^k<=10^17:=ew (by decide) (by omega);have j:(10:Nat)^17=100000000000000000:=by decide
  have m:10^(k+1)=10*10^k:=by rw[eK];omega
  have e:=EW r (10*a+(c.toNat-48)) (k+1) (λx f=>h x (by simp[f])) (by omega) (by omega);rw[Lib.parseUint10,aF d,ai (by omega),ai (by omega),o8 a 10,e];rfl
theorem xT{s:Tx}{n:Nat}(h:nL s=some n):kY s=.ok n:=by
 have j:=FT h;obtain⟨rfl,k⟩:=qd.1 h;have b:∀c∈cF n,T8 c=true:=l7.1 (FR n);have d:=EW (cF n) 0 0 b (by decide) (by omega);have i:(cF n).foldl (λn c=>10*n+(c.toNat-48)) 0=n:=FQ n;rw[i]at d;cases a:cF n with
  |nil=>have :=Cn n;rw[a]at this;simp at this;subst this;rw[nu (by decide)]at a;cases a
  |cons c r=>
   rw[a]at b d;have l:48<=c.toNat/\c.toNat<=57:=aW (b c (by simp));have e:¬(c.toNat=43\/c.toNat=45):=by omega
   have f:¬c.toNat=45:=by omega
   have g:Lib.parseMag (c::r)=.ok n:=by unfold Lib.parseMag;rw[ai (by simp)];exact d
   unfold kY;simp only;rw[ai e,g];simp only;rw[ai (by omega),ai (by omega),ai f]
theorem UO{s:Tx}{v:Int}(h:kY s=.ok v):(0<=v/\s.length<=10/\s=Lib.itoa v)↔nL s=some v.toNat:=by
 constructor;·rintro⟨b,a,c⟩;refine qd.2 ⟨?_,a⟩;rw[c];unfold Lib.itoa;rw[ai (by omega)]
 ·intro b;have a:=xT b;rw[h]at a;injection a with a;obtain⟨c,d⟩:=qd.1 b;refine⟨by omega,d,?_⟩;unfold Lib.itoa;rw[ai (by omega)];exact c
theorem QI{s:Tx}(h:∀v,kY s≠.ok v):nL s=none:=by cases a:nL s with|none=>rfl|some n=>exact absurd (xT a) (h _)
end Go.X.Dk
namespace Go.X
open Go
def zV:=aa (aa (aa @shs (aa @zts @sos)) (aa @sls (aa @zss @eqs))) (aa (aa (aa (aa @sx @sb1) (aa @sb2 @sb3)) (aa (aa @sb4 @sb5) (aa @sb6 @sb7))) (aa (aa @dI @aZ) (aa @cB @aX)))
def zW:=aa @zV @nzs
end Go.X
namespace Go.X
open Go
def zY:=aa @zV (aa (aa (aa (aa (aa @RegX_nil @RegX_call) (aa @RegX_panic @RegX_step)) (aa (aa @xCall_ev @xPanic_ev) (aa @wpX_skip @wpX_ret))) (aa (aa (aa @wpX_exit @wpX_region) (aa @wpX_draw @wpX_seq)) (aa (aa @wpX_block @wpX_cond) (aa @wpX_loop @condX_ev)))) (aa (aa (aa (aa @seqX_normal @seqX_ret) (aa @seqX_exit @seqX_panic)) (aa (aa @blkQ_panic @rndQ_panic) (aa @xPan_ev @RetX_panic))) (aa (aa @RetX_ret @RetX_normal) (aa (aa @qD.{0} @qE.{0}) (aa (aa @fJ @jI) (aa (aa @dM.{1} @ln.{1}) (aa @opX.eq_1 (aa @isIfc.eq_1 @isIfc.eq_2))))))))
def zX:=aa @zY @nzs
end Go.X
namespace Go.X.Dk
open Go Go.X Go.RowKit
section
variable{E:Env}{σ:dp}{H:HS}{M:Mem}{a:xp}{w:bQ}{ν:Nat->ay}{K:KP}{o:db}
theorem QJ{t:bL}{x:bB}{d:Nat}{s:SV}{y:ay}(g:o.op=.makeInterface t x)(h:o.dst=some d)(i:opv σ x=some (true,s))(j:∀ν,s.cL ν=y)(k:aU (d<E.N)=true)(b:∃e,E.P.underlying t=some (.struct e))(l:K ((d,true,.v (.iface t y))::σ) H M):OpK E o K σ H M:=by
 refine jq λν a w c m=>?_;have f:=c.mA i rfl;rw[j ν]at f;obtain⟨e,b⟩:=b;refine⟨.iface t y,w,?_,_,_,_,⟨ν,?_,m⟩,l⟩;·simp[da,g,f,Instr.makeInterface,a8 b]
 ·rw[h];exact c.ml (aW k) rfl
end
def sZ(e:Int):ay:=.iface 78 (.agg #[.int .i64 e])
def jv(e:Int):List Uf:=[{v:=sZ e,recovered:=false}]
theorem tM(e:Int)(M:Mem):MeetsX ab 74 [.v (.int .i64 e)] [] M (λ_ _ _=>False) (λc _ _=>c=jv e):=by refine cO [0] Proofs.Tryz.func74 rfl (by kernel_rfl) λa b=>?_;simp only[Proofs.Tryz.f74,zY,seval];refine⟨rfl,QJ (y:=.agg #[.int .i64 e]) rfl rfl rfl (λν=>rfl) rfl ⟨_,Proofs.Tryz.underlying78⟩ ?_⟩;simp only[zY,seval];rfl
theorem eV{n:Int}(a:-9223372036854775808<=n)(b:n<=9223372036854775807):cY .i64 n:=⟨a,b⟩
theorem zb(e:Int)(M:Mem):MeetsX ab 62 [.v (.int .i64 e)] [] M (λs _ _=>e=0/\s=.tup []) (λc _ _=>e≠0/\c=jv e):=by
 refine cO [0,3] Proofs.Tryz.func62 rfl (by kernel_rfl) λa b=>?_;by_cases h:e=0;·simp only[L_,zY,seval,h,dr,yH,bp,cZ,dz,c_]
 ·simp only[L_,zY,seval,h,dW,nQ,eT,cZ,fL,c_];exact gJ rfl (tM e M) ⟨h,rfl⟩
def jW(v:ay)(i:Nat):List SV:=[.v v,.v (.int .i64 i)]
def dG(s:Tx):List ay:=[.string ⟨s.toArray⟩]
theorem K5{ws:List Tx}{v:ay}{i:Nat}{q:Option ay}{M:Mem}(d:RowM M v 1 (ws.map dG))(hi:i<=ws.length):MeetsX ab 110 [.ptr 8000 0 0 0] [(8000,.box (jW v i) q)] M (λs H' _=>∃a,(s.conc=true/\SV.concs a=true)/\hget H' 8000=some (.box a q)/\∃w,ws[i]?=some w/\s=.v (.string ⟨w.toArray⟩)/\a=jW v (i+1)) (λk H' _=>∃a,SV.concs a=true/\hget H' 8000=some (.box a q)/\ws[i]?=none/\k=jv 12/\a=jW v i):=by
 refine cO [0,2,12] Proofs.Tryz.func110 rfl (by kernel_rfl) λr t=>?_;have b:(ws.map dG).length=ws.length:=ae ..;have c:isSl v=true:=d.1.1;by_cases h:i=ws.length
 ·have l:ws[i]?=none:=dm (by omega);have e:((i:Int)=(eB v:Int))=True:=by rw[d.1.2.1,b,h];simp
  simp only[Kd,jW,zY,seval];refine jU (dD rfl (by kernel_rfl) ?_);simp only[zX,seval,e,c,dr,dz,c_,eT,cZ,fL];exact gJ rfl (tM 12 M) ⟨_,rfl,rfl,l,rfl,rfl⟩
 ·obtain⟨w,f⟩:∃w,ws[i]?=some w:=⟨_,aP (by omega)⟩;have e:((i:Int)=(eB v:Int))=False:=by rw[d.1.2.1,b];simp;omega
  have m:i<ws.length:=by omega
  have g:=d.eQ;have n:(ws.map dG)[i]?=some (dG w):=by rw[aN,f];rfl
  have j:=d.fG n (off:=0) (by omega);have o:=d.ix (i:=(i:Int)) (by omega) (by omega);have p:(i:Int)+1-1=i:=by omega
  simp only[Kd,jW,zY,seval];refine jU (dD rfl (by kernel_rfl) ?_);simp only[zX,seval,e,c,dW,dz,c_,bp,cZ,fL];refine⟨?_,jU (dD rfl (by kernel_rfl) ?_)⟩;·exact eV (by omega) (by omega)
  simp only[zX,seval,c,p,dz];exact⟨eV (by omega) (by omega),o,j.2.1,_,rfl,rfl,w,f,by rw[j.1];rfl,by rw[aJ];rfl⟩
theorem ZU{ws:List Tx}{v:ay}{i:Nat}{q:Option ay}{M:Mem}(d:RowM M v 1 (ws.map dG)):MeetsX ab 31 [.ptr 8000 0 0 0] [(8000,.box (jW v i) q)] M (λs H' _=>∃a,(s.conc=true/\SV.concs a=true)/\hget H' 8000=some (.box a q)/\i=ws.length/\a=jW v i) (λf H' _=>∃a,SV.concs a=true/\hget H' 8000=some (.box a q)/\i≠ws.length/\f=jv 12/\a=jW v i):=by
 refine cO [0,11] Proofs.Tryz.func31 rfl (by kernel_rfl) λg j=>?_;have b:(ws.map dG).length=ws.length:=ae ..;have c:isSl v=true:=d.1.1;by_cases h:i=ws.length
 ·have e:((i:Int)=(eB v:Int))=True:=by rw[d.1.2.1,b,h];simp
  simp only[Ma,jW,zY,seval];refine jU (dD rfl (by kernel_rfl) ?_);simp only[zX,seval,e,c,dr,yH,dz,c_,bp,cZ,fL];exact⟨_,rfl,rfl,h,rfl⟩
 ·have e:((i:Int)=(eB v:Int))=False:=by rw[d.1.2.1,b];simp;omega
  simp only[Ma,jW,zY,seval];refine jU (dD rfl (by kernel_rfl) ?_);simp only[zX,seval,e,c,dW,nQ,dz,c_,eT,cZ,fL];exact gJ rfl (tM 12 M) ⟨_,rfl,rfl,h,rfl,rfl⟩
end Go.X.Dk
namespace Go.X.St
open Go Go.X Go.RowKit
theorem rm{P:bZ}{f:kH}{args:List SV}{M:Mem}{v:ay}(c:jr P f)(h:∀w,Calls P f (aS vu args).toArray w λe w'=>e=.returned v/\um w.heap.size w w'):Meets P f args M λr _ _=>r=.v v:=⟨c,λw d=>(h w).mono λe w'⟨g,a⟩=>⟨.v v,[],M,vu,g,Heap.mE (E:=⟨P,0,w,M⟩) (ν:=vu) (H:=[]) (M:=M) (w:=w) ⟨by simp,kM,by simp[fp],d,dQ _ _,cg _,λb a=>.inl a,λk=>rfl⟩ a,rfl⟩⟩
end Go.X.St
namespace Go.Proofs
open Go.Shelf
def zc:lH:=⟨λ|171=>29|243=>53|246=>109|283=>158|284=>159|285=>160|286=>161|129=>187|317=>201|318=>202|319=>203|320=>204|337=>261|338=>262|n=>n,λ|3=>3|9=>9|2=>2|4=>4|171=>192|0=>0|53=>103|37=>50|5=>5|173=>195|212=>234|51=>189|20=>20|213=>235|46=>148|232=>316|233=>317|n=>n,λ|17=>3|18=>6|19=>7|n=>n⟩
theorem FU:Go.Proofs.LaysM.n171 ab zc:={mixed:=by kernel_rfl,f129:=Tryz.func187.trans (aY some (by kernel_rfl)),f171:=A6.trans (aY some (by kernel_rfl)),f243:=Tryz.func53.trans (aY some (by kernel_rfl)),f246:=Tryz.func109.trans (aY some (by kernel_rfl)),f283:=Tryz.func158.trans (aY some (by kernel_rfl)),f284:=Tryz.func159.trans (aY some (by kernel_rfl)),f285:=Tryz.func160.trans (aY some (by kernel_rfl)),f286:=Tryz.func161.trans (aY some (by kernel_rfl)),f317:=Tryz.func201.trans (aY some (by kernel_rfl)),f318:=Tryz.func202.trans (aY some (by kernel_rfl)),f319:=Tryz.func203.trans (aY some (by kernel_rfl)),f320:=Tryz.func204.trans (aY some (by kernel_rfl)),f337:=Tryz.func261.trans (aY some (by kernel_rfl)),f338:=Tryz.func262.trans (aY some (by kernel_rfl)),t0:=yL,a0:=Oi,z0:=J6,v0:=AJ,t2:=Tryz.underlying2,a2:=Tryz.isAgg2,z2:=Tryz.sizeOf2,v2:=Tryz.zeroValue2,t3:=jk,a3:=xt,z3:=vm,v3:=dJ,t4:=pU,a4:=PR,z4:=Mb,v4:=BF,t5:=l8,a5:=tF,z5:=qF,v5:=mP,t9:=gX,a9:=tG,z9:=qG,v9:=mQ,t20:=xg,a20:=Tryz.isAgg20,z20:=Tryz.sizeOf20,v20:=Tryz.zeroValue20,t37:=Ez,a37:=TR,z37:=PB,v37:=G6,t46:=uf,a46:=DZ,z46:=A7,v46:=v8,t51:=tH,a51:=BG,z51:=Ah,v51:=ur,t53:=Oj,a53:=Tryz.isAgg103,z53:=Tryz.sizeOf103,v53:=Tryz.zeroValue103,t171:=TS,a171:=Tryz.isAgg192,z171:=Tryz.sizeOf192,v171:=Ui,t173:=TT,a173:=Tryz.isAgg195,z173:=Tryz.sizeOf195,v173:=Uj,t212:=Ke,a212:=Tryz.isAgg234,z212:=Tryz.sizeOf234,v212:=Uk,t213:=TU,a213:=Tryz.isAgg235,z213:=Tryz.sizeOf235,t232:=TV,a232:=Tryz.isAgg316,z232:=Tryz.sizeOf316,v232:=Ul,t233:=TW,a233:=Tryz.isAgg317,z233:=Tryz.sizeOf317,v233:=Um,g17:=by kernel_rfl,g18:=by kernel_rfl,g19:=by kernel_rfl,i0:=by kernel_rfl,i2:=by kernel_rfl,i3:=by kernel_rfl,i4:=by kernel_rfl,i5:=by kernel_rfl,i9:=by kernel_rfl,i20:=by kernel_rfl,i37:=by kernel_rfl,i46:=by kernel_rfl,i51:=by kernel_rfl,i53:=by kernel_rfl,i171:=by kernel_rfl,i173:=by kernel_rfl,i212:=by kernel_rfl,i232:=by kernel_rfl,i233:=by kernel_rfl,m17:=by kernel_rfl,m18:=by kernel_rfl,m19:=by kernel_rfl}
def n_:lH:=⟨λ|172=>111|244=>162|245=>163|247=>205|279=>206|280=>207|281=>208|282=>209|287=>263|316=>264|171=>29|205=>265|321=>313|322=>314|243=>53|246=>109|283=>158|284=>159|285=>160|286=>161|129=>187|317=>201|318=>202|319=>203|320=>204|337=>261|338=>262|n=>n,λ|9=>9|3=>3|75=>54|76=>55|4=>4|5=>5|167=>236|37=>50|0=>0|85=>237|2=>2|168=>239|53=>103|175=>284|46=>148|210=>287|127=>84|145=>321|143=>319|21=>21|171=>192|173=>195|212=>234|51=>189|20=>20|213=>235|232=>316|233=>317|80=>58|n=>n,λ|15=>4|16=>5|17=>3|18=>6|19=>7|n=>n⟩
theorem s3:Go.Proofs.LaysC.n172 ab n_:={mixed:=by kernel_rfl,f129:=Tryz.func187.trans (aY some (by kernel_rfl)),f171:=A6.trans (aY some (by kernel_rfl)),f172:=PS.trans (aY some (by kernel_rfl)),f205:=Tryz.func265.trans (aY some (by kernel_rfl)),f243:=Tryz.func53.trans (aY some (by kernel_rfl)),f244:=Tryz.func162.trans (aY some (by kernel_rfl)),f245:=Tryz.func163.trans (aY some (by kernel_rfl)),f246:=Tryz.func109.trans (aY some (by kernel_rfl)),f247:=Tryz.func205.trans (aY some (by kernel_rfl)),f279:=Tryz.func206.trans (aY some (by kernel_rfl)),f280:=Tryz.func207.trans (aY some (by kernel_rfl)),f281:=Tryz.func208.trans (aY some (by kernel_rfl)),f282:=Tryz.func209.trans (aY some (by kernel_rfl)),f283:=Tryz.func158.trans (aY some (by kernel_rfl)),f284:=Tryz.func159.trans (aY some (by kernel_rfl)),f285:=Tryz.func160.trans (aY some (by kernel_rfl)),f286:=Tryz.func161.trans (aY some (by kernel_rfl)),f287:=Tryz.func263.trans (aY some (by kernel_rfl)),f316:=Tryz.func264.trans (aY some (by kernel_rfl)),f317:=Tryz.func201.trans (aY some (by kernel_rfl)),f318:=Tryz.func202.trans (aY some (by kernel_rfl)),f319:=Tryz.func203.trans (aY some (by kernel_rfl)),f320:=Tryz.func204.trans (aY some (by kernel_rfl)),f321:=Tryz.func313.trans (aY some (by kernel_rfl)),f322:=Tryz.func314.trans (aY some (by kernel_rfl)),f337:=Tryz.func261.trans (aY some (by kernel_rfl)),f338:=Tryz.func262.trans (aY some (by kernel_rfl)),t0:=yL,a0:=Oi,z0:=J6,v0:=AJ,t2:=Tryz.underlying2,a2:=Tryz.isAgg2,z2:=Tryz.sizeOf2,v2:=Tryz.zeroValue2,t3:=jk,a3:=xt,z3:=vm,v3:=dJ,t4:=pU,a4:=PR,z4:=Mb,v4:=BF,t5:=l8,a5:=tF,z5:=qF,v5:=mP,t9:=gX,a9:=tG,z9:=qG,v9:=mQ,t20:=xg,a20:=Tryz.isAgg20,z20:=Tryz.sizeOf20,v20:=Tryz.zeroValue20,t21:=Tryz.underlying21,a21:=Tryz.isAgg21,z21:=Tryz.sizeOf21,v21:=Tryz.zeroValue21,t37:=Ez,a37:=TR,z37:=PB,v37:=G6,t46:=uf,a46:=DZ,z46:=A7,v46:=v8,t51:=tH,a51:=BG,z51:=Ah,v51:=ur,t53:=Oj,a53:=Tryz.isAgg103,z53:=Tryz.sizeOf103,v53:=Tryz.zeroValue103,t75:=DL,a75:=Tryz.isAgg54,z75:=Tryz.sizeOf54,v75:=Tryz.zeroValue54,t76:=Tryz.underlying55,a76:=Tryz.isAgg55,z76:=Tryz.sizeOf55,v76:=Tryz.zeroValue55,t85:=Tryz.underlying237,a85:=Tryz.isAgg237,z85:=Tryz.sizeOf237,v85:=Tryz.zeroValue237,t127:=Tryz.underlying84,a127:=Tryz.isAgg84,z127:=Tryz.sizeOf84,v127:=Tryz.zeroValue84,t143:=DM,a143:=Tryz.isAgg319,z143:=Tryz.sizeOf319,v143:=Tryz.zeroValue319,t145:=DN,a145:=Tryz.isAgg321,z145:=Tryz.sizeOf321,v145:=Tryz.zeroValue321,t167:=Tryz.underlying236,a167:=Tryz.isAgg236,z167:=Tryz.sizeOf236,v167:=Tryz.zeroValue236,t168:=Tryz.underlying239,a168:=Tryz.isAgg239,z168:=Tryz.sizeOf239,v168:=Tryz.zeroValue239,t171:=TS,a171:=Tryz.isAgg192,z171:=Tryz.sizeOf192,v171:=Ui,t173:=TT,a173:=Tryz.isAgg195,z173:=Tryz.sizeOf195,v173:=Uj,t175:=Tryz.underlying284,a175:=Tryz.isAgg284,z175:=Tryz.sizeOf284,v175:=Tryz.zeroValue284,t210:=Tryz.underlying287,a210:=Tryz.isAgg287,z210:=Tryz.sizeOf287,v210:=Tryz.zeroValue287,t212:=Ke,a212:=Tryz.isAgg234,z212:=Tryz.sizeOf234,v212:=Uk,t213:=TU,a213:=Tryz.isAgg235,z213:=Tryz.sizeOf235,t232:=TV,a232:=Tryz.isAgg316,z232:=Tryz.sizeOf316,v232:=Ul,t233:=TW,a233:=Tryz.isAgg317,z233:=Tryz.sizeOf317,v233:=Um,g15:=by kernel_rfl,g16:=by kernel_rfl,g17:=by kernel_rfl,g18:=by kernel_rfl,g19:=by kernel_rfl,t80:=D0,a80:=Tryz.isAgg58,z80:=Tryz.sizeOf58,v80:=Tryz.zeroValue58,i0:=by kernel_rfl,i2:=by kernel_rfl,i3:=by kernel_rfl,i4:=by kernel_rfl,i5:=by kernel_rfl,i9:=by kernel_rfl,i20:=by kernel_rfl,i21:=by kernel_rfl,i37:=by kernel_rfl,i46:=by kernel_rfl,i51:=by kernel_rfl,i53:=by kernel_rfl,i75:=by kernel_rfl,i76:=by kernel_rfl,i80:=by kernel_rfl,i85:=by kernel_rfl,i127:=by kernel_rfl,i143:=by kernel_rfl,i145:=by kernel_rfl,i167:=by kernel_rfl,i168:=by kernel_rfl,i171:=by kernel_rfl,i173:=by kernel_rfl,i175:=by kernel_rfl,i210:=by kernel_rfl,i212:=by kernel_rfl,i232:=by kernel_rfl,i233:=by kernel_rfl,m15:=by kernel_rfl,m16:=by kernel_rfl,m17:=by kernel_rfl,m18:=by kernel_rfl,m19:=by kernel_rfl,c0:=by kernel_rfl,c2:=by kernel_rfl,c3:=by kernel_rfl,c4:=by kernel_rfl,c5:=by kernel_rfl,c9:=by kernel_rfl,c20:=by kernel_rfl,c21:=by kernel_rfl,c37:=by kernel_rfl,c46:=by kernel_rfl,c51:=by kernel_rfl,c53:=by kernel_rfl,c75:=by kernel_rfl,c76:=by kernel_rfl,c80:=by kernel_rfl,c85:=by kernel_rfl,c127:=by kernel_rfl,c143:=by kernel_rfl,c145:=by kernel_rfl,c167:=by kernel_rfl,c168:=by kernel_rfl,c171:=by kernel_rfl,c173:=by kernel_rfl,c175:=by kernel_rfl,c210:=by kernel_rfl,c212:=by kernel_rfl,c213:=by kernel_rfl,c232:=by kernel_rfl,c233:=by kernel_rfl}
def r8:lH:=⟨λ|146=>11|221=>26|268=>50|138=>51|143=>32|195=>106|197=>107|218=>108|219=>47|260=>157|217=>101|225=>102|224=>103|267=>104|266=>155|314=>156|n=>n,λ|9=>9|31=>36|3=>3|4=>4|0=>0|105=>149|21=>21|5=>5|46=>148|119=>229|139=>232|138=>231|146=>190|51=>189|n=>n,λ|1=>0|3=>1|4=>2|n=>n⟩
theorem FV:Go.Proofs.Lays.n146 ab r8:={mixed:=by kernel_rfl,f138:=Tryz.func51.trans (aY some (by kernel_rfl)),f143:=Tryz.func32.trans (aY some (by kernel_rfl)),f146:=Kf.trans (aY some (by kernel_rfl)),f195:=Tryz.func106.trans (aY some (by kernel_rfl)),f197:=Tryz.func107.trans (aY some (by kernel_rfl)),f217:=TX.trans (aY some (by kernel_rfl)),f218:=Tryz.func108.trans (aY some (by kernel_rfl)),f219:=Tryz.func47.trans (aY some (by kernel_rfl)),f221:=Tryz.func26.trans (aY some (by kernel_rfl)),f224:=Tryz.func103.trans (aY some (by kernel_rfl)),f225:=Tryz.func102.trans (aY some (by kernel_rfl)),f260:=Tryz.func157.trans (aY some (by kernel_rfl)),f266:=TY.trans (aY some (by kernel_rfl)),f267:=Tryz.func104.trans (aY some (by kernel_rfl)),f268:=Tryz.func50.trans (aY some (by kernel_rfl)),f314:=Tryz.func156.trans (aY some (by kernel_rfl)),t0:=yL,a0:=Oi,z0:=J6,v0:=AJ,t3:=jk,a3:=xt,z3:=vm,v3:=dJ,t4:=pU,a4:=PR,z4:=Mb,v4:=BF,t5:=l8,a5:=tF,z5:=qF,v5:=mP,t9:=gX,a9:=tG,z9:=qG,v9:=mQ,t21:=Tryz.underlying21,a21:=Tryz.isAgg21,z21:=Tryz.sizeOf21,v21:=Tryz.zeroValue21,t31:=Tryz.underlying36,a31:=Tryz.isAgg36,z31:=Tryz.sizeOf36,v31:=Tryz.zeroValue36,t46:=uf,a46:=DZ,z46:=A7,v46:=v8,t51:=tH,a51:=BG,z51:=Ah,v51:=ur,t105:=Tryz.underlying149,a105:=Tryz.isAgg149,z105:=Tryz.sizeOf149,v105:=Tryz.zeroValue149,t119:=Tryz.underlying229,a119:=Tryz.isAgg229,z119:=Tryz.sizeOf229,t138:=Tryz.underlying231,a138:=Tryz.isAgg231,z138:=Tryz.sizeOf231,v138:=Tryz.zeroValue231,t139:=Tryz.underlying232,a139:=Tryz.isAgg232,z139:=Tryz.sizeOf232,v139:=Tryz.zeroValue232,t146:=Tryz.underlying190,a146:=Tryz.isAgg190,z146:=Tryz.sizeOf190,v146:=Tryz.zeroValue190,g1:=by kernel_rfl,g3:=by kernel_rfl,g4:=by kernel_rfl}
def zd:lH:=⟨λ|145=>8|220=>24|219=>47|217=>101|225=>102|224=>103|267=>104|266=>155|314=>156|n=>n,λ|9=>9|4=>4|59=>38|3=>3|5=>5|46=>148|146=>190|51=>189|n=>n,λ|1=>0|n=>n⟩
theorem FW:Go.Proofs.Lays.n145 ab zd:={mixed:=by kernel_rfl,f145:=Mc.trans (aY some (by kernel_rfl)),f217:=TX.trans (aY some (by kernel_rfl)),f219:=Tryz.func47.trans (aY some (by kernel_rfl)),f220:=Tryz.func24.trans (aY some (by kernel_rfl)),f224:=Tryz.func103.trans (aY some (by kernel_rfl)),f225:=Tryz.func102.trans (aY some (by kernel_rfl)),f266:=TY.trans (aY some (by kernel_rfl)),f267:=Tryz.func104.trans (aY some (by kernel_rfl)),f314:=Tryz.func156.trans (aY some (by kernel_rfl)),t3:=jk,a3:=xt,z3:=vm,v3:=dJ,t4:=pU,a4:=PR,z4:=Mb,v4:=BF,t5:=l8,a5:=tF,z5:=qF,v5:=mP,t9:=gX,a9:=tG,z9:=qG,v9:=mQ,t46:=uf,a46:=DZ,z46:=A7,v46:=v8,t51:=tH,a51:=BG,z51:=Ah,v51:=ur,t59:=Tryz.underlying38,a59:=Tryz.isAgg38,z59:=Tryz.sizeOf38,v59:=Tryz.zeroValue38,t146:=Tryz.underlying190,a146:=Tryz.isAgg190,z146:=Tryz.sizeOf190,v146:=Tryz.zeroValue190,g1:=by kernel_rfl}
def ze:lH:=⟨λ|137=>116|217=>101|266=>155|n=>n,λ|9=>9|5=>5|3=>3|n=>n,λ|n=>n⟩
theorem FX:Go.Proofs.Lays.n137 ab ze:={mixed:=by kernel_rfl,f137:=Un.trans (aY some (by kernel_rfl)),f217:=TX.trans (aY some (by kernel_rfl)),f266:=TY.trans (aY some (by kernel_rfl)),t3:=jk,a3:=xt,z3:=vm,v3:=dJ,t5:=l8,a5:=tF,z5:=qF,v5:=mP,t9:=gX,a9:=tG,z9:=qG,v9:=mQ}
end Go.Proofs
namespace Go.X.Dk
open Go Go.X Go.RowKit
structure GlobM(M:Mem):Prop where
 pow:∀w,M.on w->Lib.TabIs ab w "internal/strconv.uint64pow10" .u64 Lib.pow10Tab
 maxl:∃m,∀w,M.on w->w.cell? ⟨Proofs.r8.g 1,0,none⟩=some (.int .i64 m)
 esyn:∃ev,(ev=Value.nilIface\/∃te pe,ev=.iface te pe)/\∀w,M.on w->w.cell? ⟨Proofs.n_.g 15,0,none⟩=some ev
 eran:∃ev,(ev=Value.nilIface\/∃te pe,ev=.iface te pe)/\∀w,M.on w->w.cell? ⟨Proofs.n_.g 16,0,none⟩=some ev
theorem MQ{M N:Mem}(h:M.le N){w:bQ}(a:N.on w):M.on w:=λb o c=>a b o (h b o c)
theorem GlobM.le{M N:Mem}(h:GlobM M)(c:M.le N):GlobM N:=⟨λw a=>h.pow w (MQ c a),h.maxl.imp λm b w a=>b w (MQ c a),h.esyn.imp λm b=>⟨b.1,λw a=>b.2 w (MQ c a)⟩,h.eran.imp λm b=>⟨b.1,λw a=>b.2 w (MQ c a)⟩⟩
theorem xU{P:bZ}{f:kH}{args:List SV}{M:Mem}{s:SV}{v:ay}(d:∀ν,s.cL ν=v)(g:jr P f)(h:∀w,M.on w->Calls P f (aS vu args).toArray w λe w'=>e=.returned v/\um w.heap.size w w'):Meets P f args M λr _ _=>r=s:=⟨g,λw c=>(h w c).mono λe w'⟨i,a⟩=>⟨s,[],M,vu,by rw[i,d],Heap.mE (E:=⟨P,0,w,M⟩) (ν:=vu) (H:=[]) (M:=M) (w:=w) ⟨by simp,kM,by simp[fp],c,dQ _ _,cg _,λb a=>.inl a,λk=>rfl⟩ a,rfl⟩⟩
theorem Ih(w:bQ)(k:Nat)(a:Array Obj):um w.heap.size w (qo (w.drewN k) a):=⟨rfl,rfl,rfl,by show w.heap.size<=(w.heap++a).size;rw[Ew];omega,λj b=>by show(w.heap++a)[j]?=_;rw[mO b]⟩
theorem FY{n:Int}{M:Mem}(b:GlobM M)(a:cY .i64 n):Meets ab 29 [.v (.int .i64 n)] M λr _ _=>r=.v (.string ⟨(Lib.itoa n).toArray⟩):=by refine xU (λV=>rfl) ⟨_,A6,by kernel_rfl,by kernel_rfl⟩ λw c=>?_;refine(Proofs.Any.strconv_Itoa Proofs.FU n a.1 a.2 w (b.pow w c)).mono ?_;rintro e u⟨d,k,f,rfl⟩;exact⟨d,Ih _ _ _⟩
theorem Ar{s:Tx}{c:UInt8}{M:Mem}:Meets ab 116 [.v (.string ⟨s.toArray⟩),.v (.int .u8 (c.toNat:Int))] M λr _ _=>r=.v (.int .i64 (Lib.indexByte s c)):=by
 refine xU (λV=>rfl) ⟨_,Un,by kernel_rfl,by kernel_rfl⟩ λw b=>?_;refine(Proofs.Any.strings_IndexByte Proofs.FX ⟨s.toArray⟩ (c.toNat:Int) w).mono ?_;rintro e u⟨a,rfl⟩;have :((c.toNat:Int).toNat.toUInt8)=c:=by simp
 rw[this]at a;exact⟨a,dQ _ _⟩
theorem QK{s sep:Tx}{M:Mem}(a:GlobM M)(b:s.length<4294967281):Meets ab 8 [.v (.string ⟨s.toArray⟩),.v (.string ⟨sep.toArray⟩)] M λr _ _=>r=.tup [.v (.string ⟨(yR s sep).1.toArray⟩),.v (.string ⟨(yR s sep).2.1.toArray⟩),.v (.bool (yR s sep).2.2)]:=by obtain⟨m,c⟩:=a.maxl;refine xU (v:=.tuple #[.string ⟨(yR s sep).1.toArray⟩,.string ⟨(yR s sep).2.1.toArray⟩,.bool (yR s sep).2.2]) (λV=>rfl) ⟨_,Mc,by kernel_rfl,by kernel_rfl⟩ λw d=>?_;refine(Proofs.Any.strings_Cut Proofs.FW ⟨s.toArray⟩ ⟨sep.toArray⟩ m w (by simpa[pc]using b) (c w d)).mono ?_;rintro e u⟨f,n,rfl⟩;exact⟨f,⟨rfl,rfl,rfl,bc _,λ_ _=>rfl⟩⟩
theorem As(c:UInt8):∀(k:Nat)(l:Tx),l.length<k->Kg [c] k l=l.count c
 |0,l,h=>by omega
 |k+1,l,h=>by
  by_cases a:c∈l
  ·obtain⟨p,r,rfl,b⟩:=Ba a;have d:=xR (r:=r) b;have e:(p++c::r).drop (p.length+[c].length)=r:=by rw[List.drop_append];simp
   simp only[aG,aM]at h;rw[Kg,d,ai (by simp),aX,e,As c k r (by omega),mC,List.count_cons_self,D3 b];omega
  ·rw[Kg,vC a,D3 a];rfl
theorem QL(c:UInt8)(s:Tx):Hm ⟨s.toArray⟩ ⟨#[c]⟩=s.count c:=As c (s.length+1) s (by omega)
theorem OL(c:UInt8)(s:Tx):(Lib.splitB ⟨#[c]⟩ 0 (Hm ⟨s.toArray⟩ ⟨#[c]⟩) ⟨s.toArray⟩).map (λb=>b.data.toList)=dA c s:=by rw[Lib.splitB_data,QL];exact Ig _ s (bc _)
theorem OM{M:Mem}{b n:Nat}{T:bL}{L:List ByteArray}{W:List Tx}(k:M b=some (.cells (L.map iF).toArray T (0,0)))(a:L.length=n+1)(d:L.map (λb=>b.data.toList)=W)(l:n+1<=dB):RowM M (.slice (some ⟨b,0,none⟩) (n+1) (n+1)) 1 (W.map dG):=by
 have m:W.length=n+1:=by rw[<-d,ae,a]
 refine⟨⟨rfl,by rw[ae,m];rfl,bc _,l⟩,λ_=>rfl,λi e g=>?_⟩;rw[aN]at g;obtain⟨t,h,rfl⟩:=dy.1 g;rw[<-d,aN]at h;obtain⟨x,o,rfl⟩:=dy.1 h;refine⟨rfl,λj c f=>?_⟩;match j,f with|0,f=>
                                                                                                                                                                         simp only[dG,dS,aO]at f;subst f;refine⟨?_,rfl⟩;have p:(⟨b,0,none⟩:qz).add (i*1+0)=⟨b,i,none⟩:=by unfold Ac;split<;>simp_all
                                                                                                                                                                         show jT M ((⟨b,0,none⟩:qz).add (i*1+0))=_;rw[p];unfold jT;rw[k];simp[o]
theorem FZ{s:Tx}{c:UInt8}{M:Mem}(i:GlobM M)(j:s.length<4294967281):Meets ab 11 [.v (.string ⟨s.toArray⟩),.v (.string ⟨#[c]⟩)] M λr _ N=>∃v,r=.v v/\RowM N v 1 ((dA c s).map dG):=by obtain⟨m,f⟩:=i.maxl;refine⟨⟨_,Kf,by kernel_rfl,by kernel_rfl⟩,λw g=>?_⟩;refine(Proofs.Any.strings_Split Proofs.FV (by kernel_rfl) ⟨s.toArray⟩ ⟨#[c]⟩ m w (by simpa[pc]using j) (f w g) (bc 1)).mono ?_;rintro e u⟨l,rfl⟩;have h:Heap ⟨ab,0,w,M⟩ vu [] M w:=⟨by simp,kM,by simp[fp],g,dQ _ _,cg _,λb n=>.inl n,λk=>rfl⟩;obtain⟨N,t,o,p⟩:=h.ET (gm w _) (eP w _);refine⟨_,[],N,vu,by rw[l];rfl,p,.slice (some ⟨w.heap.size,0,none⟩) (Hm ⟨s.toArray⟩ ⟨#[c]⟩+1) (Hm ⟨s.toArray⟩ ⟨#[c]⟩+1),rfl,?_⟩;have a:=Lib.splitB_all ⟨#[c]⟩ (bc 1) 0 _ ⟨s.toArray⟩ rfl;have d:=OL c s;have f:=h.mem;refine OM o a d ?_;have :=Lib.countB_le ⟨#[c]⟩ (bc 1) s.length ⟨s.toArray⟩ (bc _);have q:(ByteArray.mk s.toArray).size=s.length:=rfl;rw[q]at this;simp only[dB];omega
theorem XX{s:Tx}{M:Mem}(p:GlobM M)(x:s.length<=281474976710656):Meets ab 111 [.v (.string ⟨s.toArray⟩)] M λr _ _=>∃v e,r=.tup [.v (.int .i64 v),.v e]/\((kY s=.ok v/\e=.nilIface)\/((∀v,kY s≠.ok v)/\∃f g,e=.iface f g)):=by
 have q:jr ab 111:=⟨_,PS,by kernel_rfl,by kernel_rfl⟩;have y:(ByteArray.mk s.toArray).size=s.length:=rfl;refine⟨q,λw j=>?_⟩;have a:∀(v:Int)(e:ay)(u:bQ),um w.heap.size w u->((kY s=.ok v/\e=.nilIface)\/((∀v,kY s≠.ok v)/\∃f g,e=.iface f g))->∃i G L ν,uq (.tuple #[.int .i64 v,e])=.returned (SV.cL ν i)/\Heap ⟨ab,0,w,M⟩ ν G L u/\∃v e,i=.tup [.v (.int .i64 v),.v e]/\((kY s=.ok v/\e=.nilIface)\/((∀v,kY s≠.ok v)/\∃f g,e=.iface f g)):=λv e u c h=>⟨.tup [.v (.int .i64 v),.v e],[],M,vu,rfl,Heap.mE (E:=⟨ab,0,w,M⟩) (ν:=vu) (H:=[]) (M:=M) (w:=w) ⟨by simp,kM,by simp[fp],j,dQ _ _,cg _,λb c=>.inl c,λk=>rfl⟩ c,v,e,rfl,h⟩;cases d:kY s with
  |ok v=>
   refine(Proofs.Any.strconv_Atoi_ok Proofs.s3 ⟨s.toArray⟩ (by omega) v d w).mono ?_;rintro e u⟨rfl,l⟩;refine(d▸a) v .nilIface u ?_ (.inl ⟨rfl,rfl⟩);rcases l with rfl|⟨t,rfl⟩;·exact dQ _ _
   ·exact Lib.bytesWorld_below w _ t
  |range=>obtain⟨m,n,o⟩:=p.eran;refine(Proofs.Any.strconv_Atoi_range Proofs.s3 ⟨s.toArray⟩ (by omega) d m w (o w j) n).mono ?_;rintro e u⟨N,rfl,_,_,c⟩;exact(d▸a) _ _ u c (.inr ⟨λv h=>(by cases h),_,_,rfl⟩)
  |_=>obtain⟨m,n,o⟩:=p.esyn;refine(Proofs.Any.strconv_Atoi_syntax Proofs.s3 ⟨s.toArray⟩ (by omega) d m w (o w j) n).mono ?_;rintro e u⟨N,rfl,_,_,c⟩;exact(d▸a) _ _ u c (.inr ⟨λv h=>(by cases h),_,_,rfl⟩)
end Go.X.Dk
namespace Go.X
open Go Go.RowKit
section
variable{E:Env}{σ:dp}{H:HS}{M:Mem}{Q:QP}
theorem Co{ops:Array db}{o:db}{b:List db}{T u:bL}{d:Nat}{x:bB}{v:ay}(n:o.op=.binOp .neq T x (.const .nilIface) u)(p:o.guard=none)(g:o.dst=some d)(q:aU (d<E.N)=true)(r:opv σ x=some (true,.v v))(i:v=.nilIface\/∃c e,v=.iface c e)(f:∃k,E.P.underlying T=some (.interface k))(h:RegK E ops Q b ((d,true,.v (.bool (isIfc v)))::σ) H M):RegK E ops Q (o::b) σ H M:=by
 rintro a w⟨V,l,s⟩;obtain⟨k,f⟩:=f;refine wpList_plain p λB j=>?_;have t:a.eval x=v:=l.mA r rfl;have y:a.eval (.const .nilIface)=.nilIface:=rfl;unfold oC;have m:(kI T v .nilIface).run E.P w=.ok (!isIfc v) w:=by
  have g:∀d:Nat,(nO (d+1) T v .nilIface).run E.P w=.ok (!isIfc v) w:=λd=>by
   rcases i with rfl|⟨c,e,rfl⟩;·simp[nO,a8 f,isIfc]
   ·simp[nO,a8 f,isIfc]
  rw[kI,Et];exact g 9999
 have z:Es .neq T x (.const .nilIface) v .nilIface=pure ():=by
  rcases i with rfl|⟨c,e,rfl⟩;·cases x<;>rfl
  ·cases x<;>rfl
 have A:(binOp .neq T v .nilIface).run E.P w=.ok (.bool (isIfc v)) w:=by
  rcases i with rfl|⟨c,e,rfl⟩;·show((kI T .nilIface .nilIface).bind _).run E.P w=_;rw[my,m];rfl
  ·show((kI T (.iface c e) .nilIface).bind _).run E.P w=_;rw[my,m];rfl
 have :(da a.eval o).run E.P w=.ok (.value (.bool (isIfc v))) w:=by simp only[da,n,t,y,z,a7,bC,aQ,A]
 rw[this];simp only[sF,g];exact j _ _ (h _ _ ⟨V,l.ml (aW q) rfl,s⟩)
end
end Go.X
namespace Go.X.Dk
open Go Go.X Go.RowKit
theorem UP{s:Tx}{v:Int}(h:kY s=.ok v):cY .i64 v:=by
 unfold kY at h;split at h;·cases h
 ·simp only at h;split at h;·cases h
  ·cases h
  ·split at h;·cases h
   ·split at h;·cases h
    ·injection h with h;split at h<;>exact eV (by omega) (by omega)
theorem ZV{ws:List Tx}{v:ay}{i:Nat}{q:Option ay}{M:Mem}(G:GlobM M)(K:RowM M v 1 (ws.map dG))(hi:i<=ws.length)(L:∀w∈ws,w.length<=281474976710656):MeetsX ab 54 [.ptr 8000 0 0 0] [(8000,.box (jW v i) q)] M (λs H' _=>∃a,(s.conc=true/\SV.concs a=true)/\hget H' 8000=some (.box a q)/\∃w n,ws[i]?=some w/\nL w=some n/\s=.v (.int .i64 n)/\a=jW v (i+1)) (λH H' _=>∃a,SV.concs a=true/\hget H' 8000=some (.box a q)/\((ws[i]?).bind nL=none)/\H=jv 12):=by
 refine p8 Proofs.Tryz.func54 rfl (by kernel_rfl) λR S=>?_;simp only[Proofs.Tryz.f54];refine i7 (eD (live:=[0,2,3,4,5,29]) _ _ _ _ _ ?_);simp only[zY,↓reduceIte,aj,ak,al,af,aA,ag,reduceCtorEq,aB,aC,aD,aE,aq,ar,au,av,ah,aw];refine i7 (eD (live:=[0,2,3,4,5,29]) _ _ _ _ _ ?_);simp only[zY,↓reduceIte,aj,ak,al,af,aA,ag,reduceCtorEq,aB,aC,aD,aE,aq,ar,au,av,ah,aw];refine n8 (A:=λs=>[s]) 8000 (λs T V U h=>by simp only[aS,h]) rfl rfl rfl (λW N j=>K5 (K.le j) hi) (λs a⟨w,f,O,l⟩=>?_) (λH a⟨P,x,l⟩=>?_);rotate_left;·subst x l;exact⟨_,rfl,rfl,by rw[P];rfl,rfl⟩
 subst O l;have p:w∈ws:=aL f;simp only[zY,↓reduceIte,aj,ak,al,af,aA,ag,reduceCtorEq,aB,aC,aD,aE,aq,ar,au,av,ah,aw];refine i7 (eD (live:=[0,2,3,4,5,29]) _ _ _ _ _ ?_);simp only[zY,↓reduceIte,aj,ak,al,af,aA,ag,reduceCtorEq,aB,aC,aD,aE,aq,ar,au,av,ah,aw];refine OK rfl rfl (XX G (L w p)) λs H' N j r=>?_;obtain⟨n,e,rfl,r⟩:=r;refine⟨rfl,?_⟩;simp only[zY,↓reduceIte,aj,ak,al,af,aA,ag,reduceCtorEq,aB,aC,aD,aE,aq,ar,au,av,ah,aw];refine i7 (i7 (rZ ?_));refine A' 1 ?_;simp only[zY,↓reduceIte,aj,ak,al,af,aA,ag,reduceCtorEq,aB,aC,aD,aE,aq,ar,au,av,ah,aw,fH,nc];have y:e=.nilIface\/∃z B,e=.iface z B:=r.imp (λh=>h.2) (λh=>h.2);refine Co (v:=e) rfl rfl rfl rfl rfl y ⟨_,DL⟩ ?_;refine p9 (live:=[0,2,3,4,5,29]) _ _ _ _ ?_;have c:(∀k,nL w=some k->False)->nL w=none:=λh=>by cases C:nL w with|none=>rfl|some k=>exact(h k C).elim
 rcases r with⟨m,rfl⟩|⟨m,z,B,rfl⟩
 ·have g:=UO m;have b:isIfc .nilIface=false:=rfl;by_cases I:n<0
  ·have d:nL w=none:=c λk o=>by have :=xT o;rw[m]at this;injection this with this;omega
   simp only[zX,↓reduceIte,aj,ak,al,af,aA,ag,reduceCtorEq,aB,aC,aD,aE,aq,ar,au,av,ah,aw,b,I,dr];refine eD (live:=[0,2,3,4,5,29]) _ _ _ _ _ ?_;simp only[zX,↓reduceIte,aj,ak,al,af,aA,ag,reduceCtorEq,aB,aC,aD,aE,aq,ar,au,av,ah,aw,eT,cZ,fL,c_];exact gJ rfl (tM 12 N) ⟨_,rfl,rfl,by rw[f];exact d,rfl⟩
  ·have J:(n<0)=False:=ax I;by_cases X:10<w.length
   ·have d:nL w=none:=c λk o=>by have :=(qd.1 o).2;omega
    have D:((10:Int)<(w.length:Int))=True:=aK (by omega);simp only[zX,↓reduceIte,aj,ak,al,af,aA,ag,reduceCtorEq,aB,aC,aD,aE,aq,ar,au,av,ah,aw,b,J,D,dr,dW];refine eD (live:=[0,2,3,4,5,29]) _ _ _ _ _ ?_;simp only[zX,↓reduceIte,aj,ak,al,af,aA,ag,reduceCtorEq,aB,aC,aD,aE,aq,ar,au,av,ah,aw,eT,cZ,fL,c_];exact gJ rfl (tM 12 N) ⟨_,rfl,rfl,by rw[f];exact d,rfl⟩
   ·have D:((10:Int)<(w.length:Int))=False:=ax (by omega);have Q:w.length<=10:=by omega
    simp only[zX,↓reduceIte,aj,ak,al,af,aA,ag,reduceCtorEq,aB,aC,aD,aE,aq,ar,au,av,ah,aw,b,J,D,dr,dW];refine az ⟨rfl,rfl⟩ rfl (FY (G.le j) (UP m)) ?_;by_cases t:w=Lib.itoa n;·have E:(w=Lib.itoa n)=True:=aK t;have C:=g.1 ⟨by omega,Q,t⟩;have F:((n.toNat:Nat):Int)=n:=pv (by omega);simp only[zX,↓reduceIte,aj,ak,al,af,aA,ag,reduceCtorEq,aB,aC,aD,aE,aq,ar,au,av,ah,aw,E,dr,dW,yH];refine eD (live:=[0,2,3,4,5,29]) _ _ _ _ _ ?_;simp only[zX,↓reduceIte,aj,ak,al,af,aA,ag,reduceCtorEq,aB,aC,aD,aE,aq,ar,au,av,ah,aw,bp,cZ,fL,dz,c_];refine eD (live:=[0,2,3,4,5,29]) _ _ _ _ _ ?_;simp only[zX,↓reduceIte,aj,ak,al,af,aA,ag,reduceCtorEq,aB,aC,aD,aE,aq,ar,au,av,ah,aw,dz];exact⟨_,rfl,rfl,w,n.toNat,f,C,by rw[F],rfl⟩
    ·have E:(w=Lib.itoa n)=False:=ax t;have d:nL w=none:=c λk o=>by have u:=xT o;rw[m]at u;injection u with u;refine t (g.2 ?_).2.2;rw[u,aX];exact o
     simp only[zX,↓reduceIte,aj,ak,al,af,aA,ag,reduceCtorEq,aB,aC,aD,aE,aq,ar,au,av,ah,aw,E,dr,dW,nQ];refine eD (live:=[0,2,3,4,5,29]) _ _ _ _ _ ?_;simp only[zX,↓reduceIte,aj,ak,al,af,aA,ag,reduceCtorEq,aB,aC,aD,aE,aq,ar,au,av,ah,aw,eT,cZ,fL,c_];exact gJ rfl (tM 12 N) ⟨_,rfl,rfl,by rw[f];exact d,rfl⟩
 ·have b:isIfc (.iface z B)=true:=rfl;have d:nL w=none:=QI m;simp only[zX,↓reduceIte,aj,ak,al,af,aA,ag,reduceCtorEq,aB,aC,aD,aE,aq,ar,au,av,ah,aw,b];refine eD (live:=[0,2,3,4,5,29]) _ _ _ _ _ ?_;simp only[zX,↓reduceIte,aj,ak,al,af,aA,ag,reduceCtorEq,aB,aC,aD,aE,aq,ar,au,av,ah,aw,eT,cZ,fL,c_];exact gJ rfl (tM 12 N) ⟨_,rfl,rfl,by rw[f];exact d,rfl⟩
end Go.X.Dk
namespace Go.X.Dk
theorem Bc:∀(n k:Nat)(l:Tx),l.length<=n->l.length<=k->K4 k l=K4 l.length l
 |n,k,[],_,_=>by cases k<;>rfl
 |n+1,k+1,c::r,e,f=>by
  simp only[aM]at e f;have g:=Bc n k r (by omega) (by omega);rw[aM];unfold K4;rw[g];split;·rfl
  split;·rfl
  cases r with|nil=>rfl|cons a r=>cases r with|nil=>rfl|cons b d=>simp only[aM]at e f⊢;have h:=Bc n k d (by omega) (by omega);have i:=Bc n (d.length+1+1) d (by omega) (by omega);rw[h,i]
def Bd(w:Tx):Option Tx:=K4 w.length w
theorem MR:Bd []=some []:=rfl
theorem MS{c:UInt8}{r:Tx}(h:kf c=false):Bd (c::r)=none:=by unfold Bd;rw[aM];unfold K4;rw[aF h]
theorem MT{c:UInt8}{r:Tx}(h:kf c=true)(a:c.toNat≠37):Bd (c::r)=(Bd r).map (c::·):=by
 unfold Bd;rw[aM];conv=>lhs;unfold K4
 rw[ai (by rw[h];decide),aF a]
theorem MU{c a b:UInt8}{r:Tx}(h:c.toNat=37):Bd (c::a::b::r)=match mG a,mG b with|some x,some y=>(Bd r).map (bo (16*x+y)::·)|_,_=>none:=by
 have d:kf c=true:=by simp[kf,h]
 unfold Bd;rw[aM];conv=>lhs;unfold K4
 rw[ai (by rw[d];decide),ai (by simp[h])];simp only;rw[Bc (r.length) ((a::b::r).length) r (bc _) (by simp only[aM];omega)];all_goals(cases mG a<;>cases mG b<;>rfl)
theorem EX{c:UInt8}{r:Tx}(h:c.toNat=37)(d:r.length<2):Bd (c::r)=none:=by
 have e:kf c=true:=by simp[kf,h]
 unfold Bd;rw[aM];unfold K4;rw[ai (by rw[e];decide),ai (by simp[h])];match r,d with|[],_=>rfl|[a],_=>rfl|a::b::r,d=>simp only[aM]at d;omega
def Ii:Tx:=[48,49,50,51,52,53,54,55,56,57,97,98,99,100,101,102]
def r9(c:UInt8):Int:=match mG c with|some x=>x|none=>-1
theorem K6(c:UInt8):Lib.indexByte Ii c=r9 c:=by
 have a:∀n:Fin 256,Lib.indexByte Ii (bo n.val)=r9 (bo n.val):=by decide
 have h:=a ⟨c.toNat,c.toNat_lt⟩;have e:bo c.toNat=c:=jm;simp only[e]at h;exact h
theorem xV{c:UInt8}{x:Nat}(h:mG c=some x):x<16:=by
 unfold mG at h;split at h;·injection h with h;omega
 split at h;·injection h with h;omega
 ·cases h
end Go.X.Dk
namespace Go.X.Dk
open Go Go.X Go.RowKit
theorem XY{ws:List Tx}{v:ay}{i:Nat}{q:Option ay}{M:Mem}(Z:RowM M v 1 (ws.map dG))(hi:i<=ws.length)(hw:∀w∈ws,w.length<=70000):MeetsX ab 64 [.ptr 8000 0 0 0] [(8000,.box (jW v i) q)] M (λs H' _=>∃d,(s.conc=true/\SV.concs d=true)/\hget H' 8000=some (.box d q)/\∃w t,ws[i]?=some w/\l_ w=some t/\s=.v (.string ⟨t.toArray⟩)/\d=jW v (i+1)) (λV H' _=>∃d,SV.concs d=true/\hget H' 8000=some (.box d q)/\((ws[i]?).bind l_=none)/\V=jv 12):=by
 refine cO [0,2,3,4,5,6,7,11,15,33,38,49,66] Proofs.Tryz.func64 rfl (by kernel_rfl) λw0 M0=>?_;simp only[Proofs.Tryz.f64,zY,seval];refine n8 (A:=λs=>[s]) 8000 (λs s' ν ν' h=>by simp only[aS,h]) rfl rfl rfl (λq' M' F=>K5 (Z.le F) hi) (λs d⟨w,g,hs,n⟩=>?_) (λV d⟨h0,G,n⟩=>?_);rotate_left;·subst G n;exact⟨_,rfl,rfl,by rw[h0];rfl,rfl⟩
 subst hs n;have B:w∈ws:=aL g;have W:=hw w B;by_cases D:w=[95];·have H:(w=[95])=True:=aK D;simp only[zX,seval,H,dr,c_,eT,cZ,fL];refine⟨_,rfl,rfl,w,[],g,?_,rfl,rfl⟩;rw[D];rfl
 have H:(w=[95])=False:=ax D;have m:l_ w=Bd w:=ai D;simp only[zX,seval,H,dW,c_,bp,cZ,dz];refine eI 4 75 1 rfl rfl rfl ?_;refine uO (X:=Nat×Tx) (λx=>([(3,true,.v (.string ⟨w.toArray⟩)),(4,true,.own 600),(5,true,.v (.int .i64 (x.1:Int)))],[(600,.row 1 (x.2.map iy)),(8000,.box (jW v (i+1)) q)],M)) (λx=>(x.1<=w.length/\x.2.length<=x.1)/\Bd w=(Bd (w.drop x.1)).map (x.2++·)) (λx=>w.length-x.1) (0,[]) ⟨⟨bJ _,bc _⟩,by simp⟩ (aR ?_) ?_;·simp only[zV,seval,cr,aZ,jW]
 rintro⟨k,o⟩⟨⟨k1,k2⟩,l⟩;simp only at k1 k2 l;by_cases I:k<w.length;rotate_left
 ·have J:((k:Int)<(w.length:Int))=False:=ax (by omega);have K:(o.map iy).map j8=o:=by
   rw[jB];have :j8∘iy=id:=funext λb=>by show bo ((b.toNat:Int).toNat)=b;rw[aX];exact jm
   rw[this,List.map_id]
  have L:∀o:Tx,u8s (o.map iy):=λo=>by induction o with|nil=>trivial|cons b o ih=>exact ih
  simp only[zX,seval,J,K];refine⟨L o,_,rfl,rfl,w,o,g,?_,rfl,rfl⟩;rw[m,l,bh (by omega),MR];simp
 have J:((k:Int)<(w.length:Int))=True:=aK (by omega);obtain⟨c,N⟩:∃c,w[k]?=some c:=⟨_,aP I⟩;have hd:w.drop k=c::w.drop (k+1):=by rw[ft I];congr 1;rw[aP I]at N;exact d_ N
 have hx:fc w (k:Int)=((c.toNat:Nat):Int):=by unfold fc;simp[N]
 rw[hd]at l;have hix:(0<=(k:Int)/\(k:Int)<(w.length:Int))=True:=aK ⟨by omega,by omega⟩;simp only[zX,seval,J,hx,dr,eT,cZ,c_,fL,dz];have O:kf c=false->((ws[i]?).bind l_=none):=λh=>by rw[g];show l_ w=none;rw[m,l,MS h];rfl
 refine⟨by omega,λh=>⟨h,by omega⟩,λh=>⟨h,by omega⟩,λhb=>?_,λhb=>?_⟩
 ·have P:kf c=false:=by unfold kf;rw[jl];omega
  exact gJ rfl (tM 12 M) ⟨_,rfl,rfl,O P,rfl⟩
 have P:kf c=true:=by unfold kf;rw[decide_eq_true_iff];omega
 by_cases p:c.toNat=37
 ·have r:((c.toNat:Int)=37)=True:=aK (by omega);simp only[r,not_true,cZ,c_,fL,dz];by_cases hk2:w.length<=k+2
  ·have j:(ws[i]?).bind l_=none:=by rw[g];show l_ w=none;rw[m,l,EX p (by rw[aT];omega)];rfl
   refine⟨by omega,eV (by omega) (by omega),λ_=>gJ rfl (tM 12 M) ⟨_,rfl,rfl,j,rfl⟩,λh=>absurd h (by omega)⟩
  refine⟨by omega,eV (by omega) (by omega),λh=>absurd h (by omega),λ_=>?_⟩;obtain⟨a,Q⟩:∃a,w[k+1]?=some a:=⟨_,aP (by omega)⟩;obtain⟨b,u⟩:∃b,w[k+2]?=some b:=⟨_,aP (by omega)⟩;have R:w.drop (k+1)=a::w.drop (k+2):=by rw[ft (show k+1<w.length by omega)];congr 1;rw[aP (by omega)]at Q;exact d_ Q
  have S:w.drop (k+2)=b::w.drop (k+3):=by rw[ft (show k+2<w.length by omega)];congr 1;rw[aP (by omega)]at u;exact d_ u
  have xa:fc w ((k:Int)+1)=((a.toNat:Nat):Int):=by
   have :((k:Int)+1).toNat=k+1:=by omega
   unfold fc;rw[this];simp[Q]
  have xb:fc w ((k:Int)+2)=((b.toNat:Nat):Int):=by
   have :((k:Int)+2).toNat=k+2:=by omega
   unfold fc;rw[this];simp[u]
  rw[R,S,MU p]at l;refine jU (js (tk [0,1,5,6,2,7,3,8] (.one 4 (.one 9 (tk [10,11] .done)))) (by kernel_rfl) (by kernel_rfl) ?_);simp only[zX,seval,fl,fm,fP,xa,xb];refine⟨eV (by omega) (by omega),eV (by omega) (by omega),⟨by omega,by omega⟩,⟨by omega,by omega⟩,az ⟨rfl,rfl⟩ rfl (Ar (s:=Ii) (c:=a)) ?_⟩;simp only[zX,seval,fl,fm,fP];refine az ⟨rfl,rfl⟩ rfl (Ar (s:=Ii) (c:=b)) ?_;have f:Bd w=none->(ws[i]?).bind l_=none:=λh=>by rw[g];show l_ w=none;rw[m,h]
  cases z:mG a with
   |none=>
    have E:r9 a=-1:=by unfold r9;rw[z]
    have j:=f (by rw[l,z];rfl);simp only[zX,seval,fl,fm,fP,K6,E,dr,dW,c_,eT,cZ,fL];exact gJ rfl (tM 12 M) ⟨_,rfl,rfl,j,rfl⟩
   |some x=>
    have E:r9 a=x:=by unfold r9;rw[z]
    have Y:((x:Int)<0)=False:=ax (by omega);cases C:mG b with
     |none=>
      have T:r9 b=-1:=by unfold r9;rw[C]
      have j:=f (by rw[l,z,C];rfl);simp only[zX,seval,fl,fm,fP,K6,E,T,Y,dr,dW,c_,eT,cZ,fL];exact gJ rfl (tM 12 M) ⟨_,rfl,rfl,j,rfl⟩
     |some y=>
      have T:r9 b=y:=by unfold r9;rw[C]
      have lb:((y:Int)<0)=False:=ax (by omega);simp only[zX,seval,fl,fm,fP,K6,E,T,Y,lb,dr,dW,c_,bp,cZ,dz];have lx:=xV z;have ly:=xV C;have hu:((bo (16*x+y)).toNat:Int)=16*(x:Int)+y:=by have :(bo (16*x+y)).toNat=(16*x+y)%256:=rfl;omega
      have U:ig.wrap (16*(x:Int)+y)=((bo (16*x+y)).toNat:Int):=by rw[fO (show cY .u8 _ from⟨by show(0:Int)<=_;omega,by show _<=(255:Int);omega⟩),hu]
      have hl:(o.map iy).length=o.length:=ae ..;have e:o.map iy++[[.int .u8 ((bo (16*x+y)).toNat:Int)]]=(o++[bo (16*x+y)]).map iy:=by rw[bq];rfl
      rw[U,e];refine⟨eV (by omega) (by omega),eV (by omega) (by omega),rfl,⟨by omega,by omega⟩,rfl,eV (by omega) (by omega),eV (by omega) (by omega),(k+3,o++[bo (16*x+y)]),⟨⟨⟨by simp only;omega,by simp only[aG,bG];omega⟩,?_⟩,by simp only;omega⟩,aR ?_⟩;·rw[l,z,C];simp only;cases Bd (w.drop (k+3))<;>simp
      ·have :(k:Int)+2+1=((k+3:Nat):Int):=by omega
       simp only[zV,seval,this]
 ·have r:((c.toNat:Int)=37)=False:=ax (by omega);simp only[r,gy,cZ,c_,fL,dz];have hl:(o.map iy).length=o.length:=ae ..;have e:o.map iy++[[.int .u8 (c.toNat:Int)]]=(o++[c]).map iy:=by rw[bq];rfl
  rw[e];refine⟨by omega,by omega,rfl,⟨by omega,by omega⟩,rfl,eV (by omega) (by omega),(k+1,o++[c]),⟨⟨⟨by simp only;omega,by simp only[aG,bG];omega⟩,?_⟩,by simp only;omega⟩,?_⟩;·rw[l,MT P p];cases Bd (w.drop (k+1))<;>simp
  ·refine i6 4 75 352 1 _ rfl rfl rfl rfl (aR ?_);simp only[zV,seval,aJ]
end Go.X.Dk
namespace Go.X
open Go Go.RowKit
theorem g_{E:Env}{S:dp}{H:HS}{M:Mem}{K:KP}{f d:Nat}{l:List SV}{R:SV->Prop}{X0:List Uf->Prop}{X:XP}(m:aU (d<E.N)=true)(z:SV.concs l=true)(h:MeetsX E.P f l [] M (λs _ _=>s.conc=true/\R s) (λc _ _=>X0 c))(n:∀s,R s->K ((d,true,s)::S) H M)(o:∀k,X0 k->X k H M):CallX E f l d K X S H M:=by
 intro v a w q i;refine⟨h.1,?_⟩;refine(h.2 w M v w ⟨λp r=>(by cases r),kM,λb j=>by simp[fp]at j,i.mem,dQ _ _,cg _,λb j=>.inl j,i.one⟩).mono ?_;rintro e W(⟨s,G,L,u,rfl,g,t,x⟩|⟨c,u,G,L,rfl,g,y⟩);·exact .inl ⟨_,rfl,_,H,M,⟨v,q.ml (aW m) (by rw[dM];exact fz s t),i.mE g.below⟩,n s x⟩
 ·exact .inr ⟨_,rfl,v,H,M,i.mE g.below,o c y⟩
theorem MeetsX.Ij{P:bZ}{f:kH}{args:List SV}{H:HS}{M:Mem}{R g:RP}{X i:XP}(h:MeetsX P f args H M R X)(j:∀s H M,R s H M->g s H M)(k:∀c H M,X c H M->i c H M):MeetsX P f args H M g i:=⟨h.1,λl m v w n=>(h.2 l m v w n).mono λe W h=>h.imp (λ⟨s,G,N,u,a,b,d⟩=>⟨s,G,N,u,a,b,j _ _ _ d⟩) (λ⟨c,u,G,N,a,b,d⟩=>⟨c,u,G,N,a,b,k _ _ _ d⟩)⟩
end Go.X
namespace Go.X.Dk
open Go Go.X Go.RowKit
theorem QM(e:Int)(M:Mem):MeetsX ab 123 [.v (.int .i64 e)] [] M (λs _ _=>s.conc=true/\(e=0/\s=.v (.string ⟨yP.toArray⟩))) (λc _ _=>e≠0/\c=jv e):=by refine cO [0,2] Proofs.Tryz.func123 rfl (by kernel_rfl) λf g=>?_;simp only[Proofs.Tryz.f123,zY,seval];refine g_ (R:=λs=>e=0/\s=.tup []) (X0:=λc=>e≠0/\c=jv e) rfl rfl ((zb e M).Ij (λs _ _ h=>⟨by rw[h.2];rfl,h⟩) (λ_ _ _ h=>h)) (λs a=>?_) (λi b=>b);obtain⟨d,rfl⟩:=a;simp only[zY,seval];exact⟨d,rfl⟩
end Go.X.Dk
namespace Go.X.Dk
open Go Go.X Go.RowKit
theorem jw:∀(k n:Nat),n<10^(k+1)->(cF n).length<=k+1
 |0,n,h=>by rw[nu (by omega)];exact bc _
 |k+1,n,h=>by
  by_cases a:n<10;·rw[nu a];simp
  ·rw[cF,dif_neg a,aG,bG];have :=jw k (n/10) (by rw[eK]at h;omega);omega
def lD(n:Nat):List ay:=[.int .i64 (n:Int)]
def pn(l:List Nat):Tx:=l.flatMap λn=>32::cF n
theorem r_{l:List Nat}{v:ay}{M:Mem}(q:GlobM M)(d:RowM M v 1 (l.map lD))(B:l.length<=70000)(s:∀n∈l,n<=9223372036854775807):Meets ab 63 [.v v] M λr _ _=>r=.v (.string ⟨(dL l).toArray⟩):=by
 refine aH [0,2,3,5,6,7,8,9] wj rfl (by kernel_rfl) rfl λw=>?_;have a:(l.map lD).length=l.length:=ae ..;have e:isSl v=true:=d.1.1;have f:eB v=l.length:=by rw[d.gC,a]
 simp only[Proofs.Tryz.f63,zW,seval,e,f,dz];refine bE (X:=Nat) (λk=>([(3,true,.v (.string ⟨(yP++pn (l.take k)).toArray⟩)),(6,true,.v v),(7,true,.v (.int .i64 l.length)),(8,true,.v (.int .i64 (k:Int)))],[],M)) (λk=>k<=l.length/\(pn (l.take k)).length<=20*k) (λk=>l.length-k) 0 ⟨bJ _,bc _⟩ (aR ?_) ?_;·simp only[zV,seval,fE,pn,oE,cS,yP,aZ]
 rintro k⟨C,t⟩;by_cases u:k<l.length
 ·have g:((k:Int)<(l.length:Int))=True:=aK (by omega);obtain⟨n,h⟩:∃n,l[k]?=some n:=⟨_,aP u⟩;have x:(l.map lD)[k]?=some (lD n):=by rw[aN,h];rfl
  have p:=d.fG x (off:=0) (by omega);have j:xj M v 1 k 0=.int .i64 (n:Int):=p.1;have y:=d.ix (i:=(k:Int)) (by omega) (by omega);have z:=s n (aL h);have D:=jw 18 n (by have :(10:Nat)^19=10000000000000000000:=(by decide);omega);have m:Lib.itoa (n:Int)=cF n:=Lib.itoa_nonneg n;have b:l.take (k+1)=l.take k++[n]:=by rw[cm,h];rfl
  have o:yP++pn (l.take k)++(32::cF n)=yP++pn (l.take (k+1)):=by rw[b];simp only[pn,iv,lq,oE,cS,bN]
  simp only[zW,seval,g,y,j,p.2.1,dz];refine az ⟨rfl,rfl⟩ rfl (FY q (eV (by omega) (by omega))) ?_;simp only[zW,seval,m];have c:(pn (l.take (k+1))).length<=20*(k+1):=by rw[b];simp only[pn,iv,lq,oE,cS,aG,aM];have :(List.flatMap (λn=>32::cF n) (fH k l)).length<=20*k:=t;omega
  have A:yP.length=2:=rfl;refine⟨by omega,by rw[aG];omega,eV (by omega) (by omega),k+1,⟨⟨by omega,c⟩,by omega⟩,aR ?_⟩;simp only[zV,seval,o,aJ]
 ·have g:((k:Int)<(l.length:Int))=False:=ax (by omega);have :k=l.length:=by omega
  subst this;simp only[zW,seval,g,sH];rfl
end Go.X.Dk
namespace Go.X
open Go Go.RowKit
theorem cV{E:Env}{s:dp}{H:HS}{M:Mem}{K:KP}{X:XP}{f d:Nat}{l:List SV}(c:jr E.P f)(h:CallK E f l d K s H M):CallX E f l d K X s H M:=by
 intro V a w g i;rcases h V a w g i with⟨c,b⟩|⟨v,u,b,_⟩;·exact⟨c,b.mono λe u⟨v,j,k⟩=>.inl ⟨v,j,k⟩⟩
 ·obtain⟨p,m,n,o⟩:=c;have :(callFunc f (aS V l).toArray).run E.P w=.ok (.enter f (aS V l).toArray) w:=by simp only[callFunc,a7,run_program,aQ,m,n,o,bp,cA,bC]
  rw[this]at b;cases b
end Go.X
namespace Go.X.Dk
open Go Go.X Go.RowKit
theorem QN{n:Nat}{e:Int}{M:Mem}(b:GlobM M)(o:n<=9223372036854775807):MeetsX ab 56 [.v (.int .i64 n),.v (.int .i64 e)] [] M (λs _ _=>s.conc=true/\(e=0/\s=.v (.string ⟨(dL [n]).toArray⟩))) (λc _ _=>e≠0/\c=jv e):=by refine cO [0,1,4] Proofs.Tryz.func56 rfl (by kernel_rfl) λp q=>?_;simp only[Proofs.Tryz.f56,zY,seval];refine g_ (R:=λs=>e=0/\s=.tup []) (X0:=λc=>e≠0/\c=jv e) rfl rfl ((zb e M).Ij (λs _ _ h=>⟨by rw[h.2];rfl,h⟩) (λ_ _ _ h=>h)) (λs d=>?_) (λr f=>f);obtain⟨g,rfl⟩:=d;simp only[zY,seval];refine cV ⟨_,wj,by kernel_rfl,by kernel_rfl⟩ (dP (k:=64) rfl rfl rfl (λ_=>rfl) (λv N a i=>r_ (l:=[n]) (b.le a) i (by simp) (λm j=>by simp only[bD]at j;omega)) ?_);simp only[zY,seval];exact g
end Go.X.Dk
namespace Go.Proofs
open Go.Shelf
def lV:lH:=⟨λ|166=>13|240=>27|276=>52|n=>n,λ|70=>49|9=>9|3=>3|75=>54|0=>0|72=>52|37=>50|4=>4|164=>106|80=>58|5=>5|20=>20|n=>n,λ|n=>n⟩
theorem pE:xh ab lV:={mixed:=by kernel_rfl,f166:=AK.trans (aY some (by kernel_rfl)),f240:=Tryz.func27.trans (aY some (by kernel_rfl)),f276:=Tryz.func52.trans (aY some (by kernel_rfl)),t0:=yL,a0:=Oi,z0:=J6,v0:=AJ,t3:=jk,a3:=xt,z3:=vm,v3:=dJ,t4:=pU,a4:=PR,z4:=Mb,v4:=BF,t9:=gX,a9:=tG,z9:=qG,v9:=mQ,t20:=xg,a20:=Tryz.isAgg20,z20:=Tryz.sizeOf20,v20:=Tryz.zeroValue20,t37:=Ez,a37:=TR,z37:=PB,v37:=G6,t70:=Tryz.underlying49,a70:=Tryz.isAgg49,z70:=Tryz.sizeOf49,v70:=Tryz.zeroValue49,t72:=Tryz.underlying52,a72:=Tryz.isAgg52,z72:=Tryz.sizeOf52,v72:=Tryz.zeroValue52,t75:=DL,a75:=Tryz.isAgg54,z75:=Tryz.sizeOf54,v75:=Tryz.zeroValue54,t164:=Tryz.underlying106,a164:=Tryz.isAgg106,z164:=Tryz.sizeOf106,v164:=Tryz.zeroValue106}
def oa:lH:=⟨λ|169=>16|n=>n,λ|70=>49|9=>9|0=>0|72=>52|37=>50|127=>84|3=>3|5=>5|n=>n,λ|n=>n⟩
theorem s4:BH ab oa:={mixed:=by kernel_rfl,f169:=Uo.trans (aY some (by kernel_rfl)),t0:=yL,a0:=Oi,z0:=J6,v0:=AJ,t3:=jk,a3:=xt,z3:=vm,v3:=dJ,t9:=gX,a9:=tG,z9:=qG,v9:=mQ,t37:=Ez,a37:=TR,z37:=PB,v37:=G6,t70:=Tryz.underlying49,a70:=Tryz.isAgg49,z70:=Tryz.sizeOf49,v70:=Tryz.zeroValue49,t72:=Tryz.underlying52,a72:=Tryz.isAgg52,z72:=Tryz.sizeOf52,v72:=Tryz.zeroValue52,t127:=Tryz.underlying84,a127:=Tryz.isAgg84,z127:=Tryz.sizeOf84,v127:=Tryz.zeroValue84}
theorem oI:gR ab lV:={sizeBuilder:=by kernel_rfl,liesBuilder:=by kernel_rfl,t5:=l8,a5:=tF,z5:=qF,v5:=mP,infoByte:=by kernel_rfl,cellsByte:=by kernel_rfl,sizeByte:=by kernel_rfl,neB5:=by decide}
theorem rn:gR ab oa:={sizeBuilder:=by kernel_rfl,liesBuilder:=by kernel_rfl,t5:=l8,a5:=tF,z5:=qF,v5:=mP,infoByte:=by kernel_rfl,cellsByte:=by kernel_rfl,sizeByte:=by kernel_rfl,neB5:=by decide}
end Go.Proofs
namespace Go.X
open Go Go.RowKit Go.Shelf
structure Bld(E:Env)(T e:bL)(b:Nat)(l:List UInt8)(M:Mem):Prop where
 base:E.w0.heap.size<=b
 old:∀c,E.M0 c≠none->c<b
 le:E.M0.le M
 is:∀w,M.on w->PC T e b b (eN l) w
section
variable{E:Env}{σ:dp}{H:HS}{M:Mem}{a:xp}{w:bQ}{ν:Nat->ay}{K:KP}{o:db}
theorem QO{T e:bL}{b:Nat}{l H:List UInt8}(x:Heap E ν [] M w)(y:Bld E T e b l M){w':bQ}(k:um b w w')(z:PC T e b b (eN H) w'):∃N,Bld E T e b H N/\Heap E ν [] N w':=by
 obtain⟨F,i⟩:∃F,w'.heap[b]?=some F:=by
  rcases z with⟨n,v,d,m,q⟩|⟨n,v,d,m,q⟩;·exact⟨_,d⟩
  ·exact⟨_,d⟩
 obtain⟨g,L,⟨G,A⟩,O⟩:∃g,b<=g/\(∃G,w'.heap[g]?=some G)/\∀a:bQ,a.heap[b]?=w'.heap[b]?->a.heap[g]?=w'.heap[g]?->PC T e b b (eN H) a:=by
  rcases z with⟨n,v,d,m,q⟩|⟨n,v,d,m,q⟩
  ·rcases m with⟨B,⟨r,j⟩|⟨g,s,t,r,j,C,I⟩⟩;·exact⟨b,bc _,⟨_,i⟩,λa u _=>.inl ⟨n,v,u.trans d,⟨B,.inl ⟨r,j⟩⟩,q⟩⟩
   ·exact⟨g,j,⟨_,C⟩,λa u J=>.inl ⟨n,v,u.trans d,⟨B,.inr ⟨g,s,t,r,j,J.trans C,I⟩⟩,q⟩⟩
  ·rcases m with⟨B,⟨r,j⟩|⟨g,s,t,r,j,C,I⟩⟩;·exact⟨b,bc _,⟨_,i⟩,λa u _=>.inr ⟨n,v,u.trans d,⟨B,.inl ⟨r,j⟩⟩,q⟩⟩
   ·exact⟨g,j,⟨_,C⟩,λa u J=>.inr ⟨n,v,u.trans d,⟨B,.inr ⟨g,s,t,r,j,J.trans C,I⟩⟩,q⟩⟩
 let N:Mem:=λc=>if c<b then M c else if c=b\/c=g then w'.heap[c]? else none;have D:E.M0.le N:=λc o f=>by have d:=y.old c (by rw[f];exactλh=>by cases h);show(if c<b then M c else _)=_;rw[aF d];exact x.le0 c o f
 refine⟨N,⟨y.base,y.old,D,λa K=>O a ?_ ?_⟩,?_⟩
 ·have :N b=some F:=by show(if b<b then M b else if b=b\/b=g then w'.heap[b]? else none)=_;rw[ai (Nat.lt_irrefl _),aF (.inl rfl),i]
  rw[i];exact K b F this
 ·have :N g=some G:=by show(if g<b then M g else if g=b\/g=g then w'.heap[g]? else none)=_;rw[ai (by omega),aF (.inr rfl),A]
  rw[A];exact K g G this
 ·refine{holds:=(λp P=>by cases P),nodup:=kM,apart:=(λb Q=>by cases Q),mem:=λc o f=>?_,below:=x.below.trans (k.mono y.base),le0:=D,fresh:=λc f=>?_,one:=x.one}
  ·replace f:(if c<b then M c else if c=b\/c=g then w'.heap[c]? else none)=some o:=f;by_cases d:c<b;·rw[aF d]at f;rw[k.block c d];exact x.mem c o f
   ·rw[ai d]at f;by_cases m:c=b\/c=g;·rw[aF m]at f;exact f
    ·rw[ai m]at f;cases f
  ·replace f:(if c<b then M c else if c=b\/c=g then w'.heap[c]? else none)≠none:=f;by_cases d:c<b;·rw[aF d]at f;exact x.fresh c f
   ·exact .inr (by have :=y.base;omega)
theorem UQ{T e:bL}{b:Nat}{l:List UInt8}(f:Heap E ν [] M w)(g:Bld E T e b l M){w':bQ}(a:um b w w'):Heap E ν [] E.M0 w':={holds:=(λp i=>by cases i),nodup:=kM,apart:=(λb j=>by cases j),mem:=λc o d=>by rw[a.block c (g.old c (by rw[d];exactλh=>by cases h))];exact f.mem c o (g.le c o d),below:=f.below.trans (a.mono g.base),le0:=cg _,fresh:=λc d=>.inl d,one:=f.one}
theorem Heap.XZ(a:Heap E ν H M w):Heap E ν [] M w:={holds:=(λp c=>by cases c),nodup:=kM,apart:=(λb d=>by cases d),mem:=a.mem,below:=a.below,le0:=a.le0,fresh:=a.fresh,one:=a.one}
theorem K7{T e d:Nat}(n:o.op=.alloc T)(p:o.dst=some d)(q:aU (d<E.N)=true)(h:∃i z,E.P.info? T=some i/\i.zero=some z/\z.cells=#[.pointer none,.slice none 0 0])(r:∀b L,M.le L->Bld E T e b [] L->K ((d,true,.v (bT b))::σ) [] L):OpK E o K σ H M:=by
 obtain⟨i,z,s,h,j⟩:=h;refine jq λν a w t f=>?_;replace f:=f.XZ;have k:=eP w (.cells z.cells T);obtain⟨L,l,u,x⟩:=f.ET (w':=w.alloc (.cells z.cells T)) (gm w _) k;refine⟨.pointer (some ⟨w.heap.size,0,none⟩),w.alloc (.cells z.cells T),?_,(d,true,.v (bT w.heap.size))::σ,[],L,?_,r w.heap.size L l ⟨f.below.size,λc y=>?_,f.le0.dC l,λA B=>?_⟩⟩;·simp[da,n,Instr.alloc,wA,Ad,s,h,newVar,newRow]
 ·rw[p];exact⟨ν,t.ml (aW q) rfl,x⟩
 ·cases g:E.M0 c with|none=>exact absurd g y|some m=>exact(bV.1 (f.mem c m (f.le0 c m g))).1
 ·have :=B _ _ u;rw[j]at this;exact .inl ⟨bc _,_,this,⟨rfl,.inl ⟨rfl,rfl⟩⟩,by simp[dZ]⟩
variable{ρ:lH}
theorem uS{f d b:Nat}{T e:bL}{l:List UInt8}{s:ByteArray}(L:xh E.P ρ)(X:gR E.P ρ)(r:f=ρ.f 166)(u:T=ρ.t 72)(m:e=ρ.t 5)(x:aU (d<E.N)=true)(y:jr E.P f)(o:Bld E T e b l M)(c:l.length+s.size<=140737488355328)(z:∀g,Bld E T e b (l++bl s) g->K ((d,true,.tup [.v (.int .i64 s.size),.v .nilIface])::σ) [] g):CallK E f [.v (bT b),.v (.string s)] d K σ H M:=by
 subst r u m;intro ν a w A k;replace k:=k.XZ;refine .inl ⟨y,?_⟩;have p:=o.is w k.mem;have n:b<w.heap.size:=by
  rcases p with h|h;·exact h.lt
  ·exact h.lt
 refine(Proofs.Any.Builder_WriteString L X b b (eN l) s w p (by rw[iV];exact c) (vo n)).mono λD W⟨m,q,i⟩=>?_;have j:eN l++lR s=eN (l++bl s):=by unfold eN lR bl;rw[bq]
 rw[j]at q;obtain⟨g,B,C⟩:=QO k o i (.inr q);exact⟨_,m,_,_,g,⟨ν,A.ml (aW x) rfl,C⟩,z g B⟩
theorem AP{f d b:Nat}{T e:bL}{l:List UInt8}(L:BH E.P ρ)(X:gR E.P ρ)(n:f=ρ.f 169)(o:T=ρ.t 72)(i:e=ρ.t 5)(p:aU (d<E.N)=true)(q:jr E.P f)(k:Bld E T e b l M)(r:K ((d,true,.v (.string ⟨l.toArray⟩))::σ) [] E.M0):CallK E f [.v (bT b)] d K σ H M:=by
 subst n o i;intro ν a w s g;replace g:=g.XZ;refine .inl ⟨q,?_⟩;have m:=k.is w g.mem;have j:b<w.heap.size:=by
  rcases m with h|h;·exact h.lt
  ·exact h.lt
 refine(Proofs.Any.Builder_String_any L X b b l w m (vo j)).mono λu W⟨i,c⟩=>?_;exact⟨_,i,_,_,_,⟨ν,s.ml (aW p) rfl,UQ g k c⟩,r⟩
end
end Go.X
namespace Go.X
open Go Go.RowKit Go.Shelf
def zf:ay->Bool|.int .u8 _=>true|_=>false
theorem QQ(s:ByteArray):∀x∈lR s,zf x=true:=λx a=>by unfold lR at a;obtain⟨b,_,rfl⟩:=dq.1 a;rfl
theorem F0(n:Nat):∀x∈(cU (cz .u8 0).cells n).toList,zf x=true:=λx a=>by unfold cU at a;rw[ud]at a;obtain⟨i,_,rfl⟩:=dq.1 a;have :(cz .u8 0).cells=#[.int .u8 0]:=rfl;rw[this];have :i%(#[cz .u8 0]:Array ay).size=0:=Nat.mod_one i;rw[this];rfl
def AQ(w:bQ)(e:bL)(v:ay):Prop:=∀g,v.ownBlock=some g->∃a,w.heap[g]?=some (.cells a e (0,0))/\∀x∈a.toList,zf x=true
def X3(w:bQ)(v a:ay):Prop:=∀g,a.ownBlock=some g->v.ownBlock=some g\/w.heap.size<=g
theorem Ik{a b:List ay}{n:Nat}(c:∀x∈a,zf x=true)(d:∀x∈b,zf x=true):∀x∈(a.toArray++b.toArray++cU (cz .u8 0).cells n).toList,zf x=true:=λx h=>by
 simp only[xu,bU]at h;rcases h with(h|h)|h;·exact c x h
 ·exact d x h
 ·exact F0 n x h
theorem WW{w:bQ}{base n:Nat}{e:bL}{v:ay}{c:List ay}(f:w.ownsRow base e 1 v n c)(j:AQ w e v):∀x∈c,zf x=true:=by
 rcases f.2 with⟨rfl,rfl⟩|⟨g,k,l,rfl,m,d,o,p,q,a⟩;·have :c=[]:=lB (by simpa using f.1);subst this;exactλx b=>(by cases b)
 ·obtain⟨h,i,r⟩:=j g rfl;rw[d]at i;cases i;intro x b;rw[<-a]at b;exact r x (cq b)
section
variable{P:bZ}{ρ:lH}
theorem QR(w:bQ)(base:Nat)(t u B e:bL)(i:TypeInfo)(F:P.underlying t=some (.slice e))(G:P.underlying u=some .string)(hi:P.info? e=some i)(J:i.zero=some (.int .u8 0))(f:i.size=1)(m:i.bytes=1)(v:ay)(n:Nat)(o:List ay)(c:w.ownsRow base e 1 v n o)(C:AQ w e v)(s:ByteArray)(D:n+s.size<=dB)(k:n+s.size<=140737488355328)(p:base<=w.heap.size):∃A w',(fC #[t,u] B #[v,.string s]).run P w=.ok A w'/\w'.ownsRow base e 1 A (n+s.size) (o++lR s)/\w.grownBy w' v.ownBlock/\AQ w' e A/\X3 w v A:=by
 obtain⟨A,w',H,T,U,V⟩:=Lib.run_append_own_string (P:=P) w base t u B e i F G hi J f m v n o c s D k p;refine⟨A,w',H,T,U,?_⟩;have K:=WW c C;have I:n+s.size<=9223372036854775807:=by simp only[dB]at D;omega
 have E:o.length=n:=by simpa using c.1
 rcases c.2 with⟨rfl,rfl⟩|⟨g,l,q,rfl,W,r,X,Y,L,M⟩
 ·have a:o=[]:=lB E;subst a;by_cases Z:s.size=0;·rw[V.2 ⟨rfl,Z⟩];exact⟨λg h=>by simp[dZ]at h,λg h=>by simp[dZ]at h⟩
  ·have d:=run_append_nil_string (P:=P) w t u B e i (.int .u8 0) F G hi J s (by omega) (by omega) (by rw[m];omega);rw[H]at d;cases d;refine⟨λg h=>?_,λg h=>.inr (by simp only[dZ,aO]at h;omega)⟩;simp only[dZ,aO]at h;subst h;refine⟨_,AL w.drew _,λx a=>?_⟩;rw[xu,bU]at a;rcases a with a|a;·rw[ud]at a;obtain⟨b,_,rfl⟩:=dq.1 a;rfl
   ·exact F0 _ x a
 ·obtain⟨O,Q,R⟩:=C g rfl;rw[r]at Q;cases Q;by_cases y:n+s.size<=l
  ·have S:q.size=l:=by simpa using L
   have d:=Lib.run_append_room_string (P:=P) w t u B e i F G hi f g n l q r s y (by omega);rw[H]at d;cases d;refine⟨λN h=>?_,λN h=>.inl h⟩;simp only[dZ,aO]at h;subst h;refine⟨_,setRow_heap w g q _ e _ r,λx a=>?_⟩;simp only[bU]at a;rcases a with(a|a)|a;·exact R x (cq a)
   ·exact QQ s x a
   ·exact R x (cG a)
  ·have z:∀j u,o[j]?=some u->w.cell? ((⟨g,0,none⟩:qz).add j)=some u:=c.cells (g:=g) rfl;have d:=Lib.run_append_grow_string (P:=P) w t u B e i (.int .u8 0) F G hi J ⟨g,0,none⟩ n l o (by rw[f];simpa using E) z s (by omega) (by omega) (by rw[m];exact growslice_fits (by omega) (by omega));rw[H]at d;cases d;refine⟨λN h=>?_,λN h=>.inr (by simp only[dZ,aO]at h;omega)⟩;simp only[dZ,aO]at h;subst h;exact⟨_,AL w.drew _,Ik K (QQ s)⟩
theorem QS(w:bQ)(base:Nat)(t E e:bL)(i:TypeInfo)(J:P.underlying t=some (.slice e))(hi:P.info? e=some i)(O:i.zero=some (.int .u8 0))(d:i.size=1)(o:i.bytes=1)(v:ay)(n:Nat)(p:List ay)(f:w.ownsRow base e 1 v n p)(F:AQ w e v)(a:qz)(c:Nat)(x:Int)(q:w.cell? a=some (.int .u8 x))(G:n+1<=dB)(K:n+1<=140737488355328)(r:base<=w.heap.size):∃D w',(fC #[t,t] E #[v,.slice (some a) 1 c]).run P w=.ok D w'/\w'.ownsRow base e 1 D (n+1) (p++[.int .u8 x])/\w.grownBy w' v.ownBlock/\AQ w' e D/\X3 w v D:=by
 have l:∀j u,[cz .u8 x][j]?=some u->w.cell? (a.add j)=some u:=λj u L=>by
  match j,L with|0,L=>
                 simp at L;subst L;have :a.add 0=a:=by unfold Ac;split<;>simp_all
                 rw[this];exact q
 have s:∀y∈[cz .u8 x],zf y=true:=λy b=>by simp only[bD]at b;subst b;rfl
 have Q:[cz .u8 x].length=1*i.size:=by rw[d];rfl
 have H:∀u∈[cz .u8 x],u.oneCell'=true:=λy b=>by simp only[bD]at b;subst b;rfl
 obtain⟨D,w',M,Z,hg,hn⟩:=run_append_own (P:=P) w base t E e i (.int .u8 0) 1 1 J hi O d o rfl (by decide) v n p f a 1 c [.int .u8 x] rfl l H G (by omega) r;refine⟨D,w',M,Z,hg,?_⟩;have R:=WW f F;have N:n+1<=9223372036854775807:=by simp only[dB]at G;omega
 have I:p.length=n:=by simpa using f.1
 rcases f.2 with⟨rfl,rfl⟩|⟨g,m,z,rfl,hbg,A,hnc,hcm,S,T⟩
 ·have hx:p=[]:=lB I;subst hx;have k:=run_append_nil (P:=P) w t E e i (.int .u8 0) J hi O a 1 c [.int .u8 x] Q l (by omega) (by omega) (by rw[o];omega);rw[M]at k;cases k;refine⟨λg h=>?_,λg h=>.inr (by simp only[dZ,aO]at h;omega)⟩;simp only[dZ,aO]at h;subst h;refine⟨_,AL w.drew _,λy b=>?_⟩;rw[xu,bU]at b;rcases b with b|b;·exact s y b
  ·exact F0 _ y b
 ·obtain⟨V,W,X⟩:=F g rfl;rw[A]at W;cases W;by_cases B:n+1<=m
  ·have Y:z.size=m:=by simpa using S
   have k:=run_append_room (P:=P) w t E e i J hi g n m z A a 1 c [.int .u8 x] Q l H B (by rw[d];simp;omega);rw[M]at k;cases k;refine⟨λU h=>?_,λU h=>.inl h⟩;simp only[dZ,aO]at h;subst h;refine⟨_,setRow_heap w g z _ e _ A,λy b=>?_⟩;simp only[bU]at b;rcases b with(b|b)|b;·exact X y (cq b)
   ·exact s y b
   ·exact X y (cG b)
  ·have C:∀j u,p[j]?=some u->w.cell? ((⟨g,0,none⟩:qz).add j)=some u:=f.cells (g:=g) rfl;have k:=run_append_grow (P:=P) w t E e i (.int .u8 0) J hi O ⟨g,0,none⟩ n m p (by rw[d];simpa using I) C a 1 c [.int .u8 x] Q l (by omega) (by omega) (growslice_fits (by omega) (by rw[o];omega));rw[M]at k;cases k;refine⟨λU h=>?_,λU h=>.inr (by simp only[dZ,aO]at h;omega)⟩;simp only[dZ,aO]at h;subst h;exact⟨_,AL w.drew _,Ik R s⟩
structure B8(T e:bL)(B b:Nat)(p v:ay)(bs:List ay)(w:bQ):Prop where
 lo:B<=b
 here:w.heap[b]?=some (.cells #[p,v] T (0,0))
 own:w.ownsRow B e 1 v bs.length bs
 u8:AQ w e v
 ne:v.ownBlock≠some b
theorem B8.QT{T e B b p v a}{w:bQ}(h:B8 T e B b p v a w):Lib.BuilderAt T e B b p a w:=⟨h.lo,v,h.here,h.own,h.ne⟩
def UR(b:Nat)(v:ay)(w w':bQ):Prop:=∀k,k<w.heap.size->k≠b->v.ownBlock≠some k->w'.heap[k]?=w.heap[k]?
theorem WX(L:Proofs.Lays.n240 P ρ)(X:Proofs.Builder.X72 P ρ){B b:Nat}{p v:ay}{j:List ay}{w:bQ}(h:B8 (ρ.t 72) (ρ.t 5) B b p v j w)(m:p=.pointer none\/p=.pointer (some ⟨b,0,none⟩)):Calls P (ρ.f 240) #[.pointer (some ⟨b,0,none⟩)] w λe w'=>e=.returned (.tuple #[])/\B8 (ρ.t 72) (ρ.t 5) B b (.pointer (some ⟨b,0,none⟩)) v j w'/\um B w w'/\w.heap.size<=w'.heap.size/\UR b v w w':=by
 rcases m with rfl|rfl
 ·refine(Proofs.Any.Builder_copyCheck_fresh L X b w h.QT.cell0 h.QT.shape h.QT.frozen0).mono ?_;rintro e w'⟨rfl,rfl⟩;have a:∀k,k≠b->(w.setCell ⟨b,0,none⟩ (.pointer (some ⟨b,0,none⟩))).heap[k]?=w.heap[k]?:=λk a=>rI _ _ _ _ (by simpa using a);have d:w.grownBy (w.setCell ⟨b,0,none⟩ (.pointer (some ⟨b,0,none⟩))) (some b):=⟨rfl,rfl,rfl,by simp[px],λk _ c=>a k (λe=>c (by simp[e]))⟩;refine⟨rfl,⟨h.lo,?_,h.own.kept d (.inr h.ne),λg l=>?_,h.ne⟩,(dQ B w).setCell (p:=⟨b,0,none⟩) h.lo _,by simp[px],λk _ c _=>a k c⟩;·have :=h.here;simp[px,gr,this]
  ·obtain⟨i,n,c⟩:=h.u8 g l;exact⟨i,by rw[a g (λe=>h.ne (by rw[l,e]))];exact n,c⟩
 ·refine(Proofs.Any.Builder_copyCheck_used L X b w h.QT.cell0).mono ?_;rintro e w'⟨rfl,rfl⟩;exact⟨rfl,h,dQ B _,bc _,λ_ _ _ _=>rfl⟩
end
end Go.X
namespace Go.Proofs
open Go.Shelf Go.RowKit Go.X
variable{P:bZ}{ρ:lH}
theorem QU{T e:bL}{B b:Nat}{p v d:ay}{bs':List ay}{w:bQ}(n:B<=b)(l:w.heap[b]?=some (.cells #[p,v] T (0,0)))(a:w.ownsRow B e 1 d bs'.length bs')(o:AQ w e d)(i:T≠e):B8 T e B b p d bs' (w.setCell ⟨b,1,none⟩ d):=by have c:d.ownBlock≠some b:=Lib.ownBlock_ne a l i;have f:∀k,k≠b->(w.setCell ⟨b,1,none⟩ d).heap[k]?=w.heap[k]?:=λk f=>rI _ _ _ _ (by simpa using f);refine⟨n,by simp[px,gr,l],a.kept (row:=some b) ⟨rfl,rfl,rfl,by simp[px],λk _ h=>f k (λe=>h (by simp[e]))⟩ (Or.inr c),λg m=>?_,c⟩;obtain⟨j,q,r⟩:=o g m;exact⟨j,by rw[f g (λe=>c (by rw[m,e]))];exact q,r⟩
theorem AR{ops:Array db}{c:List db}{o:db}{a:xp}{Q:Exit->xp->bQ->Prop}{w:bQ}(k:o.guard=none)(r x:bB)(t u:bL)(y:o.op=.call {callee:=.builtin .append,args:=#[r,x],argTypes:=#[t,u]})(base:Nat)(e:bL)(i:TypeInfo)(z:P.underlying t=some (.slice e))(A:P.underlying u=some .string)(hi:P.info? e=some i)(B:i.zero=some (.int .u8 0))(d:i.size=1)(l:i.bytes=1)(v:ay)(n:Nat)(m:List ay)(C:a.eval r=v)(j:w.ownsRow base e 1 v n m)(p:AQ w e v)(s:ByteArray)(D:a.eval x=.string s)(q:n+s.size<=dB)(b:n+s.size<=140737488355328)(f:base<=w.heap.size)(h:∀g w',w'.ownsRow base e 1 g (n+s.size) (m++lR s)->w.grownBy w' v.ownBlock->AQ w' e g->X3 w v g->wpList P ops Q c (a.put o.dst g) w'):wpList P ops Q (o::c) a w:=by refine wpList_plain k λK E=>?_;obtain⟨g,w',F,G,H,I,J⟩:=QR (P:=P) w base t u o.type e i z A hi B d l v n m j p s q b f;unfold oC da;simp only[y,PL,invoke,builtin,a7,bC,aQ,List.map_toArray,ca,cr,C,D,F];exact E _ _ (h g w' G H I J)
theorem AS{ops:Array db}{d:List db}{o:db}{a:xp}{Q:Exit->xp->bQ->Prop}{w:bQ}(m:o.guard=none)(u x:bB)(t:bL)(z:o.op=.call {callee:=.builtin .append,args:=#[u,x],argTypes:=#[t,t]})(base:Nat)(e:bL)(i:TypeInfo)(A:P.underlying t=some (.slice e))(hi:P.info? e=some i)(B:i.zero=some (.int .u8 0))(f:i.size=1)(p:i.bytes=1)(v:ay)(n:Nat)(q:List ay)(C:a.eval u=v)(l:w.ownsRow base e 1 v n q)(r:AQ w e v)(ad:qz)(c:Nat)(y:Int)(D:a.eval x=.slice (some ad) 1 c)(g:w.cell? ad=some (.int .u8 y))(s:n+1<=dB)(b:n+1<=140737488355328)(j:base<=w.heap.size)(h:∀k w',w'.ownsRow base e 1 k (n+1) (q++[.int .u8 y])->w.grownBy w' v.ownBlock->AQ w' e k->X3 w v k->wpList P ops Q d (a.put o.dst k) w'):wpList P ops Q (o::d) a w:=by refine wpList_plain m λK E=>?_;obtain⟨k,w',F,G,H,I,J⟩:=QS (P:=P) w base t o.type e i A hi B f p v n q l r ad c y g s b j;unfold oC da;simp only[z,PL,invoke,builtin,a7,bC,aQ,List.map_toArray,ca,cr,C,D,F];exact E _ _ (h k w' G H I J)
set_option maxHeartbeats 2000000 in set_option maxRecDepth 100000 in theorem US(L:xh P ρ)(X:gR P ρ){B b:Nat}{p v:ay}{bs:List ay}(s:ByteArray){w:bQ}(h:B8 (ρ.t 72) (ρ.t 5) B b p v bs w)(hp:p=.pointer none\/p=.pointer (some ⟨b,0,none⟩))(hlen:bs.length+s.size<=140737488355328)(hBw:B<=w.heap.size):Calls P (ρ.f 166) #[.pointer (some ⟨b,0,none⟩),.string s] w λe w'=>e=.returned (.tuple #[.int .i64 s.size,.nilIface])/\∃v',B8 (ρ.t 72) (ρ.t 5) B b (.pointer (some ⟨b,0,none⟩)) v' (bs++lR s) w'/\um B w w'/\UR b v w w'/\X3 w v v':=by
 obtain⟨i0,hi,hz0,hz1,hz2⟩:=info_parts X.infoByte;have mixed:=L.mixed;have t72:=L.t72;have a72:=L.a72;have z72:=L.z72;have v72:=L.v72;have u72:=a8 L.t72;have t70:=L.t70;have a70:=L.a70;have z70:=L.z70;have v70:=L.v70;have u70:=a8 L.t70;have t37:=L.t37;have a37:=L.a37;have z37:=L.z37;have v37:=L.v37;have u37:=a8 L.t37;have t3:=L.t3;have a3:=L.a3;have z3:=L.z3;have v3:=L.v3;have u3:=a8 L.t3;have t9:=L.t9;have a9:=L.a9;have z9:=L.z9;have v9:=L.v9;have u9:=a8 L.t9;have t4:=L.t4;have a4:=L.a4;have z4:=L.z4;have v4:=L.v4;have u4:=a8 L.t4;have t164:=L.t164;have a164:=L.a164;have z164:=L.z164;have v164:=L.v164;have u164:=a8 L.t164;have t5:=X.t5;have a5:=X.a5;have z5:=X.z5;have v5:=X.v5;have u5:=a8 X.t5;have e240:∀args w,(callFunc (ρ.f 240) args).run P w=.ok (.enter (ρ.f 240) args) w:=enters_of L.f240 (by kernel_rfl) rfl;go_enter L.f166,Body.n166_ntmps ρ;go_wp2_with(go_at_fn(ρ.f 240);refine(WX {L with} X.toX72 h hp).mono ?_);rintro e w1⟨rfl,h1,hb1,hsz1,hel1⟩;have hbk:=h1.here;have c0:w1.cell? ⟨b,0,none⟩=some (.pointer (some ⟨b,0,none⟩)):=by rw[gI hbk];rfl
 have c1:w1.cell? ⟨b,1,none⟩=some v:=by rw[gI hbk];rfl
 go_wp2_with(at_builtin;refine AR rfl _ _ (ρ.t 37) (ρ.t 9) rfl B (ρ.t 5) i0 L.t37 L.t9 hi hz0 hz1 hz2 _ _ _ rfl h1.own h1.u8 s rfl ?c3 ?c4 ?c5 ?_);case c3=>unfold dB;omega
 case c4=>omega
 case c5=>omega
 intro v' w2 hown' hgrow hu' hfr';have hlt:b<w1.heap.size:=h1.QT.lt;have hb2:w2.heap[b]?=some (.cells #[.pointer (some ⟨b,0,none⟩),v] (ρ.t 72) (0,0)):=by rw[hgrow.block b hlt (λe=>h1.ne e.symm)];exact hbk
 have d0:w2.cell? ⟨b,0,none⟩=some (.pointer (some ⟨b,0,none⟩)):=by rw[gI hb2];rfl
 have d1:w2.cell? ⟨b,1,none⟩=some v:=by rw[gI hb2];rfl
 have f1:w2.frozen? ⟨b,1,none⟩=false:=Lib.frozen_of_heap hb2 1;obtain⟨ao,n',cap,rfl⟩:∃ao n' cap,v'=.slice ao n' cap:=by
  rcases hown'.2 with⟨hv,_⟩|⟨g,cap,cur,hv,_⟩;·exact⟨_,_,_,hv⟩
  ·exact⟨_,_,_,hv⟩
 go_wp2;go_ret2;refine⟨rfl,_,QU (T:=(ρ.t 72)) (e:=(ρ.t 5)) h1.lo hb2 (bs':=bs++lR s) (by simpa[Lib.strCells_length]using hown') hu' X.neB5,?_,λk hk h2 h3=>?_,λg hg=>(hfr' g hg).imp id (λh=>by omega)⟩;·exact(hb1.grown hgrow (by omega) (λk hk=>(h1.own.lt k hk).1)).setCell (p:=⟨b,1,none⟩) h1.lo _
 ·rw[rI _ _ _ _ (by simpa using h2),hgrow.block k (by omega) (λe=>h3 e.symm)];exact hel1 k hk h2 h3
set_option maxHeartbeats 2000000 in set_option maxRecDepth 100000 in theorem QV(L:J7 P ρ)(X:gR P ρ){B b:Nat}{p v:ay}{bs:List ay}(c:Int){w:bQ}(h:B8 (ρ.t 72) (ρ.t 5) B b p v bs w)(hp:p=.pointer none\/p=.pointer (some ⟨b,0,none⟩))(hlen:bs.length+1<=140737488355328)(hBw:B<=w.heap.size):Calls P (ρ.f 167) #[.pointer (some ⟨b,0,none⟩),.int .u8 c] w λe w'=>e=.returned .nilIface/\∃v',B8 (ρ.t 72) (ρ.t 5) B b (.pointer (some ⟨b,0,none⟩)) v' (bs++[.int .u8 c]) w'/\um B w w'/\UR b v w w'/\X3 w v v':=by
 obtain⟨i0,hi,hz0,hz1,hz2⟩:=info_parts X.infoByte;have mixed:=L.mixed;have t72:=L.t72;have a72:=L.a72;have z72:=L.z72;have v72:=L.v72;have u72:=a8 L.t72;have t70:=L.t70;have a70:=L.a70;have z70:=L.z70;have v70:=L.v70;have u70:=a8 L.t70;have t5:=L.t5;have a5:=L.a5;have z5:=L.z5;have v5:=L.v5;have u5:=a8 L.t5;have t37:=L.t37;have a37:=L.a37;have z37:=L.z37;have v37:=L.v37;have u37:=a8 L.t37;have t9:=L.t9;have a9:=L.a9;have z9:=L.z9;have v9:=L.v9;have u9:=a8 L.t9;have t4:=L.t4;have a4:=L.a4;have z4:=L.z4;have v4:=L.v4;have u4:=a8 L.t4;have t164:=L.t164;have a164:=L.a164;have z164:=L.z164;have v164:=L.v164;have u164:=a8 L.t164;have e240:∀args w,(callFunc (ρ.f 240) args).run P w=.ok (.enter (ρ.f 240) args) w:=enters_of L.f240 (by kernel_rfl) rfl;go_enter L.f167,Body.n167_ntmps ρ;go_wp2_with(go_at_fn(ρ.f 240);refine(WX {L with} X.toX72 h hp).mono ?_);rintro e w1⟨rfl,h1,hb1,hsz1,hel1⟩;have hbk:=h1.here;have hlt:b<w1.heap.size:=h1.QT.lt;have c0:w1.cell? ⟨b,0,none⟩=some (.pointer (some ⟨b,0,none⟩)):=by rw[gI hbk];rfl
 have c1:w1.cell? ⟨b,1,none⟩=some v:=by rw[gI hbk];rfl
 have hu1:∀o,AQ (w1.alloc o) (ρ.t 5) v:=λo g hg=>by obtain⟨cur,k1,k2⟩:=h1.u8 g hg;exact⟨cur,by rw[Kh w1 _ g (bV.1 k1).1];exact k1,k2⟩
 go_wp2_with(at_builtin;refine AS rfl _ _ (ρ.t 37) rfl B (ρ.t 5) i0 L.t37 hi hz0 hz1 hz2 _ _ _ rfl (h1.own.alloc _) (hu1 _) ⟨w1.heap.size,0,none⟩ 1 c rfl ?c1 ?c3 ?c4 ?c5 ?_);case c1=>simp
 case c3=>unfold dB;omega
 case c4=>omega
 case c5=>simp;omega
 intro v' w2 hown' hgrow hu' hfr';have hb2:w2.heap[b]?=some (.cells #[.pointer (some ⟨b,0,none⟩),v] (ρ.t 72) (0,0)):=by rw[hgrow.block b (by simp;omega) (λe=>h1.ne e.symm),Kh w1 _ b hlt];exact hbk
 have d0:w2.cell? ⟨b,0,none⟩=some (.pointer (some ⟨b,0,none⟩)):=by rw[gI hb2];rfl
 have d1:w2.cell? ⟨b,1,none⟩=some v:=by rw[gI hb2];rfl
 have f1:w2.frozen? ⟨b,1,none⟩=false:=Lib.frozen_of_heap hb2 1;obtain⟨g,cap,rfl⟩:∃g cap,v'=.slice (some ⟨g,0,none⟩) (bs.length+1) cap:=by
  rcases hown'.2 with⟨_,h0⟩|⟨g,cap,cur,hv,_⟩;·omega
  ·exact⟨g,cap,hv⟩
 go_wp2;go_ret;refine⟨rfl,_,QU (T:=(ρ.t 72)) (e:=(ρ.t 5)) h1.lo hb2 (bs':=bs++[.int .u8 c]) (by simpa using hown') hu' X.neB5,?_,λk hk h2 h3=>?_,λg hg=>(hfr' g hg).imp id (λh=>by simp at h;omega)⟩;·exact((hb1.alloc (by omega) _).grown hgrow (by simp;omega) (λk hk=>(h1.own.lt k hk).1)).setCell (p:=⟨b,1,none⟩) h1.lo _
 ·rw[rI _ _ _ _ (by simpa using h2),hgrow.block k (by simp;omega) (λe=>h3 e.symm),Kh w1 _ k (by omega)];exact hel1 k hk h2 h3
end Go.Proofs
namespace Go.X
open Go Go.RowKit Go.Shelf
def QW:Obj->Prop|.cells a _ _=>∀x∈a.toList,zf x=true|_=>False
def Keep(b:Nat)(M N:Mem):Prop:=∀c o,M c=some o->c≠b->¬QW o->N c=some o
structure BldC(E:Env)(T e:bL)(b:Nat)(l:List UInt8)(M:Mem):Prop where
 base:E.w0.heap.size<=b
 old:∀c,E.M0 c≠none->c<b
 le:E.M0.le M
 is:∃p v,(p=.pointer none\/p=.pointer (some ⟨b,0,none⟩))/\M b=some (.cells #[p,v] T (0,0))/\v.ownBlock≠some b/\((v=.slice none 0 0/\l=[])\/∃g cap cur,v=.slice (some ⟨g,0,none⟩) l.length cap/\b<=g/\M g=some (.cells cur e (0,0))/\l.length<=cap/\cap<=dB/\cur.size=cap/\cur.toList.take l.length=eN l/\∀x∈cur.toList,zf x=true)
theorem BldC.X4{E:Env}{T e b l}{M N:Mem}(h:BldC E T e b l M)(a:M.le N):BldC E T e b l N:=by refine⟨h.base,h.old,h.le.dC a,?_⟩;obtain⟨p,v,f,i,j,h⟩:=h.is;refine⟨p,v,f,a _ _ i,j,h.imp id λ⟨g,c,d,k,m,n,o⟩=>⟨g,c,d,k,m,a _ _ n,o⟩⟩
section
variable{E:Env}{σ:dp}{H:HS}{M:Mem}{a:xp}{w:bQ}{ν:Nat->ay}{K:KP}{o:db}
theorem BldC.b8{T e b l}(h:BldC E T e b l M)(k:M.on w):∃p v,(p=.pointer none\/p=.pointer (some ⟨b,0,none⟩))/\B8 T e b b p v (eN l) w/\(∀g,v.ownBlock=some g->M g≠none/\b<=g/\∀o,M g=some o->QW o):=by
 obtain⟨p,v,u,x,y,m⟩:=h.is;refine⟨p,v,u,⟨bc _,k _ _ x,?_,?_,y⟩,?_⟩
 ·refine⟨by simp,?_⟩;rcases m with⟨rfl,rfl⟩|⟨g,i,d,rfl,f,c,n,q,s,r,j⟩;·exact .inl ⟨rfl,rfl⟩
  ·refine .inr ⟨g,i,d,by rw[iV],f,k _ _ c,by rw[iV];exact n,q,by omega,?_⟩;rw[iV,Nat.mul_one];exact r
 ·rcases m with⟨rfl,rfl⟩|⟨g,i,d,rfl,f,c,n,q,s,r,j⟩;·exactλg c=>by simp[dZ]at c
  ·intro z a;simp only[dZ,aO]at a;subst a;exact⟨d,k _ _ c,j⟩
 ·rcases m with⟨rfl,rfl⟩|⟨g,i,d,rfl,f,c,n,q,s,r,j⟩;·exactλg c=>by simp[dZ]at c
  ·intro z a;simp only[dZ,aO]at a;subst a;exact⟨by rw[c];exactλh=>(by cases h),f,λo t=>by rw[c]at t;cases t;exact j⟩
theorem EY{T e:bL}{b:Nat}{l Y:List UInt8}(i:Heap E ν H M w)(B:BldC E T e b l M){p v m:ay}(h8:B8 T e b b p v (eN l) w)(Q:∀g,v.ownBlock=some g->M g≠none/\b<=g/\∀o,M g=some o->QW o){w':bQ}(n:B8 T e b b (.pointer (some ⟨b,0,none⟩)) m (eN Y) w')(J:um b w w')(C:UR b v w w')(K:X3 w v m):∃N,BldC E T e b Y N/\Heap E ν H N w'/\Keep b M N:=by
 classical
  let N:Mem:=λc=>if c=b\/m.ownBlock=some c then w'.heap[c]? else if v.ownBlock=some c then none else M c;have t:∀c,c=b\/m.ownBlock=some c->N c=w'.heap[c]?:=λc h=>aF h;have k:∀c,¬(c=b\/m.ownBlock=some c)->v.ownBlock≠some c->N c=M c:=λc h d=>(ai h).trans (ai d);have x:∀c,¬(c=b\/m.ownBlock=some c)->v.ownBlock=some c->N c=none:=λc h d=>(ai h).trans (aF d);have R:M b≠none:=by obtain⟨p,v,_,S,_⟩:=B.is;rw[S];exactλh=>by cases h
  have y:b∉fp ν H:=λh=>R (i.apart b h).1;have u:∀g,v.ownBlock=some g->g∉fp ν H:=λg I h=>(Q g I).1 (i.apart g h).1;have D:∀g,m.ownBlock=some g->g∉fp ν H:=λg I h=>by
   rcases K g I with f|f;·exact u g f h
   ·exact absurd (i.qL h) (by omega)
  have z:∀c,E.M0 c≠none->c≠b/\v.ownBlock≠some c/\m.ownBlock≠some c:=λc a=>by
   have f:=B.old c a;refine⟨by omega,λh=>?_,λh=>?_⟩;·have :=(Q c h).2.1;omega
   ·have :=(n.own.lt c h).1;omega
  have L:E.M0.le N:=λc o a=>by obtain⟨f,d,q⟩:=z c (by rw[a];exactλh=>by cases h);rw[k c (λh=>h.elim f q) d];exact i.le0 c o a
  have U:N.on w':=λc o a=>by
   by_cases f:c=b\/m.ownBlock=some c;·rw[t c f]at a;exact a
   ·by_cases d:v.ownBlock=some c;·rw[x c f d]at a;cases a
    ·rw[k c f d]at a;have q:=i.mem c o a;rw[C c (bV.1 q).1 (λh=>f (.inl h)) d];exact q
  refine⟨N,⟨B.base,B.old,L,?_⟩,?_,λc o a S hn=>?_⟩
  ·refine⟨_,m,.inr rfl,(t b (.inl rfl)).trans n.here,n.ne,?_⟩;rcases n.own.2 with⟨f,d⟩|⟨g,V,W,f,d,q,Z,h5,h6,X⟩;·refine .inl ⟨f,?_⟩;rw[iV]at d;exact lB d
   ·rw[iV]at f Z X;rw[Nat.mul_one]at h6 X;have I:m.ownBlock=some g:=by rw[f];rfl
    obtain⟨cur',r,A⟩:=n.u8 g I;rw[q]at r;cases r;exact .inr ⟨g,V,W,f,d,(t g (.inr I)).trans q,Z,h5,h6,X,A⟩
  ·have O:∀j∈fp ν H,w'.heap[j]?=w.heap[j]?:=λj s=>C j (i.qL s) (λh=>y (h▸s)) (λh=>u j h s);let P:Mem:=λc=>if c=b\/v.ownBlock=some c then none else M c;have F:∀c o,P c=some o->M c=some o/\c≠b/\v.ownBlock≠some c:=λc o a=>by
    have G:(if c=b\/v.ownBlock=some c then none else M c)=some o:=a;split at G;·cases G
    ·rename_i h;exact⟨G,λf=>h (.inl f),λf=>h (.inr f)⟩
   have f:Heap E ν H P w:={holds:=i.holds,nodup:=i.nodup,apart:=λj s=>⟨?_,(i.apart j s).2⟩,mem:=λc o a=>i.mem c o (F c o a).1,below:=i.below,le0:=λc o a=>?_,fresh:=λc a=>?_,one:=i.one}
   ·have d:Heap E ν H P w':=f.H9 O (λc o a=>by obtain⟨r,A,k3⟩:=F c o a;have q:=i.mem c o r;rw[C c (bV.1 q).1 A k3];exact q) (i.below.trans (J.mono B.base));refine{holds:=d.holds,nodup:=d.nodup,apart:=λj s=>⟨?_,(d.apart j s).2⟩,mem:=U,below:=d.below,le0:=L,fresh:=λc a=>?_,one:=d.one};·rw[k j (λh=>h.elim (λh=>y (h▸s)) (λh=>D j h s)) (λh=>u j h s)];exact(i.apart j s).1
    ·by_cases r:c=b\/m.ownBlock=some c
     ·rcases r with r|r;·exact .inr (by have :=B.base;omega)
      ·exact .inr (b6 B.base (n.own.lt c r).1)
     ·by_cases A:v.ownBlock=some c;·rw[x c r A]at a;exact absurd rfl a
      ·rw[k c r A]at a;exact i.fresh c a
   ·show(if j=b\/v.ownBlock=some j then none else M j)=none;split;·rfl
    ·exact(i.apart j s).1
   ·obtain⟨r,A,_⟩:=z c (by rw[a];exactλh=>by cases h);show(if c=b\/v.ownBlock=some c then none else M c)=some o;rw[ai (λh=>h.elim r A)];exact i.le0 c o a
   ·cases hm:P c with|none=>exact absurd hm a|some o=>exact i.fresh c (by rw[(F c o hm).1];exactλh=>by cases h)
  ·by_cases f:v.ownBlock=some c;·exact absurd ((Q c f).2.2 o a) hn
   ·by_cases d:c=b\/m.ownBlock=some c
    ·rcases d with d|d;·exact absurd d S
     ·rcases K c d with q|q;·exact absurd q f
      ·have :=(bV.1 (i.mem c o a)).1;omega
    ·rw[k c d f];exact a
theorem Au{T e d:Nat}(p:o.op=.alloc T)(q:o.dst=some d)(r:aU (d<E.N)=true)(j:∃i z,E.P.info? T=some i/\i.zero=some z/\z.cells=#[.pointer none,.slice none 0 0])(s:∀b L,M.le L->M b=none->BldC E T e b [] L->K ((d,true,.v (bT b))::σ) H L):OpK E o K σ H M:=by
 obtain⟨i,z,t,j,k⟩:=j;refine jq λν a w u f=>?_;have l:=eP w (.cells z.cells T);obtain⟨L,m,n,x⟩:=f.ET (w':=w.alloc (.cells z.cells T)) (gm w _) l;refine⟨.pointer (some ⟨w.heap.size,0,none⟩),w.alloc (.cells z.cells T),?_,(d,true,.v (bT w.heap.size))::σ,H,L,?_,s w.heap.size L m ?_ ⟨f.below.size,λc y=>?_,f.le0.dC m,?_⟩⟩;·simp[da,p,Instr.alloc,wA,Ad,t,j,newVar,newRow]
 ·rw[q];exact⟨ν,u.ml (aW r) rfl,x⟩
 ·cases A:M w.heap.size with|none=>rfl|some h=>have :=(bV.1 (f.mem _ h A)).1;omega
 ·cases g:E.M0 c with|none=>exact absurd g y|some h=>exact(bV.1 (f.mem c h (f.le0 c h g))).1
 ·rw[k]at n;exact⟨_,_,.inl rfl,n,by simp[dZ],.inl ⟨rfl,rfl⟩⟩
variable{ρ:lH}
theorem aa9(l:List UInt8)(s:ByteArray):eN l++lR s=eN (l++bl s):=by unfold eN lR bl;rw[bq]
theorem wo{f d b:Nat}{T e:bL}{l:List UInt8}{s:ByteArray}(L:xh E.P ρ)(X:gR E.P ρ)(r:f=ρ.f 166)(u:T=ρ.t 72)(j:e=ρ.t 5)(x:aU (d<E.N)=true)(y:jr E.P f)(o:BldC E T e b l M)(g:l.length+s.size<=140737488355328)(z:∀c,BldC E T e b (l++bl s) c->Keep b M c->K ((d,true,.tup [.v (.int .i64 s.size),.v .nilIface])::σ) H c):CallK E f [.v (bT b),.v (.string s)] d K σ H M:=by subst r u j;intro ν a w A q;refine .inl ⟨y,?_⟩;obtain⟨p,v,B,k,C⟩:=o.b8 q.mem;refine(Proofs.US L X s k B (by rw[iV];exact g) (vo k.QT.lt)).mono λI W⟨j,J,h,i,m,n⟩=>?_;rw[aa9]at h;obtain⟨c,D,F,G⟩:=EY q o k C h i m n;exact⟨_,j,_,_,c,⟨ν,A.ml (aW x) rfl,F⟩,z c D G⟩
theorem uT{f d b:Nat}{T e:bL}{l:List UInt8}{c:UInt8}(L:J7 E.P ρ)(X:gR E.P ρ)(u:f=ρ.f 167)(x:T=ρ.t 72)(m:e=ρ.t 5)(y:aU (d<E.N)=true)(z:jr E.P f)(r:BldC E T e b l M)(h:l.length+1<=140737488355328)(A:∀g,BldC E T e b (l++[c]) g->Keep b M g->K ((d,true,.v .nilIface)::σ) H g):CallK E f [.v (bT b),.v (.int .u8 (c.toNat:Int))] d K σ H M:=by
 subst u x m;intro ν a w B s;refine .inl ⟨z,?_⟩;obtain⟨p,v,C,n,D⟩:=r.b8 s.mem;refine(Proofs.QV L X (c.toNat:Int) n C (by rw[iV];exact h) (vo n.QT.lt)).mono λJ W⟨m,O,i,j,o,q⟩=>?_;have k:eN l++[.int .u8 (c.toNat:Int)]=eN (l++[c]):=by unfold eN;rw[bq];rfl
 rw[k]at i;obtain⟨g,F,G,I⟩:=EY s r n D i j o q;exact⟨_,m,_,_,g,⟨ν,B.ml (aW y) rfl,G⟩,A g F I⟩
theorem sc{f d b:Nat}{T e:bL}{l:List UInt8}(L:BH E.P ρ)(X:gR E.P ρ)(r:f=ρ.f 169)(s:T=ρ.t 72)(m:e=ρ.t 5)(u:aU (d<E.N)=true)(i:jr E.P f)(j:BldC E T e b l M)(x:K ((d,true,.v (.string ⟨l.toArray⟩))::σ) [] E.M0):CallK E f [.v (bT b)] d K σ H M:=by
 subst r s m;intro ν a w y k;refine .inl ⟨i,?_⟩;obtain⟨p,v,n,q,B⟩:=j.b8 k.mem;have z:PC (ρ.t 72) (ρ.t 5) b b (eN l) w:=by
  rcases n with rfl|rfl;·exact .inl q.QT
  ·exact .inr q.QT
 refine(Proofs.Any.Builder_String_any L X b b l w z (vo q.QT.lt)).mono λC W⟨m,g⟩=>?_;refine⟨_,m,_,_,E.M0,⟨ν,y.ml (aW u) rfl,?_⟩,x⟩;exact{holds:=(λp n=>by cases n),nodup:=kM,apart:=(λb A=>by cases A),mem:=(λc o i=>by rw[g.block c (j.old c (by rw[i];exactλh=>(by cases h)))];exact k.mem c o (j.le c o i)),below:=k.below.trans (g.mono j.base),le0:=cg _,fresh:=λc i=>.inl i,one:=k.one}
end
end Go.X
namespace Go.Proofs
open Go.Shelf
def se:lH:=⟨λ|167=>15|240=>27|276=>52|n=>n,λ|70=>49|5=>5|75=>54|0=>0|72=>52|37=>50|4=>4|164=>106|80=>58|9=>9|20=>20|n=>n,λ|n=>n⟩
theorem xW:J7 ab se:={mixed:=by kernel_rfl,f167:=Ki.trans (aY some (by kernel_rfl)),f240:=Tryz.func27.trans (aY some (by kernel_rfl)),f276:=Tryz.func52.trans (aY some (by kernel_rfl)),t0:=yL,a0:=Oi,z0:=J6,v0:=AJ,t4:=pU,a4:=PR,z4:=Mb,v4:=BF,t5:=l8,a5:=tF,z5:=qF,v5:=mP,t9:=gX,a9:=tG,z9:=qG,v9:=mQ,t20:=xg,a20:=Tryz.isAgg20,z20:=Tryz.sizeOf20,v20:=Tryz.zeroValue20,t37:=Ez,a37:=TR,z37:=PB,v37:=G6,t70:=Tryz.underlying49,a70:=Tryz.isAgg49,z70:=Tryz.sizeOf49,v70:=Tryz.zeroValue49,t72:=Tryz.underlying52,a72:=Tryz.isAgg52,z72:=Tryz.sizeOf52,v72:=Tryz.zeroValue52,t75:=DL,a75:=Tryz.isAgg54,z75:=Tryz.sizeOf54,v75:=Tryz.zeroValue54,t164:=Tryz.underlying106,a164:=Tryz.isAgg106,z164:=Tryz.sizeOf106,v164:=Tryz.zeroValue106}
theorem wq:gR ab se:={sizeBuilder:=by kernel_rfl,liesBuilder:=by kernel_rfl,t5:=l8,a5:=tF,z5:=qF,v5:=mP,infoByte:=by kernel_rfl,cellsByte:=by kernel_rfl,sizeByte:=by kernel_rfl,neB5:=by decide}
end Go.Proofs
namespace Go.X.Dk
open Go Go.X Go.RowKit
theorem ON(b:UInt8):(ma b).length<=3:=by unfold ma;split<;>simp
theorem xX:∀s:Tx,(s.flatMap ma).length<=3*s.length|[]=>by simp|b::s=>by rw[lq,aG,aM];have :=ON b;have :=xX s;omega
theorem F1{n:Nat}(h:n<16):(([48,49,50,51,52,53,54,55,56,57,97,98,99,100,101,102]:Tx).drop n).take (n+1-n)=[wc n]:=by
 have :∀n:Fin 16,(([48,49,50,51,52,53,54,55,56,57,97,98,99,100,101,102]:Tx).drop n.val).take (n.val+1-n.val)=[wc n.val]:=by decide
 exact this ⟨n,h⟩
theorem MV{s:Tx}{M:Mem}(S:s.length<=1000000):Meets ab 71 [.v (.string ⟨s.toArray⟩)] M λr _ _=>r=.v (.string ⟨(p_ s).toArray⟩):=by
 refine aH [0,2,3,4,5,7,9,10,11,29] PT rfl (by kernel_rfl) rfl λw=>?_;by_cases i:s=[];·have l:(s=[])=True:=aK i;simp only[Me,zW,seval,-gL,l,dr,c_,eT,cZ,fL];rw[i];rfl
 ·have l:(s=[])=False:=ax i;simp only[Me,zW,seval,-gL,l,dW,c_,bp,cZ,dz];refine Au (e:=5) rfl rfl rfl ⟨_,_,rfl,rfl,rfl⟩ λb C D E F=>?_;simp only[zW,seval,-gL];refine bE (X:=Nat×Mem) (λx=>([(0,true,.v (.string ⟨s.toArray⟩)),(3,true,.v (bT b)),(9,true,.v (.int .i64 (s.length:Int))),(10,true,.v (.int .i64 (x.1:Int)))],[],x.2)) (λx=>x.1<=s.length/\BldC ⟨ab,49,w,M⟩ 52 5 b ((s.take x.1).flatMap ma) x.2) (λx=>s.length-x.1) (0,C) ⟨bJ _,F⟩ (aR ?_) ?_;·simp only[zV,seval,-gL,aZ]
  rintro⟨k,T⟩⟨G,j⟩;simp only at G j;by_cases H:k<s.length
  ·have m:((k:Int)<(s.length:Int))=True:=aK (by omega);obtain⟨c,A⟩:∃c,s[k]?=some c:=⟨_,aP H⟩;have I:fc s (k:Int)=((c.toNat:Nat):Int):=by unfold fc;simp[A]
   have n:s.take (k+1)=s.take k++[c]:=by rw[cm,A];rfl
   simp only[zW,seval,-gL,m,I];have f:=xX (s.take k);rw[a6]at f;have g:(s.take (k+1)).flatMap ma=(s.take k).flatMap ma++ma c:=by rw[n,iv];simp
   refine⟨by omega,λB=>?_,λB=>?_⟩;·have a:ma c=[c]:=aF ⟨by unfold kf;rw[decide_eq_true_iff];omega,by omega⟩;refine uT Proofs.xW Proofs.wq rfl rfl rfl rfl ⟨_,Ki,by kernel_rfl,by kernel_rfl⟩ j (by omega) λo d _=>?_;simp only[zW,seval,-gL];refine⟨eV (by omega) (by omega),(k+1,o),⟨⟨by omega,by rw[g,a];exact d⟩,by simp only;omega⟩,aR ?_⟩;simp only[zV,seval,-gL,aJ]
   ·have a:ma c=[37,wc (c.toNat/16),wc (c.toNat%16)]:=ai λh=>by have U:=aW h.1;have V:=h.2;have W:=B (by omega);omega
    have J:=gu c;have K:(c.toNat:Int)/2^4=((c.toNat/16:Nat):Int):=by omega
    have L:c.toNat&&&15=c.toNat%16:=Nat.and_two_pow_sub_one_eq_mod c.toNat 4;have p:c.toNat/16<16:=by omega
    have t:c.toNat%16<16:=Af _ (by decide);have N:=F1 p;have O:=F1 t;have u:hi .u8=255:=rfl;generalize c.toNat/16=q at*;generalize c.toNat%16=r at*;have P:((q:Int)+1).toNat=q+1:=by omega
    have Q:((r:Int)+1).toNat=r+1:=by omega
    refine gE 14 rfl (by kernel_rfl) ?_;simp only[zW,seval,-gL,K,L,P,Q,N,O,u,aM,bM,gW,eX];refine⟨by decide,by decide,⟨by show(0:Int)<=_;omega,by show _<=(255:Int);omega⟩,by omega,by omega,by omega,⟨by show(0:Int)<=_;omega,by show _<=(255:Int);omega⟩,by omega,?_⟩;have R:(ByteArray.mk #[37,wc q,wc r]).size=3:=rfl;refine wo Proofs.pE Proofs.oI rfl rfl rfl rfl ⟨_,AK,by kernel_rfl,by kernel_rfl⟩ j (by omega) λo d _=>?_;simp only[zW,seval,-gL];refine⟨eV (by omega) (by omega),(k+1,o),⟨⟨by omega,by rw[g,a];exact d⟩,by simp only;omega⟩,aR ?_⟩;simp only[zV,seval,-gL,aJ]
  ·have m:((k:Int)<(s.length:Int))=False:=ax (by omega);simp only[zW,seval,-gL,m];have y:k=s.length:=by omega
   have z:p_ s=(s.take k).flatMap ma:=by rw[y,sH];exact ai i
   refine sc Proofs.s4 Proofs.rn rfl rfl rfl rfl ⟨_,Uo,by kernel_rfl,by kernel_rfl⟩ j ?_;simp only[zW,seval,-gL,z]
end Go.X.Dk
namespace Go.X.Dk
open Go Go.X Go.RowKit
theorem OO(b:UInt8):ma b≠[]:=by unfold ma;split<;>simp
theorem QX(c d:UInt8):cd [c] [d]=aU (c.toNat<d.toNat):=by
 by_cases h:c.toNat<d.toNat;·have a:c<d:=j5.2 h;simp[cd,a,h]
 ·have a:¬c<d:=λe=>h (j5.1 e);simp[cd,a,h]
theorem X5(c d:UInt8):([c]=[d])↔c.toNat=d.toNat:=by simp only[A3,fL];exact rJ.symm
theorem shc(c:UInt8):((((cd [c] [32]=true\/[c]=[32])\/cd [c] [126]=false/\¬[c]=[126])\/[c]=[37])\/[c]=[95])↔¬(kf c=true/\c.toNat≠37):=by have a:(32:UInt8).toNat=32:=rfl;have b:(126:UInt8).toNat=126:=rfl;have d:(37:UInt8).toNat=37:=rfl;have e:(95:UInt8).toNat=95:=rfl;simp only[QX,X5,a,b,d,e,kf,br,jl];omega
theorem MW{s:Tx}{M:Mem}(R:s.length<=1000000):Meets ab 10 [.v (.string ⟨s.toArray⟩)] M λr _ _=>r=.v (.string ⟨(p_ s).toArray⟩):=by
 refine aH [0,2,3,4,5,6,8,9,10,30,54] Proofs.Tryz.func10 rfl (by kernel_rfl) rfl λw=>?_;simp only[Proofs.Tryz.f10,zW,seval];refine bE (X:=Nat) (λk=>([(0,true,.v (.string ⟨s.toArray⟩)),(3,true,.v (.string ⟨((s.take k).flatMap ma).toArray⟩)),(8,true,.v (.int .i64 (s.length:Int))),(9,true,.v (.int .i64 (k:Int)))],[],M)) (λk=>k<=s.length) (λk=>s.length-k) 0 (bJ _) (aR ?_) ?_;·simp only[zV,seval,aZ,fE,oE]
 intro k S;by_cases j:k<s.length
 ·have l:((k:Int)<(s.length:Int))=True:=aK (by omega);obtain⟨c,i⟩:∃c,s[k]?=some c:=⟨_,aP j⟩;have y:s.drop k=c::s.drop (k+1):=by rw[ft j];congr 1;rw[aP j]at i;exact d_ i
  have m:(s.drop k).take (((k:Int)+1).toNat-k)=[c]:=by
   have :((k:Int)+1).toNat-k=1:=by omega
   rw[this,y];rfl
  have z:fc s (k:Int)=((c.toNat:Nat):Int):=by unfold fc;simp[i]
  have f:(s.take (k+1)).flatMap ma=(s.take k).flatMap ma++ma c:=by rw[cm,i,PD,iv];simp
  have g:=xX (s.take k);rw[a6]at g;simp only[zW,seval,l,m,z];refine⟨eV (by omega) (by omega),by omega,λh=>?_,λh=>?_⟩
  ·have n:=(shc c).1 h;have d:ma c=[37,wc (c.toNat/16),wc (c.toNat%16)]:=ai n;have A:=gu c;have o:c.toNat/16<16:=by omega
   have p:c.toNat%16<16:=Af _ (by decide);have B:=F1 o;have C:=F1 p;have t:bX.wrap (c.toNat:Int)=((c.toNat:Nat):Int):=fO (eV (by omega) (by omega));have D:(c.toNat:Int).tdiv 16=((c.toNat/16:Nat):Int):=rfl;have E:(c.toNat:Int).tmod 16=((c.toNat%16:Nat):Int):=rfl;refine⟨by omega,dD rfl (by kernel_rfl) ?_⟩;simp only[zW,seval,t,D,E];generalize c.toNat/16=q at*;generalize c.toNat%16=r at*;have F:((q:Int)+1).toNat=q+1:=by omega
   have G:((r:Int)+1).toNat=r+1:=by omega
   simp only[zW,seval,F,G,B,C,aM,bM,gW,eX];refine⟨eV (by omega) (by omega),eV (by omega) (by omega),eV (by omega) (by omega),by omega,eV (by omega) (by omega),by omega,by omega,eV (by omega) (by omega),k+1,⟨by omega,by omega⟩,aR ?_⟩;simp only[zV,seval,f,d,aJ]
  ·have H:kf c=true/\c.toNat≠37:=kv.1 (λI=>by
    have J:=(shc c).2 I;obtain⟨⟨⟨⟨K,L⟩,N⟩,O⟩,P⟩:=h;rcases J with((((a|a)|⟨a,Q⟩)|a)|a);·rw[K]at a;cases a
    ·exact L a
    ·exact N.elim (λe=>by rw[a]at e;cases e) Q
    ·exact O a
    ·exact P a);have d:ma c=[c]:=aF H;refine⟨by omega,eV (by omega) (by omega),k+1,⟨by omega,by omega⟩,aR ?_⟩;simp only[zV,seval,f,d,aJ]
 ·have l:((k:Int)<(s.length:Int))=False:=ax (by omega);have u:s.take k=s:=by rw[show k=s.length by omega,sH]
  simp only[zW,seval,l,u];refine⟨λh=>?_,λh=>?_⟩
  ·have x:s=[]:=by cases s with|nil=>rfl|cons b s=>rw[lq]at h;exact absurd (List.append_eq_nil_iff.1 h).1 (OO b)
   rw[x];rfl
  ·have x:s≠[]:=λe=>h (by rw[e];rfl);rw[show p_ s=s.flatMap ma from ai x]
end Go.X.Dk
namespace Go.X.Dk
open Go Go.X Go.RowKit
theorem X6{n:Nat}(h:n<10):(([48,49,50,51,52,53,54,55,56,57]:Tx).drop n).take (n+1-n)=[bo (48+n)]:=by
 have :∀n:Fin 10,(([48,49,50,51,52,53,54,55,56,57]:Tx).drop n.val).take (n.val+1-n.val)=[bo (48+n.val)]:=by decide
 exact this ⟨n,h⟩
theorem F2(n:Nat)(M:Mem)(i:n<=9223372036854775807):Meets ab 21 [.v (.int .i64 (n:Int))] M λr _ _=>r=.v (.string ⟨(cF n).toArray⟩):=by
 induction n using Hk generalizing M with|ind n b=>
                                          refine aH [0,2,4] Proofs.Tryz.func21 rfl (by kernel_rfl) rfl λw=>?_;by_cases h:n<10
                                          ·have a:((n:Int)<10)=True:=aK (by omega);have e:cF n=[bo (48+n)]:=nu h;have d:=X6 h;have c:((n:Int)+1).toNat=n+1:=by omega
                                           simp only[Mf,zW,seval,a,c,d,e];exact⟨eV (by omega) (by omega),by omega,by omega⟩
                                          ·have a:((n:Int)<10)=False:=ax (by omega);have e:cF n=cF (n/10)++cF (n%10):=by rw[cF,dif_neg h,nu (Af n (by decide))]
                                           have f:(n:Int).tdiv 10=((n/10:Nat):Int):=rfl;have g:(n:Int).tmod 10=((n%10:Nat):Int):=rfl;have j:=jw 18 (n/10) (by have :(10:Nat)^19=10000000000000000000:=(by decide);omega);have k:=jw 18 (n%10) (by have :(10:Nat)^19=10000000000000000000:=(by decide);omega);simp only[Mf,zW,seval,a,f];refine⟨eV (by omega) (by omega),az ⟨rfl,rfl⟩ rfl (b (n/10) (by omega) M (by omega)) ?_⟩;simp only[zW,seval,g];refine az ⟨rfl,rfl⟩ rfl (b (n%10) (by omega) M (by omega)) ?_;simp only[zW,seval,e];omega
theorem gF(e:Nat)(M:Mem)(a:e<=1000):Meets ab 17 [.v (.int .i64 (e:Int))] M λr _ _=>r=.v (.string ⟨(lO e).toArray⟩):=by refine aH [0,2] jK rfl (by kernel_rfl) rfl λw=>?_;simp only[Proofs.Tryz.f17,zW,seval];refine az ⟨rfl,rfl⟩ rfl (F2 e M (by omega)) ?_;have :=jw 18 e (by have :(10:Nat)^19=10000000000000000000:=(by decide);omega);simp only[zW,seval];exact⟨by omega,rfl⟩
theorem s6{l:List Nat}{v:ay}{M:Mem}(d:RowM M v 1 (l.map lD))(z:l.length<=70000)(q:∀n∈l,n<=9223372036854775807):Meets ab 20 [.v v] M λr _ _=>r=.v (.string ⟨(dL l).toArray⟩):=by
 refine aH [0,2,3,5,6,7,8,9] Proofs.Tryz.func20 rfl (by kernel_rfl) rfl λw=>?_;have a:(l.map lD).length=l.length:=ae ..;have e:isSl v=true:=d.1.1;have f:eB v=l.length:=by rw[d.gC,a]
 simp only[Proofs.Tryz.f20,zW,seval,e,f,dz];refine bE (X:=Nat) (λk=>([(3,true,.v (.string ⟨(yP++pn (l.take k)).toArray⟩)),(6,true,.v v),(7,true,.v (.int .i64 l.length)),(8,true,.v (.int .i64 (k:Int)))],[],M)) (λk=>k<=l.length/\(pn (l.take k)).length<=20*k) (λk=>l.length-k) 0 ⟨bJ _,bc _⟩ (aR ?_) ?_;·simp only[zV,seval,fE,pn,oE,cS,yP,aZ]
 rintro k⟨A,s⟩;by_cases t:k<l.length
 ·have g:((k:Int)<(l.length:Int))=True:=aK (by omega);obtain⟨n,h⟩:∃n,l[k]?=some n:=⟨_,aP t⟩;have u:(l.map lD)[k]?=some (lD n):=by rw[aN,h];rfl
  have p:=d.fG u (off:=0) (by omega);have j:xj M v 1 k 0=.int .i64 (n:Int):=p.1;have x:=d.ix (i:=(k:Int)) (by omega) (by omega);have m:=q n (aL h);have B:=jw 18 n (by have :(10:Nat)^19=10000000000000000000:=(by decide);omega);have b:l.take (k+1)=l.take k++[n]:=by rw[cm,h];rfl
  have o:yP++pn (l.take k)++(32::cF n)=yP++pn (l.take (k+1)):=by rw[b];simp only[pn,iv,lq,oE,cS,bN]
  simp only[zW,seval,g,x,j,p.2.1,dz];refine az ⟨rfl,rfl⟩ rfl (F2 n M m) ?_;simp only[zW,seval];have c:(pn (l.take (k+1))).length<=20*(k+1):=by rw[b];simp only[pn,iv,lq,oE,cS,aG,aM];have :(List.flatMap (λn=>32::cF n) (fH k l)).length<=20*k:=s;omega
  have y:yP.length=2:=rfl;refine⟨by omega,by rw[aG];omega,eV (by omega) (by omega),k+1,⟨⟨by omega,c⟩,by omega⟩,aR ?_⟩;simp only[zV,seval,o,aJ]
 ·have g:((k:Int)<(l.length:Int))=False:=ax (by omega);have :k=l.length:=by omega
  subst this;simp only[zW,seval,g,sH];rfl
def K8(s:Tx):Int:=match nL s with|some n=>n|none=>-1
theorem vE{s:Tx}(h:nL s=none):K8 s=-1:=by unfold K8;rw[h]
theorem EZ{s:Tx}{n:Nat}(h:nL s=some n):K8 s=n:=by unfold K8;rw[h]
theorem Cp{s:Tx}(h:¬(s.all T8=true/\s.length<=10/\cF (tW s)=s)):nL s=none:=ai h
theorem MX{c:UInt8}(h:T8 c=true):48<=c.toNat/\c.toNat<=57:=aW h
theorem OP{s:Tx}{M:Mem}(C:s.length<=281474976710656):Meets ab 18 [.v (.string ⟨s.toArray⟩)] M λr _ _=>r=.v (.int .i64 (K8 s)):=by
 refine aH [0,2,3,4,6,7,8,23,40] DO rfl (by kernel_rfl) rfl λw=>?_;simp only[Proofs.Tryz.f18,zW,seval];refine bE (X:=Nat) (λk=>([(0,true,.v (.string ⟨s.toArray⟩)),(3,true,.v (.int .i64 (tW (s.take k):Nat))),(6,true,.v (.int .i64 (s.length:Int))),(7,true,.v (.int .i64 (k:Int)))],[],M)) (λk=>(k<=s.length/\k<=10)/\((s.take k).all T8=true/\tW (s.take k)<10^k)) (λk=>s.length-k) 0 ⟨⟨bJ _,bJ _⟩,rfl,Nat.one_pos⟩ (aR ?_) ?_;·simp only[zV,seval,aZ,fE,tW,Mg]
 rintro k⟨⟨p,D⟩,d,q⟩;by_cases t:k<s.length
 ·have e:((k:Int)<(s.length:Int))=True:=aK (by omega);obtain⟨c,f⟩:∃c,s[k]?=some c:=⟨_,aP t⟩;have u:fc s (k:Int)=((c.toNat:Nat):Int):=by unfold fc;simp[f]
  have g:=aL f;simp only[zW,seval,e,u];refine⟨by omega,λh=>⟨h,by omega⟩,λh=>?_,λ⟨⟨m,x⟩,E⟩=>?_⟩;·rw[vE (Cp λ⟨m,x,_⟩=>by have :=MX (l7.1 m c g);omega)]
  ·have y:10*tW (s.take k)+(c.toNat-48)<10^(k+1):=by rw[eK];omega
   have z:(10:Nat)^(k+1)<=10^10:=ew (by decide) (by omega);have i:bX.wrap ((c.toNat:Int)-48)=((c.toNat-48:Nat):Int):=by rw[fO (eV (by omega) (by omega))];omega
   have a:s.take (k+1)=s.take k++[c]:=by rw[cm,f];rfl
   have n:tW (s.take (k+1))=10*tW (s.take k)+(c.toNat-48):=by rw[a,MP]
   rw[i];refine⟨eV (by omega) (by omega),by omega,?_,eV (by omega) (by omega),eV (by omega) (by omega),k+1,⟨⟨⟨by omega,by omega⟩,?_,by rw[n];exact y⟩,by omega⟩,aR ?_⟩;·exact⟨by simp only[lo];omega,by simp only[hi];omega⟩
   ·rw[a,List.all_append,d];simp[T8];omega
   ·simp only[zV,seval,n,aJ,Int.natCast_mul]
 ·have e:((k:Int)<(s.length:Int))=False:=ax (by omega);have b:s.take k=s:=by rw[show k=s.length by omega,sH]
  rw[b]at d q;by_cases o:s=[]
  ·subst o;obtain rfl:k=0:=by simpa using p
   have :K8 []=-1:=vE (Cp λ⟨_,_,h⟩=>by rw[show tW []=0 from rfl,nu (by decide)]at h;cases h);simp only[zW,seval,aZ,bM,this]
  ·have A:(s=[])=False:=ax o;have z:(10:Nat)^k<=10^10:=ew (by decide) (by omega);simp only[zW,seval,e,b,A,gy,c_,dz];refine az ⟨rfl,rfl⟩ rfl (F2 _ M (by omega)) ?_;have j:K8 s=if cF (tW s)=s then((tW s:Nat):Int)else-1:=by
    by_cases h:cF (tW s)=s;·rw[aF h];exact EZ (aF ⟨d,by omega,h⟩)
    ·rw[ai h];exact vE (Cp λB=>h B.2.2)
   rw[j];by_cases h:cF (tW s)=s;·have l:=aK h;simp only[zW,seval,l]
   ·have l:=ax h;simp only[zW,seval,l]
end Go.X.Dk
namespace Go.Proofs
open Go.Shelf
def zg:lH:=⟨λ|143=>32|219=>47|217=>101|225=>102|224=>103|267=>104|266=>155|314=>156|n=>n,λ|9=>9|3=>3|4=>4|5=>5|46=>148|146=>190|51=>189|n=>n,λ|1=>0|n=>n⟩
theorem F3:Go.Proofs.Lays.n143 ab zg:={mixed:=by kernel_rfl,f143:=Tryz.func32.trans (aY some (by kernel_rfl)),f217:=TX.trans (aY some (by kernel_rfl)),f219:=Tryz.func47.trans (aY some (by kernel_rfl)),f224:=Tryz.func103.trans (aY some (by kernel_rfl)),f225:=Tryz.func102.trans (aY some (by kernel_rfl)),f266:=TY.trans (aY some (by kernel_rfl)),f267:=Tryz.func104.trans (aY some (by kernel_rfl)),f314:=Tryz.func156.trans (aY some (by kernel_rfl)),t3:=jk,a3:=xt,z3:=vm,v3:=dJ,t4:=pU,a4:=PR,z4:=Mb,v4:=BF,t5:=l8,a5:=tF,z5:=qF,v5:=mP,t9:=gX,a9:=tG,z9:=qG,v9:=mQ,t46:=uf,a46:=DZ,z46:=A7,v46:=v8,t51:=tH,a51:=BG,z51:=Ah,v51:=ur,t146:=Tryz.underlying190,a146:=Tryz.isAgg190,z146:=Tryz.sizeOf190,v146:=Tryz.zeroValue190,g1:=by kernel_rfl}
end Go.Proofs
namespace Go.X.Dk
open Go Go.X Go.RowKit
theorem MY{s a:Tx}{M:Mem}(b:GlobM M)(c:s.length<4294967281):Meets ab 32 [.v (.string ⟨s.toArray⟩),.v (.string ⟨a.toArray⟩)] M λr _ _=>r=.v (.int .i64 (qn s a)):=by obtain⟨m,d⟩:=b.maxl;refine xU (λV=>rfl) ⟨_,Proofs.Tryz.func32,by kernel_rfl,by kernel_rfl⟩ λw f=>?_;refine(Proofs.Any.strings_Index Proofs.F3 ⟨s.toArray⟩ ⟨a.toArray⟩ m w (by simpa[pc]using c) (d w f)).mono ?_;rintro e u⟨g,rfl⟩;exact⟨g,dQ _ _⟩
theorem F4(c:UInt8):qn Ii [c]=r9 c:=by
 have a:∀n:Fin 256,qn Ii [bo n.val]=r9 (bo n.val):=by decide
 have h:=a ⟨c.toNat,c.toNat_lt⟩;have e:bo c.toNat=c:=jm;simp only[e]at h;exact h
theorem UT{w:Tx}{M:Mem}(J:GlobM M)(hw:w.length<=281474976710656):Meets ab 19 [.v (.string ⟨w.toArray⟩)] M λr _ _=>r=.tup [.v (.string ⟨((l_ w).getD []).toArray⟩),.v (.bool (l_ w).isSome)]:=by
 refine aH [0,2,3,4,5,6,7,9,13,31,35,47,67] Proofs.Tryz.func19 rfl (by kernel_rfl) rfl λw0=>?_;by_cases p:w=[95];·have u:(w=[95])=True:=aK p;have z:l_ w=some []:=aF p;simp only[Mh,shs,zts,sos,sls,zss,eqs,sx,sb1,sb2,sb3,sb4,sb5,sb6,sb7,↓reduceIte,aj,ak,al,af,aA,ag,reduceCtorEq,aB,aC,aD,aE,aq,ar,au,av,ah,dI,aZ,cB,aX,aw,nzs,u,z,dr,c_,eT,cZ,fL,dn,nj];trace_state
 have u:(w=[95])=False:=ax p;have i:l_ w=Bd w:=ai p;simp only[Mh,shs,zts,sos,sls,zss,eqs,sx,sb1,sb2,sb3,sb4,sb5,sb6,sb7,↓reduceIte,aj,ak,al,af,aA,ag,reduceCtorEq,aB,aC,aD,aE,aq,ar,au,av,ah,dI,aZ,cB,aX,aw,nzs,u,dW,c_,bp,cZ,dz];refine bE (X:=Nat×Tx) (λx=>([(0,true,.v (.string ⟨w.toArray⟩)),(4,true,.v (.string ⟨x.2.toArray⟩)),(5,true,.v (.int .i64 (x.1:Int)))],[],M)) (λx=>(x.1<=w.length/\x.2.length<=x.1)/\Bd w=(Bd (w.drop x.1)).map (x.2++·)) (λx=>w.length-x.1) (0,[]) ⟨⟨bJ _,bc _⟩,by simp⟩ (aR ?_) ?_;·simp only[sx,sb1,sb2,sb3,sb4,sb5,sb6,sb7,↓reduceIte,aj,ak,al,af,aA,ag,reduceCtorEq,aB,aC,aD,aE,aq,ar,au,av,ah,dI,aZ,cB,aX,aw,aZ];trace_state
 rintro⟨k,o⟩⟨⟨O,P⟩,d⟩;simp only at O P d;by_cases A:k<w.length;rotate_left
 ·have B:((k:Int)<(w.length:Int))=False:=ax (by omega);have z:l_ w=some o:=by rw[i,d,bh (by omega),MR];simp
  simp only[shs,zts,sos,sls,zss,eqs,sx,sb1,sb2,sb3,sb4,sb5,sb6,sb7,↓reduceIte,aj,ak,al,af,aA,ag,reduceCtorEq,aB,aC,aD,aE,aq,ar,au,av,ah,dI,aZ,cB,aX,aw,nzs,B,z,dn,nj];trace_state
 have B:((k:Int)<(w.length:Int))=True:=aK (by omega);obtain⟨c,C⟩:∃c,w[k]?=some c:=⟨_,aP A⟩;have K:w.drop k=c::w.drop (k+1):=by rw[ft A];congr 1;rw[aP A]at C;exact d_ C
 have Q:fc w (k:Int)=((c.toNat:Nat):Int):=by unfold fc;simp[C]
 have D:(w.drop k).take (((k:Int)+1).toNat-k)=[c]:=by
  have :((k:Int)+1).toNat-k=1:=by omega
  rw[this,K];rfl
 rw[K]at d;have q:Bd w=none->(l_ w).getD []=[]/\(l_ w).isSome=false:=λh=>by rw[i,h];exact⟨rfl,rfl⟩
 have E:kf c=false->Bd w=none:=λh=>by rw[d,MS h];rfl
 simp only[shs,zts,sos,sls,zss,eqs,sx,sb1,sb2,sb3,sb4,sb5,sb6,sb7,↓reduceIte,aj,ak,al,af,aA,ag,reduceCtorEq,aB,aC,aD,aE,aq,ar,au,av,ah,dI,aZ,cB,aX,aw,nzs,B,Q,D];refine⟨by omega,λh=>⟨h,by omega⟩,λh=>⟨h,by omega⟩,λR=>?_,λR=>⟨by omega,λF=>?_,λF=>?_⟩⟩;·obtain⟨e,f⟩:=q (E (by unfold kf;rw[jl];omega));rw[e,f]
 ·have S:kf c=true:=by unfold kf;rw[decide_eq_true_iff];omega
  refine⟨eV (by omega) (by omega),⟨⟨by omega,by omega⟩,by omega⟩,by omega,eV (by omega) (by omega),(k+1,o++[c]),⟨⟨⟨by simp only;omega,by simp only[aG,bG];omega⟩,?_⟩,by simp only;omega⟩,aR ?_⟩;·rw[d,MT S (by omega)];cases Bd (w.drop (k+1))<;>simp
  ·simp only[sx,sb1,sb2,sb3,sb4,sb5,sb6,sb7,↓reduceIte,aj,ak,al,af,aA,ag,reduceCtorEq,aB,aC,aD,aE,aq,ar,au,av,ah,dI,aZ,cB,aX,aw,aJ]
 refine⟨eV (by omega) (by omega),λh=>?_,λh=>?_⟩;·obtain⟨e,f⟩:=q (by rw[d,EX (by omega) (by rw[aT];omega)];rfl);rw[e,f]
 obtain⟨a,L⟩:∃a,w[k+1]?=some a:=⟨_,aP (by omega)⟩;obtain⟨b,j⟩:∃b,w[k+2]?=some b:=⟨_,aP (by omega)⟩;have l:w.drop (k+1)=a::w.drop (k+2):=by rw[ft (show k+1<w.length by omega)];congr 1;rw[aP (by omega)]at L;exact d_ L
 have m:w.drop (k+2)=b::w.drop (k+3):=by rw[ft (show k+2<w.length by omega)];congr 1;rw[aP (by omega)]at j;exact d_ j
 rw[l,m,MU (by omega)]at d;have T:((k:Int)+1).toNat=k+1:=by omega
 have U:((k:Int)+2).toNat=k+2:=by omega
 have V:((k:Int)+3).toNat=k+3:=by omega
 have W:(w.drop (k+1)).take (k+2-(k+1))=[a]:=by rw[show k+2-(k+1)=1 by omega,l];rfl
 have Y:(w.drop (k+2)).take (k+3-(k+2))=[b]:=by rw[show k+3-(k+2)=1 by omega,m];rfl
 refine js (tk [0,1,3,7,8,10,2,4,9,11,5,12] (.one 6 (.one 13 (tk [14,15] .done)))) rfl (by kernel_rfl) ?_;simp only[shs,zts,sos,sls,zss,eqs,sx,sb1,sb2,sb3,sb4,sb5,sb6,sb7,↓reduceIte,aj,ak,al,af,aA,ag,reduceCtorEq,aB,aC,aD,aE,aq,ar,au,av,ah,dI,aZ,cB,aX,aw,nzs,fl,fm,fP,T,U,V,W,Y];refine⟨eV (by omega) (by omega),eV (by omega) (by omega),eV (by omega) (by omega),eV (by omega) (by omega),⟨⟨by omega,by omega⟩,by omega⟩,⟨⟨by omega,by omega⟩,by omega⟩,az ⟨rfl,rfl⟩ rfl (MY (s:=Ii) J (by decide)) ?_⟩;simp only[shs,zts,sos,sls,zss,eqs,sx,sb1,sb2,sb3,sb4,sb5,sb6,sb7,↓reduceIte,aj,ak,al,af,aA,ag,reduceCtorEq,aB,aC,aD,aE,aq,ar,au,av,ah,dI,aZ,cB,aX,aw,nzs,fl,fm,fP];refine az ⟨rfl,rfl⟩ rfl (MY (s:=Ii) J (by decide)) ?_;cases g:mG a with
  |none=>
   have t:r9 a=-1:=by unfold r9;rw[g]
   obtain⟨e,f⟩:=q (by rw[d,g];rfl);simp only[shs,zts,sos,sls,zss,eqs,sx,sb1,sb2,sb3,sb4,sb5,sb6,sb7,↓reduceIte,aj,ak,al,af,aA,ag,reduceCtorEq,aB,aC,aD,aE,aq,ar,au,av,ah,dI,aZ,cB,aX,aw,nzs,fl,fm,fP,F4,t,e,f];trace_state
  |some x=>
   have t:r9 a=x:=by unfold r9;rw[g]
   have N:((x:Int)<0)=False:=ax (by omega);cases n:mG b with
    |none=>
     have G:r9 b=-1:=by unfold r9;rw[n]
     obtain⟨e,f⟩:=q (by rw[d,g,n];rfl);simp only[shs,zts,sos,sls,zss,eqs,sx,sb1,sb2,sb3,sb4,sb5,sb6,sb7,↓reduceIte,aj,ak,al,af,aA,ag,reduceCtorEq,aB,aC,aD,aE,aq,ar,au,av,ah,dI,aZ,cB,aX,aw,nzs,fl,fm,fP,F4,t,G,N,e,f];trace_state
    |some y=>
     have G:r9 b=y:=by unfold r9;rw[n]
     have Z:((y:Int)<0)=False:=ax (by omega);have lx:=xV g;have ly:=xV n;have H:ig.wrap (16*(x:Int)+y)=((bo (16*x+y)).toNat:Int):=by have :(bo (16*x+y)).toNat=(16*x+y)%256:=rfl;rw[fO (show cY .u8 _ from⟨by show(0:Int)<=_;omega,by show _<=(255:Int);omega⟩)];omega
     simp only[shs,zts,sos,sls,zss,eqs,sx,sb1,sb2,sb3,sb4,sb5,sb6,sb7,↓reduceIte,aj,ak,al,af,aA,ag,reduceCtorEq,aB,aC,aD,aE,aq,ar,au,av,ah,dI,aZ,cB,aX,aw,nzs,fl,fm,fP,F4,t,G,N,Z,H];have I:j8 [.int .u8 ((bo (16*x+y)).toNat:Int)]=bo (16*x+y):=by show bo (((bo (16*x+y)).toNat:Int).toNat)=_;rw[aX,jm]
     rw[I];refine⟨eV (by omega) (by omega),eV (by omega) (by omega),by omega,eV (by omega) (by omega),eV (by omega) (by omega),(k+3,o++[bo (16*x+y)]),⟨⟨⟨by simp only;omega,by simp only[aG,bG];omega⟩,?_⟩,by simp only;omega⟩,aR ?_⟩;·rw[d,g,n];simp only;cases Bd (w.drop (k+3))<;>simp
     ·have :(k:Int)+2+1=((k+3:Nat):Int):=by omega
      simp only[sx,sb1,sb2,sb3,sb4,sb5,sb6,sb7,↓reduceIte,aj,ak,al,af,aA,ag,reduceCtorEq,aB,aC,aD,aE,aq,ar,au,av,ah,dI,aZ,cB,aX,aw,this]
end Go.X.Dk
namespace Go.X.Pol
def sz(n:Nat):Nat:=if n=0 then 0 else n.log2+1
theorem fA{n k:Nat}:sz n<=k↔n<2^k:=by
 unfold sz;split;·rename_i h;subst h;exact⟨λ_=>lI k,λ_=>bJ k⟩
 ·rename_i h;rw[Nat.succ_le_iff,Nat.log2_lt h]
theorem xY{n k:Nat}:k<sz n↔2^k<=n:=by have :=@fA n k;omega
theorem vF:sz 0=0:=rfl
theorem iL{n:Nat}:0<sz n↔n≠0:=by rw[xY];simp;omega
theorem Il{n k:Nat}(a:2^k<=n)(b:n<2^(k+1)):sz n=k+1:=by have :=xY.2 a;have :=fA.2 b;omega
theorem rq{n:Nat}(h:n≠0):2^(sz n-1)<=n/\n<2^(sz n)/\sz n=(sz n-1)+1:=by have :=iL.2 h;exact⟨xY.1 (by omega),fA.1 (bc _),by omega⟩
theorem od(n:Nat):n<2^sz n:=fA.1 (bc _)
theorem MZ(x y k:Nat):(x^^^y)*2^k=x*2^k^^^y*2^k:=by have :=Nat.shiftLeft_xor_distrib (a:=x) (b:=y) (i:=k);simpa only[Nat.shiftLeft_eq]using this
theorem F5(x y:Nat):2*(x^^^y)=2*x^^^2*y:=by have :=MZ x y 1;simp only[Nat.pow_one]at this;rw[o8 2,this,o8 2,o8 2]
theorem UU{x y n:Nat}(i:2^n<=x)(c:x<2^(n+1))(d:y<2^n):2^n<=x^^^y/\x^^^y<2^(n+1):=by
 have j:2^(n+1)=2*2^n:=by rw[eK];omega
 have e:x/2^n=1:=rM (by omega) (by omega);have f:y/2^n=0:=Up d;have :=TZ (a:=x) (b:=y) (n:=n);rw[e,f]at this;refine⟨?_,TL c (by omega)⟩;have g:(x^^^y)/2^n≠0:=by rw[this];decide
 rcases bR (x^^^y) (2^n)with h|h;·exact(g (Up h)).elim
 ·exact h
theorem Im{x y n:Nat}(f:2^n<=x)(g:x<2^(n+1))(i:2^n<=y)(j:y<2^(n+1)):x^^^y<2^n:=by
 have k:2^(n+1)=2*2^n:=by rw[eK];omega
 have c:x/2^n=1:=rM (by omega) (by omega);have d:y/2^n=1:=rM (by omega) (by omega);have :=TZ (a:=x) (b:=y) (n:=n);rw[c,d,yM]at this;have e:=lI n;rcases bR (x^^^y) (2^n)with h|h;·exact h
 ·have :=Nat.div_pos h e;omega
theorem M_{e x:Nat}(f:e<2):e^^^2*x=e+2*x:=by
 have d:=Nat.xor_div_two (a:=e) (b:=2*x);rw[show e/2=0 by omega,PU x (by omega),jD]at d;have c:=@Ol e (2*x);have :(2*x)%2=0:=by omega
 rw[this]at c;have :e=0\/e=1:=by omega
 rcases this with rfl|rfl;·simp
 ·have g:(1^^^2*x)%2=1:=c.2 (by decide);omega
theorem s7{a b c:Nat}(h:a^^^b=c):a=c^^^b:=by rw[<-h,kN,yM,nG]
theorem oP{a b:Nat}(h:a^^^b=0):a=b:=by rw[s7 h,jD]
def cP(a b:Nat):Nat:=if a=0 then 0 else(if a%2=1 then b else 0)^^^2*cP (a/2) b termination_by a decreasing_by omega
theorem dX(b:Nat):cP 0 b=0:=by rw[cP];rfl
theorem iC(a b:Nat):cP a b=(if a%2=1 then b else 0)^^^2*cP (a/2) b:=by
 by_cases h:a=0;·subst h;simp[dX]
 ·rw[cP,ai h]
theorem uU{P:Nat->Prop}(c:P 0)(h:∀a,a≠0->P (a/2)->P a):∀a,P a:=by
 intro a;induction a using Hk with|_ a d=>
                                   by_cases b:a=0;·subst b;exact c
                                   ·exact h a b (d _ (by omega))
theorem fD(a:Nat):cP a 0=0:=by refine uU (P:=λa=>cP a 0=0) (dX 0) (λa _ b=>?_) a;rw[iC,b];simp
theorem fB(a b c:Nat):cP a (b^^^c)=cP a b^^^cP a c:=by
 refine uU (P:=λa=>cP a (b^^^c)=cP a b^^^cP a c) (by simp[dX]) (λa _ d=>?_) a;rw[iC a (b^^^c),iC a b,iC a c,d,F5];split;·ac_rfl
 ·simp only[jD]
theorem Cq(a b:Nat):cP a (2*b)=2*cP a b:=by
 refine uU (P:=λa=>cP a (2*b)=2*cP a b) (by simp[dX]) (λa _ c=>?_) a;rw[iC a (2*b),iC a b,c,F5];split;·rfl
 ·simp only[Nat.mul_zero]
theorem Cr(a b:Nat):cP (2*a) b=2*cP a b:=by rw[iC,ai (by omega),PU a (by omega),jD]
theorem kB(b:Nat):cP 1 b=b:=by rw[iC];simp[dX]
theorem h_(a c b:Nat):cP (a^^^c) b=cP a b^^^cP c b:=by
 refine uU (P:=λa=>∀c,cP (a^^^c) b=cP a b^^^cP c b) (λc=>by simp[dX]) (λa _ d c=>?_) a c;rw[iC (a^^^c),iC a,iC c,Nat.xor_div_two,d,F5];by_cases e:a%2=1<;>by_cases f:c%2=1<;>simp only[Ol,e,f,cR,cA,iff_true,iff_false,not_true,gy,jD];·rw[show b^^^2*cP (a/2) b^^^(b^^^2*cP (c/2) b)=(b^^^b)^^^(2*cP (a/2) b^^^2*cP (c/2) b)by ac_rfl,yM,jD]
 ·ac_rfl
 ·ac_rfl
theorem F6(a:Nat):a=a%2^^^2*(a/2):=by rw[M_ (by omega)];omega
theorem kC(a:Nat):cP a 1=a:=by
 refine uU (P:=λa=>cP a 1=a) (dX 1) (λa _ b=>?_) a;rw[iC,b];conv=>rhs;rw[F6 a]
 split;·rename_i h;rw[h]
 ·rename_i h;rw[show a%2=0 by omega]
theorem jR(a b:Nat):cP a b=cP b a:=by
 refine uU (P:=λa=>cP a b=cP b a) (by rw[dX,fD]) (λa _ c=>?_) a;conv=>rhs;rw[F6 a,fB,Cq]
 rw[iC a b,c];split;·rename_i h;rw[h,kC]
 ·rename_i h;rw[show a%2=0 by omega,fD]
theorem eM(a b c:Nat):cP (cP a b) c=cP a (cP b c):=by
 refine uU (P:=λa=>cP (cP a b) c=cP a (cP b c)) (by simp[dX]) (λa _ d=>?_) a;rw[iC a b,h_,Cr,d,iC a (cP b c)];split;·rfl
 ·rw[dX]
theorem QY(a b k:Nat):cP (a*2^k) b=cP a b*2^k:=by induction k with|zero=>simp|succ k c=>rw[eK,<-Nat.mul_assoc,o8 _ 2,Cr,c,Nat.mul_left_comm,o8 2]
theorem oh(b k:Nat):cP (2^k) b=b*2^k:=by have :=QY 1 b k;rw[Nat.one_mul,kB]at this;exact this
theorem Io:∀(k l a b:Nat),2^k<=a->a<2^(k+1)->2^l<=b->b<2^(l+1)->2^(k+l)<=cP a b/\cP a b<2^(k+l+1)
 |0,l,a,b,e,f,c,d=>by
  obtain rfl:a=1:=by simp at e f;omega
  rw[kB,b7];exact⟨c,d⟩
 |k+1,l,a,b,e,f,c,d=>by
  have h:2^(k+1)=2*2^k:=by rw[eK];omega
  have i:2^(k+1+1)=2*2^(k+1):=by rw[eK];omega
  obtain⟨j,m⟩:=Io k l (a/2) b (by omega) (by omega) c d;have n:2^(k+1+l)=2*2^(k+l):=by rw[show k+1+l=(k+l)+1 by omega,eK];omega
  have o:2^(k+1+l+1)=2*2^(k+l+1):=by rw[show k+1+l+1=(k+l+1)+1 by omega,eK];omega
  have p:2^(l+1)<=2^(k+1+l):=ew (by omega) (by omega);rw[iC,jL];have g:(if a%2=1 then b else 0)<2^(k+1+l):=by split<;>omega
  exact UU (by omega) (by omega) g
theorem s8{a b:Nat}(e:a≠0)(f:b≠0):sz (cP a b)+1=sz a+sz b:=by obtain⟨g,c,h⟩:=rq e;obtain⟨i,d,j⟩:=rq f;rw[h]at c;rw[j]at d;obtain⟨k,l⟩:=Io _ _ _ _ g c i d;rw[Il k l];omega
theorem wO{b k:Nat}(c:b≠0):sz (b*2^k)=sz b+k:=by have h:=s8 (a:=2^k) (Nat.ne_of_gt (lI k)) c;rw[oh,Il (n:=2^k) (k:=k) (bc _) (Nat.pow_lt_pow_right (by omega) (by omega))]at h;omega
theorem F7{a b n:Nat}(c:sz a<=n)(d:sz b<=n):sz (a^^^b)<=n:=by rw[fA]at*;exact TL c d
theorem Ip{a b:Nat}(h:a≠0)(d:sz a=sz b):sz (a^^^b)<sz a:=by obtain⟨i,e,f⟩:=rq h;have j:b≠0:=iL.1 (by rw[<-d];exact iL.2 h);obtain⟨g,c,k⟩:=rq j;rw[f]at e;rw[<-d]at g c;rw[f]at c;have :=fA.2 (Im i e g c);omega
theorem aa'{q c r d b:Nat}(h:cP q b^^^r=cP c b^^^d)(j:sz r<sz b)(k:sz d<sz b):q=c/\r=d:=by
 have g:b≠0:=iL.1 (by omega);have f:cP (q^^^c) b=r^^^d:=by rw[h_];have :=s7 h;rw[this,show cP c b^^^d^^^r^^^cP c b=(cP c b^^^cP c b)^^^(r^^^d)by ac_rfl,yM,jD]
 by_cases e:q^^^c=0;·rw[e,dX]at f;exact⟨oP e,oP f.symm⟩
 ·have i:=s8 e g;rw[f]at i;have l:=F7 (n:=sz b-1) (a:=r) (b:=d) (by omega) (by omega);have :=iL.2 e;omega
def UW:Nat->Nat->Nat->Nat×Nat|0,a,_=>(0,a)|f+1,a,b=>if sz a<sz b then(0,a)else((UW f (a^^^b*2^(sz a-sz b)) b).1^^^2^(sz a-sz b),(UW f (a^^^b*2^(sz a-sz b)) b).2)
theorem Be{a b:Nat}(c:b≠0)(h:sz b<=sz a):sz (a^^^b*2^(sz a-sz b))<sz a:=by have d:a≠0:=iL.1 (by have :=iL.2 c;omega);exact Ip d (by rw[wO c];omega)
theorem Iq:∀(f a b:Nat),b≠0->sz a<=f->a=cP (UW f a b).1 b^^^(UW f a b).2/\sz (UW f a b).2<sz b
 |0,a,b,c,d=>by simp only[UW,dX,jD,dz];have :=iL.2 c;omega
 |f+1,a,b,c,d=>by
  simp only[UW];split;·rename_i h;simp only[dX,jD,dz];exact h
  ·rename_i h;obtain⟨e,g⟩:=Iq f (a^^^b*2^(sz a-sz b)) b c (by have :=Be c (show sz b<=sz a by omega);omega);refine⟨?_,g⟩;have i:=s7 e;simp only[h_,oh];refine i.trans ?_;ac_rfl
def nA(a b:Nat):Nat:=(UW (sz a) a b).1
def dx(a b:Nat):Nat:=(UW (sz a) a b).2
theorem kV{a b:Nat}(c:b≠0):a=cP (nA a b) b^^^dx a b/\sz (dx a b)<sz b:=Iq _ a b c (bc _)
theorem kR{a b q r:Nat}(h:a=cP q b^^^r)(c:sz r<sz b):nA a b=q/\dx a b=r:=by have d:b≠0:=iL.1 (by omega);obtain⟨e,f⟩:=kV (a:=a) d;exact aa' (by rw[<-e,<-h]) f c
theorem om{a m:Nat}(h:sz a<sz m):dx a m=a:=(kR (q:=0) (by rw[dX,jD]) h).2
theorem Cs{q x m:Nat}(b:m≠0):dx (cP q m^^^x) m=dx x m:=by
 obtain⟨c,d⟩:=kV (a:=x) b;refine(kR (q:=q^^^nA x m) ?_ d).2;conv=>lhs;rw[c]
 rw[h_];ac_rfl
theorem uV{a b m:Nat}(c:m≠0):dx (a^^^b) m=dx a m^^^dx b m:=by
 obtain⟨d,f⟩:=kV (a:=a) c;obtain⟨e,g⟩:=kV (a:=b) c;refine(kR (q:=nA a m^^^nA b m) ?_ ?_).2
 ·conv=>lhs;rw[d,e]
  rw[h_];ac_rfl
 ·have :=F7 (n:=sz m-1) (a:=dx a m) (b:=dx b m) (by omega) (by omega);omega
theorem rr{a b m:Nat}(c:m≠0):dx (cP (dx a m) b) m=dx (cP a b) m:=by
 obtain⟨d,e⟩:=kV (a:=a) c;conv=>rhs;rw[d]
 rw[h_,eM,jR m b,<-eM,Cs c]
theorem Ct{a b m:Nat}(c:m≠0):dx (cP a (dx b m)) m=dx (cP a b) m:=by rw[jR,rr c,jR]
theorem QZ{a m:Nat}(b:m≠0):dx (dx a m) m=dx a m:=om (kV b).2
/-!### Lists of coefficients -/
def gP(n x:Nat):List Bool:=(sE n).map x.testBit
theorem eE(n x:Nat):(gP n x).length=n:=by simp[gP]
theorem pR{n x i:Nat}(h:i<n):(gP n x)[i]?=some (x.testBit i):=by simp[gP,aN,A4 h]
theorem OQ{n x k:Nat}{v:Bool}{y:Nat}(c:y.testBit k=v)(d:∀i,i≠k->y.testBit i=x.testBit i):(gP n x).set k v=gP n y:=by
 apply gA;intro i;rw[nr];by_cases a:i<n
 ·rw[pR a,pR a];split;·rename_i e;subst e;rw[eE,aF a,c]
  ·rename_i e;rw[d i (λh=>e h.symm)]
 ·have b:∀z,(gP n z)[i]?=none:=λz=>dm (by rw[eE];omega);rw[b,b];split;·rename_i e;rw[eE,ai (by omega)]
  ·rfl
theorem Cv(n x:Nat):gP (n+1) x=gP n x++[x.testBit n]:=by simp[gP,List.range_succ]
theorem K9(x:Nat):gP 0 x=[]:=rfl
theorem Cw{n x k:Nat}(h:k<=n):(gP n x).take k=gP k x:=by unfold gP;rw[<-eH,List.take_range,cT h]
theorem pF(x k i:Nat):(x^^^2^k).testBit i=if i=k then !x.testBit i else x.testBit i:=by
 rw[FA,rN];by_cases h:k=i;·subst h;simp
 ·rw[ai (λe=>h e.symm)];simp[h]
theorem K_(n x k:Nat):(gP n x).set k (!x.testBit k)=gP n (x^^^2^k):=OQ (by rw[pF,aF rfl]) (λi a=>by rw[pF,ai a])
theorem Ir(b i:Nat):b%2^(i+1)=b%2^i^^^(if b.testBit i then 2^i else 0):=by
 apply Nat.eq_of_testBit_eq;intro j;rw[FA,Mi,Mi];have :(if b.testBit i then 2^i else 0).testBit j=(b.testBit i&&aU (i=j)):=by
  cases b.testBit i;·simp
  ·simp[rN]
 rw[this];by_cases a:j<i;·simp[show j<i+1 by omega,a,show¬i=j by omega]
 ·by_cases c:i=j;·subst c;simp
  ·simp[show¬j<i+1 by omega,a,c]
theorem Q0(x i:Nat):x/2^i=2*(x/2^(i+1))+(if x.testBit i then 1 else 0):=by
 rw[eK,<-Nat.div_div_eq_div_mul,PV];by_cases h:x/2^i%2=1;·simp[h];omega
 ·simp[h];omega
theorem OR{x n:Nat}(h:sz x<=n):x%2^n=x:=Nat.mod_eq_of_lt (fA.1 h)
theorem Cx{x i:Nat}(h:sz x<=i):x.testBit i=false:=Nat.testBit_lt_two_pow (fA.1 h)
theorem Iu{x:Nat}(h:x≠0):x.testBit (sz x-1)=true:=by obtain⟨c,a,b⟩:=rq h;rw[PV];rw[b,eK]at a;have :x/2^(sz x-1)=1:=rM (by omega) (by omega);simp[this]
theorem X7{q s:Nat}(h:q.testBit s=false):q|||2^s=q^^^2^s:=by
 apply Nat.eq_of_testBit_eq;intro i;rw[Nat.testBit_or,FA,rN];by_cases a:s=i;·subst a;simp[h]
 ·simp[a]
theorem Q4{p c k:Nat}(h:c<2^k):p*2^k|||c=p*2^k+c:=by have :=Nat.shiftLeft_add_eq_or_of_lt h p;rw[Nat.shiftLeft_eq]at this;exact this.symm
end Go.X.Pol
namespace Go.X.Pl
open Go Go.X Go.X.Pol
theorem Cy{x k:Nat}(h:2^k<=x):sz x=k+sz (x/2^k):=by have a:=lI k;have d:x/2^k≠0:=Nat.ne_of_gt (Nat.div_pos h a);obtain⟨e,f,i⟩:=rq d;have g:=Nat.div_mul_le_self x (2^k);have b:2^(sz (x/2^k)-1)*2^k<=x:=b6 (il _ e) g;have c:x<2^sz (x/2^k)*2^k:=(Nat.div_lt_iff_lt_mul a).1 f;rw[<-Nat.pow_add]at b c;rw[Il (k:=sz (x/2^k)-1+k) b (by rw[show sz (x/2^k)-1+k+1=sz (x/2^k)+k by omega];exact c)];omega
def X8(T:List UInt8):Bool:=T.length==256&&(sE 256).all λi=>fc T (i:Int)==(sz i:Int)
theorem WY(T:List UInt8)(a:X8 T=true)(c y:Int)(n x:Nat)(b:y=(n:Int))(d:n<256)(e:(sz x:Int)=c+sz n)(l:0<=c/\c<=56):Shp.int o5≠Shp.bad/\(0<=ig.wrap y/\ig.wrap y<(T.length:Int))/\Shp.int ig≠Shp.bad/\cY bX (c+bX.wrap (fc T (ig.wrap y)))/\SV.v (cz bX (c+bX.wrap (fc T (ig.wrap y))))=SV.v (cz bX ((sz x:Nat):Int)):=by
 simp only[X8,ba,pj,l7,List.mem_range]at a;obtain⟨f,g⟩:=a;have i:=g n d;have j:ig.wrap y=(n:Int):=by rw[b];exact fO (k:=.u8) ⟨by simp only[lo];omega,by simp only[hi];omega⟩
 have m:sz n<=8:=fA.2 (by omega);rw[j,i,f,fO (k:=.i64) (n:=((sz n:Nat):Int)) ⟨by simp only[lo];omega,by simp only[hi];omega⟩,e];exact⟨(λh=>by cases h),⟨by omega,by omega⟩,(λh=>by cases h),⟨by simp only[lo];omega,by simp only[hi];omega⟩,rfl⟩
theorem aa_(T:List UInt8)(a:X8 T=true)(y:Int)(n x:Nat)(b:y=(n:Int))(c:n<256)(d:(sz x:Int)=sz n):Shp.int o5≠Shp.bad/\(0<=ig.wrap y/\ig.wrap y<(T.length:Int))/\Shp.int ig≠Shp.bad/\cY bX (0+bX.wrap (fc T (ig.wrap y)))/\SV.v (cz bX (0+bX.wrap (fc T (ig.wrap y))))=SV.v (cz bX ((sz x:Nat):Int)):=WY T a 0 y n x b c (by omega) (by omega)
theorem Q5(x:Nat)(M:Mem)(f:x<18446744073709551616):Meets ab 187 [.v (.int .u64 (x:Int))] M λr _ _=>r=.v (.int .i64 ((sz x:Nat):Int)):=by
 refine aH [0,2,4,8,14] Proofs.Tryz.func187 rfl (by kernel_rfl) rfl λw=>?_;simp only[Proofs.Tryz.f187,zV,seval,cY,lo,hi];rw[show((o5.bits:Nat):Int)=64 from rfl];have g:4294967296<=x->sz x=32+sz (x/4294967296):=λh=>Cy (k:=32) h;have d:∀y,65536<=y->sz y=16+sz (y/65536):=λy h=>Cy (k:=16) h;have b:∀y,256<=y->sz y=8+sz (y/256):=λy h=>Cy (k:=8) h;have i:=d x;have j:=d (x/4294967296);have l:=b x;have m:=b (x/4294967296);have n:=b (x/65536);have o:=b (x/4294967296/65536);refine⟨λe=>⟨by omega,λc=>⟨by omega,λa=>⟨by omega,?_⟩,λa=>?_⟩,λc=>⟨λa=>⟨by omega,?_⟩,λa=>?_⟩⟩,λe=>⟨λc=>⟨by omega,λa=>⟨by omega,?_⟩,λa=>?_⟩,λc=>⟨λa=>⟨by omega,?_⟩,λa=>?_⟩⟩⟩;·exact WY _ (by kernel_rfl) _ _ (x/4294967296/65536/256) x (by omega) (by omega) (by omega) (by omega)
 ·exact WY _ (by kernel_rfl) _ _ (x/4294967296/65536) x (by omega) (by omega) (by omega) (by omega)
 ·exact WY _ (by kernel_rfl) _ _ (x/4294967296/256) x (by omega) (by omega) (by omega) (by omega)
 ·exact WY _ (by kernel_rfl) _ _ (x/4294967296) x (by omega) (by omega) (by omega) (by omega)
 ·exact WY _ (by kernel_rfl) _ _ (x/65536/256) x (by omega) (by omega) (by omega) (by omega)
 ·exact WY _ (by kernel_rfl) _ _ (x/65536) x (by omega) (by omega) (by omega) (by omega)
 ·exact WY _ (by kernel_rfl) _ _ (x/256) x (by omega) (by omega) (by omega) (by omega)
 ·exact aa_ _ (by kernel_rfl) _ x x (by omega) (by omega) (by omega)
theorem deg(x:Nat)(M:Mem)(a:x<18446744073709551616):Meets ab 164 [.v (.int .u64 (x:Int))] M λr _ _=>r=.v (.int .i64 ((sz x:Nat)-1:Int)):=by refine aH [0,2] Proofs.Tryz.func164 rfl (by kernel_rfl) rfl λw=>?_;simp only[Proofs.Tryz.f164,zV,seval,cY,lo,hi];refine az ⟨rfl,rfl⟩ rfl (Q5 x M a) ?_;have :sz x<=64:=fA.2 a;simp only[zV,seval,cY,lo,hi];omega
theorem pw(s:Nat):(2:Int)^s=((2^s:Nat):Int):=by simp
theorem mw(a s:Nat):(a:Int)*2^s=((a*2^s:Nat):Int):=by simp
theorem dw(a s:Nat):(a:Int)/2^s=((a/2^s:Nat):Int):=by simp
theorem mwc(a s:Nat):(a:Int)*((2^s:Nat):Int)=((a*2^s:Nat):Int):=by simp
theorem X9:((bX.bits:Nat):Int)=64:=rfl
theorem X_:((o5.bits:Nat):Int)=64:=rfl
theorem uw{a:Nat}(h:a<18446744073709551616):o5.wrap (a:Int)=(a:Int):=fO (k:=.u64) ⟨by simp only[lo];omega,by simp only[hi];omega⟩
theorem iw{a:Nat}(h:a<9223372036854775808):bX.wrap (a:Int)=(a:Int):=fO (k:=.i64) ⟨by simp only[lo];omega,by simp only[hi];omega⟩
theorem orw{x y:Nat}(a:x<18446744073709551616)(b:y<18446744073709551616):Zn .u64 (x:Int) (y:Int)=((x|||y:Nat):Int):=by show o5.wrap ((dR 64 (x:Int)|||dR 64 (y:Int)).toNat:Int)=_;have c:=Nat.or_lt_two_pow (n:=64) a b;rw[BitVec.toNat_or,kP _ _ (by omega) (by omega),kP _ _ (by omega) (by omega),aX,aX];exact uw c
theorem s9{a:Nat}(h:a<=2147483647):sz a<=31:=fA.2 (by omega)
theorem p31{i:Nat}(h:i<=31):2^i<=2147483648:=ew (n:=2) (by omega) h
theorem Cz{a b n m:Nat}(e:sz a<=n)(f:sz b<=m):sz (cP a b)<=n+m:=by
 by_cases c:a=0;·subst c;rw[dX];simp[vF]
 by_cases d:b=0;·subst d;rw[fD];simp[vF]
 have :=s8 c d;omega
theorem OS(a b i:Nat):cP (b%2^(i+1)) a=cP (b%2^i) a^^^(if b/2^i%2=1 then a*2^i else 0):=by
 rw[Ir,h_,PV];by_cases h:b/2^i%2=1;·simp only[h,dr,cR,oh]
 ·simp only[h,dW,bp,cA,dX]
theorem Ya(b i:Nat):sz (b%2^i)<=i:=fA.2 (Af _ (lI i))
theorem ZW(a b:Nat)(M:Mem)(d:a<=2147483647)(g:b<=2147483647):Meets ab 49 [.v (.int .i64 (a:Int)),.v (.int .i64 (b:Int))] M λr _ _=>r=.v (.int .u64 ((cP a b:Nat):Int)):=by
 refine aH [0,1,4,5,6,10,17] Proofs.Tryz.func49 rfl (by kernel_rfl) rfl λw=>?_;simp only[Proofs.Tryz.f49,zV,seval];refine bE (X:=Nat) (λi=>([(0,true,.v (.int .i64 a)),(1,true,.v (.int .i64 b)),(5,true,.v (.int .u64 ((cP (b%2^i) a:Nat):Int))),(6,true,.v (.int .i64 i))],[],M)) (λi=>i<=sz b) (λi=>sz b-i) 0 (bJ _) (aR ?_) ?_;·simp only[zV,seval,tV,Nat.mod_one,dX]
 intro i j;have l:=s9 g;have m:cP (b%2^i) a<2^62:=fA.1 (b6 (Cz (Ya b i) (s9 d)) (by omega));have n:a*2^i<=2147483647*2147483648:=Mj d (p31 (by omega));have o:b/2^i<=b:=v_ _ _;have c:=OS a b i;simp only[zV,seval,cY,lo,hi,X9,X_,uw (show a<18446744073709551616 by omega),mw,dw,Nat.and_one_is_mod];refine⟨by omega,λe=>?_,λe=>?_⟩
 ·have f:i<sz b:=xY.2 (by
   rcases bR b (2^i)with h|h;·rw[Up h]at e;omega
   ·exact h);refine⟨by omega,by omega,λk=>⟨(λh=>by cases h),by omega,by omega,by omega,i+1,⟨by omega,by omega⟩,aR ?_⟩,λk=>⟨by omega,i+1,⟨by omega,by omega⟩,aR ?_⟩⟩;·rw[aF (by omega)]at c;simp only[zV,seval,c,aJ]
  ·rw[ai (by omega),nG]at c;simp only[zV,seval,c,aJ]
 ·have f:b<2^i:=by
   rcases bR b (2^i)with h|h;·exact h
   ·have :=Nat.div_pos h (lI i);omega
  rw[Nat.mod_eq_of_lt f,jR]
theorem Q6(a b:Nat)(M:Mem)(z:a<18446744073709551616)(H:b<=2147483647)(c:b≠0):Meets ab 112 [.v (.int .u64 (a:Int)),.v (.int .i64 (b:Int))] M λr _ _=>r=.tup [.v (.int .u64 ((nA a b:Nat):Int)),.v (.int .u64 ((dx a b:Nat):Int))]:=by
 refine aH [0,1,4,5,6,7,8,15] Proofs.Tryz.func112 rfl (by kernel_rfl) rfl λw=>?_;have d:b<18446744073709551616:=by omega
 have A:=iL.2 c;simp only[Proofs.Tryz.f112,zV,seval,uw d];refine⟨(λh=>by cases h),?_⟩;refine az ⟨rfl,rfl⟩ rfl (deg b M d) ?_;simp only[zV,seval];refine bE (X:=Nat×Nat) (λp=>([(0,true,.v (.int .u64 (p.2:Int))),(1,true,.v (.int .i64 b)),(6,true,.v (.int .u64 (p.1:Int))),(7,true,.v (.int .i64 ((sz b:Nat)-1:Int)))],[],M)) (λp=>((a=cP p.1 b^^^p.2/\∀j,j+sz b<=sz p.2->p.1.testBit j=false)/\p.2<2^64)/\p.1<2^64) (λp=>sz p.2) (0,a) ⟨⟨⟨by rw[dX,jD],λj _=>Nat.zero_testBit j⟩,z⟩,lI 64⟩ (aR ?_) ?_;·simp only[zV,seval]
 rintro⟨q,x⟩⟨⟨⟨k,l⟩,i⟩,m⟩;simp only at k l i m;have e:x<18446744073709551616:=i;have n:q<18446744073709551616:=m;have B:sz x<=64:=fA.2 i;simp only[zV,seval];refine az ⟨rfl,rfl⟩ rfl (deg x M e) ?_;simp only[zV,seval];refine⟨λC=>?_,λC=>?_⟩
 ·refine az ⟨rfl,rfl⟩ rfl (deg x M e) ?_;have t:(sz x:Int)-1-((sz b:Int)-1)=((sz x-sz b:Nat):Int):=by omega
  have o:2^(sz x-sz b)<2^64:=Nat.pow_lt_pow_right (by omega) (by omega);have f:2^(sz x-sz b)<18446744073709551616:=o;have D:sz (b*2^(sz x-sz b))=sz x:=by rw[wO c];omega
  have u:b*2^(sz x-sz b)<2^64:=fA.1 (by omega);have y:=Be c (show sz b<=sz x by omega);have g:=l (sz x-sz b) (by omega);have s:(0:Int)<=((2^(sz x-sz b):Nat):Int)/\((2^(sz x-sz b):Nat):Int)<=18446744073709551615:=by clear g y u D o t;generalize 2^(sz x-sz b)=P at f⊢;omega
  simp only[zV,seval,cY,lo,hi,t,pw,mwc,Int.one_mul,X9,X_,uw d,orw n f,X7 g];refine⟨by omega,⟨by omega,s⟩,(λh=>by cases h),by omega,by omega,(q^^^2^(sz x-sz b),x^^^b*2^(sz x-sz b)),⟨⟨⟨⟨?_,λj E=>?_⟩,TL i u⟩,TL m o⟩,y⟩,aR ?_⟩
  ·simp only;rw[h_,oh];conv=>lhs;rw[k]
   rw[show cP q b^^^b*2^(sz x-sz b)^^^(x^^^b*2^(sz x-sz b))=(cP q b^^^x)^^^(b*2^(sz x-sz b)^^^b*2^(sz x-sz b))by ac_rfl,yM,nG]
  ·simp only at E⊢;rw[pF,ai (by omega)];exact l j (by omega)
  ·simp only[zV,seval]
 ·obtain⟨F,G⟩:=kR k (show sz x<sz b by omega);rw[F,G]
/-!### the exported functions -/
def bad(a:Int):Prop:=a<0\/2147483647<a
instance(a:Int):Decidable (bad a):=inferInstanceAs(Decidable (_\/_))
def er(a:Int):Int:=if a<0\/2147483647<a then 1 else 0
theorem CA{a:Int}(h:a<0\/2147483647<a):er a=1:=aF h
theorem Av{a:Int}(h:¬(a<0\/2147483647<a)):er a=0:=ai h
theorem xZ(a:Int)(M:Mem):Meets ab 105 [.v (.int .i64 a)] M λr _ _=>r=.v (.int .i64 (er a)):=by
 refine aH [0,2,8] Proofs.Tryz.func105 rfl (by kernel_rfl) rfl λw=>?_;simp only[Proofs.Tryz.f105,zV,seval];refine⟨λh=>?_,λh=>?_⟩;·rw[CA (by omega)]
 ·rw[Av (by omega)]
def ZH(a b:Int):Int:=if a<0\/2147483647<a then 1 else er b
theorem two(a b:Int)(M:Mem):Meets ab 48 [.v (.int .i64 a),.v (.int .i64 b)] M λr _ _=>r=.v (.int .i64 (ZH a b)):=by
 refine aH [0,1,4,5,9] Proofs.Tryz.func48 rfl (by kernel_rfl) rfl λw=>?_;simp only[Proofs.Tryz.f48,zV,seval];refine az ⟨rfl,rfl⟩ rfl (xZ a M) ?_;simp only[zV,seval,ZH];by_cases h:a<0\/2147483647<a;·simp only[CA h,aF h,zV,seval]
 ·simp only[Av h,ai h,zV,seval];refine az ⟨rfl,rfl⟩ rfl (xZ b M) ?_;simp only[zV,seval]
theorem La{a b:Nat}(c:a<=2147483647)(d:b<=2147483647):ZH a b=0:=by unfold ZH;rw[ai (by omega),Av (by omega)]
theorem UX{a b:Int}(h:(a<0\/2147483647<a)\/(b<0\/2147483647<b)):ZH a b=1:=by
 unfold ZH;split;·rfl
 ·exact CA (by omega)
theorem Deg(a:Nat)(M:Mem)(b:a<=2147483647):Meets ab 114 [.v (.int .i64 (a:Int))] M λr _ _=>r=.tup [.v (.int .i64 ((sz a:Nat)-1:Int)),.v (.int .i64 0)]:=by refine aH [0,2,3,4,8] Proofs.Tryz.func114 rfl (by kernel_rfl) rfl λw=>?_;simp only[Proofs.Tryz.f114,zV,seval];refine az ⟨rfl,rfl⟩ rfl (xZ a M) ?_;simp only[zV,seval,Av (show¬((a:Int)<0\/2147483647<(a:Int))by omega),uw (show a<18446744073709551616 by omega)];refine⟨(λh=>by cases h),az ⟨rfl,rfl⟩ rfl (deg a M (by omega)) ?_⟩;simp only[zV,seval]
theorem UY{a b:Nat}(c:a<=2147483647)(d:b<=2147483647):cP a b<4611686018427387904:=fA.1 (b6 (Cz (s9 c) (s9 d)) (show 31+31<=62 by omega))
theorem UZ{a b:Nat}(e:a<=2147483647)(c:b≠0):nA a b<2^62:=by
 obtain⟨f,i⟩:=kV (a:=a) c;refine fA.1 ?_;by_cases d:nA a b=0;·rw[d];simp[vF]
 ·have g:=s8 d c;have h:cP (nA a b) b=a^^^dx a b:=s7 f.symm;have j:=s9 e;have k:=F7 (n:=max 31 (sz b)) (a:=a) (b:=dx a b) (by omega) (by omega);rw[h]at g;have :=iL.2 c;omega
theorem Div(a b:Nat)(M:Mem)(e:a<=2147483647)(d:b<=2147483647):Meets ab 115 [.v (.int .i64 (a:Int)),.v (.int .i64 (b:Int))] M λr _ _=>r=if b=0 then .tup [.v (.int .i64 0),.v (.int .i64 0),.v (.int .i64 10)]else .tup [.v (.int .i64 ((nA a b:Nat):Int)),.v (.int .i64 ((dx a b:Nat):Int)),.v (.int .i64 0)]:=by
 refine aH [0,1,4,5,6,7,8,9,14,17] Proofs.Tryz.func115 rfl (by kernel_rfl) rfl λw=>?_;simp only[Proofs.Tryz.f115,zV,seval];refine az ⟨rfl,rfl⟩ rfl (two a b M) ?_;simp only[zV,seval,La e d,uw (show a<18446744073709551616 by omega)];refine⟨λh=>?_,λh=>⟨(λh=>by cases h),?_⟩⟩;·rw[aF (by omega)]
 ·have c:b≠0:=by omega
  refine az ⟨rfl,rfl⟩ rfl (Q6 a b M (by omega) d c) ?_;obtain⟨f,g⟩:=kV (a:=a) c;have i:dx a b<2^62:=fA.1 (by have :=s9 d;omega);have j:=UZ e c;simp only[zV,seval,iw (show dx a b<9223372036854775808 by omega),iw (show nA a b<9223372036854775808 by omega),ai c];exactλh=>by cases h
/-!### greatest common divisors -/
def qe:Nat->Nat->Nat->Nat|0,a,_=>a|f+1,a,b=>if b=0 then a else qe f b (dx a b)
theorem vG{a b:Nat}(c:b≠0)(h:b<=2147483647):dx a b<=2147483647:=by have d:=(kV (a:=a) c).2;have e:=s9 h;have f:dx a b<2^31:=fA.1 (by omega);omega
theorem Gcd(a b:Nat)(M:Mem)(j:a<=2147483647)(k:b<=2147483647):Meets ab 57 [.v (.int .i64 (a:Int)),.v (.int .i64 (b:Int))] M λr _ _=>r=.tup [.v (.int .i64 ((qe (sz b) a b:Nat):Int)),.v (.int .i64 0)]:=by
 refine aH [0,1,4,5,6,8,13,16] DP rfl (by kernel_rfl) rfl λw=>?_;generalize l:qe (sz b) a b=c;simp only[Mk,zV,seval];refine az ⟨rfl,rfl⟩ rfl (two a b M) ?_;simp only[zV,seval,La j k];refine bE (X:=Nat×Nat×Nat) (λp=>([(0,true,.v (.int .i64 (p.2.1:Int))),(1,true,.v (.int .i64 (p.2.2:Int)))],[],M)) (λp=>((p.2.1<=2147483647/\p.2.2<=2147483647)/\sz p.2.2<=p.1)/\qe p.1 p.2.1 p.2.2=c) (λp=>p.1) (sz b,a,b) ⟨⟨⟨j,k⟩,bc _⟩,l⟩ (aR ?_) ?_;·simp only[zV,seval]
 rintro⟨f,x,y⟩⟨⟨⟨m,e⟩,n⟩,i⟩;simp only at m e n i;simp only[zV,seval,uw (show x<18446744073709551616 by omega)];refine⟨λh=>?_,λh=>?_⟩
 ·have d:y≠0:=by omega
  have o:=iL.2 d;obtain⟨f,rfl⟩:∃g,f=g+1:=⟨f-1,by omega⟩;simp only[qe,ai d]at i;have s:=(kV (a:=x) d).2;have q:=vG (a:=x) d e;refine⟨(λh=>by cases h),az ⟨rfl,rfl⟩ rfl (Q6 x y M (by omega) e d) ?_⟩;simp only[zV,seval,iw (show dx x y<9223372036854775808 by omega)];refine⟨(λh=>by cases h),(f,y,dx x y),⟨⟨⟨⟨e,q⟩,by simp only;omega⟩,i⟩,by simp only;omega⟩,aR ?_⟩;simp only[zV,seval]
 ·have d:y=0:=by omega
  subst d;have :c=x:=by rw[<-i];cases f<;>rfl
  rw[this]
theorem U0(a b:Int)(M:Mem)(h:(a<0\/2147483647<a)\/(b<0\/2147483647<b)):Meets ab 57 [.v (.int .i64 a),.v (.int .i64 b)] M λr _ _=>r=.tup [.v (.int .i64 0),.v (.int .i64 1)]:=by refine aH [0,1,4,5,6,8,13,16] DP rfl (by kernel_rfl) rfl λw=>?_;simp only[Mk,zV,seval];refine az ⟨rfl,rfl⟩ rfl (two a b M) ?_;simp only[zV,seval,UX h]
end Go.X.Pl
namespace Go.X.Rp
open Go Go.X Go.X.Pol Go.X.Pl
theorem pa(x a b:Int)(M:Mem):Meets ab 39 [.v (.int .i64 x),.v (.int .i64 a),.v (.int .i64 b)] M λr _ _=>r=.v (.bool (aU (a<=x/\x<=b))):=by refine aH [0,1,2,6] PW rfl (by kernel_rfl) rfl λw=>?_;simp only[PX,zV,seval];by_cases h:a<=x<;>by_cases c:x<=b<;>simp[h,c]
def pe:List Int->Int|[]=>0|a::l=>if a<0\/2147483647<a then 1 else pe l
theorem jX{α:Type}{l:List α}{i:Nat}(h:i<l.length):∃x,l[i]?=some x/\l.drop i=x::l.drop (i+1):=⟨_,aP h,ft h⟩
theorem Yb(y:ay)(l:List Int)(M:Mem)(b:RowM M y 1 (l.map AN)):Meets ab 33 [.v y] M λr _ _=>r=.v (.int .i64 (pe l)):=by
 refine aH [0,2,4,5,6,7,8,13] Proofs.Tryz.func33 rfl (by kernel_rfl) rfl λw=>?_;generalize j:pe l=c;have d:=b.eQ;rw[ae]at d;simp only[Proofs.Tryz.f33,zV,seval,b.gC,b.sl,ae];refine bE (X:=Nat×Nat) (λx=>([(2,true,.v (.int .i64 0)),(5,true,.v y),(6,true,.v (.int .i64 l.length)),(7,true,.v (.int .i64 x.2))],[],M)) (λx=>x.1+x.2=l.length/\pe (l.drop x.2)=c) (λx=>x.1) (l.length,0) ⟨rfl,j⟩ (aR ?_) ?_;·simp only[zV,seval]
 rintro⟨f,i⟩⟨k,a⟩;simp only at k a;simp only[zV,seval];refine⟨λm=>?_,λm=>?_⟩
 ·obtain⟨e,n,g⟩:=jX (l:=l) (i:=i) (by omega);have h:=b.UH n rfl;have o:=b.ix (i:=(i:Int)) (by omega) (by rw[ae];omega);rw[g]at a;simp only[pe]at a;simp only[zV,seval,h.1];refine⟨o,h.2,az ⟨rfl,rfl⟩ rfl (pa e 0 2147483647 M) ?_⟩;simp only[zV,seval,cY,lo,hi];refine⟨λp=>?_,λp=>⟨by omega,(f-1,i+1),⟨⟨by simp only;omega,by simp only;rw[ai (by omega)]at a;exact a⟩,by simp only;omega⟩,aR ?_⟩⟩;·rw[aF (by omega)]at a;rw[a]
  ·simp only[zV,seval,aJ]
 ·have g:l.drop i=[]:=bh (by omega);rw[g]at a;simp only[pe]at a;rw[a]
theorem tm2(x:Nat):(x:Int).tmod 2=((x%2:Nat):Int):=(Int.ofNat_tmod x 2).symm
theorem td2(x:Nat):(x:Int).tdiv 2=((x/2:Nat):Int):=(Int.ofNat_tdiv x 2).symm
theorem pm2(a k:Nat):a/2^k/2=a/2^(k+1):=by rw[Nat.div_div_eq_div_mul,eK]
theorem CB{x:Nat}(h:x<=9223372036854775807):(-9223372036854775808:Int)<=(x:Int)/\(x:Int)<=9223372036854775807:=by omega
theorem U1(a:Nat)(M:Mem)(d:a<=9223372036854775807):Meets ab 76 [.v (.int .i64 (a:Int))] M (RowR (λs=>s) 1 ((gP (sz a) a).map oM)):=by
 refine aH [0,2,3,5] Proofs.Tryz.func76 rfl (by kernel_rfl) rfl λw=>?_;simp only[Proofs.Tryz.f76,zV,seval];refine eI 3 13 1 rfl rfl rfl ?_;simp only[zV,seval];refine bE (X:=Nat) (λk=>([(0,true,.v (.int .i64 ((a/2^k:Nat):Int))),(3,true,.own 104)],[(104,.row 1 ((gP k a).map oM))],M)) (λk=>k<=sz a) (λk=>sz a-k) 0 (bJ _) (aR ?_) ?_;·simp only[zV,seval,tV,Nat.div_one,K9]
 intro k g;have i:sz a<=63:=fA.2 (by omega);have j:a/2^k<=a:=v_ _ _;simp only[zV,seval,cY,lo,hi,tm2,td2,pm2,ae,eE];refine⟨λb=>?_,λb=>?_⟩
 ·have c:k<sz a:=xY.2 (by
   rcases bR a (2^k)with h|h;·rw[Up h]at b;omega
   ·exact h);have e:a/2^(k+1)<=a:=v_ _ _;have f:((a/2^k%2:Nat):Int)=1↔a/2^k%2=1:=by omega
  refine⟨by omega,CB (b6 e d),k+1,⟨by omega,by omega⟩,aR ?_⟩;simp only[zV,seval,Cv,bq,oM,PV,f]
 ·have c:a<2^k:=by
   rcases bR a (2^k)with h|h;·exact h
   ·have :=Nat.div_pos h (lI k);omega
  have :k=sz a:=by have :=fA.2 c;omega
  subst this;exact⟨.own 104,rfl,rfl⟩
theorem num(y:ay)(n x:Nat)(M:Mem)(a:RowM M y 1 ((gP n x).map oM))(h:n<=62)(c:x<2^n):Meets ab 77 [.v y] M λr _ _=>r=.v (.int .i64 (x:Int)):=by
 refine aH [0,2,3,4,9,17] Proofs.Tryz.func77 rfl (by kernel_rfl) rfl λw=>?_;simp only[Proofs.Tryz.f77,zV,seval,a.gC,a.sl,ae,eE,cY,lo,hi];refine⟨by omega,?_⟩;refine bE (X:=Nat) (λi=>([(0,true,.v y),(3,true,.v (.int .i64 ((x/2^i:Nat):Int))),(4,true,.v (.int .i64 ((i:Int)-1)))],[],M)) (λi=>i<=n) (λi=>i) n (bc _) (aR ?_) ?_;·simp only[zV,seval,Up c]
 intro i m;simp only[zV,seval];have o:x<4611686018427387904:=Nat.lt_of_lt_of_le c (ew (n:=2) (j:=62) (by omega) h);refine⟨λk=>?_,λk=>?_⟩
 ·obtain⟨i,rfl⟩:∃j,i=j+1:=⟨i-1,by omega⟩;have d:=a.UH (pR (x:=x) (show i<n by omega)) rfl;have l:=a.ix (i:=(i:Int)) (by omega) (by rw[ae,eE];omega);have f:=Q0 x i;have p:x/2^i<=x:=v_ _ _;simp only[zV,seval,cY,lo,hi,aJ,Uq,d.1];have g:x/2^(i+1)<=x:=v_ _ _;refine⟨?_,l,d.2,λb=>⟨?_,by omega,i,⟨by omega,by omega⟩,aR ?_⟩,λb=>⟨by omega,i,⟨by omega,by omega⟩,aR ?_⟩⟩;·generalize x/2^(i+1)=z at g;omega
  ·generalize x/2^(i+1)=z at g;omega
  ·have e:((x/2^i:Nat):Int)=((x/2^(i+1):Nat):Int)*2+1:=by rw[f,aF b];generalize x/2^(i+1)=z;omega
   simp only[zV,seval,e]
  ·have e:((x/2^i:Nat):Int)=((x/2^(i+1):Nat):Int)*2:=by rw[f,ai (by rw[b];decide)];generalize x/2^(i+1)=z;omega
   simp only[zV,seval,e]
 ·have :i=0:=by omega
  subst this;rw[tV,Nat.div_one]
theorem OT{M:Mem}{v:ay}{sz:Nat}{es:List (List ay)}(h:RowM M v sz es):lC v sz 0 es.length=v:=by
 have d:=h.sl;have a:=h.gC;cases v<;>simp only[isSl,reduceCtorEq,bp]at d;rename_i b n c;simp only[eB]at a;subst a;simp only[lC,iS,o7];congr 1;split;·rfl
 ·cases b with|none=>rfl|some b=>simp only[cJ,jZ]
theorem Q7(v:ay)(sz k j:Nat):lC (lC v sz 0 k) sz 0 j=lC v sz 0 j:=by
 cases v<;>try rfl
 rename_i a n c;simp only[lC,iS,o7];congr 1;split;·rename_i h;simp only[h,cR]
 ·rename_i h;cases a with|none=>rfl|some a=>simp only[cJ,jZ,ite_self]
theorem pre{M:Mem}{v:ay}{sz k:Nat}{es:List (List ay)}(h:RowM M v sz es)(a:k<=es.length):RowM M (lC v sz 0 k) sz (es.take k):=by have :=h.XO (bJ k) a;simpa using this
theorem U2{M:Mem}{v:ay}{n x k:Nat}(h:RowM M v 1 ((gP n x).map oM))(a:k<=n):RowM M (lC v 1 0 k) 1 ((gP k x).map oM):=by have :=pre h (k:=k) (by rw[ae,eE];exact a);rwa[<-eH,Cw a]at this
theorem U3(y:ay)(n x:Nat)(M:Mem)(f:RowM M y 1 ((gP n x).map oM))(o:x<2^n):Meets ab 135 [.v y] M λr _ _=>r=.v (lC y 1 0 (sz x)):=by
 refine aH [0,2,14] Proofs.Tryz.func135 rfl (by kernel_rfl) rfl λw=>?_;have g:=f.eQ;rw[ae,eE]at g;have a:=OT f;rw[ae,eE]at a;simp only[Proofs.Tryz.f135,zV,seval];refine bE (X:=Nat) (λk=>([(0,true,.v (lC y 1 0 k))],[],M)) (λk=>k<=n/\sz x<=k) (λk=>k) n ⟨bc _,fA.2 o⟩ (aR ?_) ?_;·simp only[zV,seval,a]
 rintro k⟨p,q⟩;have b:=U2 f p;cases k with
  |zero=>
   have :sz x=0:=by omega
   simp only[zV,seval,b.gC,b.sl,ae,eE,this]
  |succ j=>
   have l:=b.UH (pR (x:=x) (show j<j+1 by omega)) rfl;have s:=b.ix (i:=(j:Int)) (by omega) (by rw[ae,eE];omega);have c:=b.1.2.2.1;rw[b.gC,ae,eE]at c;simp only[zV,seval,cY,lo,hi,b.gC,b.sl,ae,eE,aJ,Uq,l.1,Q7];refine⟨λ_=>by omega,λ_=>⟨by omega,s⟩,λ_=>⟨by omega,l.2⟩,λh=>⟨by omega,by omega,j,⟨⟨by omega,?_⟩,by omega⟩,aR ?_⟩,λh=>?_⟩
   ·have e:=h.2;rcases bR j (sz x)with d|d
    ·have t:sz x=j+1:=by omega
     have m:=Iu (x:=x) (iL.1 (by omega));rw[t,Nat.add_sub_cancel,e]at m;cases m
    ·exact d
   ·simp only[zV,seval]
   ·have e:=h (by omega);have :sz x=j+1:=by
     rcases bR j (sz x)with d|d;·omega
     ·rw[Cx d]at e;cases e
    rw[this]
theorem gD{n z j:Nat}(h:j<n):((gP n z).map oM).getD j []=[.bool (z.testBit j)]:=by rw[cN,aN,pR h];rfl
theorem ZX{n z j:Nat}:((gP n z).map oM).set j [.bool (!z.testBit j)]=(gP n (z^^^2^j)).map oM:=by rw[<-K_,oB];rfl
theorem U4{n z j:Nat}(h:z.testBit j=false):((gP n z).map oM).set j [.bool true]=(gP n (z^^^2^j)).map oM:=by rw[<-ZX,h];rfl
theorem ZY(n:Nat):bg n [Value.bool false]=(gP n 0).map oM:=by induction n with|zero=>rfl|succ n a=>rw[Cv,bq,<-a,List.replicate_succ'];simp[oM]
theorem U5(b k i:Nat):b%2^(k+1)*2^i=b%2^k*2^i^^^(if b.testBit k then 2^(i+k)else 0):=by
 rw[Ir,MZ];congr 1;split;·rw[<-Nat.pow_add,Nat.add_comm]
 ·rw[o7]
theorem Na:eB (.slice none 0 0)=0:=rfl
theorem ZZ(u:ay)(l:List Bool)(M:Mem)(a:RowM M u 1 (l.map oM))(b:someV u=true)(e:l.length<=1000000):Meets ab 134 [.v u] M (OwnR (λs=>s) 1 (l.map oM)):=by refine aH [0,2,4] G7 rfl (by kernel_rfl) rfl λw=>?_;obtain⟨c,d⟩:=a.FL (by omega);simp only[Kj,zV,seval,a.sl,b,c,ae];exact⟨⟨by omega,d⟩,56,rfl,rfl⟩
theorem Q8(u:ay)(l:List Bool)(M:Mem)(a:RowM M u 1 (l.map oM))(b:someV u=false):Meets ab 134 [.v u] M λr _ _=>r=.v (.slice none 0 0):=by refine aH [0,2,4] G7 rfl (by kernel_rfl) rfl λw=>?_;simp only[Kj,zV,seval,a.sl,b]
theorem WZ(u v:ay)(n a b:Nat)(M:Mem)(Q:RowM M u 1 ((gP n a).map oM))(c:RowM M v 1 ((gP (sz b) b).map oM))(R:a<2^n)(l:b≠0)(hn:n<=200):Meets ab 75 [.v u,.v v] M (WN 1 ((gP (sz (nA a b)) (nA a b)).map oM) ((gP (sz (dx a b)) (dx a b)).map oM)):=by
 refine aH [0,1,4,5,6,7,8,24,33,34,35,36,40] Proofs.Tryz.func75 rfl (by kernel_rfl) rfl λw=>?_;have y:sz a<=n:=fA.2 R;have z:=iL.2 l;have A:=U2 Q y;have B:=c.eQ;rw[ae,eE]at B;simp only[Proofs.Tryz.f75,zV,seval];refine az ⟨rfl,rfl⟩ rfl (U3 u n a M Q R) ?_;simp only[zV,seval];cases C:someV (lC u 1 0 (sz a))with
  |false=>
   refine az ⟨rfl,rfl⟩ rfl (Q8 _ _ M A C) ?_;have U:sz a=0:=by
    have S:=A.2.1;rw[C]at S;rcases Nat.eq_zero_or_pos (sz a)with h|h;·exact h
    ·exact(Bool.false_ne_true (S (λe=>by have :=aY dU e;rw[ae,eE,bM]at this;omega))).elim
   have D:a=0:=by
    rcases Nat.eq_zero_or_pos a with h|h;·exact h
    ·have :=iL.2 (Nat.ne_of_gt h);omega
   obtain⟨E,F⟩:=kR (a:=a) (b:=b) (q:=0) (r:=0) (by rw[dX,D];rfl) (by rw[vF];exact z);rw[E,F];have G:(max 0 (0-(sz b:Int)+1)).toNat=1-sz b:=by omega
   simp only[zV,seval,cY,lo,hi,Na,c.gC,c.sl,ae,eE,G,ZY];refine⟨by omega,by omega,by omega,?_⟩;refine bE (X:=Unit) (λ_=>([(1,true,.v v),(4,true,.own 152),(5,true,.v (.slice none 0 0))],[(152,.row 1 ((gP (1-sz b) 0).map oM))],M)) (λ_=>True) (λ_=>0) () trivial (aR ?_) ?_;·simp only[zV,seval]
   intro _ _;simp only[zV,seval,Na,c.gC,c.sl,ae,eE];refine⟨λh=>by omega,λ_=>?_⟩;refine iZ (k:=152) rfl λH s m d=>?_;simp only[zV,seval,im,iq,ir];refine az ⟨rfl,rfl⟩ rfl (U3 H _ _ s d (lI _)) ?_;simp only[zV,seval];exact⟨_,_,rfl,U2 d (bJ _),bY _ _⟩
  |true=>
   refine dE eh rfl rfl (ZZ _ _ M A C (by rw[eE];omega)) rfl λs m=>?_;replace c:=c.le m;have G:(max 0 ((sz a:Int)-(sz b:Int)+1)).toNat=sz a+1-sz b:=by omega
   simp only[zV,seval,ae,eE,cY,lo,hi,c.gC,c.sl,G,ZY];refine⟨by omega,by omega,by omega,?_⟩;refine bE (X:=Nat×Nat) (λp=>([(1,true,.v v),(4,true,.own 152),(5,true,.own 88)],[(88,.row 1 ((gP (sz p.2) p.2).map oM)),(152,.row 1 ((gP (sz a+1-sz b) p.1).map oM))],s)) (λp=>((a=cP p.1 b^^^p.2/\∀j,j+sz b<=sz p.2->p.1.testBit j=false)/\sz p.2<=sz a)/\sz p.1<=sz a+1-sz b) (λp=>sz p.2) (0,a) ⟨⟨⟨by rw[dX,jD],λj _=>Nat.zero_testBit j⟩,bc _⟩,bJ _⟩ (aR ?_) ?_;·simp only[zV,seval]
   rintro⟨q,x⟩⟨⟨⟨I,J⟩,V⟩,t⟩;simp only at I J V t;simp only[zV,seval,ae,eE,cY,lo,hi,c.gC,c.sl];refine⟨λW=>?_,λW=>?_⟩
   ·have K:(sz x:Int)-(sz b:Int)=((sz x-sz b:Nat):Int):=by omega
    have L:=J (sz x-sz b) (by omega);simp only[zV,seval,K,ae,eE,U4 L];refine⟨by omega,⟨by omega,by omega⟩,λ_=>trivial,⟨by omega,by omega⟩,?_⟩;refine bE (X:=Nat) (λi=>([(1,true,.v v),(4,true,.own 152),(5,true,.own 88),(6,true,.v (.int .i64 ((sz x-sz b:Nat):Int))),(33,true,.v v),(34,true,.v (.int .i64 (sz b:Nat))),(35,true,.v (.int .i64 i))],[(88,.row 1 ((gP (sz x) (x^^^b%2^i*2^(sz x-sz b))).map oM)),(152,.row 1 ((gP (sz a+1-sz b) (q^^^2^(sz x-sz b))).map oM))],s)) (λi=>i<=sz b) (λi=>sz b-i) 0 (bJ _) (aR ?_) ?_;·simp only[zV,seval,tV,Nat.mod_one,o7,nG]
    intro i Y;simp only[zV,seval];refine⟨λZ=>?_,λZ=>?_⟩
    ·have T:=c.UH (pR (x:=b) (show i<sz b by omega)) rfl;have j2:=c.ix (i:=(i:Int)) (by omega) (by rw[ae,eE];omega);have N:sz x-sz b+i<sz x:=by omega
     simp only[zV,seval,T.1,cY,lo,hi,<-aJ,gD N,ZX,ae,eE];have f:=U5 b i (sz x-sz b);refine⟨j2,T.2,λl=>⟨by omega,by omega,by omega,by omega,by omega,λ_=>trivial,⟨by omega,by omega⟩,by omega,i+1,⟨by omega,by omega⟩,aR ?_⟩,λl=>⟨by omega,i+1,⟨by omega,by omega⟩,aR ?_⟩⟩;·rw[aF l]at f;simp only[zV,seval,f,kN,aJ]
     ·rw[ai (by rw[l];decide),nG]at f;simp only[zV,seval,f,aJ]
    ·have o:i=sz b:=by omega
     subst o;rw[OR (bc _)];have g:=Be l (show sz b<=sz x by omega);refine OC (k:=88) (n:=sz (x^^^b*2^(sz x-sz b))) rfl rfl (λ_=>rfl) (by rw[ae,eE];omega) (λv3 O _ P=>U3 v3 _ _ O P (fA.1 (vo g))) rfl ?_;rw[<-eH,Cw (vo g)];simp only[zV,seval];refine⟨(q^^^2^(sz x-sz b),x^^^b*2^(sz x-sz b)),⟨⟨⟨⟨?_,λj hj=>?_⟩,by simp only;omega⟩,F7 t ?_⟩,g⟩,i6 5 11 440 1 _ rfl rfl rfl rfl (aR ?_)⟩
     ·simp only;rw[h_,oh];conv=>lhs;rw[I]
      rw[show cP q b^^^b*2^(sz x-sz b)^^^(x^^^b*2^(sz x-sz b))=(cP q b^^^x)^^^(b*2^(sz x-sz b)^^^b*2^(sz x-sz b))by ac_rfl,yM,nG]
     ·simp only at hj⊢;rw[pF,ai (by omega)];exact J j (by omega)
     ·rw[Il (k:=sz x-sz b) (bc _) (Nat.pow_lt_pow_right (by omega) (by omega))];omega
     ·simp only[zV,seval]
   ·obtain⟨E,F⟩:=kR I (show sz x<sz b by omega);rw[E,F];refine iZ (k:=152) rfl λH O hM3 d=>?_;simp only[zV,seval,im,iq,ir];refine az ⟨rfl,rfl⟩ rfl (U3 H _ _ O d (fA.1 t)) ?_;simp only[zV,seval];exact⟨_,_,rfl,U2 d t,rfl⟩
/-!### greatest common divisors -/
theorem Z0:∀(f a b:Nat)(M:Mem),a<=2147483647->b<=2147483647->sz b<=f->Meets ab 34 [.v (.int .i64 (a:Int)),.v (.int .i64 (b:Int))] M λr _ _=>r=.v (.int .i64 ((qe f a b:Nat):Int))|f,a,b,M,o,e,C=>by
                                                                                                                                                                                  refine aH [0,1,4,6,8] Proofs.Tryz.func34 rfl (by kernel_rfl) rfl λw=>?_;generalize i:qe f a b=c;simp only[Proofs.Tryz.f34,zV,seval];refine⟨λh=>?_,λh=>?_⟩
                                                                                                                                                                                  ·have d:b=0:=by omega
                                                                                                                                                                                   subst d;have :c=a:=by rw[<-i];cases f<;>rfl
                                                                                                                                                                                   rw[this]
                                                                                                                                                                                  ·have d:b≠0:=by omega
                                                                                                                                                                                   have p:=iL.2 d;obtain⟨f,rfl⟩:∃g,f=g+1:=⟨f-1,by omega⟩;simp only[qe,ai d]at i;have q:=(kV (a:=a) d).2;refine gS eh rfl rfl (U1 a M (by omega)) λs t u j=>?_;simp only[zV,seval];refine gS eh rfl rfl (U1 b t (by omega)) λx y k l=>?_;simp only[zV,seval];refine B4 rfl rfl (WZ s x (sz a) a b y (j.le k) l (od a) d (b6 (s9 o) (by omega))) λD z n A B m=>?_;simp only[zV,seval];refine az ⟨rfl,rfl⟩ rfl (num z _ (dx a b) n m (b6 (vo q) (b6 (s9 e) (by omega))) (od _)) ?_;simp only[zV,seval];refine az ⟨rfl,rfl⟩ rfl (Z0 f b (dx a b) n e (vG d e) (by omega)) ?_;simp only[zV,seval,i]
end Go.X.Rp
namespace Go.X.Md
open Go Go.X Go.X.Pol Go.X.Pl Go.X.Rp
theorem Lb(a b m:Nat)(M:Mem)(c:a<=2147483647)(d:b<=2147483647)(f:m<=2147483647)(e:m≠0):Meets ab 165 [.v (.int .i64 (a:Int)),.v (.int .i64 (b:Int)),.v (.int .i64 (m:Int))] M λr _ _=>r=.tup [.v (.int .i64 ((dx (cP a b) m:Nat):Int)),.v (.int .i64 0)]:=by refine aH [0,1,2,6,7,8,9,11,16,21,24] Proofs.Tryz.func165 rfl (by kernel_rfl) rfl λw=>?_;have g:=UY c d;have i:=vG (a:=cP a b) e f;simp only[Proofs.Tryz.f165,zV,seval];refine az ⟨rfl,rfl⟩ rfl (two a b M) ?_;simp only[zV,seval,La c d];refine az ⟨rfl,rfl⟩ rfl (xZ m M) ?_;simp only[zV,seval,Av (show¬((m:Int)<0\/2147483647<(m:Int))by omega)];refine⟨λh=>(e (by omega)).elim,λ_=>?_⟩;refine az ⟨rfl,rfl⟩ rfl (ZW a b M c d) ?_;simp only[zV,seval];refine az ⟨rfl,rfl⟩ rfl (Q6 (cP a b) m M (by omega) f e) ?_;simp only[zV,seval,iw (show dx (cP a b) m<9223372036854775808 by omega)];exactλh=>by cases h
end Go.X.Md
namespace Go.X.Mv
open Go Go.X Go.X.Pol Go.X.Pl Go.X.Rp Go.X.Md
def Q9(m:Int):Int:=if m<2\/2147483647<m then 1 else 0
theorem mod(m:Int)(M:Mem):Meets ab 117 [.v (.int .i64 m)] M λr _ _=>r=.v (.int .i64 (Q9 m)):=by
 refine aH [0,2,8] Proofs.Tryz.func117 rfl (by kernel_rfl) rfl λw=>?_;simp only[Proofs.Tryz.f117,zV,seval];refine⟨λh=>?_,λh=>?_⟩;·rw[Q9,aF (by omega)]
 ·rw[Q9,ai (by omega)]
theorem U6(m:Int)(M:Mem):Meets ab 37 [.v (.int .i64 m)] M λr _ _=>r=.v (.int .i64 (Q9 m)):=by
 refine aH [0,2,4] Proofs.Tryz.func37 rfl (by kernel_rfl) rfl λw=>?_;simp only[Proofs.Tryz.f37,zV,seval];refine az ⟨rfl,rfl⟩ rfl (pa m 2 2147483647 M) ?_;simp only[zV,seval];refine⟨λh=>?_,λh=>?_⟩;·rw[Q9,ai (by omega)]
 ·rw[Q9,aF (by omega)]
theorem p30{m:Nat}(a:m<=2147483647):2^(sz m-1)<=1073741824:=ew (n:=2) (j:=30) (by omega) (by have :=s9 a;omega)
theorem Q_{m x:Nat}(b:m≠0):dx x m<2^(sz m-1):=fA.1 (by have :=(kV (a:=x) b).2;omega)
theorem F8{m x:Nat}(a:m≠0)(b:m<=2147483647):dx x m<=1073741824:=b6 (vo (Q_ a)) (p30 b)
theorem Yc{m:Nat}(a:2<=m)(b:m<=2147483647):Q9 m=0:=ai (by omega)
end Go.X.Mv
namespace Go.X.Pt
open Go Go.X Go.X.Pol Go.X.Pl Go.X.Rp Go.X.Md Go.X.Mv
def stp(m p c:Nat):Nat:=dx (p*2^8+c) m
def xl(m:Nat)(s:List UInt8)(p:Nat):Nat:=s.foldl (λp c=>stp m p c.toNat) p
theorem Yd{m x e:Nat}(a:m≠0)(d:e<2):dx (2*dx x m+e) m=dx (2*x+e) m:=by
 have b:∀y,2*y+e=2*y^^^e:=λy=>by rw[jL,M_ d,Nat.add_comm]
 have c:∀y,2*y=cP y 2:=λy=>by have :=oh y 1;rw[Nat.pow_one]at this;rw[jR,this,o8]
 rw[b,b,uV a,uV a,c,c,rr a]
theorem U7{q k:Nat}(h:q<2^(k+1)):(0<q&&&2^k)↔2^k<=q:=by
 rcases bR q (2^k)with a|a
 ·have :q&&&2^k=0:=by
   apply Nat.eq_of_testBit_eq;intro j;rw[J8,rN,Nat.zero_testBit];by_cases b:k=j;·subst b;rw[Nat.testBit_lt_two_pow a];rfl
   ·simp[b]
  rw[this];omega
 ·refine⟨λ_=>a,λ_=>Nat.pos_of_ne_zero λe=>?_⟩;have d:=lI k;have c:(q&&&2^k).testBit k=true:=by rw[eK]at h;rw[J8,rN,PV];have :q/2^k=1:=rM (by omega) (by omega);rw[this];simp
  rw[e,Nat.zero_testBit]at c;cases c
theorem U8{m q:Nat}(a:m≠0)(h:q<2^(sz m)):dx q m=if 2^(sz m-1)<=q then q^^^m else q:=by
 obtain⟨d,b,e⟩:=rq a;have g:=iL.2 a;split;·rename_i c;rw[e]at h b;have f:=Im c h d b;exact(kR (q:=1) (r:=q^^^m) (by rw[kB,jL m,kN,yM,nG]) (by have :=fA.2 f;omega)).2
 ·rename_i c;exact om (by have :=fA.2 (show q<2^(sz m-1)by omega);omega)
theorem Iv{s:List UInt8}{i:Nat}{b:UInt8}(h:s[i]?=some b):fc s (i:Int)=((b.toNat:Nat):Int):=by unfold fc;rw[aX,cN,h];rfl
theorem aba(p m:Nat)(s:List UInt8)(M:Mem)(C:2<=m)(e:m<=2147483647)(j:p<=2147483647)(n:s.length<=dB):Meets ab 168 [.v (.int .i64 (p:Int)),.v (.string ⟨s.toArray⟩),.v (.int .i64 (m:Int))] M λr _ _=>r=.v (.int .i64 ((xl m s p:Nat):Int)):=by
 refine aH [0,1,2,6,7,9,11,12,13] Proofs.Tryz.func168 rfl (by kernel_rfl) rfl λw=>?_;have g:m≠0:=by omega
 generalize o:xl m s p=c;simp only[dB]at n;simp only[Proofs.Tryz.f168,zV,↓reduceIte,aj,ak,al,af,aA,ag,reduceCtorEq,aB,aC,aD,aE,aq,ar,au,av,ah,aw];refine bE (X:=Nat×Nat×Nat) (λx=>([(0,true,.v (.int .i64 (x.2.2:Int))),(1,true,.v (.string ⟨s.toArray⟩)),(2,true,.v (.int .i64 m)),(11,true,.v (.int .i64 s.length)),(12,true,.v (.int .i64 x.2.1))],[],M)) (λx=>(x.1+x.2.1=s.length/\x.2.2<=2147483647)/\xl m (s.drop x.2.1) x.2.2=c) (λx=>x.1) (s.length,0,p) ⟨⟨rfl,j⟩,o⟩ (aR ?_) ?_;·simp only[zV,↓reduceIte,aj,ak,al,af,aA,ag,reduceCtorEq,aB,aC,aD,aE,aq,ar,au,av,ah,aw]
 rintro⟨f,i,q⟩⟨⟨t,u⟩,a⟩;simp only at t u a;simp only[zV,↓reduceIte,aj,ak,al,af,aA,ag,reduceCtorEq,aB,aC,aD,aE,aq,ar,au,av,ah,aw,cY,lo,hi,uw (show q<18446744073709551616 by omega),mw,X_];refine⟨λy=>?_,λy=>?_⟩;·obtain⟨b,z,d⟩:=jX (l:=s) (i:=i) (by omega);have A:=Iv z;have B:b.toNat<256:=gu b;rw[d]at a;simp only[xl,lf]at a;have D:=F8 (x:=q*2^8+b.toNat) g e;refine⟨(λh=>by cases h),by omega,by omega,(λh=>by cases h),?_⟩;rw[A,uw (show b.toNat<18446744073709551616 by omega),orw (show q*2^8<18446744073709551616 by omega) (show b.toNat<18446744073709551616 by omega),Q4 (k:=8) (by omega)];refine az ⟨rfl,rfl⟩ rfl (Q6 _ m M (by omega) e g) ?_;simp only[zV,↓reduceIte,aj,ak,al,af,aA,ag,reduceCtorEq,aB,aC,aD,aE,aq,ar,au,av,ah,aw,cY,lo,hi,iw (show dx (q*2^8+b.toNat) m<9223372036854775808 by omega)];refine⟨(λh=>by cases h),by omega,(f-1,i+1,dx (q*2^8+b.toNat) m),⟨⟨⟨by simp only;omega,by simp only;omega⟩,a⟩,by simp only;omega⟩,aR ?_⟩;simp only[zV,↓reduceIte,aj,ak,al,af,aA,ag,reduceCtorEq,aB,aC,aD,aE,aq,ar,au,av,ah,aw,aJ]
 ·have d:s.drop i=[]:=bh (by omega);rw[d]at a;simp only[xl,Mg]at a;rw[a]
theorem Nb(m:Nat)(s:List UInt8)(M:Mem)(b:2<=m)(a:m<=2147483647)(c:s.length<=dB):Meets ab 118 [.v (.int .i64 (m:Int)),.v (.string ⟨s.toArray⟩)] M λr _ _=>r=.v (.int .i64 ((xl m s 1:Nat):Int)):=by
 refine aH [0,1,4,6] Proofs.Tryz.func118 rfl (by kernel_rfl) rfl λw=>?_;have d:m≠0:=by omega
 have e:dx 1 m=1:=om (by have f:sz 1=1:=rfl;have g:=xY.2 (show 2^1<=m by omega);omega);simp only[Proofs.Tryz.f118,zV,↓reduceIte,aj,ak,al,af,aA,ag,reduceCtorEq,aB,aC,aD,aE,aq,ar,au,av,ah,aw];refine az ⟨rfl,rfl⟩ rfl (Q6 1 m M (by omega) a d) ?_;rw[e];simp only[zV,↓reduceIte,aj,ak,al,af,aA,ag,reduceCtorEq,aB,aC,aD,aE,aq,ar,au,av,ah,aw,iw (show 1<9223372036854775808 by omega)];refine⟨(λh=>by cases h),az ⟨rfl,rfl⟩ rfl (aba 1 m s M b a (by omega) c) ?_⟩;simp only[zV,↓reduceIte,aj,ak,al,af,aA,ag,reduceCtorEq,aB,aC,aD,aE,aq,ar,au,av,ah,aw]
def E0(m:Int)(s:List UInt8):Int:=if m<2\/2147483647<m then 1 else if 600<(s.length:Int)then 2 else 0
theorem Ye(m:Int)(s:List UInt8)(M:Mem)(h:E0 m s≠0):Meets ab 66 [.v (.int .i64 m),.v (.string ⟨s.toArray⟩)] M λr _ _=>r=.tup [.v (.int .i64 0),.v (.int .i64 (E0 m s))]:=by
 refine aH [0,1,4,5,6,10,14] DQ rfl (by kernel_rfl) rfl λw=>?_;generalize a:E0 m s=c at h;simp only[Ml,zV,↓reduceIte,aj,ak,al,af,aA,ag,reduceCtorEq,aB,aC,aD,aE,aq,ar,au,av,ah,aw];refine az ⟨rfl,rfl⟩ rfl (mod m M) ?_;by_cases b:m<2\/2147483647<m;·have e:Q9 m=1:=aF b;rw[E0,aF b]at a;subst a;simp only[zV,↓reduceIte,aj,ak,al,af,aA,ag,reduceCtorEq,aB,aC,aD,aE,aq,ar,au,av,ah,aw,e]
 ·have e:Q9 m=0:=ai b;rw[E0,ai b]at a;simp only[zV,↓reduceIte,aj,ak,al,af,aA,ag,reduceCtorEq,aB,aC,aD,aE,aq,ar,au,av,ah,aw,e];by_cases d:600<(s.length:Int);·rw[aF d]at a;refine⟨λ_=>by rw[a],λf=>by omega⟩
  ·rw[ai d]at a;exact(h a.symm).elim
theorem Z1(m:Nat)(s:List UInt8)(M:Mem)(a:2<=m)(b:m<=2147483647)(c:s.length<=600):Meets ab 66 [.v (.int .i64 (m:Int)),.v (.string ⟨s.toArray⟩)] M λr _ _=>r=.tup [.v (.int .i64 ((xl m s 1:Nat):Int)),.v (.int .i64 0)]:=by refine aH [0,1,4,5,6,10,14] DQ rfl (by kernel_rfl) rfl λw=>?_;simp only[Ml,zV,↓reduceIte,aj,ak,al,af,aA,ag,reduceCtorEq,aB,aC,aD,aE,aq,ar,au,av,ah,aw];refine az ⟨rfl,rfl⟩ rfl (mod m M) ?_;simp only[zV,↓reduceIte,aj,ak,al,af,aA,ag,reduceCtorEq,aB,aC,aD,aE,aq,ar,au,av,ah,aw,Yc a b];refine⟨λh=>by omega,λ_=>az ⟨rfl,rfl⟩ rfl (Nb m s M a b (by simp only[dB];omega)) ?_⟩;simp only[zV,↓reduceIte,aj,ak,al,af,aA,ag,reduceCtorEq,aB,aC,aD,aE,aq,ar,au,av,ah,aw]
theorem tdN(a b:Nat):(a:Int).tdiv (b:Int)=((a/b:Nat):Int):=(Int.ofNat_tdiv a b).symm
theorem CC(m:Nat)(s:List UInt8)(M:Mem)(h2:2<=m)(S:m<=2147483647)(U:s.length<=dB):Meets ab 38 [.v (.int .i64 (m:Int)),.v (.string ⟨s.toArray⟩)] M λr _ _=>r=.v (.int .i64 ((xl m s 1:Nat):Int)):=by
 refine aH [0,1,2,4,5,6,7,8,9,13,18,19,20,23] Proofs.Tryz.func38 rfl (by kernel_rfl) rfl λw=>?_;have o:m≠0:=by omega
 generalize W:xl m s 1=c;simp only[dB]at U;have Y:=s9 S;have L:=iL.2 o;obtain⟨g1,g2,N⟩:=rq o;simp only[Proofs.Tryz.f38,zV,↓reduceIte,aj,ak,al,af,aA,ag,reduceCtorEq,aB,aC,aD,aE,aq,ar,au,av,ah,aw];refine⟨λ_=>trivial,?_⟩;refine bE (X:=Nat) (λi=>([(1,true,.v (.string ⟨s.toArray⟩)),(2,true,.ptr 16 0 0 0),(5,true,.ptr 40 0 0 0)],[(40,.box [.v (.int .i64 ((2^i:Nat):Int))] none),(16,.box [.v (.int .i64 (m:Int))] none)],M)) (λi=>i<=sz m-1) (λi=>sz m-i) 0 (bJ _) (aR ?_) ?_;·simp only[zV,↓reduceIte,aj,ak,al,af,aA,ag,reduceCtorEq,aB,aC,aD,aE,aq,ar,au,av,ah,aw,tV]
 intro i C;have p:2^(i+1)=2*2^i:=by rw[eK,o8]
 have Z:2^i<=1073741824:=ew (n:=2) (j:=30) (by omega) (by omega);simp only[zV,↓reduceIte,aj,ak,al,af,aA,ag,reduceCtorEq,aB,aC,aD,aE,aq,ar,au,av,ah,aw,cY,lo,hi];refine⟨by omega,λy=>⟨by omega,λ_=>trivial,i+1,⟨?_,by omega⟩,aR ?_⟩,λy=>⟨λ_=>trivial,?_⟩⟩;·have :i+1<sz m:=xY.2 (by omega);omega
 ·have e:((2^(i+1):Nat):Int)=((2^i:Nat):Int)*2:=by rw[p];generalize 2^i=z;omega
  simp only[zV,↓reduceIte,aj,ak,al,af,aA,ag,reduceCtorEq,aB,aC,aD,aE,aq,ar,au,av,ah,aw,e]
 have D:i=sz m-1:=by have :sz m<=i+1:=fA.2 (by omega);omega
 subst D;clear C y p;generalize A:2^(sz m-1)=T at*;refine j_ rfl rfl ?_;simp only[zV,↓reduceIte,aj,ak,al,af,aA,ag,reduceCtorEq,aB,aC,aD,aE,aq,ar,au,av,ah,aw];refine bE (X:=Nat×Nat×Nat) (λx=>([(1,true,.v (.string ⟨s.toArray⟩)),(6,true,.ptr 48 0 0 0),(7,true,.fn 80 [.ptr 48 0 0 0,.ptr 40 0 0 0,.ptr 16 0 0 0]),(18,true,.v (.int .i64 s.length)),(19,true,.v (.int .i64 x.2.1))],[(48,.box [.v (.int .i64 (x.2.2:Int))] none),(40,.box [.v (.int .i64 (T:Int))] none),(16,.box [.v (.int .i64 (m:Int))] none)],M)) (λx=>(x.1+x.2.1=s.length/\x.2.2<T)/\xl m (s.drop x.2.1) x.2.2=c) (λx=>x.1) (s.length,0,1) ⟨⟨rfl,?_⟩,W⟩ (aR ?_) ?_;·simp only;have :=@xY m 1;rw[<-A];have :2^1<=2^(sz m-1):=ew (by omega) (by omega);omega
 ·simp only[zV,↓reduceIte,aj,ak,al,af,aA,ag,reduceCtorEq,aB,aC,aD,aE,aq,ar,au,av,ah,aw]
 rintro⟨f,i,q⟩⟨⟨y,h4⟩,d⟩;simp only at y h4 d;simp only[zV,↓reduceIte,aj,ak,al,af,aA,ag,reduceCtorEq,aB,aC,aD,aE,aq,ar,au,av,ah,aw,cY,lo,hi];refine⟨λh6=>?_,λh6=>?_⟩
 ·obtain⟨b,hb,E⟩:=jX (l:=s) (i:=i) (by omega);have e1:=Iv hb;have hb2:b.toNat<256:=gu b;rw[E]at d;simp only[xl,lf]at d;generalize hB:b.toNat=B at*;refine bE (X:=Nat) (λj=>([(1,true,.v (.string ⟨s.toArray⟩)),(6,true,.ptr 48 0 0 0),(7,true,.fn 80 [.ptr 48 0 0 0,.ptr 40 0 0 0,.ptr 16 0 0 0]),(8,true,.v (.int .i64 i)),(9,true,.v (.int .i64 ((128/2^j:Nat):Int))),(18,true,.v (.int .i64 s.length)),(19,true,.v (.int .i64 i))],[(48,.box [.v (.int .i64 ((dx (q*2^j+B/2^(8-j)) m:Nat):Int))] none),(40,.box [.v (.int .i64 (T:Int))] none),(16,.box [.v (.int .i64 (m:Int))] none)],M)) (λj=>j<=8) (λj=>8-j) 0 (bJ _) (aR ?_) ?_
  ·have hq:dx (q*2^0+B/2^(8-0)) m=q:=by rw[tV,Nat.mul_one,Up (show B<2^(8-0)by omega),eJ];exact om (by have :=fA.2 (show q<2^(sz m-1)by omega);omega)
   simp only[zV,↓reduceIte,aj,ak,al,af,aA,ag,reduceCtorEq,aB,aC,aD,aE,aq,ar,au,av,ah,aw,hq,tV,Nat.div_one]
  intro j hj;have hV:128/2^j<=128:=v_ _ _;have t:j<=7->128/2^j=2^(7-j):=λh=>by
   have :j=0\/j=1\/j=2\/j=3\/j=4\/j=5\/j=6\/j=7:=by omega
   rcases this with rfl|rfl|rfl|rfl|rfl|rfl|rfl|rfl<;>rfl
  have hBV:B/(128/2^j)<=B:=v_ _ _;have O:=Q_ (x:=q*2^j+B/2^(8-j)) o;rw[A]at O;have a:j<=7->dx (2*dx (q*2^j+B/2^(8-j)) m+B/(128/2^j)%2) m=dx (q*2^(j+1)+B/2^(8-(j+1))) m:=λh=>by rw[Yd o (Af _ (by omega)),t h];congr 1;rw[show 8-j=(7-j)+1 by omega,show 8-(j+1)=7-j by omega,eK,eK,<-Nat.div_div_eq_div_mul,Nat.mul_add,Nat.mul_left_comm,o8 2 (2^j)];omega
  have g:=pm2 128 j;have F:¬0<128/2^j->j=8:=λh=>by
   rcases bR j 8 with h8|h8;·rw[t (by omega)]at h;exact(h (lI _)).elim
   ·omega
  generalize G:dx (q*2^j+B/2^(8-j)) m=P at*;simp only[zV,↓reduceIte,aj,ak,al,af,aA,ag,reduceCtorEq,aB,aC,aD,aE,aq,ar,au,av,ah,aw,cY,lo,hi,e1,tm2,td2,iw (show B<9223372036854775808 by omega),tdN];refine⟨λQ=>?_,λQ=>?_⟩
  ·have H:j<=7:=by
    rcases bR j 8 with h|h;·omega
    ·have :j=8:=by omega
     subst this;simp at Q
   replace a:=a H;refine⟨by omega,(λh=>by cases h),⟨by omega,CB (by omega)⟩,?_⟩;generalize 128/2^j=V at*;have hE:B/V%2<2:=Af _ (by omega);generalize B/V%2=e at*;have R:2*P+e<2^(sz m):=by rw[N,eK,A];omega
   have u:=U8 o R;have I:=U7 (q:=2*P+e) (k:=sz m-1) (by rw[<-N];exact R);rw[A]at u I;refine HW [0,1,2,3,12] Proofs.Tryz.func80 rfl (by kernel_rfl) rfl rfl λxs=>?_;have eS:2*(P:Int)+(e:Int)=((2*P+e:Nat):Int):=by omega
   simp only[Proofs.Tryz.f80,ZB,zV,↓reduceIte,aj,ak,al,af,aA,ag,reduceCtorEq,aB,aC,aD,aE,aq,ar,au,av,ah,aw,cY,lo,hi,eS,td2,g];refine⟨by omega,by omega,λ_=>trivial,by omega,λh9=>?_,λh9=>?_⟩;·rw[aF (I.1 (by omega)),a]at u;refine⟨by omega,λ_=>trivial,CB (by rw[<-g];omega),j+1,⟨by omega,by omega⟩,aR ?_⟩;simp only[zV,↓reduceIte,aj,ak,al,af,aA,ag,reduceCtorEq,aB,aC,aD,aE,aq,ar,au,av,ah,aw,u]
   ·rw[ai (λh=>by have :=I.2 h;omega),a]at u;refine⟨CB (by rw[<-g];omega),j+1,⟨by omega,by omega⟩,aR ?_⟩;simp only[zV,↓reduceIte,aj,ak,al,af,aA,ag,reduceCtorEq,aB,aC,aD,aE,aq,ar,au,av,ah,aw,u]
  ·have J:j=8:=F (by omega);have K:stp m q B=P:=by rw[<-G,J,stp,Nat.sub_self,tV,Nat.div_one]
   rw[K]at d;refine⟨by omega,(f-1,i+1,P),⟨⟨⟨by simp only;omega,O⟩,d⟩,by simp only;omega⟩,aR ?_⟩;simp only[zV,↓reduceIte,aj,ak,al,af,aA,ag,reduceCtorEq,aB,aC,aD,aE,aq,ar,au,av,ah,aw,aJ]
 ·have E:s.drop i=[]:=bh (by omega);rw[E]at d;simp only[xl,Mg]at d;rw[d]
end Go.X.Pt
namespace Go.X.Bg
open Go Go.X
abbrev It:=Int×Int×List UInt8×Int
def eG(x:It):List ay:=[.int .i64 x.1,.int .i64 x.2.1,.string ⟨x.2.2.1.toArray⟩,.int .i64 x.2.2.2]
def Iw(x:It):SV:=.agg [.v (.int .i64 x.1),.v (.int .i64 x.2.1),.v (.string ⟨x.2.2.1.toArray⟩),.v (.int .i64 x.2.2.2)]
def fX(s:List UInt8):Int:=((Pt.xl 65581 s 1:Nat):Int)
theorem Ra(m:Nat)(a:m≠0)(b:m<=2147483647):∀(s:List UInt8)(p:Nat),p<=2147483647->Pt.xl m s p<=2147483647|[],p,h=>h|c::s,p,_=>by exact Ra m a b s _ (b6 (Mv.F8 (x:=p*2^8+c.toNat) a b) (by decide))
theorem x5(s:List UInt8):0<=fX s/\fX s<=2147483647:=by have :=Ra 65581 (by decide) (by decide) s 1 (by decide);unfold fX;omega
def me(x:It):Int:=if 64<x.2.2.1.length then 2 else if x.1≠fX x.2.2.1 then 6 else if(x.2.1<0\/64<=x.2.1)\/(x.2.2.2<1\/1000000<x.2.2.2)then 1 else 0
theorem jY{x:It}(h:me x=0):(x.2.2.1.length<=64/\x.1=fX x.2.2.1)/\(0<=x.2.1/\x.2.1<64)/\1<=x.2.2.2/\x.2.2.2<=1000000:=by
 unfold me at h;split at h;·cases h
 ·split at h;·cases h
  ·rename_i a;split at h;·cases h
   ·exact⟨⟨by omega,kv.1 a⟩,by omega,by omega⟩
theorem Lc(s:List UInt8)(M:Mem)(a:s.length<=dB):Meets ab 118 [.v (.int .i64 65581),.v (.string ⟨s.toArray⟩)] M λr _ _=>r=.v (.int .i64 (fX s)):=Pt.Nb 65581 s M (by decide) (by decide) a
theorem F9(s:List UInt8)(M:Mem)(a:s.length<=dB):Meets ab 38 [.v (.int .i64 65581),.v (.string ⟨s.toArray⟩)] M λr _ _=>r=.v (.int .i64 (fX s)):=Pt.CC 65581 s M (by decide) (by decide) a
theorem one(x:It)(M:Mem):Meets ab 318 [Iw x] M λr _ _=>r=.v (.int .i64 (me x)):=by
 refine aH [0,1,2,3,8,15] Proofs.Tryz.func318 rfl (by kernel_rfl) rfl λw=>?_;generalize a:me x=c;unfold me at a;by_cases p:64<x.2.2.1.length;·rw[aF p]at a;subst a;have i:(64<(x.2.2.1.length:Int))=True:=aK (by omega);simp only[Kk,Iw,zW,seval,i]
 rw[ai p]at a;have i:(64<(x.2.2.1.length:Int))=False:=ax (by omega);simp only[Kk,Iw,zW,seval,i];refine dD (by kernel_rfl) (by kernel_rfl) ?_;simp only[zW,seval];refine⟨_,⟨⟨rfl,rfl⟩,Lc x.2.2.1 M (by simp only[dB];omega)⟩,?_⟩;by_cases f:x.1=fX x.2.2.1;rotate_left;·rw[aF f]at a;subst a;have j:(x.1=fX x.2.2.1)=False:=ax f;simp only[zW,seval,j]
 rw[ai (λe=>e f)]at a;have j:(x.1=fX x.2.2.1)=True:=aK f;simp only[zW,seval,j];by_cases k:x.2.1<0;·rw[aF (.inl (.inl k))]at a;subst a;have b:(x.2.1<0)=True:=aK k;simp only[zW,seval,b];exactλh=>by omega
 have b:(x.2.1<0)=False:=ax k;by_cases l:64<=x.2.1;·rw[aF (.inl (.inr l))]at a;subst a;have d:(64<=x.2.1)=True:=aK l;simp only[zW,seval,b,d];exactλh=>by omega
 have d:(64<=x.2.1)=False:=ax l;by_cases m:x.2.2.2<1;·rw[aF (.inr (.inl m))]at a;subst a;have g:(x.2.2.2<1)=True:=aK m;simp only[zW,seval,b,d,g];exactλh=>by omega
 have g:(x.2.2.2<1)=False:=ax m;by_cases n:1000000<x.2.2.2;·rw[aF (.inr (.inr n))]at a;subst a;have o:(1000000<x.2.2.2)=True:=aK n;simp only[zW,seval,b,d,g,o];exactλh=>by omega
 have o:(1000000<x.2.2.2)=False:=ax n;rw[ai (by omega)]at a;subst a;simp only[zW,seval,b,d,g,o]
def kK(a b:It):Int:=if a.1=b.1 then a.2.1-b.2.1 else a.1-b.1
theorem cmp(a b:It)(M:Mem)(h:(0<=a.1/\a.1<=2147483647)/\(0<=b.1/\b.1<=2147483647)/\(0<=a.2.1/\a.2.1<64)/\(0<=b.2.1/\b.2.1<64)):Meets ab 319 [Iw a,Iw b] M λr _ _=>r=.v (.int .i64 (kK a b)):=by
 refine aH [0,1,2,3,4,9] Proofs.Tryz.func319 rfl (by kernel_rfl) rfl λw=>?_;unfold kK;by_cases d:a.1=b.1;·have c:(a.1=b.1)=True:=aK d;simp only[Kl,Iw,zW,seval,c,cY,lo,hi];omega
 ·have c:(a.1=b.1)=False:=ax d;simp only[Kl,Iw,zW,seval,c,cY,lo,hi];exact⟨by omega,by omega⟩
theorem Z2{α:Type}(j k m n:α->ay)(p:α->Bool)(f:Nat)(b:List SV)(d:SV.concs b=true)(y:ay)(l:List α)(M:Mem)(g:RowM M y 4 (l.map (λx=>[j x,k x,m x,n x])))(F:∀x∈l,Meets ab f (.agg [.v (j x),.v (k x),.v (m x),.v (n x)]::b) M λr _ _=>r=.v (.bool (p x))):Meets ab 312 [.v y,.fn f b] M λr _ _=>r=.v (.int .i64 (fg p l 0)):=by
 refine aH [0,1,4,5,7,8,9,16] Proofs.Tryz.func312 rfl (by kernel_rfl) (by simp only[SV.concs,SV.conc,d,cK]) λw=>?_;generalize G:fg p l 0=c;have q:=g.eQ;rw[ae]at q;simp only[Proofs.Tryz.f312,zV,seval,g.gC,g.sl,ae];refine bE (X:=Nat×Nat) (λx=>([(0,true,.v y),(1,true,.fn f b),(7,true,.v (.int .i64 l.length)),(8,true,.v (.int .i64 x.2))],[],M)) (λx=>x.1+x.2=l.length/\fg p (l.drop x.2) x.2=c) (λx=>x.1) (l.length,0) ⟨rfl,G⟩ (aR ?_) ?_;·simp only[zV,seval]
 rintro⟨H,i⟩⟨I,h⟩;simp only at I h;by_cases s:i<l.length;·have t:((i:Int)<(l.length:Int))=True:=aK (by omega);obtain⟨a,o,u⟩:=cE (l:=l) (i:=i) s;rw[u]at h;simp only[fg]at h;have z:=g.fG (i:=i) (e:=[j a,k a,m a,n a]) (by rw[aN,o];rfl) (off:=0) (by omega);have A:=g.fG (i:=i) (e:=[j a,k a,m a,n a]) (by rw[aN,o];rfl) (off:=1) (by omega);have B:=g.fG (i:=i) (e:=[j a,k a,m a,n a]) (by rw[aN,o];rfl) (off:=2) (by omega);have C:=g.fG (i:=i) (e:=[j a,k a,m a,n a]) (by rw[aN,o];rfl) (off:=3) (by omega);have D:=g.ix (i:=(i:Int)) (by omega) (by rw[ae];omega);simp only[a_,bA]at z A B C;simp only[zW,seval,t,g.gC,g.sl,ae,D,D.2,z.1,z.2.1,A.1,A.2.1,B.1,B.2.1,C.1,C.2.1];refine az ⟨by simp only[SV.concs,SV.conc,d,cK],rfl⟩ rfl (F a (aL o)) ?_;cases E:p a with|true=>rw[E,aF rfl]at h;subst h;simp only[zW,seval]|false=>rw[E,ai (by simp)]at h;simp only[zW,seval,cY,lo,hi];refine⟨by omega,(H-1,i+1),⟨⟨by simp only;omega,h⟩,by simp only;omega⟩,aR ?_⟩;simp only[zV,seval,aJ]
 ·have t:((i:Int)<(l.length:Int))=False:=ax (by omega);have u:l.drop i=[]:=bh (by omega);rw[u]at h;simp only[fg]at h;subst h;simp only[zV,seval,t]
theorem abb{α:Type}(c d e g:α->ay)(p:α->Bool)(f:Nat)(b:List SV)(a:SV.concs b=true)(y:ay)(l:List α)(M:Mem)(h:RowM M y 4 (l.map (λx=>[c x,d x,e x,g x])))(i:∀x∈l,Meets ab f (.agg [.v (c x),.v (d x),.v (e x),.v (g x)]::b) M λr _ _=>r=.v (.bool (p x))):Meets ab 320 [.v y,.fn f b] M λr _ _=>r=.v (.bool (l.any p)):=by refine aH [0,1,4] Proofs.Tryz.func320 rfl (by kernel_rfl) (by simp only[SV.concs,SV.conc,a,cK]) λw=>?_;simp only[Proofs.Tryz.f320,zV,seval];refine az ⟨by simp only[SV.concs,SV.conc,a,cK],rfl⟩ rfl (Z2 c d e g p f b a y l M h i) ?_;rw[<-HX p l 0];simp only[zV,seval]
theorem Yf(b:Nat)(t x:It)(M:Mem)(c:BoxM M b (eG t)):Meets ab 321 [Iw x,.v (bT b)] M λr _ _=>r=.v (.bool (aU (x.2.2.1=t.2.2.1))):=by refine aH [0,1,2,3] Proofs.Tryz.func321 rfl (by kernel_rfl) rfl λw=>?_;have a:=c.H6 (j:=2) rfl;simp only[Proofs.Tryz.f321,Iw,zW,seval,a.1,a.2,rO]
def Hh:Option It->It->Bool|none,_=>false|some p,x=>aU (0<=kK p x)
def Ix:List It->List It->Int|_,[]=>0|a,x::r=>if me x≠0 then me x else if Hh a.getLast? x=true then 3 else if(a.any λy=>aU (y.2.2.1=x.2.2.1))=true then 5 else Ix (a++[x]) r
def gG(l:List It):Int:=if 64<l.length then 2 else Ix [] l
theorem tN{M:Mem}{v:ay}{l:List It}{i:Nat}{r:It}(h:RowM M v 4 (l.map eG))(c:l[i]?=some r):((xj M v 4 i 0=.int .i64 r.1/\yU M v 4 i 0)/\(xj M v 4 i 1=.int .i64 r.2.1/\yU M v 4 i 1))/\((xj M v 4 i 2=.string ⟨r.2.2.1.toArray⟩/\yU M v 4 i 2)/\(xj M v 4 i 3=.int .i64 r.2.2.2/\yU M v 4 i 3))/\FC v (i:Int):=by
 have b:(l.map eG)[i]?=some (eG r):=by rw[aN,c];rfl
 have d:=h.fG b (off:=0) (by omega);have e:=h.fG b (off:=1) (by omega);have f:=h.fG b (off:=2) (by omega);have g:=h.fG b (off:=3) (by omega);refine⟨⟨⟨d.1,d.2.1⟩,⟨e.1,e.2.1⟩⟩,⟨⟨f.1,f.2.1⟩,⟨g.1,g.2.1⟩⟩,?_⟩;have j:=(aI.1 c).1;exact h.ix (i:=(i:Int)) (by omega) (by rw[ae];omega)
theorem Nc(y:ay)(l:List It)(M:Mem)(g:RowM M y 4 (l.map eG)):Meets ab 273 [.v y] M λr _ _=>r=.v (.int .i64 (gG l)):=by
 refine aH [0,2,3,4,5,8,9,10,11,12,19,32,37] Proofs.Tryz.func273 rfl (by kernel_rfl) rfl λw=>?_;generalize o:gG l=c;have q:=g.eQ;rw[ae]at q;by_cases K:64<l.length;·rw[gG,aF K]at o;subst o;have s:(64<(l.length:Int))=True:=aK (by omega);simp only[Km,zW,seval,g.gC,g.sl,ae,s]
 rw[gG,ai K]at o;have s:(64<(l.length:Int))=False:=ax (by omega);simp only[Km,zW,seval,g.gC,g.sl,ae,s];refine bE (X:=Nat×Nat×Mem) (λx=>([(0,true,.v y),(9,true,.v y),(10,true,.v (.int .i64 l.length)),(11,true,.v (.int .i64 x.2.1))],[],x.2.2)) (λx=>((x.1+x.2.1=l.length/\M.le x.2.2)/\∀z∈l.take x.2.1,me z=0)/\Ix (l.take x.2.1) (l.drop x.2.1)=c) (λx=>x.1) (l.length,0,M) ⟨⟨⟨rfl,cg M⟩,by simp⟩,o⟩ (aR ?_) ?_;·simp only[zV,seval]
 rintro⟨f,i,t⟩⟨⟨⟨h1,A⟩,b⟩,a⟩;simp only at h1 a A b;have d:=g.le A;by_cases B:i<l.length;rotate_left;·have C:((i:Int)<(l.length:Int))=False:=ax (by omega);rw[bh (by omega)]at a;simp only[Ix]at a;subst a;simp only[zW,seval,C]
 have C:((i:Int)<(l.length:Int))=True:=aK (by omega);obtain⟨x,D,hd⟩:=cE (l:=l) (i:=i) B;rw[hd]at a;simp only[Ix]at a;obtain⟨⟨L,N⟩,⟨O,P⟩,Q⟩:=tN d D;simp only[zW,seval,C,g.gC,g.sl,ae,Q,Q.2,L.1,L.2,N.1,N.2,O.1,O.2,P.1,P.2];refine az ⟨rfl,rfl⟩ rfl (one x t) ?_;by_cases j:me x=0;rotate_left;·have c2:(me x=0)=False:=ax j;rw[aF j]at a;subst a;simp only[zW,seval,c2]
 rw[ai (λe=>e j)]at a;simp only[zW,seval,j];have hox:=jY j;have hsx:=x5 x.2.2.1;have R:=d.XO (lo:=0) (hi:=i) (by omega) (by rw[ae];omega);rw[cQ,iS,<-eH]at R;have m:=d.1.2.2.1;rw[d.gC,ae]at m;refine lU (X:=Unit) (λ_=>True) (λ_=>([(0,true,.v y),(3,true,.v (.int .i64 i)),(4,true,.ptr 32 0 0 0),(9,true,.v y),(10,true,.v (.int .i64 l.length)),(11,true,.v (.int .i64 i)),(32,true,.v (.bool (Hh (l.take i).getLast? x)))],[(32,.box [.v (.int .i64 x.1),.v (.int .i64 x.2.1),.v (.string ⟨x.2.2.1.toArray⟩),.v (.int .i64 x.2.2.2)] none)],t)) ?_ λ_ _=>?_
 ·by_cases E:i=0;·subst E;refine dD (by kernel_rfl) (by kernel_rfl) ?_;simp only[zW,seval,aZ,Int.lt_irrefl];refine⟨.v (.int .i64 0),?_⟩;simp only[zW,seval];refine⟨(),aR ?_⟩;simp only[zV,seval,fE,Ur,Hh]
  ·refine dD (by kernel_rfl) (by kernel_rfl) ?_;have e1:(0<(i:Int))=True:=aK (by omega);have e2:(i:Int)-1=((i-1:Nat):Int):=by omega
   have F:(l.take i).getLast?=l[i-1]?:=by rw[Hn,a6,i_,aF (by omega)];congr 1;omega
   obtain⟨p,G⟩:∃p,l[i-1]?=some p:=⟨_,aP (by omega)⟩;obtain⟨⟨S,T⟩,⟨U,V⟩,W⟩:=tN d G;have hop:=jY (b p (by rw[List.mem_iff_getElem?];exact⟨i-1,by rw[i_,aF (by omega),G]⟩));have hsp:=x5 p.2.2.1;rw[F,G];simp only[zW,seval,e1,e2,W,W.2,S.1,S.2,T.1,T.2,U.1,U.2,V.1,V.2,cY,lo,hi];refine⟨by omega,_,⟨⟨rfl,rfl⟩,cmp p x t ⟨by omega,by omega,by omega,by omega⟩⟩,?_⟩;simp only[zW,seval];refine⟨(),aR ?_⟩;simp only[zV,seval,Hh]
 cases Y:Hh (l.take i).getLast? x with
  |true=>rw[aF Y]at a;subst a;simp only[zW,seval]
  |false=>
   rw[ai (by simp only[Y];decide)]at a;simp only[zW,seval,g.gC,g.sl];refine⟨by omega,?_⟩;refine j_ rfl rfl ?_;simp only[zW,seval];refine nY (k:=32) rfl rfl λbb H n I=>?_;have J:=R.le n;simp only[uJ,uK,zV,seval];refine az ⟨rfl,rfl⟩ rfl (abb (α:=It) (λx=>.int .i64 x.1) (λx=>.int .i64 x.2.1) (λx=>.string ⟨x.2.2.1.toArray⟩) (λx=>.int .i64 x.2.2.2) (λu=>aU (u.2.2.1=x.2.2.1)) _ _ rfl _ (l.take i) H J (λz _=>Yf bb x z H I)) ?_;cases Z:(l.take i).any λu=>aU (u.2.2.1=x.2.2.1)with
    |true=>rw[aF Z]at a;subst a;simp only[zW,seval]
    |false=>
     rw[ai (by simp only[Z];decide)]at a;simp only[zW,seval,cY,lo,hi];refine⟨by omega,(f-1,i+1,H),⟨⟨⟨⟨by simp only;omega,A.dC n⟩,?_⟩,?_⟩,by simp only;omega⟩,aR ?_⟩
     ·simp only;intro z h;rw[cm,D]at h;rcases bU.1 h with h|h;·exact b z h
      ·simp only[PD,bD]at h;subst h;exact j
     ·simp only;rw[cm,D];exact a
     ·simp only[zV,seval,aJ]
def ko(id:Bool×Int×Int)(x:It):Bool:=id.1&&(aU (x.1=id.2.1)&&aU (x.2.1=id.2.2))
def Kc(id:Bool×Int×Int):SV:=.agg [.v (.bool id.1),.v (.int .i64 id.2.1),.v (.int .i64 id.2.2)]
theorem Z3(b:Nat)(id:Bool×Int×Int)(x:It)(M:Mem)(a:BoxM M b [.bool id.1,.int .i64 id.2.1,.int .i64 id.2.2]):Meets ab 322 [Iw x,.v (bT b)] M λr _ _=>r=.v (.bool (ko id x)):=by
 refine aH [0,1,2,3] Proofs.Tryz.func322 rfl (by kernel_rfl) rfl λw=>?_;have c:=a.H6 (j:=0) rfl;have d:=a.H6 (j:=1) rfl;have e:=a.H6 (j:=2) rfl;unfold ko;simp only[Proofs.Tryz.f322,Iw,zW,seval,c.1,c.2,d.1,d.2,e.1,e.2];cases h:id.1 with
  |false=>simp only[zW,seval,jI]
  |true=>
   by_cases f:x.1=id.2.1;·by_cases g:x.2.1=id.2.2<;>simp[f,g]
   ·simp[f]
theorem Rc(y:ay)(l:List It)(id:Bool×Int×Int)(M:Mem)(d:RowM M y 4 (l.map eG)):Meets ab 274 [.v y,Kc id] M λr _ _=>r=.v (.int .i64 (fg (ko id) l 0)):=by refine aH [0,1,3,4] Proofs.Tryz.func274 rfl (by kernel_rfl) rfl λw=>?_;simp only[Proofs.Tryz.f274,Kc,zW,seval];refine j_ rfl rfl ?_;simp only[zW,seval];refine nY (k:=24) rfl rfl λe c a b=>?_;simp only[uJ,uK,zV,seval];refine az ⟨rfl,rfl⟩ rfl (Z2 (α:=It) (λx=>.int .i64 x.1) (λx=>.int .i64 x.2.1) (λx=>.string ⟨x.2.2.1.toArray⟩) (λx=>.int .i64 x.2.2.2) (ko id) _ _ rfl _ l c (d.le a) (λz _=>Z3 e id z c b)) ?_;simp only[zW,seval]
theorem U9(y:ay)(l:List It)(id:Bool×Int×Int)(M:Mem)(b:RowM M y 4 (l.map eG)):Meets ab 150 [.v y,Kc id] M λr _ _=>r=.v (.int .i64 (fg (ko id) l 0)):=by
 refine aH [0,1,3,4,5,6,7,8,9,10,20] Proofs.Tryz.func150 rfl (by kernel_rfl) rfl λw=>?_;generalize q:fg (ko id) l 0=c;have g:=b.eQ;rw[ae]at g;simp only[Proofs.Tryz.f150,Kc,zV,seval,b.gC,b.sl,ae];refine bE (X:=Nat×Nat) (λx=>([(0,true,.v y),(3,true,.ptr 24 0 0 0),(7,true,.v y),(8,true,.v (.int .i64 l.length)),(9,true,.v (.int .i64 x.2))],[(24,.box [.v (.bool id.1),.v (.int .i64 id.2.1),.v (.int .i64 id.2.2)] none)],M)) (λx=>x.1+x.2=l.length/\fg (ko id) (l.drop x.2) x.2=c) (λx=>x.1) (l.length,0) ⟨rfl,q⟩ (aR ?_) ?_;·simp only[zV,seval]
 rintro⟨f,i⟩⟨s,a⟩;simp only at s a;by_cases h:i<l.length;rotate_left;·have j:((i:Int)<(l.length:Int))=False:=ax (by omega);rw[bh (by omega)]at a;simp only[fg]at a;subst a;simp only[zW,seval,j]
 have j:((i:Int)<(l.length:Int))=True:=aK (by omega);obtain⟨x,t,u⟩:=cE (l:=l) (i:=i) h;rw[u]at a;simp only[fg]at a;obtain⟨⟨k,m⟩,⟨n,o⟩,p⟩:=tN b t;simp only[zW,seval,j,b.gC,b.sl,ae,p,p.2,k.1,k.2,m.1,m.2,n.1,n.2,o.1,o.2];refine⟨λd=>?_,λd=>?_⟩;·rw[aF (by unfold ko;rw[d.1,d.2.1,d.2.2];simp)]at a;rw[a]
 ·rw[ai (by unfold ko;intro e;simp only[ba,br]at e;exact d e.1 e.2.1.symm e.2.2.symm)]at a;refine⟨by simp only[cY,lo,hi];omega,(f-1,i+1),⟨⟨by simp only;omega,a⟩,by simp only;omega⟩,aR ?_⟩;simp only[zV,seval,aJ]
theorem uW(x a b:Int)(M:Mem):Meets ab 39 [.v (.int .i64 x),.v (.int .i64 a),.v (.int .i64 b)] M λr _ _=>r=.v (.bool (aU (a<=x/\x<=b))):=by refine aH [0,1,2,6] PW rfl (by kernel_rfl) rfl λw=>?_;simp only[PX,zV,seval];by_cases c:a<=x<;>by_cases d:x<=b<;>simp[c,d]
theorem abc(y:ay)(l:List It)(M:Mem)(b:RowM M y 4 (l.map eG)):Meets ab 193 [.v y] M λr _ _=>r=.v (.int .i64 (gG l)):=by
 refine aH [0,2,3,4,6,9,10,11,12,13,20,26,36,71,74,75,76,77,84] Proofs.Tryz.func193 rfl (by kernel_rfl) rfl λw=>?_;generalize J:gG l=c;have T:=b.eQ;rw[ae]at T;by_cases hg:64<l.length;·rw[gG,aF hg]at J;subst J;have U:(64<(l.length:Int))=True:=aK (by omega);simp only[Kn,zW,seval,b.gC,b.sl,ae,U]
 rw[gG,ai hg]at J;have U:(64<(l.length:Int))=False:=ax (by omega);simp only[Kn,zW,seval,b.gC,b.sl,ae,U];refine bE (X:=Nat×Nat) (λx=>([(0,true,.v y),(10,true,.v y),(11,true,.v (.int .i64 l.length)),(12,true,.v (.int .i64 x.2))],[],M)) (λx=>(x.1+x.2=l.length/\∀z∈l.take x.2,me z=0)/\Ix (l.take x.2) (l.drop x.2)=c) (λx=>x.1) (l.length,0) ⟨⟨rfl,by simp⟩,J⟩ (aR ?_) ?_;·simp only[zV,seval]
 rintro⟨f,i⟩⟨⟨h1,s⟩,a⟩;simp only at h1 a s;by_cases V:i<l.length;rotate_left;·have K:((i:Int)<(l.length:Int))=False:=ax (by omega);rw[bh (by omega)]at a;simp only[Ix]at a;subst a;simp only[zW,seval,K]
 have K:((i:Int)<(l.length:Int))=True:=aK (by omega);obtain⟨x,W,hd⟩:=cE (l:=l) (i:=i) V;rw[hd]at a;simp only[Ix]at a;obtain⟨⟨C,D⟩,⟨L,N⟩,O⟩:=tN b W;by_cases E:64<x.2.2.1.length;·have Y:(64<(x.2.2.1.length:Int))=True:=aK (by omega);rw[show me x=2 by unfold me;rw[aF E],aF (by decide)]at a;subst a;simp only[zW,seval,K,Y,b.gC,b.sl,ae,O,O.2,C.1,C.2,D.1,D.2,L.1,L.2,N.1,N.2]
 have Y:(64<(x.2.2.1.length:Int))=False:=ax (by omega);simp only[zW,seval,K,Y,b.gC,b.sl,ae,O,O.2,C.1,C.2,D.1,D.2,L.1,L.2,N.1,N.2];refine dD (by kernel_rfl) (by kernel_rfl) ?_;simp only[zW,seval];refine⟨_,⟨⟨rfl,rfl⟩,F9 x.2.2.1 M (by simp only[dB];omega)⟩,?_⟩;by_cases B:fX x.2.2.1=x.1;rotate_left;·have c3:(fX x.2.2.1=x.1)=False:=ax B;rw[show me x=6 by unfold me;rw[ai E,aF (λe=>B e.symm)],aF (by decide)]at a;subst a;simp only[zW,seval,c3]
 simp only[zW,seval,B];refine az ⟨rfl,rfl⟩ rfl (uW x.2.1 0 63 M) ?_;by_cases k3:0<=x.2.1/\x.2.1<=63;rotate_left;·rw[show me x=1 by unfold me;rw[ai E,ai (λe=>e B.symm),aF (by omega)],aF (by decide)]at a;subst a;have Z:aU (0<=x.2.1/\x.2.1<=63)=false:=bI k3;simp only[zW,seval,Z]
 have Z:aU (0<=x.2.1/\x.2.1<=63)=true:=cy k3;simp only[zW,seval,Z];refine az ⟨rfl,rfl⟩ rfl (uW x.2.2.2 1 1000000 M) ?_;by_cases k4:1<=x.2.2.2/\x.2.2.2<=1000000;rotate_left;·rw[show me x=1 by unfold me;rw[ai E,ai (λe=>e B.symm),aF (by omega)],aF (by decide)]at a;subst a;have c5:aU (1<=x.2.2.2/\x.2.2.2<=1000000)=false:=bI k4;simp only[zW,seval,c5]
 have c5:aU (1<=x.2.2.2/\x.2.2.2<=1000000)=true:=cy k4;have he:me x=0:=by unfold me;rw[ai E,ai (λe=>e B.symm),ai (by omega)]
 rw[ai (λe=>e he)]at a;simp only[zW,seval,c5];have P:=b.XO (lo:=0) (hi:=i) (by omega) (by rw[ae];omega);rw[cQ,iS,<-eH]at P;have F:=b.1.2.2.1;rw[b.gC,ae]at F;refine lU (X:=Unit) (λ_=>True) (λ_=>([(0,true,.v y),(3,true,.v (.int .i64 i)),(4,true,.ptr 32 0 0 0),(10,true,.v y),(11,true,.v (.int .i64 l.length)),(12,true,.v (.int .i64 i)),(71,true,.v (.bool (Hh (l.take i).getLast? x)))],[(32,.box [.v (.int .i64 x.1),.v (.int .i64 x.2.1),.v (.string ⟨x.2.2.1.toArray⟩),.v (.int .i64 x.2.2.2)] none)],M)) ?_ λ_ _=>?_
 ·by_cases hi0:i=0;·subst hi0;refine dD (by kernel_rfl) (by kernel_rfl) ?_;simp only[zW,seval,aZ,Int.lt_irrefl,C.1,D.1];refine⟨(),aR ?_⟩;simp only[zV,seval,fE,Ur,Hh]
  ·refine dD (by kernel_rfl) (by kernel_rfl) ?_;have e1:(0<(i:Int))=True:=aK (by omega);have e2:(i:Int)-1=((i-1:Nat):Int):=by omega
   have hgl:(l.take i).getLast?=l[i-1]?:=by rw[Hn,a6,i_,aF (by omega)];congr 1;omega
   obtain⟨p,hp⟩:∃p,l[i-1]?=some p:=⟨_,aP (by omega)⟩;obtain⟨⟨d,g⟩,⟨k,m⟩,n⟩:=tN b hp;rw[hgl,hp];by_cases m1:x.1<p.1
   ·have Q:(x.1<p.1)=True:=aK m1;simp only[zW,seval,e1,e2,n,n.2,d.1,d.2,g.1,g.2,k.1,k.2,m.1,m.2,cY,lo,hi,Q];have G:Hh (some p) x=true:=by unfold Hh kK;simp only;rw[ai (by omega)];exact cy (by omega)
    refine⟨by omega,(),aR ?_⟩;simp only[zV,seval,G]
   have Q:(x.1<p.1)=False:=ax m1;by_cases R:p.1=x.1
   ·have H:(p.1=x.1)=True:=aK R;simp only[zW,seval,e1,e2,n,n.2,d.1,d.2,g.1,g.2,k.1,k.2,m.1,m.2,cY,lo,hi,Q,H];have G:Hh (some p) x=aU (x.2.1<=p.2.1):=by unfold Hh kK;simp only;rw[aF R];exact decide_eq_decide.2 ⟨λh=>by omega,λh=>by omega⟩
    refine⟨by omega,by omega,by omega,(),aR ?_⟩;simp only[zV,seval,G]
   ·have H:(p.1=x.1)=False:=ax R;simp only[zW,seval,e1,e2,n,n.2,d.1,d.2,g.1,g.2,k.1,k.2,m.1,m.2,cY,lo,hi,Q,H];have G:Hh (some p) x=false:=by unfold Hh kK;simp only;rw[ai R];exact bI (by omega)
    refine⟨by omega,by omega,(),aR ?_⟩;simp only[zV,seval,G]
 cases hb:Hh (l.take i).getLast? x with
  |true=>rw[aF hb]at a;subst a;simp only[zW,seval]
  |false=>
   rw[ai (by simp only[hb];decide)]at a;simp only[zW,seval,b.gC,b.sl];refine⟨by omega,?_⟩;have I:=P.gC;rw[ae,a6,cT (by omega)]at I;generalize lC y 4 0 i=z at*;simp only[zW,seval,I,P.sl];refine bE (X:=Nat×Nat) (λq=>([(0,true,.v y),(3,true,.v (.int .i64 i)),(4,true,.ptr 32 0 0 0),(10,true,.v y),(11,true,.v (.int .i64 l.length)),(12,true,.v (.int .i64 i)),(74,true,.v z),(75,true,.v (.int .i64 i)),(76,true,.v (.int .i64 q.2))],[(32,.box [.v (.int .i64 x.1),.v (.int .i64 x.2.1),.v (.string ⟨x.2.2.1.toArray⟩),.v (.int .i64 x.2.2.2)] none)],M)) (λq=>q.1+q.2=i/\((l.take i).any λu=>aU (u.2.2.1=x.2.2.1))=((l.take i).drop q.2).any λu=>aU (u.2.2.1=x.2.2.1)) (λq=>q.1) (i,0) ⟨rfl,rfl⟩ (aR ?_) ?_;·simp only[zV,seval]
   rintro⟨H,j⟩⟨n1,t⟩;simp only at n1 t;by_cases hji:j<i;rotate_left
   ·have S:((j:Int)<(i:Int))=False:=ax (by omega);rw[bh (by rw[a6];omega)]at t;rw[ai (by rw[t];simp)]at a;simp only[zW,seval,S,cY,lo,hi];refine⟨by omega,(f-1,i+1),⟨⟨⟨by simp only;omega,?_⟩,?_⟩,by simp only;omega⟩,aR ?_⟩
    ·simp only;intro z A;rw[cm,W]at A;rcases bU.1 A with A|A;·exact s z A
     ·simp only[PD,bD]at A;subst A;exact he
    ·simp only;rw[cm,W];exact a
    ·simp only[zV,seval,aJ]
   have S:((j:Int)<(i:Int))=True:=aK (by omega);obtain⟨u,hu,hd2⟩:=cE (l:=l.take i) (i:=j) (by rw[a6];omega);obtain⟨⟨d,g⟩,⟨k,m⟩,n⟩:=tN P hu;rw[hd2]at t;by_cases o:u.2.2.1=x.2.2.1;·have d3:(u.2.2.1=x.2.2.1)=True:=aK o;rw[aF (by rw[t,List.any_cons,cy o,Bool.true_or])]at a;subst a;simp only[zW,seval,S,d3,n,n.2,d.1,d.2,g.1,g.2,k.1,k.2,m.1,m.2,rO]
   ·have d3:(u.2.2.1=x.2.2.1)=False:=ax o;rw[List.any_cons,bI o,T0]at t;simp only[zW,seval,S,d3,n,n.2,d.1,d.2,g.1,g.2,k.1,k.2,m.1,m.2,rO,cY,lo,hi];refine⟨by omega,(H-1,j+1),⟨⟨by simp only;omega,t⟩,by simp only;omega⟩,aR ?_⟩;simp only[zV,seval,aJ]
end Go.X.Bg
namespace Go.Proofs
open Go.Shelf
def zh:lH:=⟨λ|160=>190|232=>247|231=>246|227=>248|234=>250|233=>249|236=>252|235=>251|228=>291|271=>293|151=>292|197=>107|120=>334|152=>333|260=>157|137=>116|119=>346|224=>103|225=>102|217=>101|266=>155|n=>n,λ|9=>9|4=>4|3=>3|5=>5|117=>268|116=>267|0=>0|124=>271|21=>21|105=>149|46=>148|119=>229|139=>232|138=>231|n=>n,λ|3=>1|4=>2|n=>n⟩
theorem x6:Go.Proofs.Lays.n160 ab zh:={mixed:=by kernel_rfl,f119:=Tryz.func346.trans (aY some (by kernel_rfl)),f120:=Tryz.func334.trans (aY some (by kernel_rfl)),f137:=Un.trans (aY some (by kernel_rfl)),f151:=Tryz.func292.trans (aY some (by kernel_rfl)),f152:=Tryz.func333.trans (aY some (by kernel_rfl)),f160:=J9.trans (aY some (by kernel_rfl)),f197:=Tryz.func107.trans (aY some (by kernel_rfl)),f217:=TX.trans (aY some (by kernel_rfl)),f224:=Tryz.func103.trans (aY some (by kernel_rfl)),f225:=Tryz.func102.trans (aY some (by kernel_rfl)),f227:=Tryz.func248.trans (aY some (by kernel_rfl)),f228:=Tryz.func291.trans (aY some (by kernel_rfl)),f231:=Tryz.func246.trans (aY some (by kernel_rfl)),f232:=Tryz.func247.trans (aY some (by kernel_rfl)),f233:=Tryz.func249.trans (aY some (by kernel_rfl)),f234:=Tryz.func250.trans (aY some (by kernel_rfl)),f235:=Tryz.func251.trans (aY some (by kernel_rfl)),f236:=Tryz.func252.trans (aY some (by kernel_rfl)),f260:=Tryz.func157.trans (aY some (by kernel_rfl)),f266:=TY.trans (aY some (by kernel_rfl)),f271:=Tryz.func293.trans (aY some (by kernel_rfl)),t0:=yL,a0:=Oi,z0:=J6,v0:=AJ,t3:=jk,a3:=xt,z3:=vm,v3:=dJ,t4:=pU,a4:=PR,z4:=Mb,v4:=BF,t5:=l8,a5:=tF,z5:=qF,v5:=mP,t9:=gX,a9:=tG,z9:=qG,v9:=mQ,t21:=Tryz.underlying21,a21:=Tryz.isAgg21,z21:=Tryz.sizeOf21,v21:=Tryz.zeroValue21,t46:=uf,a46:=DZ,z46:=A7,v46:=v8,t105:=Tryz.underlying149,a105:=Tryz.isAgg149,z105:=Tryz.sizeOf149,v105:=Tryz.zeroValue149,t116:=Tryz.underlying267,a116:=Tryz.isAgg267,z116:=Tryz.sizeOf267,t117:=Tryz.underlying268,a117:=Tryz.isAgg268,z117:=Tryz.sizeOf268,v117:=Tryz.zeroValue268,t119:=Tryz.underlying229,a119:=Tryz.isAgg229,z119:=Tryz.sizeOf229,t124:=Tryz.underlying271,a124:=Tryz.isAgg271,z124:=Tryz.sizeOf271,v124:=Tryz.zeroValue271,t138:=Tryz.underlying231,a138:=Tryz.isAgg231,z138:=Tryz.sizeOf231,v138:=Tryz.zeroValue231,t139:=Tryz.underlying232,a139:=Tryz.isAgg232,z139:=Tryz.sizeOf232,v139:=Tryz.zeroValue232,g3:=by kernel_rfl,g4:=by kernel_rfl}
end Go.Proofs
namespace Go.X.St
open Go Go.X Go.RowKit
theorem Yg(s:List UInt8)(M:Mem)(a:s.length<=9223372036854775807):Meets ab 190 [.v (.string ⟨s.toArray⟩),.v (.string ⟨#[48,49]⟩)] M λr _ _=>r=.v (.string ⟨(DR s [48,49]).toArray⟩):=by refine rm ⟨_,J9,by kernel_rfl,by kernel_rfl⟩ λw=>?_;exact Proofs.Any.strings_Trim_laid Proofs.x6 (by kernel_rfl) ⟨s.toArray⟩ ⟨#[48,49]⟩ w (by simpa[pc]using a) (by decide) (Proofs.ascii_of_all (by decide))
end Go.X.St
