/- Contracts of functions, and the logic in which they are proved. Conditions: none. -/
import Derived.Test.YthafjlokddpjfaaGreatDoorMb
import Derived.Lib.Bytealg
import Derived.Shelf.SlSortFuncK.WholeK
import Derived.Shelf.GgSortFunc.Tiny
import Derived.Test.YthafjlokddpjfaaGreatDoorMa
import Derived.Shelf.Small.Strs
import Derived.Deep.QuietTactic
set_option linter.all false
set_option maxHeartbeats 4000000
set_option maxRecDepth 20000
open Array renaming extract_eq_self_of_le->qH,getElem?_append_left->mO,getElem?_eq_getElem->eC,getElem?_eq_some_iff->bV,getElem?_modify->gr,getElem?_toList->cu,length_toList->jE,replicate->nV
open Bool renaming and_eq_true->ba,and_self->cK,and_true->yI,false_and->jI,false_eq_true->bp,false_or->T0,not_eq_true'->np,not_false->nQ,not_true->yH,or_eq_true->ug,true_and->fJ
open ByteArray renaming size->pc
open Decidable renaming decide->aU,of_not_not->l9
open Go renaming Act->xp,Addr->qz,FuncId->kH,Oper->db,Operand->bB,Program->bZ,TypeId->bL,Value->ay,World->bQ,execOp->da,getD_replicate_false->sG,maxLen->dB,ready_mono->L9,run_underlying->a8,undef->dN
open Go.Addr renaming add->Ac,add_lit->mg
open Go.ByteArray renaming toList_eq->Fy
open Go.Exit renaming normal->fF
open Go.Extern.ReflectliteSwapper renaming swap->vp
open Go.Extern.SlicesOverlaps renaming overlaps->nP
open Go.Instr renaming checkKey->oD,sameBits->G5,sureAddr->gj
open Go.IntKind renaming i64->bX,u64->o5,wrap->xq
open Go.Lib renaming compareBytes->pz,swapperK->xi,trimS->DR
open Go.Op renaming bytesLess->cd
open Go.Oper renaming upon->sF,wp->oC
open Go.Proofs renaming LessReadsK->P0,sortWorldK->Aj
open Go.Proofs.Tryz renaming f142->xy,f148->Kq,f149->Kr,f189->xw,f192->Ko,f194->Ks,f275->xx,f279->xB,f315->Kp,f326->q_,f327->xA,f330->q9,func148->G8,func149->G9,func190->J9,func194->G_,func196->P4,func279->uv,func325->P3,func327->uu,isAgg0->Oi,isAgg148->DZ,isAgg189->BG,isAgg3->xt,isAgg4->PR,isAgg5->tF,isAgg9->tG,prog->ab,sizeOf0->J6,sizeOf148->A7,sizeOf189->Ah,sizeOf3->vm,sizeOf4->Mb,sizeOf5->qF,sizeOf9->qG,underlying0->yL,underlying103->Oj,underlying148->uf,underlying178->pV,underlying189->tH,underlying20->xg,underlying3->jk,underlying4->pU,underlying5->l8,underlying9->gX,zeroValue0->AJ,zeroValue148->v8,zeroValue189->ur,zeroValue3->dJ,zeroValue4->BF,zeroValue5->mP,zeroValue9->mQ
open Go.Region renaming Mode->BC,binds->ue,chainB->lA,noSelect->iG,ready->el,seqB->BD,sinkB->mi,wanted->xr
open Go.Result renaming andThen_ok->aQ
open Go.RowKit renaming Below->um
open Go.RowKit.Below renaming refl->dQ
open Go.Sem renaming run_bind->a7,run_pure->bC
open Go.Shelf renaming Ren->lH
open Go.Sort renaming HoldsK->FB,ahead->nS,flatK->nR,grow->qo,mapBlock->uh,putRow->yN,putRowK->gw
open Go.Value renaming int->cz,slice->DJ,string->iF
open Go.World renaming setRow->v7
open Int renaming add_zero->PY,natCast_add->aJ,natCast_one->cB,natCast_zero->aZ,not_lt->PZ,reduceAdd->aq,reduceEq->aB,reduceLE->aE,reduceLT->aD,reduceMul->au,reduceNe->aC,reduceNeg->av,reduceSub->ar,reduceToNat->ah,sub_zero->EB,toNat_natCast->aX
open List renaming all_cons->xf,all_eq_true->l7,all_reverse->EA,any_eq_false->Us,append_assoc->bN,append_nil->cS,count_append->mC,count_cons->xz,count_eq_zero->T5,count_le_length->T3,drop->nc,drop_drop->l6,drop_eq_getElem_cons->ft,drop_eq_nil_of_le->bh,drop_of_length_le->TQ,drop_zero->cQ,ext_getElem?->gA,filterMap_cons->bK,filterMap_nil->eu,filter_append->G',filter_cons->nH,filter_eq_self->DS,find?_append->Ut,find?_eq_none->T4,flatMap_append->iv,flatMap_cons->lq,flatMap_nil->oE,flatten_append->j4,flatten_cons->jF,foldl_cons->lf,getD_cons_succ->bA,getD_cons_zero->a_,getD_eq_getElem?_getD->cN,getElem?_append_left->cW,getElem?_append_right->nF,getElem?_cons_zero->dS,getElem?_drop->fx,getElem?_eq_getElem->aP,getElem?_eq_none->dm,getElem?_eq_some_iff->aI,getElem?_map->aN,getElem?_set->nr,getElem?_set_self->mz,getElem?_take->i_,getElem?_toArray->dH,getElem_map->iH,getElem_mem->G4,length->dU,length_append->aG,length_cons->aM,length_drop->aT,length_flatten->Ag,length_map->ae,length_nil->bM,length_replicate->dT,length_set->eg,length_singleton->bG,length_take->a6,map_append->bq,map_cons->ca,map_drop->fI,map_map->jB,map_nil->cr,map_set->oB,map_take->eH,mem_append->bU,mem_cons->aV,mem_cons_of_mem->bm,mem_cons_self->bn,mem_filter->BI,mem_filterMap->bH,mem_flatten->rH,mem_iff_getElem->Ai,mem_map->dq,mem_map_of_mem->du,mem_of_getElem?->aL,mem_of_mem_drop->cG,mem_of_mem_take->cq,mem_replicate->A5,mem_singleton->bD,nil_append->eX,nodup_cons->gK,not_mem_nil->cH,pairwise_append->rK,pairwise_cons->dt,pairwise_iff_getElem->iI,pairwise_map->kO,range->sE,replicate->bg,size_toArray->dh,sum_replicate_nat->Mm,take_add_one->cm,take_append_drop->iT,take_append_of_le_length->jC,take_length->sH,take_of_length_le->bz,take_zero->fE,toArray_eq_iff->rO
open List.Sublist renaming refl->qB
open List.cons renaming inj->J4,injEq->A3
open Nat renaming add_assoc->pd,add_mul->jH,add_zero->eJ,div_eq_of_lt->Up,le_refl->bc,le_trans->b6,lt_or_ge->bR,min->qC,min_eq_left->cT,mul_le_mul_right->il,reduceAdd->aj,reduceBEq->aw,reduceDiv->al,reduceEqDiff->af,reduceLT->aA,reduceLeDiff->ag,reduceMul->ak,sub_zero->iS,zero_add->b7,zero_le->bJ
open Ne renaming symm->wB
open Option renaming getD_none->o6,getD_some->dn,isSome_iff_exists->ij,isSome_none->nk,map_eq_some_iff->dy,map_none->uo,map_some->cJ,toList_some->PD
open Option.some renaming inj->d_,injEq->aO
open Prod renaming fst->yF
open Prod.mk renaming injEq->cD
open UInt8 renaming lt_iff_toNat_lt->j5,ofNat->bo,ofNat_toNat->jm,toNat_inj->rJ,toNat_lt->gu
namespace Go.X.St
open Go Go.X Go.RowKit Go.X.Pl
theorem Yh(a b:List UInt8)(M:Mem)(c:a.length<=9223372036854775807)(d:b.length<=9223372036854775807):Meets ab 289 [.v (.string ⟨a.toArray⟩),.v (.string ⟨b.toArray⟩)] M λr _ _=>r=.v (.bool (aU (b.length<=a.length/\a.take b.length=b))):=by refine aH [0,1,4] Proofs.Tryz.func289 rfl (by kernel_rfl) rfl λw=>?_;simp only[Proofs.Tryz.f289,zW,↓reduceIte,aj,ak,al,af,aA,ag,reduceCtorEq,aB,aC,aD,aE,aq,ar,au,av,ah,aw];refine⟨λh=>⟨h,by omega,h⟩,?_⟩;rw[iS,Bool.decide_and];congr 4;exact propext ⟨λh=>by omega,λh=>by omega⟩
theorem OU(a b:List UInt8)(M:Mem)(c:a.length<=9223372036854775807)(d:b.length<=9223372036854775807):Meets ab 243 [.v (.string ⟨a.toArray⟩),.v (.string ⟨b.toArray⟩)] M λr _ _=>r=.v (.bool (aU (b.length<=a.length/\a.take b.length=b))):=by refine aH [0,1,4] Proofs.Tryz.func243 rfl (by kernel_rfl) rfl λw=>?_;simp only[Proofs.Tryz.f243,zW,↓reduceIte,aj,ak,al,af,aA,ag,reduceCtorEq,aB,aC,aD,aE,aq,ar,au,av,ah,aw];refine az ⟨rfl,rfl⟩ rfl (Yh a b M c d) ?_;simp only[zW,↓reduceIte,aj,ak,al,af,aA,ag,reduceCtorEq,aB,aC,aD,aE,aq,ar,au,av,ah,aw]
theorem wP(a b:List UInt8)(c:Bool)(M:Mem)(d:a.length<=9223372036854775807)(e:b.length<=9223372036854775807)(f:aU (b.length<=a.length/\a.take b.length=b)=c):Meets ab 243 [.v (.string ⟨a.toArray⟩),.v (.string ⟨b.toArray⟩)] M λr _ _=>r=.v (.bool c):=f▸OU a b M d e
theorem Z4(y:Nat)(M:Mem)(g:y<=4294967295):Meets ab 288 [.v (.int .u64 1),.v (.int .u64 (y:Int))] M λr _ _=>r=.tup [.v (.int .u64 0),.v (.int .u64 (y:Int))]:=by
 refine aH [0,1,4,5,6,7,8,9,10,11,12,13] Proofs.Tryz.func288 rfl (by kernel_rfl) rfl λw=>?_;have a:y&&&4294967295=y:=by have :=Nat.and_two_pow_sub_one_eq_mod y 32;rw[show(2:Nat)^32-1=4294967295 from rfl]at this;rw[this];exact Nat.mod_eq_of_lt (by omega)
 have b:(1:Nat)&&&4294967295=1:=rfl;have c:(y:Int)/2^32=0:=by rw[show(2:Int)^32=4294967296 from rfl];omega
 have d:(1:Int)/2^32=0:=rfl;have e:(0:Int)/2^32=0:=rfl;have f:(0:Nat)&&&4294967295=0:=rfl;simp only[Proofs.Tryz.f288,zW,↓reduceIte,aj,ak,al,af,aA,ag,reduceCtorEq,aB,aC,aD,aE,aq,ar,au,av,ah,aw,a,b,c,d,e,f,Int.zero_mul,Int.mul_zero,Int.one_mul,Int.zero_add,PY,cB,Int.toNat_zero,aZ,cY,lo,hi];rw[show((o5.bits:Nat):Int)=64 from rfl];omega
theorem mul(y:Nat)(M:Mem)(a:y<=4294967295):Meets ab 242 [.v (.int .u64 1),.v (.int .u64 (y:Int))] M λr _ _=>r=.tup [.v (.int .u64 0),.v (.int .u64 (y:Int))]:=by refine aH [0,1,4,5,6,7,8,9] Proofs.Tryz.func242 rfl (by kernel_rfl) rfl λw=>?_;simp only[Proofs.Tryz.f242,zW,↓reduceIte,aj,ak,al,af,aA,ag,reduceCtorEq,aB,aC,aD,aE,aq,ar,au,av,ah,aw];refine az ⟨rfl,rfl⟩ rfl (Z4 y M a) ?_;simp only[zW,↓reduceIte,aj,ak,al,af,aA,ag,reduceCtorEq,aB,aC,aD,aE,aq,ar,au,av,ah,aw]
theorem Bf(k:Nat)(M:Mem)(f:k<=64):Meets ab 189 [.v (.string ⟨[48].toArray⟩),.v (.int .i64 (k:Int))] M λr _ _=>r=.v (.string ⟨(bg k 48).toArray⟩):=by
 refine aH [0,1,4,5,6,7,8,9,10,11,12,14,18,34,40,42,43,49,58,67,76,85,96,104,113] Proofs.Tryz.func189 rfl (by kernel_rfl) rfl λw=>?_;by_cases g:k=0;·subst g;simp only[xw,zW,↓reduceIte,aj,ak,al,af,aA,ag,reduceCtorEq,aB,aC,aD,aE,aq,ar,au,av,ah,aw];rfl
 by_cases h:k=1;·subst h;simp only[xw,zW,↓reduceIte,aj,ak,al,af,aA,ag,reduceCtorEq,aB,aC,aD,aE,aq,ar,au,av,ah,aw];rfl
 have i:((k:Int)=0)=False:=ax (by omega);have j:((k:Int)=1)=False:=ax (by omega);have m:((k:Int)<0)=False:=ax (by omega);have n:o5.wrap 1=1:=rfl;simp only[xw,zW,↓reduceIte,aj,ak,al,af,aA,ag,reduceCtorEq,aB,aC,aD,aE,aq,ar,au,av,ah,aw,i,j,m,n,uw (show k<18446744073709551616 by omega)];refine az ⟨rfl,rfl⟩ rfl (mul k M (by omega)) ?_;have a:(9223372036854775807<(k:Int))=False:=ax (by omega);have b:((k:Int)<=128)=True:=aK (by omega);have c:fc [48] 0=48:=rfl;simp only[zW,↓reduceIte,aj,ak,al,af,aA,ag,reduceCtorEq,aB,aC,aD,aE,aq,ar,au,av,ah,aw,a,b,c,iw (show k<9223372036854775808 by omega)];refine az ⟨rfl,rfl⟩ rfl (wP _ [48] false M (by decide) (by decide) (by decide)) ?_;simp only[zW,↓reduceIte,aj,ak,al,af,aA,ag,reduceCtorEq,aB,aC,aD,aE,aq,ar,au,av,ah,aw,a,b,c];refine az ⟨rfl,rfl⟩ rfl (wP _ [48] false M (by decide) (by decide) (by decide)) ?_;have d:((k:Int)<=64)=True:=aK (by omega);simp only[zW,↓reduceIte,aj,ak,al,af,aA,ag,reduceCtorEq,aB,aC,aD,aE,aq,ar,au,av,ah,aw,a,b,c,d];refine az ⟨rfl,rfl⟩ rfl (wP _ [48] true M (by decide) (by decide) (by decide)) ?_;simp only[zW,↓reduceIte,aj,ak,al,af,aA,ag,reduceCtorEq,aB,aC,aD,aE,aq,ar,au,av,ah,aw,a,b,c,d];refine⟨by omega,?_⟩;have e:(bg 64 (48:UInt8)).take (k-0)=bg k 48:=by rw[List.take_replicate,iS,cT f]
 exact aY (λl:List UInt8=>SV.v (iF ⟨l.toArray⟩)) e
end Go.X.St
namespace Go.X.Nm
open Go Go.X Go.RowKit Go.X.Pl Go.X.St
def x7(b:UInt8):Bool:=aU (97<=b.toNat/\b.toNat<=122)||aU (48<=b.toNat/\b.toNat<=57)
def uX(s:List UInt8):Bool:=aU (0<s.length/\s.length<=12)&&s.all x7
theorem Re{s:List UInt8}{i:Nat}{b:UInt8}(h:s[i]?=some b):fc s (i:Int)=((b.toNat:Nat):Int):=by unfold fc;rw[aX,cN,h];rfl
theorem Iy(s:List UInt8)(M:Mem):Meets ab 275 [.v (.string ⟨s.toArray⟩)] M λr _ _=>r=.v (.bool (uX s)):=by
 refine aH [0,2,3,10,12,13,14,38] Proofs.Tryz.func275 rfl (by kernel_rfl) rfl λw=>?_;generalize m:uX s=c;unfold uX at m;by_cases q:s=[];·subst q;rw[show c=false by rw[<-m];rfl];simp only[xx,zW,seval]
 have A:=ax q;have H:=List.length_pos_iff.2 q;by_cases I:12<s.length;·have t:((12:Int)<(s.length:Int))=True:=aK (by omega);rw[show c=false by rw[<-m,bI (by omega)];rfl];simp only[xx,zW,seval,A,t]
 have t:((12:Int)<(s.length:Int))=False:=ax (by omega);rw[cy (by omega),fJ]at m;simp only[xx,zW,seval,A,t];refine bE (X:=Nat×Nat) (λx=>([(0,true,.v (.string ⟨s.toArray⟩)),(12,true,.v (.int .i64 s.length)),(13,true,.v (.int .i64 (x.2:Int)))],[],M)) (λx=>x.1+x.2=s.length/\(s.drop x.2).all x7=c) (λx=>x.1) (s.length,0) ⟨rfl,m⟩ (aR ?_) ?_;·simp only[zV,seval]
 rintro⟨f,i⟩⟨B,d⟩;simp only at B d;by_cases u:i<s.length
 ·have e:((i:Int)<(s.length:Int))=True:=aK (by omega);obtain⟨b,y,C⟩:=cE (l:=s) (i:=i) u;have n:=Re y;rw[C,xf]at d;have o:x7 b=true->(s.drop (i+1)).all x7=c:=λh=>by rw[h,fJ]at d;exact d
  have g:x7 b=false->c=false:=λh=>by rw[h,jI]at d;exact d.symm
  by_cases D:97<=b.toNat
  ·have j:((97:Int)<=((b.toNat:Nat):Int))=True:=aK (by omega);by_cases E:b.toNat<=122
   ·have z:(((b.toNat:Nat):Int)<=122)=True:=aK (by omega);have a:x7 b=true:=by unfold x7;rw[cy ⟨D,E⟩];rfl
    simp only[zW,seval,e,n,j,z,cY,lo,hi];refine⟨by omega,by omega,by omega,(f-1,i+1),⟨⟨by simp only;omega,o a⟩,by simp only;omega⟩,aR ?_⟩;simp only[zV,seval,aJ]
   ·have z:(((b.toNat:Nat):Int)<=122)=False:=ax (by omega);have k:((48:Int)<=((b.toNat:Nat):Int))=True:=aK (by omega);have p:(((b.toNat:Nat):Int)<=57)=False:=ax (by omega);have a:x7 b=false:=by unfold x7;rw[bI (by omega),bI (by omega)];rfl
    simp only[zW,seval,e,n,j,z,k,p,g a,cY,lo,hi];omega
  ·have j:((97:Int)<=((b.toNat:Nat):Int))=False:=ax (by omega);by_cases F:48<=b.toNat
   ·have k:((48:Int)<=((b.toNat:Nat):Int))=True:=aK (by omega);by_cases G:b.toNat<=57
    ·have p:(((b.toNat:Nat):Int)<=57)=True:=aK (by omega);have a:x7 b=true:=by unfold x7;rw[bI (by omega),cy ⟨F,G⟩];rfl
     simp only[zW,seval,e,n,j,k,p,cY,lo,hi];refine⟨by omega,by omega,by omega,by omega,(f-1,i+1),⟨⟨by simp only;omega,o a⟩,by simp only;omega⟩,aR ?_⟩;simp only[zV,seval,aJ]
    ·have p:(((b.toNat:Nat):Int)<=57)=False:=ax (by omega);have a:x7 b=false:=by unfold x7;rw[bI (by omega),bI (by omega)];rfl
     simp only[zW,seval,e,n,j,k,p,g a,cY,lo,hi];omega
   ·have k:((48:Int)<=((b.toNat:Nat):Int))=False:=ax (by omega);have a:x7 b=false:=by unfold x7;rw[bI (by omega),bI (by omega)];rfl
    simp only[zW,seval,e,n,j,k,g a,cY,lo,hi];omega
 ·have e:((i:Int)<(s.length:Int))=False:=ax (by omega);rw[bh (by omega)]at d;rw[show c=true from d.symm];simp only[zW,seval,e]
/-! the reference's -/
def cs36:List UInt8:=[97,98,99,100,101,102,103,104,105,106,107,108,109,110,111,112,113,114,115,116,117,118,119,120,121,122,48,49,50,51,52,53,54,55,56,57]
theorem Z5(b:UInt8):cs36.contains b=x7 b:=by
 have h:∀n,n<256->cs36.contains (bo n)=x7 (bo n):=by decide+kernel
 have :=h b.toNat (gu b);rwa[jm]at this
theorem Ld(p:UInt8->Bool):∀l:List UInt8,l.dropWhile p=[]↔l.all p=true|[]=>by simp|x::l=>by rw[List.dropWhile_cons,xf];cases a:p x with|true=>simpa using Ld p l|false=>simp
theorem Rf(s:List UInt8):aU (DR s cs36=[])=s.all x7:=by
 unfold DR Lib.trimRightS Lib.trimLeftS;rw[show((cs36:List UInt8).contains ·)=x7 from funext Z5];rw[<-EA (l:=s)];have a:=Ld x7 s.reverse;generalize s.reverse.all x7=c at*;cases c with
  |true=>rw[a.2 rfl];rfl
  |false=>
   refine bI λh=>?_;rw[Ld,EA]at h;have b:s.reverse.dropWhile x7≠[]:=λe=>by cases a.1 e
   obtain⟨x,t,d⟩:=List.exists_cons_of_ne_nil b;have f:x7 x=false:=by have :=List.head_dropWhile_not x7 b;simpa[d]using this
   rw[d,xf,f]at h;cases h
theorem Yi(s:List UInt8)(M:Mem)(a:s.length<=9223372036854775807):Meets ab 190 [.v (.string ⟨s.toArray⟩),.v (.string ⟨#[97,98,99,100,101,102,103,104,105,106,107,108,109,110,111,112,113,114,115,116,117,118,119,120,121,122,48,49,50,51,52,53,54,55,56,57]⟩)] M λr _ _=>r=.v (.string ⟨(DR s cs36).toArray⟩):=by refine rm ⟨_,J9,by kernel_rfl,by kernel_rfl⟩ λw=>?_;exact Proofs.Any.strings_Trim_laid Proofs.x6 (by kernel_rfl) ⟨s.toArray⟩ ⟨#[97,98,99,100,101,102,103,104,105,106,107,108,109,110,111,112,113,114,115,116,117,118,119,120,121,122,48,49,50,51,52,53,54,55,56,57]⟩ w (by simpa[pc]using a) (by decide) (Proofs.ascii_of_all (by decide))
theorem Iz{b:UInt8}(h:x7 b=true):(97<=b.toNat/\b.toNat<=122)\/(48<=b.toNat/\b.toNat<=57):=by unfold x7 at h;rw[ug,br,br]at h;exact h
theorem Z6(b:UInt8)(M:Mem)(h:x7 b=true):Meets ab 192 [.v (.int .i32 (b.toNat:Int))] M λr _ _=>r=.v (.bool false):=by
 refine aH [0,2] Proofs.Tryz.func192 rfl (by kernel_rfl) rfl λw=>?_;have g:=Iz h;have d:(((b.toNat:Nat):Int)<48)=False:=ax (by omega);have e:((122:Int)<((b.toNat:Nat):Int))=False:=ax (by omega);by_cases a:57<b.toNat;·have c:((57:Int)<((b.toNat:Nat):Int))=True:=aK (by omega);have f:(((b.toNat:Nat):Int)<97)=False:=ax (by omega);simp only[Ko,zW,seval,d,c,e,f]
 ·have c:((57:Int)<((b.toNat:Nat):Int))=False:=ax (by omega);simp only[Ko,zW,seval,d,c,e]
theorem abd(s:List UInt8)(M:Mem)(h:s.all x7=true)(j:s.length<=9223372036854775807):Meets ab 294 [.v (.string ⟨s.toArray⟩),.fn 192 [],.v (.bool true)] M λr _ _=>r=.v (.int .i64 (-1)):=by
 refine aH [0,1,2,6,7,8,10,11,12,19] Proofs.Tryz.func294 rfl (by kernel_rfl) rfl λw=>?_;simp only[Proofs.Tryz.f294,zW,seval,sT];refine FP (s:=⟨s.toArray⟩) rfl rfl rfl (by kernel_rfl) rfl λb k g=>?_;simp only[zW,seval,sT];refine bE (X:=Nat) (λi=>([(1,true,.fn 192 []),(2,true,.v (.bool true)),(10,true,.v (bT b))],[],o_ M b (.stringIter ⟨s.toArray⟩ i))) (λi=>i<=s.length) (λi=>s.length-i) 0 (bJ _) (aR ?_) ?_;·simp only[zV,seval]
 rintro i m;simp only[zW,seval,sT];by_cases d:i<s.length;·obtain⟨c,e,n⟩:=cE (l:=s) (i:=i) d;have a:=l7.1 h c (aL e);have f:=Iz a;refine Eb (b:=b) (i:=i) (s:=s) rfl rfl rfl rfl (A_ _ _ _) g e (by omega) ?_;simp only[zW,seval,sT,QF];refine az ⟨rfl,rfl⟩ rfl (Z6 c _ a) ?_;simp only[zW,seval,sT];refine⟨i+1,⟨by omega,by omega⟩,aR ?_⟩;simp only[zV,seval]
 ·refine Ie (b:=b) (i:=i) (s:=s) rfl rfl rfl rfl (A_ _ _ _) (by omega) ?_;simp only[zW,seval,sT]
theorem Z7(s:List UInt8)(M:Mem)(h:s.all x7=true)(a:s.length<=9223372036854775807):Meets ab 191 [.v (.string ⟨s.toArray⟩),.fn 192 []] M λr _ _=>r=.v (.bool false):=by
 refine aH [0,1,4] Proofs.Tryz.func191 rfl (by kernel_rfl) rfl λw=>?_;simp only[Proofs.Tryz.f191,zW,seval];refine az (s:=.v (.int .i64 (-1))) ⟨rfl,rfl⟩ rfl ?_ ?_;·refine aH [0,1,4] Proofs.Tryz.func253 rfl (by kernel_rfl) rfl λw=>?_;simp only[Proofs.Tryz.f253,zW,seval];refine az ⟨rfl,rfl⟩ rfl (abd s M h a) ?_;simp only[zW,seval]
 simp only[zW,seval]
theorem F_(s:List UInt8)(M:Mem):Meets ab 142 [.v (.string ⟨s.toArray⟩)] M λr _ _=>r=.v (.bool (uX s)):=by
 refine aH [0,2] Proofs.Tryz.func142 rfl (by kernel_rfl) rfl λw=>?_;generalize a:uX s=c;unfold uX at a;by_cases g:0<s.length;rotate_left;·have b:((0:Int)<(s.length:Int))=False:=ax (by omega);rw[show c=false by rw[<-a,bI (by omega)];rfl];simp only[xy,zW,seval,b]
 have b:((0:Int)<(s.length:Int))=True:=aK (by omega);by_cases h:12<s.length;·have d:((s.length:Int)<13)=False:=ax (by omega);rw[show c=false by rw[<-a,bI (by omega)];rfl];simp only[xy,zW,seval,b,d]
 have d:((s.length:Int)<13)=True:=aK (by omega);rw[cy (by omega),fJ]at a;simp only[xy,zW,seval,b,d];refine az ⟨rfl,rfl⟩ rfl (Yi s M (by omega)) ?_;have e:=Rf s;rw[a]at e;cases c with|false=>have f:(DR s cs36=[])=False:=ax (mj e);simp only[zW,seval,f]|true=>have f:(DR s cs36=[])=True:=aK (aW e);simp only[zW,seval,f];refine az ⟨rfl,rfl⟩ rfl (Z7 s M a (by omega)) ?_;simp only[zW,seval]
end Go.X.Nm
namespace Go.X
open Go Go.RowKit
theorem Z8(a b:List UInt8):((⟨a.toArray⟩:ByteArray)==⟨b.toArray⟩)=aU (a=b):=by
 show(a.toArray==b.toArray)=_;by_cases c:a=b;·subst c;simp
 ·rw[bI c,nU];intro e;exact c (by simpa using aY Array.toList e)
theorem ia {P : bZ} {kt : bL} (c : P.underlying kt = some .string) : KeyT P kt (fun s : List UInt8 => iF ⟨s.toArray⟩) where
  known := ⟨_, c⟩
  check := fun e w a => MapKept.run_checkKey c (by simp [MapKept.IsKey]) e 9999
  eq := fun w a b => by
    have h := xI (P := P) (w := w) 1 9999 kt [.str] (by simp [tJ, c]) [.string ⟨a.toArray⟩] [.string ⟨b.toArray⟩] ⟨trivial, trivial⟩
    have f : iJ P kt = false := by simp [iJ, c]
    simp only [oK, f, sM, eqV, bl, yI] at h
    exact h
  now := fun d a b h => by
    rw [c] at h
    cases h
    left
    show some ((⟨a.toArray⟩ : ByteArray) == ⟨b.toArray⟩) = _
    congr 1
    exact Z8 a b
  same := fun a => by
    have := Z8 a a
    rw [cy rfl] at this
    exact this
abbrev gM:=Bool×Int×Int
def x8(i:gM):ay:=.agg #[.bool i.1,.int .i64 i.2.1,.int .i64 i.2.2]
theorem ck3(e:Bool)(n:Nat)(w:bQ)(a:gM):(oD e (n+2) 178 (x8 a)).run ab w=.ok () w:=by
 have h:=pV;have d:=pU;have f:=jk;have i:∀x:Bool,(oD e (n+1) 4 (.bool x)).run ab w=.ok () w:=λx=>by simp only[oD,a7,a8 d,aQ,bC]
 have j:∀x:Int,(oD e (n+1) 3 (.int .i64 x)).run ab w=.ok () w:=λx=>by simp only[oD,a7,a8 f,aQ,bC]
 rw[oD];simp only[x8,a7,a8 h,aQ];have k:∀b,b<3->(part 4 #[.bool a.1,.int .i64 a.2.1,.int .i64 a.2.2] b).run ab w=.ok ([.bool a.1,.int .i64 a.2.1,.int .i64 a.2.2].getD b dN) w:=λb c=>mm (n:=1) (g:=false) (l:=[.bool a.1,.int .i64 a.2.1,.int .i64 a.2.2]) (ij.1 (by kernel_rfl)) ⟨_,d⟩ (by kernel_rfl) (by kernel_rfl) (by simpa using c);have m:∀b,b<3->(part 3 #[.bool a.1,.int .i64 a.2.1,.int .i64 a.2.2] b).run ab w=.ok ([.bool a.1,.int .i64 a.2.1,.int .i64 a.2.2].getD b dN) w:=λb c=>mm (n:=1) (g:=false) (l:=[.bool a.1,.int .i64 a.2.1,.int .i64 a.2.2]) (ij.1 (by kernel_rfl)) ⟨_,f⟩ (by kernel_rfl) (by kernel_rfl) (by simpa using c);simp[k,m,i,j,Result.andThen]
theorem x9 : KeyT ab 178 x8 where
  known := ⟨_, pV⟩
  check := fun e w a => ck3 e 9998 w a
  eq := fun w a b => by
    obtain ⟨c, f, g⟩ := a
    obtain ⟨i, j, k⟩ := b
    have h := xI (P := ab) (w := w) 8 9992 178 [.bool, .int .i64, .int .i64] (by kernel_rfl) [.bool c, .int .i64 f, .int .i64 g] [.bool i, .int .i64 j, .int .i64 k] ⟨trivial, ⟨rfl, rfl⟩, ⟨rfl, rfl⟩, trivial⟩
    have l : iJ ab 178 = true := by kernel_rfl
    simp only [oK, l, cR] at h
    refine Eq.trans h ?_
    congr 1
    simp only [sM, eqV, yI, cD, Bool.decide_and, Bool.beq_eq_decide_eq]
  now := fun d a b h => by
    rw [pV] at h
    cases h
    right
    rfl
  same := fun a => by
    show (G5 (9999 + 1) _ _) = true
    rw [x8, G5]
    simp [G5]
end Go.X
namespace Go.X.Vo
open Go Go.X Go.RowKit Go.X.Bg Go.X.Nm
abbrev fy:=List UInt8×List gM
abbrev WV:=ay×fy
def gx(i:gM):List ay:=[.bool i.1,.int .i64 i.2.1,.int .i64 i.2.2]
def kL(w:WV):List ay:=[.string ⟨w.2.1.toArray⟩,w.1]
structure VolsM(M:Mem)(v:ay)(ws:List WV):Prop where
 row:RowM M v 2 (ws.map kL)
 blk:∀w∈ws,RowM M w.1 3 (w.2.2.map gx)
theorem VolsM.le{M N:Mem}{v:ay}{ws:List WV}(h:VolsM M v ws)(a:M.le N):VolsM N v ws:=⟨h.row.le a,λw b=>(h.blk w b).le a⟩
def fQ(b v:ay):SV:=.agg [.v b,.v v]
theorem iM{M:Mem}{v:ay}{ws:List WV}{i:Nat}{r:WV}(h:VolsM M v ws)(a:ws[i]?=some r):(xj M v 2 i 0=.string ⟨r.2.1.toArray⟩/\yU M v 2 i 0)/\(xj M v 2 i 1=r.1/\yU M v 2 i 1)/\FC v (i:Int):=by
 have b:(ws.map kL)[i]?=some (kL r):=by rw[aN,a];rfl
 have c:=h.row.fG b (off:=0) (by omega);have d:=h.row.fG b (off:=1) (by omega);have e:=(aI.1 a).1;exact⟨⟨c.1,c.2.1⟩,⟨d.1,d.2.1⟩,h.row.ix (i:=(i:Int)) (by omega) (by rw[ae];omega)⟩
theorem tO{M:Mem}{v:ay}{l:List gM}{i:Nat}{r:gM}(h:RowM M v 3 (l.map gx))(b:l[i]?=some r):(xj M v 3 i 0=.bool r.1/\yU M v 3 i 0)/\(xj M v 3 i 1=.int .i64 r.2.1/\yU M v 3 i 1)/\(xj M v 3 i 2=.int .i64 r.2.2/\yU M v 3 i 2)/\FC v (i:Int):=by
 have a:(l.map gx)[i]?=some (gx r):=by rw[aN,b];rfl
 have c:=h.fG a (off:=0) (by omega);have d:=h.fG a (off:=1) (by omega);have e:=h.fG a (off:=2) (by omega);have f:=(aI.1 b).1;exact⟨⟨c.1,c.2.1⟩,⟨d.1,d.2.1⟩,⟨e.1,e.2.1⟩,h.ix (i:=(i:Int)) (by omega) (by rw[ae];omega)⟩
/-! what is right -/
def Bh(bag:List It)(id:gM):Int:=if id.1=false/\¬(id.2.1=0/\id.2.2=0)then 3 else if id.1=true/\fg (ko id) bag 0<0 then 4 else 0
def Ga(bag:List It):List gM->Int|[]=>0|x::r=>if Bh bag x≠0 then Bh bag x else Ga bag r
def lW:Option (List UInt8)->List UInt8->Bool|none,_=>false|some q,n=>!(cd q n)
def Le(bag:List It):Option (List UInt8)->List fy->Int|_,[]=>0|p,v::r=>if uX v.1=false\/lW p v.1=true then 3 else if 32<v.2.length then 2 else if Ga bag v.2≠0 then Ga bag v.2 else Le bag (some v.1) r
def qT(bag:List It)(l:List fy):Int:=if 6<l.length then 2 else Le bag none l
def oQ(l:List WV)(i:Nat):Option (List UInt8):=match i with|0=>none|j+1=>(l[j]?).map (·.2.1)
theorem U'(b v:ay)(bag:List It)(ws:List WV)(M:Mem)(hb:RowM M b 4 (bag.map Bg.eG))(m:VolsM M v ws):Meets ab 315 [fQ b v] M λr _ _=>r=.v (.int .i64 (qT bag (ws.map (·.2)))):=by
 refine aH [0,1,2,3,4,6,10,12,13,14,15,38,42,44,45,46,47,57,66] Proofs.Tryz.func315 rfl (by kernel_rfl) rfl λw=>?_;generalize u:qT bag (ws.map (·.2))=c;unfold qT at u;rw[ae]at u;have H:=m.row.eQ;rw[ae]at H;by_cases U:6<ws.length;·have I:((6:Int)<(ws.length:Int))=True:=aK (by omega);rw[aF U]at u;subst u;simp only[Kp,fQ,zW,seval,m.row.gC,m.row.sl,ae,I]
 have I:((6:Int)<(ws.length:Int))=False:=ax (by omega);rw[ai U]at u;simp only[Kp,fQ,zW,seval,m.row.gC,m.row.sl,ae,I];refine bE (X:=Nat×Nat) (λx=>([(0,true,.agg [.v b,.v v]),(1,true,.ptr 8 0 0 0),(2,true,.v (.int .i64 0)),(12,true,.v v),(13,true,.v (.int .i64 ws.length)),(14,true,.v (.int .i64 x.2))],[(8,.box [.v b,.v v] none)],M)) (λx=>x.1+x.2=ws.length/\Le bag (oQ ws x.2) ((ws.drop x.2).map (·.2))=c) (λx=>x.1) (ws.length,0) ⟨rfl,u⟩ (aR ?_) ?_;·simp only[zV,seval]
 rintro⟨f,i⟩⟨h1,d⟩;simp only at h1 d;by_cases J:i<ws.length;rotate_left;·have K:((i:Int)<(ws.length:Int))=False:=ax (by omega);rw[bh (by omega)]at d;simp only[cr,Le]at d;subst d;simp only[zW,seval,K]
 have K:((i:Int)<(ws.length:Int))=True:=aK (by omega);obtain⟨x,L,hd⟩:=cE (l:=ws) (i:=i) J;rw[hd,ca,Le]at d;obtain⟨V,W,Y⟩:=iM m L;have a:=m.blk x (aL L);simp only[zW,seval,K,m.row.gC,m.row.sl,ae,Y,Y.2,V.1,V.2,W.1,W.2,a.dj];have N:=a.eQ;rw[ae]at N;have hp:oQ ws (i+1)=some x.2.1:=by simp only[oQ,L,cJ]
 refine lU (X:=Unit) (λ_=>True) (λ_=>([(0,true,.agg [.v b,.v v]),(1,true,.ptr 8 0 0 0),(2,true,.v (.int .i64 0)),(3,true,.v (.int .i64 i)),(4,true,.ptr 32 0 0 0),(12,true,.v v),(13,true,.v (.int .i64 ws.length)),(14,true,.v (.int .i64 i)),(38,true,.v (.bool (!uX x.2.1||lW (oQ ws i) x.2.1)))],[(32,.box [.v (.string ⟨x.2.1.toArray⟩),.v x.1] none),(8,.box [.v b,.v v] none)],M)) ?_ ?_
 ·cases i with
   |zero=>refine dV [8,32] (tk [0,1] (.one 2 (tk [3,4,5,6,7,8,10,15,9,11,16,12,13,14,17,18,19] .done))) (by kernel_rfl) (by kernel_rfl) λxs=>?_;simp only[zW,seval,fl,fm,fP];refine az ⟨rfl,rfl⟩ rfl (Iy x.2.1 M) ?_;cases hN:uX x.2.1 with
           |false=>simp only[zW,seval,fl,fm,fP,aZ,nQ,Bool.true_or];first|exact⟨(),trivial,Ent.heap (HEnt.untie (k:=32) rfl) (Ent.heap (HEnt.untie (k:=8) rfl) (Ent.of (by simp only[zV,seval,hset])))⟩|exact⟨(),dO (df (k:=32) rfl) (dO (df (k:=8) rfl) (aR (by simp only[zV,seval,hset])))⟩|exact Ent.heap (HEnt.untie (k:=32) rfl) (Ent.heap (HEnt.untie (k:=8) rfl) (Ent.of (by simp only[zV,seval,hset])))
           |true=>simp only[zW,seval,fl,fm,fP,aZ,yH,T0,oQ,lW];first|exact⟨(),trivial,Ent.heap (HEnt.untie (k:=32) rfl) (Ent.heap (HEnt.untie (k:=8) rfl) (Ent.of (by simp only[zV,seval,hset])))⟩|exact⟨(),dO (df (k:=32) rfl) (dO (df (k:=8) rfl) (aR (by simp only[zV,seval,hset])))⟩|exact Ent.heap (HEnt.untie (k:=32) rfl) (Ent.heap (HEnt.untie (k:=8) rfl) (Ent.of (by simp only[zV,seval,hset])))
   |succ j=>
    obtain⟨y,F,_⟩:=cE (l:=ws) (i:=j) (by omega);obtain⟨Z,f1,j0⟩:=iM m F;have e0:((j+1:Nat):Int)-1=(j:Int):=by omega
    have e1:((0:Int)<((j+1:Nat):Int))=True:=aK (by omega);refine dV [8,32] (tk [0,1] (.one 2 (tk [3,4,5,6,7,8,10,15,9,11,16,12,13,14,17,18,19] .done))) (by kernel_rfl) (by kernel_rfl) λxs=>?_;simp only[zW,seval,fl,fm,fP];refine az ⟨rfl,rfl⟩ rfl (Iy x.2.1 M) ?_;cases hN:uX x.2.1 with
     |false=>simp only[zW,seval,fl,fm,fP,nQ,Bool.true_or];first|exact⟨(),trivial,Ent.heap (HEnt.untie (k:=32) rfl) (Ent.heap (HEnt.untie (k:=8) rfl) (Ent.of (by simp only[zV,seval,hset])))⟩|exact⟨(),dO (df (k:=32) rfl) (dO (df (k:=8) rfl) (aR (by simp only[zV,seval,hset])))⟩|exact Ent.heap (HEnt.untie (k:=32) rfl) (Ent.heap (HEnt.untie (k:=8) rfl) (Ent.of (by simp only[zV,seval,hset])))
     |true=>simp only[zW,seval,fl,fm,fP,e0,e1,j0,j0.2,Z.1,Z.2,cY,lo,hi,yH,T0,oQ,F,cJ,lW];refine⟨by omega,?_⟩;first|exact⟨(),trivial,Ent.heap (HEnt.untie (k:=32) rfl) (Ent.heap (HEnt.untie (k:=8) rfl) (Ent.of (by simp only[zV,seval,hset])))⟩|exact⟨(),dO (df (k:=32) rfl) (dO (df (k:=8) rfl) (aR (by simp only[zV,seval,hset])))⟩|exact Ent.heap (HEnt.untie (k:=32) rfl) (Ent.heap (HEnt.untie (k:=8) rfl) (Ent.of (by simp only[zV,seval,hset])))
 rintro _ _;have n:((!uX x.2.1||lW (oQ ws i) x.2.1)=true)↔(uX x.2.1=false\/lW (oQ ws i) x.2.1=true):=by rw[ug,np]
 generalize(!uX x.2.1||lW (oQ ws i) x.2.1)=bd at*;cases bd with
  |true=>rw[aF (n.1 rfl)]at d;subst d;simp only[zW,seval,fl,fm,fP]
  |false=>
   rw[ai (λh=>by cases n.2 h)]at d;by_cases D:32<x.2.2.length;·have O:((32:Int)<(x.2.2.length:Int))=True:=aK (by omega);rw[aF D]at d;subst d;simp only[zW,seval,fl,fm,fP,a.gC,a.sl,ae,O]
   have O:((32:Int)<(x.2.2.length:Int))=False:=ax (by omega);rw[ai D]at d;simp only[zW,seval,fl,fm,fP,a.gC,a.sl,ae,O];generalize P:Ga bag x.2.2=ge at d;refine bE (X:=Nat×Nat) (λz=>([(0,true,.agg [.v b,.v v]),(1,true,.ptr 8 0 0 0),(2,true,.v (.int .i64 0)),(12,true,.v v),(13,true,.v (.int .i64 ws.length)),(14,true,.v (.int .i64 i)),(44,true,.v x.1),(45,true,.v (.int .i64 x.2.2.length)),(46,true,.v (.int .i64 z.2))],[(8,.box [.v b,.v v] none)],M)) (λz=>z.1+z.2=x.2.2.length/\Ga bag (x.2.2.drop z.2)=ge) (λz=>z.1) (x.2.2.length,0) ⟨rfl,P⟩ (aR ?_) ?_;·simp only[zV,seval,aZ]
   rintro⟨f2,j⟩⟨k1,e⟩;simp only at k1 e;by_cases Q:j<x.2.2.length;rotate_left;·have E:((j:Int)<(x.2.2.length:Int))=False:=ax (by omega);rw[bh (by omega)]at e;simp only[Ga]at e;subst e;rw[ai (λh=>h rfl)]at d;simp only[zW,seval,fl,fm,fP,E,cY,lo,hi];refine⟨by omega,(f-1,i+1),⟨⟨by simp only;omega,by rw[hp];exact d⟩,by simp only;omega⟩,aR ?_⟩;simp only[zV,seval,aJ]
   have E:((j:Int)<(x.2.2.length:Int))=True:=aK (by omega);obtain⟨y,F,R⟩:=cE (l:=x.2.2) (i:=j) Q;obtain⟨o,q,s,A⟩:=tO a F;rw[R,Ga]at e;have S:=Rc b bag y M hb;simp only[Kc]at S;obtain⟨q0,B,C⟩:=y;simp only at o q s e S;cases q0 with
    |false=>
     by_cases G:B=0/\C=0;·obtain⟨rfl,rfl⟩:=G;have t:Bh bag (false,0,0)=0:=rfl;rw[t,ai (λh=>h rfl)]at e;simp only[zW,seval,fl,fm,fP,E,A,A.2,o.1,o.2,q.1,q.2,s.1,s.2,cY,lo,hi];refine⟨by omega,(f2-1,j+1),⟨⟨by simp only;omega,e⟩,by simp only;omega⟩,aR ?_⟩;simp only[zV,seval,aJ]
     ·have t:Bh bag (false,B,C)=3:=by unfold Bh;exact aF ⟨rfl,G⟩
      have hn:∀p:Prop,((B=0/\C=0)->p)=True:=λp=>aK (λh=>absurd h G);rw[t,aF (by decide)]at e;subst e;rw[aF (by decide)]at d;subst d;simp only[zW,seval,fl,fm,fP,E,A,A.2,o.1,o.2,q.1,q.2,s.1,s.2];exactλh=>absurd h G
    |true=>
     simp only[zW,seval,fl,fm,fP,E,A,A.2,o.1,o.2,q.1,q.2,s.1,s.2];refine az ⟨rfl,rfl⟩ rfl S ?_;by_cases g:fg (ko (true,B,C)) bag 0<0
     ·have T:=aK g;have t:Bh bag (true,B,C)=4:=by unfold Bh;rw[ai (λh=>by cases h.1)];exact aF ⟨rfl,g⟩
      rw[t,aF (by decide)]at e;subst e;rw[aF (by decide)]at d;subst d;simp only[zW,seval,fl,fm,fP,T]
     ·have T:=ax g;have t:Bh bag (true,B,C)=0:=by unfold Bh;rw[ai (λh=>by cases h.1)];exact ai (λh=>g h.2)
      rw[t,ai (λh=>h rfl)]at e;simp only[zW,seval,fl,fm,fP,T,cY,lo,hi];refine⟨by omega,(f2-1,j+1),⟨⟨by simp only;omega,e⟩,by simp only;omega⟩,aR ?_⟩;simp only[zV,seval,aJ]
end Go.X.Vo
namespace Go.X.Vo
open Go Go.X Go.RowKit Go.X.Bg Go.X.Nm
theorem Rg(bag:List It):∀(p:Option (List UInt8))(l:List fy),Le bag p l=0->∀v∈l,v.2.length<=32/\uX v.1=true/\Ga bag v.2=0
 |_,[],_,v,a=>by cases a
 |p,x::r,h,v,a=>by
  rw[Le]at h;split at h;·cases h
  rename_i c;split at h;·cases h
  rename_i e;split at h;·rename_i b;exact absurd h b
  rename_i b;rcases aV.1 a with rfl|a;·refine⟨by omega,?_,l9 b⟩;cases d:uX v.1 with|true=>rfl|false=>exact absurd (.inl d) c
  ·exact Rg bag _ r h v a
theorem gQ{bag:List It}{l:List fy}(h:qT bag l=0):l.length<=6/\∀v∈l,v.2.length<=32/\uX v.1=true/\Ga bag v.2=0:=by
 unfold qT at h;split at h;·cases h
 ·exact⟨by omega,Rg bag none l h⟩
def eW(l:List fy):List gM:=l.flatMap (·.2)
def CD(bag:List It)(a:List gM):Bool:=bag.all λx=>aU (((a.count (true,x.1,x.2.1):Nat):Int)=x.2.2.2)
def qp(bag:List It)(l:List fy):Int:=if gG bag≠0 then gG bag else if qT bag l≠0 then qT bag l else if CD bag (eW l)=false then 11 else 0
theorem lj{bag:List It}{l:List fy}(h:qp bag l=0):gG bag=0/\qT bag l=0/\CD bag (eW l)=true:=by
 unfold qp at h;split at h;·rename_i a;exact absurd h a
 rename_i a;split at h;·rename_i b;exact absurd h b
 rename_i b;split at h;·cases h
 rename_i c;exact⟨l9 a,l9 b,by simpa using c⟩
theorem E1{l:List fy}(h:l.length<=6)(a:∀v∈l,v.2.length<=32):(eW l).length<=192:=by
 have :∀l:List fy,(∀v∈l,v.2.length<=32)->(eW l).length<=32*l.length:=λl=>by induction l with|nil=>intro _;exact bJ _|cons v l b=>intro h;have :=b (λw c=>h w (bm _ c));have :=h v (bn ..);unfold eW at*;rw[lq,aG,aM];omega
 have :=this l a;omega
def CntM(es:List (gM×ay))(L:List gM):Prop:=∀a,((nJ a es 0).map (·.2)).getD (.int .i64 0)=.int .i64 ((L.count a:Nat):Int)
theorem Rh:CntM [] []:=λ_=>rfl
theorem Ri{es:List (gM×ay)}{L:List gM}(h:CntM es L)(y:gM):CntM (KU y (.int .i64 (((L.count y:Nat):Int)+1)) es) (L++[y]):=λb=>by
 rw[UK];by_cases a:b=y;·rw[aF a,a,mC];simp
 ·rw[ai a,h b,mC];have :List.count b [y]=0:=by simp[xz,wB a]
  rw[this];rfl
theorem U_{α:Type}[DecidableEq α](a:α)(z:ay)(l:List (α×ay)):((nJ a (QA a z l) 0).map (·.2)).getD z=((nJ a l 0).map (·.2)).getD z:=by
 unfold QA;rcases lM a l 0 with⟨b,_⟩|⟨j,v,b,c⟩;·rw[b];simp only;rw[FM,b];simp[nJ]
 ·rw[b];simp only;rw[b]
theorem Gb(b v:ay)(bag:List It)(ws:List WV)(M:Mem)(B:RowM M b 4 (bag.map Bg.eG))(s:VolsM M v ws):Meets ab 271 [fQ b v] M λr _ _=>r=.v (.int .i64 (qp bag (ws.map (·.2)))):=by
 refine aH [0,1,2,3,4,5,7,9,11,16,21,25,26,27,28,32,33,34,35,47,48,49,50,62] Proofs.Tryz.func271 rfl (by kernel_rfl) rfl λw=>?_;generalize g:qp bag (ws.map (·.2))=c;unfold qp at g;have hC:=Nc b bag M B;have hV:=U' b v bag ws M B s;simp only[fQ]at hV;simp only[Proofs.Tryz.f271,fQ,zW,seval];refine az ⟨rfl,rfl⟩ rfl hC ?_;by_cases R:gG bag=0;rotate_left;·have U:=ax R;rw[aF R]at g;subst g;simp only[zW,seval,U]
 rw[ai (λh=>h R)]at g;simp only[zW,seval,R];refine az ⟨rfl,rfl⟩ rfl hV ?_;by_cases C:qT bag (ws.map (·.2))=0;rotate_left;·have U:=ax C;rw[aF C]at g;subst g;simp only[zW,seval,U]
 rw[ai (λh=>h C)]at g;obtain⟨V,D⟩:=gQ C;rw[ae]at V;have E:∀x∈ws,x.2.2.length<=32:=λx p=>(D x.2 (du p)).1;have F:∀n,(eW ((ws.take n).map (·.2))).length<=192:=λn=>E1 (by rw[ae,a6];omega) (λu hu=>by obtain⟨x,p,rfl⟩:=dq.1 hu;exact E x (cq p));simp only[zW,seval,C];refine⟨rfl,oN rfl rfl rfl rfl ?_⟩;simp only[zW,seval,hdel,s.row.gC,s.row.sl,ae];refine bE (X:=Nat×Nat×List (gM×ay)) (λx=>([(0,true,.agg [.v b,.v v]),(1,true,.ptr 8 0 0 0),(2,true,.v (.int .i64 0)),(5,true,.own 184),(25,true,.v v),(26,true,.v (.int .i64 ws.length)),(27,true,.v (.int .i64 x.2.1))],[(184,.mp (jt x8 x.2.2)),(8,.box [.v b,.v v] none)],M)) (λx=>x.1+x.2.1=ws.length/\CntM x.2.2 (eW ((ws.take x.2.1).map (·.2)))) (λx=>x.1) (ws.length,0,[]) ⟨rfl,Rh⟩ (aR ?_) ?_;·simp only[zV,seval,jt,cr,aZ]
 rintro⟨f,i,es⟩⟨n1,S⟩;simp only at n1 S;by_cases W:i<ws.length
 ·have Y:((i:Int)<(ws.length:Int))=True:=aK (by omega);obtain⟨x,p,hd⟩:=cE (l:=ws) (i:=i) W;obtain⟨g0,g1,i0⟩:=iM s p;have a:=s.blk x (aL p);have hx32:=E x (aL p);have Z:eW ((ws.take (i+1)).map (·.2))=eW ((ws.take i).map (·.2))++x.2.2:=by rw[cm,p];unfold eW;simp
  have hln:=F i;generalize hL:eW ((ws.take i).map (·.2))=L at*;simp only[zW,seval,Y,s.row.gC,s.row.sl,ae,i0,i0.2,g0.1,g0.2,g1.1,g1.2,a.dj,a.gC,a.sl];refine bE (X:=Nat×Nat×List (gM×ay)) (λz=>([(0,true,.agg [.v b,.v v]),(1,true,.ptr 8 0 0 0),(2,true,.v (.int .i64 0)),(5,true,.own 184),(25,true,.v v),(26,true,.v (.int .i64 ws.length)),(27,true,.v (.int .i64 i)),(32,true,.v x.1),(33,true,.v (.int .i64 x.2.2.length)),(34,true,.v (.int .i64 z.2.1))],[(184,.mp (jt x8 z.2.2)),(8,.box [.v b,.v v] none)],M)) (λz=>z.1+z.2.1=x.2.2.length/\CntM z.2.2 (L++x.2.2.take z.2.1)) (λz=>z.1) (x.2.2.length,0,es) ⟨rfl,by simpa using S⟩ (aR ?_) ?_;·simp only[zV,seval,aZ]
  rintro⟨f2,j,d⟩⟨m1,G⟩;simp only at m1 G;by_cases hjl:j<x.2.2.length
  ·have t:((j:Int)<(x.2.2.length:Int))=True:=aK (by omega);obtain⟨y,T,H⟩:=cE (l:=x.2.2) (i:=j) hjl;obtain⟨I,J,K,N⟩:=tO a T;have e:=G y;have hcl:(L++x.2.2.take j).count y<=300:=b6 T3 (by rw[aG,a6];omega);have A:=Ri G y;rw[bN,show x.2.2.take j++[y]=x.2.2.take (j+1)by rw[cm,T];rfl]at A;generalize hq:(L++x.2.2.take j).count y=q at*;obtain⟨v0,O,_⟩:=XR y (.int .i64 0) d;have P:=UJ y (.int .i64 0) (.int .i64 ((q:Int)+1)) d;simp only[zW,seval,t,N,N.2,I.1,I.2,J.1,J.2,K.1,K.2];have Q:=U_ y (.int .i64 0) d;rw[e]at Q;refine dV [72] (tk [0,1] (.two 2 (tk [3] (.one 4 (tk [5] (.one 6 .done)))) 4 (tk [5] (.one 2 (tk [3] (.one 6 .done)))))) (by kernel_rfl) (by kernel_rfl) λxs=>?_;simp only[zW,seval,fl,fm,fP,Ca];refine⟨⟨rfl,nZ x9 (key:=y) (kt:=178) (et:=3) (z:=.int .i64 0) rfl rfl rfl (by kernel_rfl) dJ rfl rfl (λ_=>rfl) rfl ?_⟩,⟨rfl,xP x9 (key:=y) (kt:=178) (et:=3) (z:=.int .i64 0) rfl rfl rfl (by kernel_rfl) dJ rfl rfl (λ_=>rfl) rfl ?_⟩⟩;·rw[e];simp only[zW,seval,fl,fm,fP,Ca,cY,lo,hi];refine⟨by omega,rfl,xP x9 (key:=y) (kt:=178) (et:=3) (z:=.int .i64 0) rfl rfl rfl (by kernel_rfl) dJ rfl rfl (λ_=>rfl) rfl ?_⟩;rw[e];simp only[zW,seval,fl,fm,fP,Ca];refine⟨rfl,?_⟩;refine uL (enc:=x8) (key:=y) rfl rfl rfl rfl rfl rfl O ?_;rw[P];simp only[zW,seval,fl,fm,fP,Ca,cY,lo,hi];refine⟨by omega,(f2-1,j+1,KU y (.int .i64 ((q:Int)+1)) d),⟨⟨by simp only;omega,A⟩,by simp only;omega⟩,dO (df (k:=8) rfl) (aR ?_)⟩;simp only[zV,seval,hset,aJ]
   ·rw[e];simp only[zW,seval,fl,fm,fP,Ca,cY,lo,hi];refine⟨rfl,nZ x9 (key:=y) (kt:=178) (et:=3) (z:=.int .i64 0) rfl rfl rfl (by kernel_rfl) dJ rfl rfl (λ_=>rfl) rfl ?_⟩;rw[Q];simp only[zW,seval,fl,fm,fP,Ca,cY,lo,hi];refine⟨by omega,rfl,?_⟩;refine uL (enc:=x8) (key:=y) rfl rfl rfl rfl rfl rfl O ?_;rw[P];simp only[zW,seval,fl,fm,fP,Ca,cY,lo,hi];refine⟨by omega,(f2-1,j+1,KU y (.int .i64 ((q:Int)+1)) d),⟨⟨by simp only;omega,A⟩,by simp only;omega⟩,dO (df (k:=8) rfl) (aR ?_)⟩;simp only[zV,seval,hset,aJ]
  ·have t:((j:Int)<(x.2.2.length:Int))=False:=ax (by omega);rw[bz (by omega)]at G;simp only[zW,seval,t,cY,lo,hi];refine⟨by omega,(f-1,i+1,d),⟨⟨by simp only;omega,by simp only[Z];exact G⟩,by simp only;omega⟩,aR ?_⟩;simp only[zV,seval,aJ]
 have Y:((i:Int)<(ws.length:Int))=False:=ax (by omega);rw[bz (by omega)]at S;have hyl:=B.eQ;rw[ae]at hyl;simp only[zW,seval,Y,B.gC,B.sl,ae];generalize hcb:CD bag (eW (ws.map (·.2)))=cb at g;refine bE (X:=Nat×Nat) (λz=>([(0,true,.agg [.v b,.v v]),(1,true,.ptr 8 0 0 0),(2,true,.v (.int .i64 0)),(5,true,.own 184),(47,true,.v b),(48,true,.v (.int .i64 bag.length)),(49,true,.v (.int .i64 z.2))],[(184,.mp (jt x8 es)),(8,.box [.v b,.v v] none)],M)) (λz=>z.1+z.2=bag.length/\CD (bag.drop z.2) (eW (ws.map (·.2)))=cb) (λz=>z.1) (bag.length,0) ⟨rfl,hcb⟩ (aR ?_) ?_;·simp only[zV,seval,aZ]
 rintro⟨f3,k⟩⟨q1,m⟩;simp only at q1 m;by_cases hkl:k<bag.length;rotate_left;·have t:((k:Int)<(bag.length:Int))=False:=ax (by omega);rw[bh (by omega)]at m;have :cb=true:=m.symm;subst this;rw[ai (λh=>by cases h)]at g;subst g;simp only[zW,seval,t]
 have t:((k:Int)<(bag.length:Int))=True:=aK (by omega);obtain⟨y,T,H⟩:=cE (l:=bag) (i:=k) hkl;obtain⟨⟨I,J⟩,⟨K,y3⟩,N⟩:=tN B T;have e:=S (true,y.1,y.2.1);unfold CD at m;rw[H,xf]at m;simp only[zW,seval,t,N,N.2,I.1,I.2,J.1,J.2,K.1,K.2,y3.1,y3.2];refine dV [88] (tk [0,1,3,7,2,4,8,5] (.one 6 (tk [9] .done))) (by kernel_rfl) (by kernel_rfl) λxs=>?_;simp only[zW,seval,fl,fm,fP,Ca];refine⟨rfl,nZ x9 (key:=(true,y.1,y.2.1)) (kt:=178) (et:=3) (z:=.int .i64 0) rfl rfl rfl (by kernel_rfl) dJ rfl rfl (λ_=>rfl) rfl ?_⟩;rw[e];generalize hcnt:((eW (ws.map (·.2))).count (true,y.1,y.2.1):Nat)=cn at*;by_cases o:(cn:Int)=y.2.2.2;·have d4:=aK o;rw[cy o,fJ]at m;simp only[zW,seval,fl,fm,fP,Ca,d4,cY,lo,hi];refine⟨by omega,(f3-1,k+1),⟨⟨by simp only;omega,m⟩,by simp only;omega⟩,dO (df (k:=8) rfl) (aR ?_)⟩;simp only[zV,seval,hset,aJ]
 ·have d4:=ax o;rw[bI o,jI]at m;subst m;rw[aF rfl]at g;subst g;simp only[zW,seval,fl,fm,fP,Ca,d4]
end Go.X.Vo
namespace Go.X.Vo
open Go Go.X Go.RowKit Go.X.Bg Go.X.Nm
theorem sf:∀a b:List UInt8,(cd a b||aU (a=b))=!(cd b a)
 |[],[]=>rfl
 |[],_::_=>by simp[cd]
 |_::_,[]=>by simp[cd]
 |x::a,y::b=>by
  have i:=sf a b;simp only[cd];by_cases h:x=y;·subst h;have c:¬x<x:=UInt8.lt_irrefl x;simp[c,i]
  ·have j:¬y=x:=λe=>h e.symm;have k:(x==y)=false:=by simpa using h
   have d:(y==x)=false:=by simpa using j
   rw[k,d];have l:aU (x::a=y::b)=false:=bI (λe=>h (J4 e).1);rw[l];simp only[jI,Bool.or_false];rcases bR x.toNat y.toNat with g|g
   ·have c:x<y:=j5.2 g;have f:¬y<x:=λe=>by have :=j5.1 e;omega
    simp[c,f]
   ·have c:¬x<y:=λe=>by have :=j5.1 e;omega
    have f:y<x:=j5.2 (by have :x.toNat≠y.toNat:=λe=>h (rJ.1 e);omega);simp[c,f]
theorem Rj(p:Option (List UInt8)){n:List UInt8}(h:uX n=true):(cd n (p.getD [])||aU (n=p.getD []))=lW p n:=by
 cases p with
  |some q=>exact sf n q
  |none=>
   have b:n≠[]:=λe=>by rw[e]at h;cases h
   rw[o6,bI b];cases n with|nil=>exact absurd rfl b|cons a n=>rfl
theorem Yj(b v:ay)(bag:List It)(ws:List WV)(M:Mem)(Z:RowM M b 4 (bag.map Bg.eG))(G:VolsM M v ws):Meets ab 143 [fQ b v] M λr _ _=>r=.v (.int .i64 (qp bag (ws.map (·.2)))):=by
 refine aH [0,1,2,3,4,5,7,9,11,12,14,19,24,26,27,28,29,41,47,49,50,51,52,67,76,84,85,86,87,90,91,92,93,111,118] Proofs.Tryz.func143 rfl (by kernel_rfl) rfl λw=>?_;generalize a:qp bag (ws.map (·.2))=c;unfold qp qT at a;have hC:=abc b bag M Z;rw[ae]at a;have hvl:=G.row.eQ;rw[ae]at hvl;have hyl:=Z.eQ;rw[ae]at hyl;simp only[Proofs.Tryz.f143,fQ,zW,seval];refine az ⟨rfl,rfl⟩ rfl hC ?_;by_cases h1:gG bag=0;rotate_left;·have c1:=ax h1;rw[aF h1]at a;subst a;simp only[zW,seval,c1]
 rw[ai (λh=>h h1)]at a;by_cases h6:6<ws.length;·have c6:((6:Int)<(ws.length:Int))=True:=aK (by omega);rw[aF h6,aF (by decide)]at a;subst a;simp only[zW,seval,h1,G.row.gC,G.row.sl,ae,c6]
 have c6:((6:Int)<(ws.length:Int))=False:=ax (by omega);rw[ai h6]at a;simp only[zW,seval,h1,G.row.gC,G.row.sl,ae,c6];refine eI 5 80 3 rfl rfl rfl ?_;generalize hgv:Le bag none (ws.map (·.2))=gv at a;refine bE (X:=Nat×Nat×List gM) (λx=>([(1,true,.ptr 8 0 0 0),(2,true,.v (.int .i64 0)),(4,true,.v (.string ⟨((oQ ws x.2.1).getD []).toArray⟩)),(5,true,.own 640),(26,true,.v v),(27,true,.v (.int .i64 ws.length)),(28,true,.v (.int .i64 x.2.1))],[(640,.row 3 (x.2.2.map gx)),(8,.box [.v b,.v v] none)],M)) (λx=>(x.1+x.2.1=ws.length/\Le bag (oQ ws x.2.1) ((ws.drop x.2.1).map (·.2))=gv)/\x.2.2=eW ((ws.take x.2.1).map (·.2))/\x.2.2.length<=32*x.2.1) (λx=>x.1) (ws.length,0,[]) ⟨⟨rfl,hgv⟩,rfl,bJ _⟩ (aR ?_) ?_;·simp only[zV,seval,hdel,sigDrop,sigDropA,cr,aZ,oQ,o6]
 rintro⟨f,i,L⟩⟨⟨n1,g⟩,n3,n4⟩;simp only at n1 g n3 n4;by_cases hil:i<ws.length
 ·have d1:((i:Int)<(ws.length:Int))=True:=aK (by omega);obtain⟨x,hx,hd⟩:=cE (l:=ws) (i:=i) hil;rw[hd,ca,Le]at g;obtain⟨g0,g1,i0⟩:=iM G hx;have d:=G.blk x (aL hx);have hbl:=d.eQ;rw[ae]at hbl;have hp:oQ ws (i+1)=some x.2.1:=by simp only[oQ,hx,cJ]
  have htk:eW ((ws.take (i+1)).map (·.2))=L++x.2.2:=by rw[cm,hx,n3];unfold eW;simp
  simp only[zW,seval,d1,G.row.gC,G.row.sl,ae,i0,i0.2,g0.1,g0.2,g1.1,g1.2,d.dj];refine az ⟨rfl,rfl⟩ rfl (F_ x.2.1 M) ?_;cases hN:uX x.2.1 with
   |false=>rw[aF (.inl hN)]at g;subst g;rw[aF (by decide)]at a;subst a;simp only[zW,seval]
   |true=>
    have C:=Rj (oQ ws i) hN;generalize(oQ ws i).getD []=lst at*;cases H:lW (oQ ws i) x.2.1 with
     |true=>rw[aF (.inr H)]at g;subst g;rw[aF (by decide)]at a;subst a;rw[H]at C;simp only[zW,seval,C]
     |false=>
      rw[ai (by rw[hN,H];rintro(h|h)<;>cases h)]at g;rw[H]at C;by_cases h32:32<x.2.2.length;·have d2:((32:Int)<(x.2.2.length:Int))=True:=aK (by omega);rw[aF h32]at g;subst g;rw[aF (by decide)]at a;subst a;simp only[zW,seval,C,d.gC,d.sl,ae,d2]
      have d2:((32:Int)<(x.2.2.length:Int))=False:=ax (by omega);rw[ai h32]at g;simp only[zW,seval,C,d.gC,d.sl,ae,d2];generalize hge:Ga bag x.2.2=ge at g;refine bE (X:=Nat×Nat×List gM) (λz=>([(1,true,.ptr 8 0 0 0),(2,true,.v (.int .i64 0)),(4,true,.v (.string ⟨x.2.1.toArray⟩)),(5,true,.own 640),(26,true,.v v),(27,true,.v (.int .i64 ws.length)),(28,true,.v (.int .i64 i)),(49,true,.v x.1),(50,true,.v (.int .i64 x.2.2.length)),(51,true,.v (.int .i64 z.2.1))],[(640,.row 3 (z.2.2.map gx)),(8,.box [.v b,.v v] none)],M)) (λz=>(z.1+z.2.1=x.2.2.length/\Ga bag (x.2.2.drop z.2.1)=ge)/\z.2.2=L++x.2.2.take z.2.1/\z.2.2.length<=32*i+z.2.1) (λz=>z.1) (x.2.2.length,0,L) ⟨⟨rfl,hge⟩,by simp,n4⟩ (aR ?_) ?_;·simp only[zV,seval,aZ]
      rintro⟨f2,j,L2⟩⟨⟨m1,o⟩,m3,m4⟩;simp only at m1 o m3 m4;by_cases hjl:j<x.2.2.length;rotate_left;·have F:((j:Int)<(x.2.2.length:Int))=False:=ax (by omega);rw[bh (by omega)]at o;simp only[Ga]at o;subst o;rw[ai (λh=>h rfl)]at g;rw[bz (by omega)]at m3;simp only[zW,seval,F,cY,lo,hi];refine⟨by omega,(f-1,i+1,L2),⟨⟨⟨by simp only;omega,by rw[hp];exact g⟩,by simp only[htk];exact m3,by simp only;omega⟩,by simp only;omega⟩,aR ?_⟩;simp only[zV,seval,aJ,hp,dn]
      have F:((j:Int)<(x.2.2.length:Int))=True:=aK (by omega);obtain⟨y,hy,Q⟩:=cE (l:=x.2.2) (i:=j) hjl;obtain⟨t,A,B,D⟩:=tO d hy;rw[Q,Ga]at o;have htj:x.2.2.take (j+1)=x.2.2.take j++[y]:=by rw[cm,hy];rfl
      have hF:=U9 b bag y M Z;simp only[Kc]at hF;have hnx:∀z:gM,z=y->L2++[z]=L++x.2.2.take (j+1):=λz R=>by rw[R,m3,htj,bN]
      obtain⟨q0,I,m⟩:=y;simp only at t A B o hF;cases q0 with
       |false=>
        by_cases R:I=0/\m=0;·obtain⟨rfl,rfl⟩:=R;have S:Bh bag (false,0,0)=0:=rfl;rw[S,ai (λh=>h rfl)]at o;simp only[zW,seval,F,D,D.2,t.1,t.2,A.1,A.2,B.1,B.2,cY,lo,hi,ae];refine⟨by omega,by omega,(f2-1,j+1,L2++[(false,0,0)]),⟨⟨⟨by simp only;omega,o⟩,hnx _ rfl,by simp only[aG,bG];omega⟩,by simp only;omega⟩,aR ?_⟩;simp only[zV,seval,aJ,bq,ca,cr,gx]
        ·have S:Bh bag (false,I,m)=3:=by unfold Bh;exact aF ⟨rfl,R⟩
         rw[S,aF (by decide)]at o;subst o;rw[aF (by decide)]at g;subst g;rw[aF (by decide)]at a;subst a;by_cases T:I=0;·have U:=aK T;have e2:=ax (show¬m=0 fromλh=>R ⟨T,h⟩);simp only[zW,seval,F,D,D.2,t.1,t.2,A.1,A.2,B.1,B.2,U,e2]
         ·have U:=ax T;simp only[zW,seval,F,D,D.2,t.1,t.2,A.1,A.2,B.1,B.2,U]
       |true=>
        simp only[zW,seval,F,D,D.2,t.1,t.2,A.1,A.2,B.1,B.2];refine az ⟨rfl,rfl⟩ rfl hF ?_;by_cases s:fg (ko (true,I,m)) bag 0<0
        ·have V:=aK s;have S:Bh bag (true,I,m)=4:=by unfold Bh;rw[ai (λh=>by cases h.1)];exact aF ⟨rfl,s⟩
         rw[S,aF (by decide)]at o;subst o;rw[aF (by decide)]at g;subst g;rw[aF (by decide)]at a;subst a;simp only[zW,seval,V]
        ·have V:=ax s;have S:Bh bag (true,I,m)=0:=by unfold Bh;rw[ai (λh=>by cases h.1)];exact ai (λh=>s h.2)
         rw[S,ai (λh=>h rfl)]at o;simp only[zW,seval,V,cY,lo,hi,ae];refine⟨by omega,by omega,(f2-1,j+1,L2++[(true,I,m)]),⟨⟨⟨by simp only;omega,o⟩,hnx _ rfl,by simp only[aG,bG];omega⟩,by simp only;omega⟩,aR ?_⟩;simp only[zV,seval,aJ,bq,ca,cr,gx]
 have d1:((i:Int)<(ws.length:Int))=False:=ax (by omega);rw[bh (by omega),cr,Le]at g;subst g;rw[ai (λh=>h rfl)]at a;rw[bz (by omega)]at n3;rw[<-n3]at a;simp only[zW,seval,d1,Z.gC,Z.sl,ae];refine OB (k:=640) rfl λu M1 hM1 hu=>?_;have hb1:=Z.le hM1;have hul:=hu.eQ;rw[ae]at hul;simp only[zW,seval,im,iq,ir];generalize hcb:CD bag L=cb at a;refine bE (X:=Nat×Nat) (λz=>([(1,true,.ptr 8 0 0 0),(2,true,.v (.int .i64 0)),(5,true,.v u),(84,true,.v b),(85,true,.v (.int .i64 bag.length)),(86,true,.v (.int .i64 z.2))],[(8,.box [.v b,.v v] none)],M1)) (λz=>z.1+z.2=bag.length/\CD (bag.drop z.2) L=cb) (λz=>z.1) (bag.length,0) ⟨rfl,hcb⟩ (aR ?_) ?_;·simp only[zV,seval,aZ]
 rintro⟨f3,k⟩⟨I,m⟩;simp only at I m;by_cases hkl:k<bag.length;rotate_left;·have F:((k:Int)<(bag.length:Int))=False:=ax (by omega);rw[bh (by omega)]at m;have :cb=true:=m.symm;subst this;rw[ai (λh=>by cases h)]at a;subst a;simp only[zW,seval,F]
 have F:((k:Int)<(bag.length:Int))=True:=aK (by omega);obtain⟨y,hy,Q⟩:=cE (l:=bag) (i:=k) hkl;obtain⟨⟨t,A⟩,⟨B,y3⟩,D⟩:=tN hb1 hy;unfold CD at m;rw[Q,xf]at m;generalize hcn:(L.count (true,y.1,y.2.1):Nat)=cn at m;simp only[zW,seval,F,D,D.2,t.1,t.2,A.1,A.2,B.1,B.2,y3.1,y3.2,hu.gC,hu.sl,ae];refine bE (X:=Nat×Nat×Nat) (λz=>([(1,true,.ptr 8 0 0 0),(2,true,.v (.int .i64 0)),(5,true,.v u),(11,true,.ptr 88 0 0 0),(12,true,.v (.int .i64 z.2.2)),(84,true,.v b),(85,true,.v (.int .i64 bag.length)),(86,true,.v (.int .i64 k)),(90,true,.v u),(91,true,.v (.int .i64 L.length)),(92,true,.v (.int .i64 z.2.1))],[(88,.box [.v (.int .i64 y.1),.v (.int .i64 y.2.1),.v (.string ⟨y.2.2.1.toArray⟩),.v (.int .i64 y.2.2.2)] none),(8,.box [.v b,.v v] none)],M1)) (λz=>(z.1+z.2.1=L.length/\z.2.2<=z.2.1)/\z.2.2+(L.drop z.2.1).count (true,y.1,y.2.1)=cn) (λz=>z.1) (L.length,0,0) ⟨⟨rfl,bc _⟩,by simpa using hcn⟩ (aR ?_) ?_;·simp only[zV,seval,aZ]
 rintro⟨f4,p,n⟩⟨⟨p1,p2⟩,E⟩;simp only at p1 p2 E;by_cases hpl:p<L.length;rotate_left
 ·have W:((p:Int)<(L.length:Int))=False:=ax (by omega);rw[bh (by omega),List.count_nil,eJ]at E;subst E;by_cases J:(n:Int)=y.2.2.2;·have V:=aK J;rw[cy J,fJ]at m;simp only[zW,seval,W,V,cY,lo,hi];refine⟨by omega,(f3-1,k+1),⟨⟨by simp only;omega,m⟩,by simp only;omega⟩,aR ?_⟩;simp only[zV,seval,aJ]
  ·have V:=ax J;rw[bI J,jI]at m;subst m;rw[aF rfl]at a;subst a;simp only[zW,seval,W,V]
 have W:((p:Int)<(L.length:Int))=True:=aK (by omega);obtain⟨z,R,hd4⟩:=cE (l:=L) (i:=p) hpl;obtain⟨K,N,O,P⟩:=tO hu R;rw[hd4,xz]at E;obtain⟨r0,r1,r2⟩:=z;simp only at K N O E;by_cases hm:r0=true/\r1=y.1/\r2=y.2.1;·obtain⟨rfl,rfl,rfl⟩:=hm;simp only[beq_self_eq_true,cR]at E;simp only[zW,seval,W,P,P.2,K.1,K.2,N.1,N.2,O.1,O.2,cY,lo,hi];refine⟨by omega,by omega,(f4-1,p+1,n+1),⟨⟨⟨by simp only;omega,by simp only;omega⟩,by simp only;omega⟩,by simp only;omega⟩,aR ?_⟩;simp only[zV,seval,aJ]
 ·have hne:((r0,r1,r2)==((true,y.1,y.2.1):gM))=false:=by rw[nU];intro e;simp only[cD]at e;exact hm e
  rw[hne]at E;simp only[bp,cA,eJ]at E;have hgoal:∀q:Prop,((r0=true/\r1=y.1/\r2=y.2.1)->q)=True:=λq=>aK (λh=>absurd h hm);cases r0 with
   |false=>simp only[zW,seval,W,P,P.2,K.1,K.2,N.1,N.2,O.1,O.2,cY,lo,hi];refine⟨by omega,(f4-1,p+1,n),⟨⟨⟨by simp only;omega,by simp only;omega⟩,E⟩,by simp only;omega⟩,aR ?_⟩;simp only[zV,seval,aJ]
   |true=>
    by_cases Y:r1=y.1;·have U:=aK Y;have e2:=ax (show¬r2=y.2.1 fromλh=>hm ⟨rfl,Y,h⟩);simp only[zW,seval,W,P,P.2,K.1,K.2,N.1,N.2,O.1,O.2,U,e2,cY,lo,hi];refine⟨by omega,(f4-1,p+1,n),⟨⟨⟨by simp only;omega,by simp only;omega⟩,E⟩,by simp only;omega⟩,aR ?_⟩;simp only[zV,seval,aJ]
    ·have U:=ax Y;simp only[zW,seval,W,P,P.2,K.1,K.2,N.1,N.2,O.1,O.2,U,cY,lo,hi];refine⟨by omega,(f4-1,p+1,n),⟨⟨⟨by simp only;omega,by simp only;omega⟩,E⟩,by simp only;omega⟩,aR ?_⟩;simp only[zV,seval,aJ]
end Go.X.Vo
namespace Go.X.Vo
open Go Go.X Go.RowKit Go.X.Bg Go.X.Nm
theorem abe{α:Type}(j k:α->ay)(p:α->Bool)(f:Nat)(b:List SV)(d:SV.concs b=true)(y:ay)(l:List α)(M:Mem)(h:RowM M y 2 (l.map (λx=>[j x,k x])))(B:∀x∈l,Meets ab f (.agg [.v (j x),.v (k x)]::b) M λr _ _=>r=.v (.bool (p x))):Meets ab 316 [.v y,.fn f b] M λr _ _=>r=.v (.int .i64 (fg p l 0)):=by
 refine aH [0,1,4,5,7,8,9,16] Proofs.Tryz.func316 rfl (by kernel_rfl) (by simp only[SV.concs,SV.conc,d,cK]) λw=>?_;generalize C:fg p l 0=c;have m:=h.eQ;rw[ae]at m;simp only[Proofs.Tryz.f316,zV,seval,h.gC,h.sl,ae];refine bE (X:=Nat×Nat) (λx=>([(0,true,.v y),(1,true,.fn f b),(7,true,.v (.int .i64 l.length)),(8,true,.v (.int .i64 x.2))],[],M)) (λx=>x.1+x.2=l.length/\fg p (l.drop x.2) x.2=c) (λx=>x.1) (l.length,0) ⟨rfl,C⟩ (aR ?_) ?_;·simp only[zV,seval]
 rintro⟨D,i⟩⟨E,g⟩;simp only at E g;by_cases n:i<l.length;·have o:((i:Int)<(l.length:Int))=True:=aK (by omega);obtain⟨a,q,s⟩:=cE (l:=l) (i:=i) n;rw[s]at g;simp only[fg]at g;have t:=h.fG (i:=i) (e:=[j a,k a]) (by rw[aN,q];rfl) (off:=0) (by omega);have u:=h.fG (i:=i) (e:=[j a,k a]) (by rw[aN,q];rfl) (off:=1) (by omega);have z:=h.ix (i:=(i:Int)) (by omega) (by rw[ae];omega);simp only[a_,bA]at t u;simp only[zW,seval,o,h.gC,h.sl,ae,z,z.2,t.1,t.2.1,u.1,u.2.1];refine az ⟨by simp only[SV.concs,SV.conc,d,cK],rfl⟩ rfl (B a (aL q)) ?_;cases A:p a with|true=>rw[A,aF rfl]at g;subst g;simp only[zW,seval]|false=>rw[A,ai (by simp)]at g;simp only[zW,seval,cY,lo,hi];refine⟨by omega,(D-1,i+1),⟨⟨by simp only;omega,g⟩,by simp only;omega⟩,aR ?_⟩;simp only[zV,seval,aJ]
 ·have o:((i:Int)<(l.length:Int))=False:=ax (by omega);have s:l.drop i=[]:=bh (by omega);rw[s]at g;simp only[fg]at g;subst g;simp only[zV,seval,o]
theorem zj(u:ay)(l:List (Bool×Int×Int))(M:Mem)(b:RowM M u 3 (l.map gx))(g:l.length<=1000000):Meets ab 148 [.v u] M (OwnR (λs=>s) 3 (l.map gx)):=by
 obtain⟨d,e⟩:=b.FL (by omega);cases c:someV u with
  |true=>refine aH [0,2,4] G8 rfl (by kernel_rfl) rfl λw=>?_;simp only[Kq,zV,seval,b.sl,c,d,ae];exact⟨⟨by omega,e⟩,56,rfl,rfl⟩
  |false=>
   have f:l=[]:=by cases l with|nil=>rfl|cons a r=>have :=b.2.1 (by simp);rw[c]at this;cases this
   subst f;refine pD ?_;refine aH [0,2,4] G8 rfl (by kernel_rfl) rfl λw=>?_;simp only[Kq,zV,seval,b.sl,c]
def iD(l:List fy)(n:List UInt8):Int:=fg (λv:fy=>aU (v.1=n)) l 0
theorem IA(ws:List WV)(n:List UInt8):iD (ws.map (·.2)) n=fg (λw:WV=>aU (w.2.1=n)) ws 0:=Cl (λw:WV=>w.2) _ ws 0
theorem CE(l:List fy)(n:List UInt8):(iD l n=-1/\∀x∈l,x.1≠n)\/∃j x,iD l n=((j:Nat):Int)/\l[j]?=some x/\x.1=n:=by
 rcases jV (λv:fy=>aU (v.1=n)) l 0 with⟨a,b⟩|⟨j,x,a,b,c,_⟩;·exact .inl ⟨a,λx d=>mj (b x d)⟩
 ·exact .inr ⟨j,x,by rw[iD,a,b7],b,aW c⟩
theorem oR{ws:List WV}{n:List UInt8}(h:¬iD (ws.map (·.2)) n<0):∃(j:Nat)(x:WV),iD (ws.map (·.2)) n=(j:Int)/\ws[j]?=some x/\x.2.1=n/\(ws.map (·.2))[j]?=some x.2:=by
 rcases CE (ws.map (·.2)) n with⟨a,_⟩|⟨j,x,a,b,d⟩;·rw[a]at h;exact absurd (by decide) h
 ·have c:=b;rw[aN,dy]at b;obtain⟨y,e,rfl⟩:=b;exact⟨j,y,a,e,d,c⟩
def Rk(l:List fy)(n:List UInt8):List gM:=((l[(iD l n).toNat]?).map (·.2)).getD []
theorem s_{l:List fy}{n:List UInt8}{j:Nat}{x:fy}(a:iD l n=(j:Int))(b:l[j]?=some x):Rk l n=x.2:=by unfold Rk;rw[a,aX,b];rfl
theorem Yk(a:Nat)(n:List UInt8)(x:WV)(M:Mem)(h:BoxM M a [.string ⟨n.toArray⟩]):Meets ab 317 [.agg [.v (.string ⟨x.2.1.toArray⟩),.v x.1],.v (bT a)] M λr _ _=>r=.v (.bool (aU (x.2.1=n))):=by refine aH [0,1,2,3] Proofs.Tryz.func317 rfl (by kernel_rfl) rfl λw=>?_;have b:=h.at (j:=0) rfl;simp only[Proofs.Tryz.f317,zW,seval,b.1,b.2,rO]
theorem Va(b v:ay)(ws:List WV)(n:List UInt8)(M:Mem)(e:VolsM M v ws):Meets ab 272 [fQ b v,.v (.string ⟨n.toArray⟩)] M λr _ _=>r=.v (.int .i64 (iD (ws.map (·.2)) n)):=by refine aH [0,1,2,3,4] Proofs.Tryz.func272 rfl (by kernel_rfl) rfl λw=>?_;rw[IA];simp only[Proofs.Tryz.f272,fQ,zW,seval];refine j_ rfl rfl ?_;simp only[zW,seval];refine nY (k:=24) rfl rfl λf d a c=>?_;simp only[uJ,uK,zV,seval];refine az ⟨rfl,rfl⟩ rfl (abe (α:=WV) (λx=>.string ⟨x.2.1.toArray⟩) (λx=>x.1) (λw=>aU (w.2.1=n)) _ _ rfl _ ws d (e.row.le a) (λz _=>Yk f n z d c)) ?_;simp only[zW,seval]
theorem Yl(b v:ay)(ws:List WV)(n:List UInt8)(M:Mem)(e:VolsM M v ws):Meets ab 99 [fQ b v,.v (.string ⟨n.toArray⟩)] M λr _ _=>r=.v (.int .i64 (iD (ws.map (·.2)) n)):=by
 refine aH [0,1,2,4,5,6,8,9,10,11,18] Proofs.Tryz.func99 rfl (by kernel_rfl) rfl λw=>?_;rw[IA];generalize t:fg (λw:WV=>aU (w.2.1=n)) ws 0=c;have o:=e.row.eQ;rw[ae]at o;simp only[Proofs.Tryz.f99,fQ,zW,seval,e.row.gC,e.row.sl,ae];refine bE (X:=Nat×Nat) (λx=>([(1,true,.v (.string ⟨n.toArray⟩)),(4,true,.v (.int .i64 0)),(8,true,.v v),(9,true,.v (.int .i64 ws.length)),(10,true,.v (.int .i64 x.2))],[(16,.box [.v b,.v v] none)],M)) (λx=>x.1+x.2=ws.length/\fg (λw:WV=>aU (w.2.1=n)) (ws.drop x.2) x.2=c) (λx=>x.1) (ws.length,0) ⟨rfl,t⟩ (aR ?_) ?_;·simp only[zV,seval,aZ]
 rintro⟨f,i⟩⟨u,a⟩;simp only at u a;by_cases p:i<ws.length;rotate_left;·have g:((i:Int)<(ws.length:Int))=False:=ax (by omega);rw[bh (by omega)]at a;simp only[fg]at a;subst a;simp only[zW,seval,g]
 have g:((i:Int)<(ws.length:Int))=True:=aK (by omega);obtain⟨x,s,y⟩:=cE (l:=ws) (i:=i) p;rw[y]at a;simp only[fg]at a;obtain⟨h,j,k⟩:=iM e s;have d:=e.blk x (aL s);by_cases m:x.2.1=n;·have q:=aK m;rw[aF (cy m)]at a;subst a;simp only[zW,seval,g,k,k.2,h.1,h.2,j.1,j.2,d.dj,q,rO]
 ·have q:=ax m;rw[ai (by rw[bI m];decide)]at a;simp only[zW,seval,g,k,k.2,h.1,h.2,j.1,j.2,d.dj,q,cY,lo,hi];refine⟨by omega,(f-1,i+1),⟨⟨by simp only;omega,a⟩,by simp only;omega⟩,aR ?_⟩;simp only[zV,seval,aJ]
end Go.X.Vo
namespace Go.X.Vo
open Go Go.X Go.RowKit Go.X.Bg Go.X.Nm
def vH(bag:List It)(l:List fy)(n:List UInt8)(a:Int):Int:=if qp bag l≠0 then qp bag l else if iD l n<0 then 4 else if a<0\/((Rk l n).length:Int)<=a then 1 else 0
def Z9(bag:List It)(l:List fy)(n:List UInt8)(a:Int):Int:=if vH bag l n a=0 then iD l n else 0
theorem Gc{bag:List It}{l:List fy}{n:List UInt8}{a:Int}(h:vH bag l n a=0):qp bag l=0/\¬iD l n<0/\0<=a/\a<((Rk l n).length:Int):=by
 unfold vH at h;split at h;·rename_i b;exact absurd h b
 rename_i b;split at h;·cases h
 rename_i c;split at h;·cases h
 rename_i d;exact⟨l9 b,c,by omega,by omega⟩
theorem Rl(b v:ay)(bag:List It)(ws:List WV)(n:List UInt8)(a:Int)(M:Mem)(A:RowM M b 4 (bag.map Bg.eG))(k:VolsM M v ws):Meets ab 220 [fQ b v,.v (.string ⟨n.toArray⟩),.v (.int .i64 a)] M λr _ _=>r=.tup [.v (.int .i64 (Z9 bag (ws.map (·.2)) n a)),.v (.int .i64 (vH bag (ws.map (·.2)) n a))]:=by
 refine aH [0,1,2,3,6,7,8,9,13,19,32] Proofs.Tryz.func220 rfl (by kernel_rfl) rfl λw=>?_;have t:=Gb b v bag ws M A k;have u:=Va b v ws n M k;unfold Z9;generalize c:vH bag (ws.map (·.2)) n a=e;unfold vH at c;simp only[fQ]at t u;simp only[Proofs.Tryz.f220,fQ,zW,seval];refine az ⟨rfl,rfl⟩ rfl t ?_;by_cases g:qp bag (ws.map (·.2))=0;rotate_left;·have B:=ax g;rw[aF g]at c;subst c;rw[ai g];simp only[zW,seval,B]
 rw[ai (λh=>h g)]at c;simp only[zW,seval,g];refine az ⟨rfl,rfl⟩ rfl u ?_;by_cases i:iD (ws.map (·.2)) n<0;·have f:=aK i;rw[aF i]at c;subst c;simp only[zW,seval,f]
 have f:=ax i;rw[ai i]at c;obtain⟨j,x,y,z,D,C⟩:=oR i;rw[s_ y C]at c;obtain⟨E,l,m⟩:=iM k z;have d:=k.blk x (aL z);rw[y]at f⊢;by_cases p:a<0;·have o:=aK p;rw[aF (.inl p)]at c;subst c;simp only[zW,seval,f,o]
 have o:=ax p;by_cases q:(x.2.2.length:Int)<=a;·have s:=aK q;rw[aF (.inr q)]at c;subst c;simp only[zW,seval,f,o,m,m.2,l.1,l.2,d.gC,d.sl,ae,s]
 ·have s:=ax q;rw[ai (by omega)]at c;subst c;simp only[zW,seval,f,o,m,m.2,l.1,l.2,d.gC,d.sl,ae,s,cR]
def wt(bag:List It)(id:gM):List UInt8:=((bag[(fg (ko id) bag 0).toNat]?).map (·.2.2.1)).getD []
def OV(bag:List It)(id:gM):Int:=if gG bag≠0 then gG bag else if fg (ko id) bag 0<0 then 4 else 0
theorem get(b:ay)(bag:List It)(id:gM)(M:Mem)(g:RowM M b 4 (bag.map Bg.eG)):Meets ab 221 [.v b,Kc id] M λr _ _=>r=.tup [.v (.string ⟨(if OV bag id=0 then wt bag id else[]).toArray⟩),.v (.int .i64 (OV bag id))]:=by
 refine aH [0,1,3,4,5,6,7,11,17] Proofs.Tryz.func221 rfl (by kernel_rfl) rfl λw=>?_;have o:=Nc b bag M g;have k:=Bg.Rc b bag id M g;generalize a:OV bag id=e;unfold OV at a;simp only[Kc]at k;simp only[Proofs.Tryz.f221,Kc,zW,seval];refine az ⟨rfl,rfl⟩ rfl o ?_;by_cases d:gG bag=0;rotate_left;·have p:=ax d;rw[aF d]at a;subst a;rw[ai d];simp only[zW,seval,p]
 rw[ai (λh=>h d)]at a;simp only[zW,seval,d];refine az ⟨rfl,rfl⟩ rfl k ?_;by_cases c:fg (ko id) bag 0<0;·have f:=aK c;rw[aF c]at a;subst a;simp only[zW,seval,f]
 have f:=ax c;rw[ai c]at a;subst a;rcases jV (ko id) bag 0 with⟨q,_⟩|⟨j,x,i,l,t,_⟩;·rw[q]at c;exact absurd (by decide) c
 rw[b7]at i;obtain⟨⟨u,y⟩,⟨m,z⟩,n⟩:=tN g l;have s:wt bag id=x.2.2.1:=by unfold wt;rw[i,aX,l];rfl
 rw[s];rw[i]at f⊢;simp only[zW,seval,f,n,n.2,m.1,m.2,cR]
def Lf(l:List fy)(n:List UInt8)(a:Int):gM:=((Rk l n)[a.toNat]?).getD (false,0,0)
def W2(bag:List It)(l:List fy)(n:List UInt8)(a:Int):List UInt8:=if vH bag l n a=0 then(if(Lf l n a).1=true then wt bag (Lf l n a)else[])else[]
theorem zk{bag:List It}:∀{l:List gM},Ga bag l=0->∀id∈l,Bh bag id=0
 |[],_,id,h=>by cases h
 |x::r,h,id,a=>by
  rw[Ga]at h;split at h;·rename_i b;exact absurd h b
  ·rename_i b;rcases aV.1 a with rfl|a;·exact l9 b
   ·exact zk h id a
theorem Lh{bag:List It}{id:gM}(h:Bh bag id=0)(hi:id.1=true):¬fg (ko id) bag 0<0:=by intro a;unfold Bh at h;rw[ai (λe=>by rw[hi]at e;cases e.1),aF ⟨hi,a⟩]at h;cases h
theorem abf(b v:ay)(bag:List It)(ws:List WV)(n:List UInt8)(a:Int)(M:Mem)(C:RowM M b 4 (bag.map Bg.eG))(u:VolsM M v ws):Meets ab 173 [fQ b v,.v (.string ⟨n.toArray⟩),.v (.int .i64 a)] M λr _ _=>r=.tup [.v (.string ⟨(W2 bag (ws.map (·.2)) n a).toArray⟩),.v (.int .i64 (vH bag (ws.map (·.2)) n a))]:=by
 refine aH [0,1,2,3,6,7,8,9,10,19,32] Proofs.Tryz.func173 rfl (by kernel_rfl) rfl λw=>?_;have y:=Rl b v bag ws n a M C u;unfold Z9 at y;unfold W2;simp only[fQ]at y;simp only[Proofs.Tryz.f173,fQ,zW,seval];refine az ⟨rfl,rfl⟩ rfl y ?_;by_cases z:vH bag (ws.map (·.2)) n a=0;rotate_left;·have G:=ax z;simp only[zW,seval,G]
 obtain⟨H,I,R,J⟩:=Gc z;obtain⟨j,x,D,E,S,F⟩:=oR I;have d:=s_ D F;rw[d]at J;obtain⟨T,o,p⟩:=iM u E;have e:=u.blk x (aL E);obtain⟨m,rfl⟩:∃m:Nat,a=m:=⟨a.toNat,by omega⟩;obtain⟨q,c,_⟩:=cE (l:=x.2.2) (i:=m) (by omega);obtain⟨f,g,k,s⟩:=tO e c;have A:Lf (ws.map (·.2)) n (m:Int)=q:=by unfold Lf;rw[d,aX,c];rfl
 obtain⟨K,L,_⟩:=lj H;have B:=zk ((gQ L).2 x.2 (aL F)).2.2 q (aL c);have t:=get b bag q M C;simp only[Kc]at t;rw[z,D,A];obtain⟨N,O,P⟩:=q;simp only at f g k t;cases N with
  |false=>simp only[zW,seval,p,p.2,o.1,o.2,s,s.2,f.1,f.2,g.1,g.2,k.1,k.2,cR]
  |true=>
   have Q:OV bag (true,O,P)=0:=by unfold OV;rw[ai (λh=>h K),ai (Lh B rfl)]
   rw[Q,aF rfl]at t;simp only[zW,seval,p,p.2,o.1,o.2,s,s.2,f.1,f.2,g.1,g.2,k.1,k.2,cR];refine az ⟨rfl,rfl⟩ rfl t ?_;simp only[zW,seval]
end Go.X.Vo
namespace Go.X.Vo
open Go Go.X Go.RowKit Go.X.Bg Go.X.Nm
theorem sg:∀a:List UInt8,cd a a=false|[]=>rfl|x::a=>by have b:¬x<x:=UInt8.lt_irrefl x;simp[cd,b,sg a]
theorem mH:∀{a b c:List UInt8},cd a b=true->cd b c=true->cd a c=true
 |_,_,[],_,h=>by cases‹List UInt8›<;>simp[cd]at h
 |_,[],_::_,h,_=>by cases‹List UInt8›<;>simp[cd]at h
 |[],_::_,_::_,_,_=>rfl
 |x::a,y::b,z::c,e,d=>by
  simp only[cd,ug,br,ba,pj]at e d⊢;rcases e with e|⟨rfl,e⟩
  ·rcases d with d|⟨rfl,d⟩;·exact .inl (UInt8.lt_trans e d)
   ·exact .inl e
  ·rcases d with d|⟨rfl,d⟩;·exact .inl d
   ·exact .inr ⟨rfl,mH e d⟩
theorem Nd(bag:List It):∀(p:Option (List UInt8))(l:List fy),Le bag p l=0->(∀q,p=some q->∀v∈l,cd q v.1=true)/\l.Pairwise (λa b=>cd a.1 b.1=true)
 |_,[],_=>⟨λq _ v c=>(cH c).elim,.nil⟩
 |p,x::r,h=>by
  rw[Le]at h;split at h;·cases h
  rename_i f;split at h;·cases h
  split at h;·rename_i g;exact absurd h g
  obtain⟨i,j⟩:=Nd bag (some x.1) r h;have e:=i x.1 rfl;refine⟨λq k v c=>?_,dt.2 ⟨e,j⟩⟩;subst k;have d:cd q x.1=true:=by
   have :lW (some q) x.1=false:=by cases m:lW (some q) x.1 with|false=>rfl|true=>exact absurd (.inr m) f
   simpa[lW]using this
  rcases aV.1 c with rfl|c;·exact d
  ·exact mH d (e v c)
theorem si{bag:List It}{l:List fy}(h:qT bag l=0):l.Pairwise (λa b=>cd a.1 b.1=true):=by
 unfold qT at h;split at h;·cases h
 ·exact(Nd bag none l h).2
theorem Rm:∀{l:List It}{a:List It},Ix a l=0->∀x∈l,me x=0
 |[],_,_,x,b=>(cH b).elim
 |y::r,a,h,x,b=>by
  rw[Ix]at h;split at h;·rename_i c;exact absurd h c
  rename_i c;split at h;·cases h
  split at h;·cases h
  rcases aV.1 b with rfl|b;·exact l9 c
  ·exact Rm h x b
theorem Nf{l:List It}(h:gG l=0):l.length<=64/\∀x∈l,me x=0:=by
 unfold gG at h;split at h;·cases h
 ·exact⟨by omega,Rm h⟩
def tE(bag:List It)(id:gM):List UInt8:=if id.1=true then 43::wt bag id else[45]
def TxtM(bag:List It)(ws:List WV)(es:List (List UInt8×ay))(M:Mem):Prop:=es.length=ws.length/\∀(i:Nat)(x:WV),ws[i]?=some x->∃u,es[i]?=some (x.2.1,u)/\RowM M u 1 ((x.2.2.map (tE bag)).map B5)
abbrev Vb(s:List UInt8):ay:=.string ⟨s.toArray⟩
theorem Vc{α:Type}[DecidableEq α]{a:α}{u:ay}{l:List (α×ay)}(h:∀p∈l,p.1≠a):KU a u l=l++[(a,u)]:=by
 unfold KU;rcases lM a l 0 with⟨b,_⟩|⟨j,v,_,c⟩;·rw[b]
 ·exact absurd rfl (h _ (aL c))
theorem Z'(b v:ay)(bag:List It)(ws:List WV)(M:Mem)(hb:RowM M b 4 (bag.map Bg.eG))(L:VolsM M v ws)(R:qp bag (ws.map (·.2))=0):Meets ab 100 [fQ b v] M (ZQ (λ_ f=>f 0) (λes _=>[.mp (jt Vb es)]) (TxtM bag ws)):=by
 refine aH [0,1,2,3,5,6,7,8,11,12,13,14,22,23,24,25,33] Proofs.Tryz.func100 rfl (by kernel_rfl) rfl λw=>?_;obtain⟨hB,hV,_⟩:=lj R;have S:=gQ hV;have o:=si hV;have U:=Nf hB;have V:=L.row.eQ;rw[ae]at V;simp only[Proofs.Tryz.f100,fQ,zW,seval];refine⟨rfl,oN rfl rfl rfl rfl ?_⟩;simp only[zW,seval,hdel,L.row.gC,L.row.sl,ae];refine bE (X:=Nat×Nat×List (List UInt8×ay)×Mem) (λx=>([(1,true,.ptr 8 0 0 0),(3,true,.own 72),(11,true,.v v),(12,true,.v (.int .i64 ws.length)),(13,true,.v (.int .i64 x.2.1))],[(72,.mp (jt Vb x.2.2.1)),(8,.box [.v b,.v v] none)],x.2.2.2)) (λx=>(x.1+x.2.1=ws.length/\M.le x.2.2.2)/\TxtM bag (ws.take x.2.1) x.2.2.1 x.2.2.2) (λx=>x.1) (ws.length,0,[],M) ⟨⟨rfl,cg _⟩,rfl,λi x m=>by simp at m⟩ (aR ?_) ?_;·simp only[zV,seval,jt,cr,aZ]
 rintro⟨f,i,es,M1⟩⟨⟨n1,N⟩,g⟩;simp only at n1 g N;by_cases q:i<ws.length;rotate_left;·have W:((i:Int)<(ws.length:Int))=False:=ax (by omega);rw[bz (by omega)]at g;simp only[zW,seval,W];exact⟨es,[72],rfl,⟨by simp,by decide⟩,⟨rfl,trivial⟩,g⟩
 have W:((i:Int)<(ws.length:Int))=True:=aK (by omega);have h:=L.le N;have r:=hb.le N;obtain⟨x,m,hd⟩:=cE (l:=ws) (i:=i) q;obtain⟨g0,g1,i0⟩:=iM h m;have a:=h.blk x (aL m);have Y:=S.2 x.2 (du (aL m));have Z:=zk Y.2.2;simp only[zW,seval,W,h.row.gC,h.row.sl,ae,i0,i0.2,g0.1,g0.2,g1.1,g1.2,a.dj,a.gC,a.sl];refine⟨⟨by omega,by omega⟩,bE (X:=Nat×Nat×List (List UInt8)) (λz=>([(1,true,.ptr 8 0 0 0),(3,true,.own 72),(5,true,.ptr 40 0 0 0),(6,true,.own 160),(11,true,.v v),(12,true,.v (.int .i64 ws.length)),(13,true,.v (.int .i64 i)),(22,true,.v x.1),(23,true,.v (.int .i64 x.2.2.length)),(24,true,.v (.int .i64 z.2.1))],[(160,.row 1 (z.2.2.map B5)),(40,.box [.v (.string ⟨x.2.1.toArray⟩),.v x.1] none),(72,.mp (jt Vb es)),(8,.box [.v b,.v v] none)],M1)) (λz=>(z.1+z.2.1=x.2.2.length/\z.2.2.length=x.2.2.length)/\z.2.2.take z.2.1=(x.2.2.take z.2.1).map (tE bag)) (λz=>z.1) (x.2.2.length,0,bg x.2.2.length []) ⟨⟨rfl,dT⟩,rfl⟩ (aR ?_) ?_⟩;·simp only[zV,seval,aZ,List.map_replicate,B5]
 rintro⟨f2,j,T⟩⟨⟨m1,m2⟩,O⟩;simp only at m1 m2 O;by_cases hjl:j<x.2.2.length;rotate_left
 ·have P:((j:Int)<(x.2.2.length:Int))=False:=ax (by omega);rw[bz (by omega),bz (by omega)]at O;subst O;simp only[zW,seval,P];refine⟨rfl,A9 (k:=160) rfl λu M2 A hu=>?_⟩;simp only[im,iq,ir];have B:∀p∈es,p.1≠x.2.1:=λp hp e=>by
   obtain⟨k,hk,rfl⟩:=Ai.1 hp;have C:k<(ws.take i).length:=by rw[<-g.1];exact hk
   obtain⟨z,c⟩:∃z,(ws.take i)[k]?=some z:=⟨_,aP C⟩;obtain⟨u2,D,_⟩:=g.2 k z c;rw[aP hk]at D;rw[d_ D]at e;rw[a6]at C;rw[i_,aF (by omega)]at c;have n:=iI.1 o k i (by rw[ae];omega) (by rw[ae];omega) (by omega);rw[iH,iH]at n;have ez:ws[k]=z:=by rw[aP (by omega)]at c;exact d_ c
   have ex:ws[i]=x:=by rw[aP q]at m;exact d_ m
   rw[ez,ex,e,sg]at n;cases n
  refine Cg (ia (by kernel_rfl)) (key:=x.2.1) (kt:=9) (et:=36) (u:=u) rfl rfl (by kernel_rfl) rfl rfl (λ_=>rfl) rfl rfl ?_;rw[Vc B];simp only[zW,seval,cY,lo,hi,hset];refine⟨by omega,(f-1,i+1,es++[(x.2.1,u)],M2),⟨⟨⟨by simp only;omega,N.dC A⟩,?_⟩,by simp only;omega⟩,aR ?_⟩
  ·refine⟨by simp only[aG,bG,g.1,a6];omega,λk z c=>?_⟩;simp only at c⊢;rw[cm,m]at c;by_cases hki:k<i;·rw[cW (by rw[a6];omega)]at c;obtain⟨u2,D,h6⟩:=g.2 k z c;exact⟨u2,by rw[cW (aI.1 D).1];exact D,h6.le A⟩
   ·rw[nF (by rw[a6];omega)]at c;have d:(ws.take i).length=i:=by rw[a6];omega
    have hk0:k=i:=by have :=(aI.1 c).1;simp at this;omega
    subst hk0;rw[d,Nat.sub_self]at c;simp only[PD,dS,aO]at c;subst c;refine⟨u,?_,hu⟩;rw[nF (by rw[g.1,d];exact bc _),g.1,d,Nat.sub_self];rfl
  ·simp only[zV,seval,aJ]
 have P:((j:Int)<(x.2.2.length:Int))=True:=aK (by omega);obtain⟨y,hy,hd2⟩:=cE (l:=x.2.2) (i:=j) hjl;obtain⟨E,F,G,Q⟩:=tO a hy;have hset:∀s:List UInt8,(T.map B5).set j [.string ⟨s.toArray⟩]=(T.set j s).map B5:=λs=>by rw[oB];rfl
 have H:∀s:List UInt8,s=tE bag y->(T.set j s).take (j+1)=(x.2.2.take (j+1)).map (tE bag):=λs R=>by rw[cm (l:=x.2.2),hy,bq,<-O,cm];rw[List.take_set_of_le (by omega),mz (by omega),R];rfl
 obtain⟨q0,I,J⟩:=y;simp only at E F G;cases q0 with
  |false=>simp only[zW,seval,P,Q,Q.2,E.1,E.2,F.1,F.2,G.1,G.2,ae];refine⟨by omega,by omega,by simp only[cY,lo,hi];omega,(f2-1,j+1,T.set j [45]),⟨⟨⟨by simp only;omega,by simp only[eg];exact m2⟩,H [45] rfl⟩,by simp only;omega⟩,aR ?_⟩;simp only[zV,seval,aJ,hset]
  |true=>
   have hF:=Bg.U9 b bag (true,I,J) M1 r;simp only[Kc]at hF;have K:=Lh (Z _ (aL hy)) rfl;have ht:tE bag (true,I,J)=43::wt bag (true,I,J):=rfl;have hT:∀s t:List UInt8,((T.map B5).set j [.string ⟨s.toArray⟩]).set j [.string ⟨t.toArray⟩]=(T.set j t).map B5:=λs t=>by rw[List.set_set,hset]
   rcases jV (ko (true,I,J)) bag 0 with⟨h3,_⟩|⟨k,z,k1,k2,k3,_⟩;·rw[h3]at K;exact absurd (by decide) K
   rw[b7]at k1;obtain⟨⟨z0,z1⟩,⟨z2,z3⟩,zi⟩:=tN r k2;have hx1:wt bag (true,I,J)=z.2.2.1:=by unfold wt;rw[k1,aX,k2];rfl
   have hl64:=(jY (U.2 z (aL k2))).1.1;rw[hx1]at ht;simp only[zW,seval,P,Q,Q.2,E.1,E.2,F.1,F.2,G.1,G.2,ae];refine⟨by omega,by omega,dV [8,64] (tk [0,1,2,4,6,3,5] (.one 7 (tk [8,9,10,11] (.one 12 (.one 13 .done))))) (by kernel_rfl) (by kernel_rfl) λxs=>?_⟩;simp only[zW,seval,fl,fm,fP,Ca];refine az ⟨rfl,rfl⟩ rfl hF ?_;rw[k1];simp only[zW,seval,fl,fm,fP,Ca,zi,zi.2,z2.1,z2.2,ae,eg,cY,lo,hi];have hT2:=hT [45] (43::z.2.2.1);have e5:List.map B5 (T.set j (43::z.2.2.1))=((T.map B5).set j [iF ⟨#[45]⟩]).set j [iF ⟨(43::z.2.2.1).toArray⟩]:=hT2.symm;refine⟨by omega,⟨by omega,by omega⟩,by omega,⟨by omega,by omega⟩,(f2-1,j+1,T.set j (43::z.2.2.1)),⟨⟨⟨by simp only;omega,by simp only[eg];exact m2⟩,H _ ht.symm⟩,by simp only;omega⟩,dO (df (k:=40) rfl) (dO (df (k:=8) rfl) (aR ?_))⟩;simp only[zV,seval,aJ,e5,hset]
end Go.X.Vo
namespace Go.X.Sb
open Go Go.X Go.RowKit Go.X.Bg
def bk{α:Type}(a:α->Int):List α->Nat|[]=>0|x::l=>if a x<0 then bk a l+1 else 0
def bf{α:Type}(a:α->Int)(l:List α):Bool:=match l[bk a l]? with|some x=>aU (a x=0)|none=>false
theorem Rn{α:Type}(b:α->Int):∀(l:List α)(i:Nat),i<=l.length->(∀q x,q<i->l[q]?=some x->b x<0)->(∀x,l[i]?=some x->¬b x<0)->bk b l=i|[],i,h,_,_=>by simp at h;subst h;rfl|a::l,0,_,_,c=>by have :=c a rfl;rw[bk,ai this]|a::l,i+1,h,e,c=>by have :=e 0 a (by omega) rfl;rw[bk,aF this,Rn b l i (by simpa using h) (λq x f d=>e (q+1) x (by omega) (by simpa using d)) (λx d=>c x (by simpa using d))]
theorem Ro{α:Type}(a:α->Int):∀l:List α,bk a l<=l.length|[]=>bc _|x::l=>by rw[bk,aM];have :=Ro a l;split<;>omega
theorem zl(u:ay)(l:List (Int×Int×List UInt8×Int))(M:Mem)(b:RowM M u 4 (l.map Bg.eG))(g:l.length<=1000000):Meets ab 149 [.v u] M (OwnR (λs=>s) 4 (l.map Bg.eG)):=by
 obtain⟨d,e⟩:=b.FL (by omega);cases c:someV u with
  |true=>refine aH [0,2,4] G9 rfl (by kernel_rfl) rfl λw=>?_;simp only[Kr,zV,↓reduceIte,aj,ak,al,af,aA,ag,reduceCtorEq,aB,aC,aD,aE,aq,ar,au,av,ah,aw,b.sl,c,d,ae];exact⟨⟨by omega,e⟩,56,rfl,rfl⟩
  |false=>
   have f:l=[]:=by cases l with|nil=>rfl|cons a r=>have :=b.2.1 (by simp);rw[c]at this;cases this
   subst f;refine pD ?_;refine aH [0,2,4] G9 rfl (by kernel_rfl) rfl λw=>?_;simp only[Kr,zV,↓reduceIte,aj,ak,al,af,aA,ag,reduceCtorEq,aB,aC,aD,aE,aq,ar,au,av,ah,aw,b.sl,c]
theorem W4{α:Type}(j k m n:α->ay)(p:α->Bool)(f:Nat)(b:List SV)(d:SV.concs b=true)(y:ay)(l:List α)(M:Mem)(g:RowM M y 4 (l.map (λx=>[j x,k x,m x,n x])))(F:∀x∈l,Meets ab f (.agg [.v (j x),.v (k x),.v (m x),.v (n x)]::b) M λr _ _=>r=.v (.bool (p x))):Meets ab 312 [.v y,.fn f b] M λr _ _=>r=.v (.int .i64 (fg p l 0)):=by
 refine aH [0,1,4,5,7,8,9,16] Proofs.Tryz.func312 rfl (by kernel_rfl) (by simp only[SV.concs,SV.conc,d,cK]) λw=>?_;generalize G:fg p l 0=c;have q:=g.eQ;rw[ae]at q;simp only[Proofs.Tryz.f312,zV,↓reduceIte,aj,ak,al,af,aA,ag,reduceCtorEq,aB,aC,aD,aE,aq,ar,au,av,ah,aw,g.gC,g.sl,ae];refine bE (X:=Nat×Nat) (λx=>([(0,true,.v y),(1,true,.fn f b),(7,true,.v (.int .i64 l.length)),(8,true,.v (.int .i64 x.2))],[],M)) (λx=>x.1+x.2=l.length/\fg p (l.drop x.2) x.2=c) (λx=>x.1) (l.length,0) ⟨rfl,G⟩ (aR ?_) ?_;·simp only[zV,↓reduceIte,aj,ak,al,af,aA,ag,reduceCtorEq,aB,aC,aD,aE,aq,ar,au,av,ah,aw]
 rintro⟨H,i⟩⟨I,h⟩;simp only at I h;by_cases s:i<l.length;·have t:((i:Int)<(l.length:Int))=True:=aK (by omega);obtain⟨a,o,u⟩:=cE (l:=l) (i:=i) s;rw[u]at h;simp only[fg]at h;have z:=g.fG (i:=i) (e:=[j a,k a,m a,n a]) (by rw[aN,o];rfl) (off:=0) (by omega);have A:=g.fG (i:=i) (e:=[j a,k a,m a,n a]) (by rw[aN,o];rfl) (off:=1) (by omega);have B:=g.fG (i:=i) (e:=[j a,k a,m a,n a]) (by rw[aN,o];rfl) (off:=2) (by omega);have C:=g.fG (i:=i) (e:=[j a,k a,m a,n a]) (by rw[aN,o];rfl) (off:=3) (by omega);have D:=g.ix (i:=(i:Int)) (by omega) (by rw[ae];omega);simp only[a_,bA]at z A B C;simp only[zW,↓reduceIte,aj,ak,al,af,aA,ag,reduceCtorEq,aB,aC,aD,aE,aq,ar,au,av,ah,aw,t,g.gC,g.sl,ae,D,D.2,z.1,z.2.1,A.1,A.2.1,B.1,B.2.1,C.1,C.2.1];refine az ⟨by simp only[SV.concs,SV.conc,d,cK],rfl⟩ rfl (F a (aL o)) ?_;cases E:p a with|true=>rw[E,aF rfl]at h;subst h;simp only[zW,↓reduceIte,aj,ak,al,af,aA,ag,reduceCtorEq,aB,aC,aD,aE,aq,ar,au,av,ah,aw]|false=>rw[E,ai (by simp)]at h;simp only[zW,↓reduceIte,aj,ak,al,af,aA,ag,reduceCtorEq,aB,aC,aD,aE,aq,ar,au,av,ah,aw,cY,lo,hi];refine⟨by omega,(H-1,i+1),⟨⟨by simp only;omega,h⟩,by simp only;omega⟩,aR ?_⟩;simp only[zV,↓reduceIte,aj,ak,al,af,aA,ag,reduceCtorEq,aB,aC,aD,aE,aq,ar,au,av,ah,aw,aJ]
 ·have t:((i:Int)<(l.length:Int))=False:=ax (by omega);have u:l.drop i=[]:=bh (by omega);rw[u]at h;simp only[fg]at h;subst h;simp only[zV,↓reduceIte,aj,ak,al,af,aA,ag,reduceCtorEq,aB,aC,aD,aE,aq,ar,au,av,ah,aw,t]
theorem Vd(es:List (List ay))(x:List ay)(i:Nat)(M:Mem)(B:i<=es.length)(hb:es.length<=1000000)(t:∀e∈es,e.length=4/\∀c∈e,c.oneCell'=true)(p:x.length=4/\∀c∈x,c.oneCell'=true):MeetsH ab 330 [.own 8000,.v (.int .i64 i),.own 8008] [(8000,.row 4 es),(8008,.row 4 [x])] M (OwnR (λs=>s) 4 (es.take i++x::es.drop i)):=by
 refine gz eh (λe d=>?_) ?_
 ·rcases bU.1 d with d|d;·exact t e (cq d)
  ·rcases aV.1 d with rfl|d;·exact p
   ·exact t e (cG d)
 refine o9 Proofs.Tryz.func330 rfl (by kernel_rfl) λw M0=>?_;refine mr (k:=8000) 1002 rfl (λ_=>rfl) (λd=>?_) (λb cap sp K Y=>?_)
 ·subst d;have Z:i=0:=by simpa using B
  subst Z;refine k9 (live:=[0,1,2,6,7,8,9,16,22,31,68]) ?_;simp only[q9,zV,↓reduceIte,aj,ak,al,af,aA,ag,reduceCtorEq,aB,aC,aD,aE,aq,ar,au,av,ah,aw,im,iq,ir,nzs,eB,gh,isSl];exact .inr ⟨200,rfl,rfl⟩
 refine k9 (live:=[0,1,2,6,7,8,9,16,22,31,68]) ?_;have hm:(cap:Int)<=9223372036854775807:=by have :=K.2.1;simp only[dB]at this;omega
 by_cases hn:i=es.length;·have A:((i:Int)=(es.length:Int))=True:=aK (by omega);simp only[q9,zV,↓reduceIte,aj,ak,al,af,aA,ag,reduceCtorEq,aB,aC,aD,aE,aq,ar,au,av,ah,aw,im,iq,ir,nzs,eB,gh,isSl,A];refine⟨⟨⟨by omega,by omega⟩,by omega⟩,show OpK _ _ _ _ _ _ from y' (es:=es) (sp:=sp) (cap:=cap) (b:=b) 23 8016 1003 rfl rfl rfl K Y rfl (rV ?_)⟩;simp only[zV,↓reduceIte,aj,ak,al,af,aA,ag,reduceCtorEq,aB,aC,aD,aE,aq,ar,au,av,ah,aw,im,iq,ir,nzs];refine⟨⟨by omega,by omega⟩,.inr ⟨200,rfl,?_⟩⟩;simp[hn]
 have A:((i:Int)=(es.length:Int))=False:=ax (by omega);have f:∀e∈es,e.length=4:=λe d=>(t e d).1;have l:=cX f;have o:=cX (λe d=>f e (cq (i:=i) d));have g:=cX (λe d=>f e (cG (i:=i) d));rw[a6,cT B]at o;rw[aT]at g;have C:∀u∈(es.drop i).flatten,u.oneCell'=true:=λu P=>by obtain⟨e,d,P⟩:=rH.1 P;exact(t e (cG d)).2 u P
 have D:es.flatten.take (i*4)=(es.take i).flatten:=n7 f i;have E:es.flatten.drop (i*4)=(es.drop i).flatten:=rY f i;by_cases hr:es.length+1>cap
 ·have Q:((cap:Int)<(es.length:Int)+1)=True:=aK (by omega);simp only[q9,zV,↓reduceIte,aj,ak,al,af,aA,ag,reduceCtorEq,aB,aC,aD,aE,aq,ar,au,av,ah,aw,im,iq,ir,nzs,eB,gh,isSl,A,cY,lo,hi];refine⟨⟨⟨by omega,by omega⟩,by omega⟩,⟨by omega,by omega⟩,⟨rfl,qQ (e:=181) rfl rfl rfl (by kernel_rfl) rfl rfl ?_⟩⟩;simp only[zV,↓reduceIte,aj,ak,al,af,aA,ag,reduceCtorEq,aB,aC,aD,aE,aq,ar,au,av,ah,aw,im,iq,ir,nzs,eB,gh,isSl,A,Q,cY,lo,hi,kc];have em:(es.length:Int)+1-(i:Int)=((es.length+1-i:Nat):Int):=by omega
  simp only[em];refine⟨⟨by omega,by omega⟩,⟨by omega,by omega⟩,⟨by omega,by omega⟩,show OpK _ _ _ _ _ _ from qS (base:=some ⟨b,0,none⟩) (n:=i) (m:=es.length+1-i) (c:=cap) (olds:=(es.take i).flatten) rfl rfl rfl HQ (kn:=.i64) (by kernel_rfl) rfl rfl (.inr ⟨⟨b,0,none⟩,rfl,o,gp (k:=8016) (cs:=es.flatten++sp) rfl λj u q=>uN D.symm q⟩) (by omega) (by decide) rfl (by omega) (by omega) (by simp[hdel,hNoKey,poNoKey,opn_noKeys]) λS a F q1 q2 W=>?_⟩;have G:i+(es.length+1-i)=es.length+1:=by omega
  rw[G]at q1 W;have X:(bg (es.length+1-i) [cz bX 0,cz bX 0,iF ⟨([]:List UInt8).toArray⟩,cz bX 0]).flatten.length=(es.length+1-i)*4:=by simp
  have L:(a=i)=False:=ax (by omega);simp only[zV,↓reduceIte,aj,ak,al,af,aA,ag,reduceCtorEq,aB,aC,aD,aE,aq,ar,au,av,ah,aw,im,iq,ir,nzs,eB,gh,isSl,cY,lo,hi,dK S (es.length+1) a 4 i,G,L];refine⟨⟨by omega,by omega⟩,⟨rfl,oO (k:=8008) 1003 rfl (λ_=>by simp[hpub,poPub,hNoKey,poNoKey,opn_noKeys,opn_pubs]) (λh=>by cases h) λT H z r1 r2=>?_⟩⟩;simp only[zV,↓reduceIte,aj,ak,al,af,aA,ag,reduceCtorEq,aB,aC,aD,aE,aq,ar,au,av,ah,aw,im,iq,ir,nzs,AO];refine iz (k:=320) (cs:=(es.take i).flatten++(bg (es.length+1-i) [cz bX 0,cz bX 0,iF ⟨([]:List UInt8).toArray⟩,cz bX 0]).flatten++F) (news:=x) (m:=1) (ad:=⟨T,0,none⟩) rfl rfl HQ rfl rfl rfl ?_ (gp (k:=8024) (cs:=[x].flatten++z) rfl λj u q=>?_) p.2 ?_ ?_;·rw[p.1];have :qC 1 (es.length+1-i)=1:=cT (by omega);rw[this]
  ·rw[b7,cW (by have :=(aI.1 q).1;simpa using this)];simpa using q
  ·rw[aG,aG,o,X,p.1];omega
  rw[<-o,bN,mZ];generalize hR:((bg (es.length+1-i) [cz bX 0,cz bX 0,iF ⟨([]:List UInt8).toArray⟩,cz bX 0]).flatten++F).drop x.length=R;have I:R.length=(a-i-1)*4:=by rw[<-hR,aT,aG,X,p.1,W];omega
  simp only[xQ,zV,↓reduceIte,aj,ak,al,af,aA,ag,reduceCtorEq,aB,aC,aD,aE,aq,ar,au,av,ah,aw,im,iq,ir,nzs,AO];refine gE 8 (by kernel_rfl) (by kernel_rfl) ?_;have d2:(a=i+1)=False:=ax (by omega);have N:(cap=i)=False:=ax (by omega);have O:((i:Int)+1).toNat=i+1:=by omega
  simp only[zV,↓reduceIte,aj,ak,al,af,aA,ag,reduceCtorEq,aB,aC,aD,aE,aq,ar,au,av,ah,aw,im,iq,ir,nzs,eB,gh,isSl,cY,lo,hi,O,dK S (es.length+1) a 4 (i+1),dK b es.length cap 4 i,d2,N];refine⟨⟨by omega,by omega⟩,⟨⟨by omega,by omega⟩,by omega⟩,⟨⟨by omega,by omega⟩,by omega⟩,⟨rfl,iz (k:=320) (cs:=(es.take i).flatten++(x++R)) (news:=(es.drop i).flatten) (m:=es.length-i) (ad:=⟨b,i*4,none⟩) rfl rfl HQ rfl rfl rfl ?_ (gp (k:=8016) (cs:=es.flatten++sp) rfl λj u q=>kQ E.symm q) C ?_ ?_⟩⟩;·have :qC (es.length-i) (es.length+1-(i+1))=es.length-i:=cT (by omega);rw[this,g]
  ·rw[aG,aG,o,g,I,p.1];omega
  have eo:(i+1)*4=((es.take i).flatten++x).length:=by rw[aG,o,p.1];omega
  rw[eo,<-bN,mZ];have U:(es.take i).flatten++x++((es.drop i).flatten++R.drop (es.drop i).flatten.length)=(es.take i++x::es.drop i).flatten++R.drop (es.drop i).flatten.length:=by simp
  rw[U];have r:(es.take i++x::es.drop i).length=es.length+1:=by simp;omega
  simp only[xQ,zV,↓reduceIte,aj,ak,al,af,aA,ag,reduceCtorEq,aB,aC,aD,aE,aq,ar,au,av,ah,aw,im,iq,ir,nzs,AO];refine .inl ⟨S,320,a,R.drop (es.drop i).flatten.length,by rw[r],rfl,by omega,q2,?_⟩;rw[aT,I,g,r];omega
 ·have Q:((cap:Int)<(es.length:Int)+1)=False:=ax (by omega);have e3:((es.length:Int)+1).toNat=es.length+1:=by omega
  have O:((i:Int)+1).toNat=i+1:=by omega
  have L:(cap=i+1)=False:=ax (by omega);simp only[q9,zV,↓reduceIte,aj,ak,al,af,aA,ag,reduceCtorEq,aB,aC,aD,aE,aq,ar,au,av,ah,aw,im,iq,ir,nzs,eB,gh,isSl,A,cY,lo,hi];refine⟨⟨⟨by omega,by omega⟩,by omega⟩,⟨by omega,by omega⟩,⟨rfl,qQ (e:=181) rfl rfl rfl (by kernel_rfl) rfl rfl ?_⟩⟩;simp only[zV,↓reduceIte,aj,ak,al,af,aA,ag,reduceCtorEq,aB,aC,aD,aE,aq,ar,au,av,ah,aw,im,iq,ir,nzs,eB,gh,isSl,A,Q,cY,lo,hi,kc,e3,O,dK b (es.length+1) cap 4 (i+1),L];refine⟨⟨by omega,by omega⟩,⟨by omega,by omega⟩,⟨by omega,by omega⟩,⟨⟨by omega,by omega⟩,by omega⟩,rj (k:=8008) 1003 rfl (λ_=>by simp[hpub,poPub,hNoKey,poNoKey,opn_noKeys,opn_pubs]) (λh=>by cases h) (λT H z r1 r2=>?_) (λ_=>rfl)⟩;simp only[zV,↓reduceIte,aj,ak,al,af,aA,ag,reduceCtorEq,aB,aC,aD,aE,aq,ar,au,av,ah,aw,im,iq,ir,nzs,AO];refine p7 (k:=8024) (k2:=8016) (cs:=[x].flatten++z) (cs2:=es.flatten++sp) (tS:=27) (tR:=4) (e:=181) (sz:=4) rfl (by kernel_rfl) Proofs.Tryz.sizeOf181 (λw x y v h=>by rw[run_callFunc_extern Proofs.Tryz.func343 (by kernel_rfl) (by kernel_rfl) (by kernel_rfl) (e:=nP #[27,27] #[4]) (by kernel_rfl),h];rfl) rfl rfl rfl ?_ ?_;·rw[aG,l];omega
  simp only[zV,↓reduceIte,aj,ak,al,af,aA,ag,reduceCtorEq,aB,aC,aD,aE,aq,ar,au,av,ah,aw,im,iq,ir,nzs,AO];refine gE 8 (by kernel_rfl) (by kernel_rfl) ?_;have N:(cap=i)=False:=ax (by omega);simp only[zV,↓reduceIte,aj,ak,al,af,aA,ag,reduceCtorEq,aB,aC,aD,aE,aq,ar,au,av,ah,aw,im,iq,ir,nzs,eB,gh,isSl,cY,lo,hi,O,dK b (es.length+1) cap 4 (i+1),dK b (es.length+1) cap 4 i,L,N];refine⟨⟨by omega,by omega⟩,⟨⟨by omega,by omega⟩,by omega⟩,⟨⟨by omega,by omega⟩,by omega⟩,⟨rfl,iz (k:=8016) (cs:=es.flatten++sp) (news:=(es.drop i).flatten) (m:=es.length+1-i) (ad:=⟨b,i*4,none⟩) rfl rfl HQ rfl rfl rfl ?_ (gp (k:=8016) (cs:=es.flatten++sp) rfl λj u q=>kQ E.symm q) C ?_ ?_⟩⟩
  ·have :qC (es.length+1-i) (es.length+1-(i+1))=es.length-i:=by rw[show es.length+1-(i+1)=es.length-i by omega];exact Nat.min_eq_right (by omega)
   rw[this,g]
  ·rw[aG,l,g];omega
  simp only[xQ,zV,↓reduceIte,aj,ak,al,af,aA,ag,reduceCtorEq,aB,aC,aD,aE,aq,ar,au,av,ah,aw,im,iq,ir,nzs,AO,eB,gh,isSl,dK b (es.length+1) cap 4 i,N];have V:(km (es.flatten++sp) ((i+1)*4) (es.drop i).flatten).length=(es.flatten++sp).length:=by unfold km;rw[aG,aG,a6,aT,aG,l,g];omega
  refine⟨⟨by omega,by omega⟩,⟨rfl,iz (k:=8016) (cs:=km (es.flatten++sp) ((i+1)*4) (es.drop i).flatten) (news:=x) (m:=1) (ad:=⟨T,0,none⟩) rfl rfl HQ rfl rfl rfl ?_ (gp (k:=8024) (cs:=[x].flatten++z) rfl λj u q=>?_) p.2 ?_ ?_⟩⟩;·rw[p.1];have :qC 1 (es.length+1-i)=1:=cT (by omega);rw[this]
  ·rw[b7,cW (by have :=(aI.1 q).1;simpa using this)];simpa using q
  ·rw[V,aG,l,p.1];omega
  have J:=wL (es.flatten++sp) (es.drop i).flatten x (i*4) (by rw[aG,l,p.1];omega);rw[p.1,show i*4+4=(i+1)*4 by omega,jC (by omega),D]at J;rw[J];have U:(es.take i).flatten++x++((es.drop i).flatten++(es.flatten++sp).drop ((i+1)*4+(es.drop i).flatten.length))=(es.take i++x::es.drop i).flatten++(es.flatten++sp).drop ((i+1)*4+(es.drop i).flatten.length):=by simp
  rw[U];have r:(es.take i++x::es.drop i).length=es.length+1:=by simp;omega
  simp only[xQ,zV,↓reduceIte,aj,ak,al,af,aA,ag,reduceCtorEq,aB,aC,aD,aE,aq,ar,au,av,ah,aw,im,iq,ir,nzs,AO];refine .inl ⟨b,8016,cap,_,by rw[r],rfl,by omega,K.2.1,?_⟩;rw[aT,aG,l,g,r,K.2.2];omega
theorem bsB{α:Type}(m n o p:α->ay)(b:α->Int)(f:Nat)(F G H I y:ay)(l:List α)(M:Mem)(c:RowM M y 4 (l.map λx=>[m x,n x,o x,p x]))(hb:l.length<=1000000)(ht:F.oneCell'=true/\G.oneCell'=true/\H.oneCell'=true/\I.oneCell'=true)(R:∀x∈l,Meets ab f [.agg [.v (m x),.v (n x),.v (o x),.v (p x)],.agg [.v F,.v G,.v H,.v I]] M λr _ _=>r=.v (.int .i64 (b x)))(d:∀(i j:Nat)(x y:α),i<=j->l[i]?=some x->l[j]?=some y->b y<0->b x<0):Meets ab 329 [.v y,.agg [.v F,.v G,.v H,.v I],.fn f []] M λr _ _=>r=.tup [.v (.int .i64 (bk b l)),.v (.bool (bf b l))]:=by
 refine aH [0,1,2,4,6,7,8,9,10,11,17,31] Proofs.Tryz.func329 rfl (by kernel_rfl) rfl λw=>?_;simp only[Proofs.Tryz.f329,zW,↓reduceIte,aj,ak,al,af,aA,ag,reduceCtorEq,aB,aC,aD,aE,aq,ar,au,av,ah,aw,c.gC,c.sl,ae];refine bE (X:=Nat×Nat) (λx=>([(0,true,.v y),(2,true,.fn f []),(4,true,.ptr 32 0 0 0),(8,true,.v (.int .i64 l.length)),(9,true,.v (.int .i64 x.1)),(10,true,.v (.int .i64 x.2))],[(32,.box [.v F,.v G,.v H,.v I] none)],M)) (λx=>(x.1<=x.2/\x.2<=l.length)/\(∀q g,q<x.1->l[q]?=some g->b g<0)/\∀q g,x.2<=q->l[q]?=some g->0<=b g) (λx=>x.2-x.1) (0,l.length) ⟨⟨by simp,by simp⟩,λq g u=>by simp at u,λq g u a=>by rw[dm (by simpa using u)]at a;cases a⟩ (aR ?_) ?_;·simp only[zV,↓reduceIte,aj,ak,al,af,aA,ag,reduceCtorEq,aB,aC,aD,aE,aq,ar,au,av,ah,aw,aZ]
 rintro⟨i,j⟩⟨⟨S,K⟩,L,N⟩;simp only at S K L N;by_cases T:i<j
 ·have O:((i:Int)<(j:Int))=True:=aK (by omega);have U:xq .u64 ((i:Int)+(j:Int))=(i:Int)+(j:Int):=fO ⟨by simp only[lo];omega,by simp only[hi];omega⟩;have V:xq .i64 (((i:Int)+(j:Int))/2^1)=(((i+j)/2:Nat):Int):=by
   rw[show(2:Int)^1=2 from rfl,fO];·omega
   ·exact⟨by simp only[lo];omega,by simp only[hi];omega⟩
  have W:(i+j)/2<l.length:=by omega
  obtain⟨x,a,_⟩:=cE (l:=l) W;have z:=c.fG (i:=(i+j)/2) (e:=[m x,n x,o x,p x]) (by rw[aN,a];rfl) (off:=0) (by omega);have A:=c.fG (i:=(i+j)/2) (e:=[m x,n x,o x,p x]) (by rw[aN,a];rfl) (off:=1) (by omega);have B:=c.fG (i:=(i+j)/2) (e:=[m x,n x,o x,p x]) (by rw[aN,a];rfl) (off:=2) (by omega);have C:=c.fG (i:=(i+j)/2) (e:=[m x,n x,o x,p x]) (by rw[aN,a];rfl) (off:=3) (by omega);have E:=c.ix (i:=(((i+j)/2:Nat):Int)) (by omega) (by rw[ae];omega);simp only[a_,bA]at z A B C;generalize Y:(i+j)/2=h at*;simp only[zW,↓reduceIte,aj,ak,al,af,aA,ag,reduceCtorEq,aB,aC,aD,aE,aq,ar,au,av,ah,aw,O,U,V,cY,lo,hi];refine⟨by omega,by decide,dD (by kernel_rfl) (by kernel_rfl) ?_⟩;simp only[zW,↓reduceIte,aj,ak,al,af,aA,ag,reduceCtorEq,aB,aC,aD,aE,aq,ar,au,av,ah,aw,E,E.2,z.1,z.2.1,A.1,A.2.1,B.1,B.2.1,C.1,C.2.1];refine⟨_,⟨⟨rfl,rfl⟩,R x (aL a)⟩,?_⟩;by_cases J:b x<0;·have t:(b x<0)=True:=aK J;simp only[zW,↓reduceIte,aj,ak,al,af,aA,ag,reduceCtorEq,aB,aC,aD,aE,aq,ar,au,av,ah,aw,t,cY,lo,hi];refine⟨by omega,(h+1,j),⟨⟨⟨by simp only;omega,K⟩,λq g u D=>d q h g x (by simp only at u;omega) D a J,N⟩,by simp only;omega⟩,aR ?_⟩;simp only[zV,↓reduceIte,aj,ak,al,af,aA,ag,reduceCtorEq,aB,aC,aD,aE,aq,ar,au,av,ah,aw,aJ]
  ·have t:(b x<0)=False:=ax J;simp only[zW,↓reduceIte,aj,ak,al,af,aA,ag,reduceCtorEq,aB,aC,aD,aE,aq,ar,au,av,ah,aw,t,cY,lo,hi];refine⟨(i,h),⟨⟨⟨by simp only;omega,by simp only;omega⟩,L,λq g u D=>PZ.1 λP=>J (d h q x g u a D P)⟩,by simp only;omega⟩,aR ?_⟩;simp only[zV,↓reduceIte,aj,ak,al,af,aA,ag,reduceCtorEq,aB,aC,aD,aE,aq,ar,au,av,ah,aw]
 ·have O:((i:Int)<(j:Int))=False:=ax (by omega);have Z:i=j:=by omega
  subst Z;have k:bk b l=i:=Rn b l i K L (λx a=>PZ.2 (N i x (bc _) a));simp only[zW,↓reduceIte,aj,ak,al,af,aA,ag,reduceCtorEq,aB,aC,aD,aE,aq,ar,au,av,ah,aw,O];refine dD (by kernel_rfl) (by kernel_rfl) ?_;by_cases Q:i<l.length
  ·have t:((i:Int)<(l.length:Int))=True:=aK (by omega);obtain⟨x,a,_⟩:=cE (l:=l) Q;have z:=c.fG (i:=i) (e:=[m x,n x,o x,p x]) (by rw[aN,a];rfl) (off:=0) (by omega);have A:=c.fG (i:=i) (e:=[m x,n x,o x,p x]) (by rw[aN,a];rfl) (off:=1) (by omega);have B:=c.fG (i:=i) (e:=[m x,n x,o x,p x]) (by rw[aN,a];rfl) (off:=2) (by omega);have C:=c.fG (i:=i) (e:=[m x,n x,o x,p x]) (by rw[aN,a];rfl) (off:=3) (by omega);have E:=c.ix (i:=(i:Int)) (by omega) (by rw[ae];omega);simp only[a_,bA]at z A B C;have s:bf b l=aU (b x=0):=by simp only[bf,k,a]
   simp only[zW,↓reduceIte,aj,ak,al,af,aA,ag,reduceCtorEq,aB,aC,aD,aE,aq,ar,au,av,ah,aw,t,E,E.2,z.1,z.2.1,A.1,A.2.1,B.1,B.2.1,C.1,C.2.1];refine⟨_,⟨⟨rfl,rfl⟩,R x (aL a)⟩,?_⟩;simp only[zW,↓reduceIte,aj,ak,al,af,aA,ag,reduceCtorEq,aB,aC,aD,aE,aq,ar,au,av,ah,aw,k,s]
  ·have t:((i:Int)<(l.length:Int))=False:=ax (by omega);have s:bf b l=false:=by simp only[bf,k,dm (show l.length<=i by omega)]
   simp only[zW,↓reduceIte,aj,ak,al,af,aA,ag,reduceCtorEq,aB,aC,aD,aE,aq,ar,au,av,ah,aw,t,k,s];refine⟨.v (.int .i64 0),?_⟩;simp only[zW,↓reduceIte,aj,ak,al,af,aA,ag,reduceCtorEq,aB,aC,aD,aE,aq,ar,au,av,ah,aw,t,k,s]
theorem Ve(es:List (List ay))(i j:Nat)(M:Mem)(K:i<=j)(I:j<=es.length)(S:es.length<=1000000):MeetsH ab 327 [.own 8000,.v (.int .i64 i),.v (.int .i64 j)] [(8000,.row 4 es)] M (OwnR (λs=>s) 4 (es.take i++es.drop j)):=by
 refine uM (A:=λs=>[s,.v (.int .i64 i),.v (.int .i64 j)]) 8000 (lN _ rfl) (λa=>?_) (λb c n L B N z=>gz eh (λe a=>?_) ?_) ⟨_,uu,by kernel_rfl,by kernel_rfl⟩
 ·subst a;have O:i=0:=by simp at I;omega
  have e2:j=0:=by simpa using I
  subst O e2;refine gz eh (λe a=>by cases a) ?_;refine fS [0,1,2,6,7,16] uu rfl (by kernel_rfl) λw P=>?_;simp only[xA,zV,↓reduceIte,aj,ak,al,af,aA,ag,reduceCtorEq,aB,aC,aD,aE,aq,ar,au,av,ah,aw,eB,gh,isSl];exact .inr trivial
 ·rcases bU.1 a with a|a;·exact z e (cq a)
  ·exact z e (cG a)
 refine fS [0,1,2,6,7,16] uu rfl (by kernel_rfl) λw P=>?_;have T:(c:Int)<=9223372036854775807:=by simp only[dB]at B;omega
 by_cases Q:i=j;·subst Q;have C:((i:Int)=(i:Int))=True:=aK rfl;simp only[xA,zV,↓reduceIte,aj,ak,al,af,aA,ag,reduceCtorEq,aB,aC,aD,aE,aq,ar,au,av,ah,aw,eB,gh,isSl,C];exact⟨⟨by omega,by omega,by omega⟩,.inl ⟨b,8000,c,n,by simp,by rw[iT];rfl,by simpa using L,B,by simpa using N⟩⟩
 have C:((i:Int)=(j:Int))=False:=ax (by omega);simp only[xA,zV,↓reduceIte,aj,ak,al,af,aA,ag,reduceCtorEq,aB,aC,aD,aE,aq,ar,au,av,ah,aw,eB,gh,isSl,C];refine⟨⟨by omega,by omega,by omega⟩,gE 6 (by kernel_rfl) (by kernel_rfl) ?_⟩;have d:∀e∈es,e.length=4:=λe a=>(z e a).1;have o:=cX d;have f:=cX (λe a=>d e (cG (i:=j) a));have p:=cX (λe a=>d e (cq (i:=i) a));rw[aT]at f;rw[a6,cT (by omega)]at p;simp only[zV,↓reduceIte,aj,ak,al,af,aA,ag,reduceCtorEq,aB,aC,aD,aE,aq,ar,au,av,ah,aw,eB,gh,isSl,nzs,kc,dK b es.length c 4 j];refine⟨by omega,⟨by omega,by omega⟩,EP (e2:=181) (k:=8000) (cs:=es.flatten++n) (m:=es.length-j) (news:=(es.drop j).flatten) rfl rfl rfl HQ (by kernel_rfl) rfl rfl rfl f (gp (k:=8000) (cs:=es.flatten++n) rfl λq u D=>?_) (λu E=>?_) (by omega) ?_ ?_⟩
 ·by_cases F:c=j;·rw[TQ (by omega)]at D;simp at D
  ·rw[ai F];exact kQ (rY d j).symm D
 ·obtain⟨e,a,E⟩:=rH.1 E;exact(z e (cG a)).2 u E
 ·rw[f,aG,o];omega
 have R:km (es.flatten++n) (0+i*4) (es.drop j).flatten=(es.take i++es.drop j).flatten++(es.flatten++n).drop (i*4+(es.drop j).flatten.length):=by unfold km;rw[b7,jC (by omega),n7 d,j4]
 have r:(es.take i++es.drop j).length=i+(es.length-j):=by rw[aG,a6,aT,cT (by omega)]
 have t:(es.take i++es.drop j).flatten.length=(i+(es.length-j))*4:=by rw[j4,aG,p,f];omega
 rw[R];generalize G:(es.flatten++n).drop (i*4+(es.drop j).flatten.length)=g;have x:g.length=(c-(i+(es.length-j)))*4:=by rw[<-G,aT,aG,o,f];omega
 generalize J:es.take i++es.drop j=y at*;simp only[zV,↓reduceIte,aj,ak,al,af,aA,ag,reduceCtorEq,aB,aC,aD,aE,aq,ar,au,av,ah,aw,eB,gh,isSl,nzs,dK];refine⟨⟨by omega,by omega⟩,⟨rfl,qR (k:=8000) rfl rfl HQ rfl rfl rfl rfl ?_ ?_⟩⟩;·rw[aG,t];split<;>omega
 have l:∃h:List ay,h.length=g.length/\km (y.flatten++g) (if c=i+(es.length-j)then 0 else(i+(es.length-j))*4) (bg (es.length-(i+(es.length-j))) [cz bX 0,cz bX 0,iF ⟨([]:List UInt8).toArray⟩,cz bX 0]).flatten=y.flatten++h:=by
  by_cases F:c=i+(es.length-j)
  ·have :es.length-(i+(es.length-j))=0:=by omega
   exact⟨g,rfl,by rw[this,List.replicate_zero,List.flatten_nil,H_]⟩
  ·rw[ai F,<-t,mZ];refine⟨_,?_,rfl⟩;rw[aG,aT,x];simp;omega
 obtain⟨h,H,l⟩:=l;rw[l];simp only[zV,↓reduceIte,aj,ak,al,af,aA,ag,reduceCtorEq,aB,aC,aD,aE,aq,ar,au,av,ah,aw,eB,gh,isSl,nzs];exact .inl ⟨b,8000,c,h,by rw[r],rfl,by omega,B,by rw[H,x,r]⟩
theorem Z_{α:Type}(g m n o:α->ay)(p:α->Bool)(f:Nat)(l:List α)(M:Mem)(hb:l.length<=1000000)(I:∀x∈l,(g x).oneCell'=true/\(m x).oneCell'=true/\(n x).oneCell'=true/\(o x).oneCell'=true)(hf:∀M',M.le M'->∀x∈l,Meets ab f [.agg [.v (g x),.v (m x),.v (n x),.v (o x)]] M' λr _ _=>r=.v (.bool (p x))):MeetsH ab 258 [.own 8000,.fn f []] [(8000,.row 4 (l.map λx=>[g x,m x,n x,o x]))] M (OwnR (λs=>s) 4 ((l.filter λx=>!p x).map λx=>[g x,m x,n x,o x])):=by
 have O:∀x∈l,([g x,m x,n x,o x]:List ay).length=4/\∀c∈[g x,m x,n x,o x],c.oneCell'=true:=λx d=>⟨rfl,λc hc=>by
  simp only[aV,cH,fK]at hc;rcases hc with rfl|rfl|rfl|rfl;·exact(I x d).1
  ·exact(I x d).2.1
  ·exact(I x d).2.2.1
  ·exact(I x d).2.2.2⟩;refine gz eh (λe D=>?_) ?_;·obtain⟨x,d,rfl⟩:=dq.1 D;exact O x (BI.1 d).1
 refine fS [0,1,4,5,6,7,12,19,29] Proofs.Tryz.func258 rfl (by kernel_rfl) λw M0=>?_;simp only[Proofs.Tryz.f258,zW,↓reduceIte,aj,ak,al,af,aA,ag,reduceCtorEq,aB,aC,aD,aE,aq,ar,au,av,ah,aw];refine dP (k:=8000) rfl rfl rfl (λ_=>rfl) (λv2 M2 P Q=>W4 g m n o p f [] rfl v2 l M2 Q (λx d=>hf M2 P x d)) ?_;rcases jV p l 0 with⟨u,R⟩|⟨y,x0,u,J,S,T⟩;·rw[u];have ef:(l.filter λx=>!p x)=l:=DS.2 (λx d=>by rw[R x d];rfl);rw[ef];simp only[zV,↓reduceIte,aj,ak,al,af,aA,ag,reduceCtorEq,aB,aC,aD,aE,aq,ar,au,av,ah,aw,im,iq,ir,nzs];exact .inr ⟨8000,rfl,rfl⟩
 rw[b7]at u;rw[u];have hjl:y<l.length:=(aI.1 J).1;have c0:((y:Int)=-1)=False:=ax (by omega);simp only[zW,↓reduceIte,aj,ak,al,af,aA,ag,reduceCtorEq,aB,aC,aD,aE,aq,ar,au,av,ah,aw,c0,cY,lo,hi];refine⟨by omega,?_⟩;have E:((l.take (y+1)).filter λx=>!p x)=l.take y:=by
  rw[cm,J,G'];have e1:((l.take y).filter λx=>!p x)=l.take y:=DS.2 (λx d=>by
   obtain⟨q,z⟩:=List.mem_iff_getElem?.1 d;rw[i_]at z;split at z;·rw[T q x (by assumption) z];rfl
   ·cases z);rw[e1];simp[S]
 refine ER (X:=Nat×Nat×Nat×List (List ay)) (λx=>([(0,true,.own 8000),(1,true,.fn f []),(5,true,.v (.int .i64 x.2.1)),(6,true,.v (.int .i64 x.2.2.1))],[(8000,.row 4 x.2.2.2)],M)) (λx=>((x.1+x.2.2.1=l.length/\x.2.1<x.2.2.1)/\x.2.2.2.length=l.length)/\x.2.2.2.take x.2.1=((l.take x.2.2.1).filter λx=>!p x).map (λx=>[g x,m x,n x,o x])/\x.2.2.2.drop x.2.2.1=(l.drop x.2.2.1).map (λx=>[g x,m x,n x,o x])) (λx=>x.1) (l.length-(y+1),y,y+1,l.map λx=>[g x,m x,n x,o x]) ⟨⟨⟨by simp only;omega,by simp⟩,by simp⟩,by simp only;rw[E,eH],by simp only;rw[fI]⟩ (aR ?_) ?_;·simp only[zV,↓reduceIte,aj,ak,al,af,aA,ag,reduceCtorEq,aB,aC,aD,aE,aq,ar,au,av,ah,aw,aJ]
 rintro⟨fu,i,j,a⟩⟨⟨⟨g1,g2⟩,t⟩,H,U⟩;simp only at g1 g2 t H U;by_cases hj:j<l.length
 ·refine k9 (live:=[0,1,4,5,6,7,12,19,29]) ?_;have V:((j:Int)<(l.length:Int))=True:=aK (by omega);obtain⟨x,d,hd⟩:=cE (l:=l) hj;have W:a[j]?=some [g x,m x,n x,o x]:=by have :=aY (λl=>l[0]?) U;simp only[fx,eJ]at this;rw[this,aN,fx,eJ,d];rfl
  have Y:a.getD j []=[g x,m x,n x,o x]:=by rw[cN,W];rfl
  simp only[zW,↓reduceIte,aj,ak,al,af,aA,ag,reduceCtorEq,aB,aC,aD,aE,aq,ar,au,av,ah,aw,t,V,Y,cY,lo,hi,a_,bA,cQ,List.take_succ_cons,fE,ca,cr];have ho:=I x (aL d);refine⟨by omega,hj,ho,az ⟨rfl,rfl⟩ rfl (hf M (cg M) x (aL d)) ?_⟩;have A:(l.take (j+1)).filter (λx=>!p x)=(l.take j).filter (λx=>!p x)++(if p x=true then[]else[x]):=by rw[cm,d,G'];congr 1;cases B:p x<;>simp[B]
  have K:a.drop (j+1)=(l.drop (j+1)).map (λx=>[g x,m x,n x,o x]):=by have :=aY (nc 1) U;rwa[l6,<-fI,l6]at this
  cases B:p x with
   |true=>rw[B,aF rfl,cS]at A;simp only[zW,↓reduceIte,aj,ak,al,af,aA,ag,reduceCtorEq,aB,aC,aD,aE,aq,ar,au,av,ah,aw,cY,lo,hi];refine⟨by omega,(fu-1,i,j+1,a),⟨⟨⟨⟨by simp only;omega,by simp only;omega⟩,t⟩,by simp only;rw[A];exact H,K⟩,by simp only;omega⟩,aR ?_⟩;simp only[zV,↓reduceIte,aj,ak,al,af,aA,ag,reduceCtorEq,aB,aC,aD,aE,aq,ar,au,av,ah,aw,aJ]
   |false=>
    rw[B,ai (by simp)]at A;simp only[zW,↓reduceIte,aj,ak,al,af,aA,ag,reduceCtorEq,aB,aC,aD,aE,aq,ar,au,av,ah,aw,t,cY,lo,hi];refine⟨⟨by omega,by omega⟩,⟨ho,by omega⟩,by omega,by omega,(fu-1,i+1,j+1,a.set i [g x,m x,n x,o x]),⟨⟨⟨⟨by simp only;omega,by simp only;omega⟩,by simp only;rw[eg];exact t⟩,?_,?_⟩,by simp only;omega⟩,aR ?_⟩;·simp only;rw[A,bq,<-H,cm,List.take_set_of_le (by omega),mz (by omega)];rfl
    ·simp only;rw[List.drop_set_of_lt (by omega)];exact K
    ·simp only[zV,↓reduceIte,aj,ak,al,af,aA,ag,reduceCtorEq,aB,aC,aD,aE,aq,ar,au,av,ah,aw,aJ]
 ·have V:((j:Int)<(l.length:Int))=False:=ax (by omega);have ej:j=l.length:=by omega
  refine Ch (σ':=[(0,true,.own 8000),(5,true,.v (.int .i64 i)),(6,true,.v (.int .i64 j))]) ?_ (by simp only[zV,↓reduceIte,aj,ak,al,af,aA,ag,reduceCtorEq,aB,aC,aD,aE,aq,ar,au,av,ah,aw]);refine mr (k:=8000) 1002 rfl (λ_=>rfl) (λh=>by simp only at h;rw[h]at t;simp at t;omega) λb F Z q1' G=>?_;refine k9 (live:=[0,1,4,5,6,7,12,19,29]) ?_;simp only[zV,↓reduceIte,aj,ak,al,af,aA,ag,reduceCtorEq,aB,aC,aD,aE,aq,ar,au,av,ah,aw,im,iq,ir,nzs,t,V,eB,gh,isSl,cY,lo,hi];have z:=t▸q1';have d1:(F=i)=False:=ax (by omega);have C:=cX (λe D=>(G e D).1);have L:=cX (λe D=>(G e (cq (i:=i) D)).1);rw[a6,cT (by omega)]at L;simp only at C L z;simp only[dK b l.length F 4 i,d1,cA];refine⟨⟨⟨by omega,by omega⟩,by omega⟩,⟨rfl,qR (k:=8016) (cs:=a.flatten++Z) rfl rfl HQ rfl rfl rfl rfl (by rw[aG,C,t,z.2.2];omega) ?_⟩⟩;have ep:km (a.flatten++Z) (i*4) (bg (l.length-i) [cz bX 0,cz bX 0,iF ⟨([]:List UInt8).toArray⟩,cz bX 0]).flatten=(a.take i).flatten++((bg (l.length-i) [cz bX 0,cz bX 0,iF ⟨([]:List UInt8).toArray⟩,cz bX 0]).flatten++(a.flatten++Z).drop (i*4+(bg (l.length-i) [cz bX 0,cz bX 0,iF ⟨([]:List UInt8).toArray⟩,cz bX 0]).flatten.length)):=by unfold km;rw[jC (by rw[C,t];omega),n7 (λe D=>(G e D).1),bN]
  rw[ep];have hzl:(bg (l.length-i) [cz bX 0,cz bX 0,iF ⟨([]:List UInt8).toArray⟩,cz bX 0]).flatten.length=(l.length-i)*4:=by simp
  simp only[zV,↓reduceIte,aj,ak,al,af,aA,ag,reduceCtorEq,aB,aC,aD,aE,aq,ar,au,av,ah,aw,im,iq,ir,nzs,AO,eB,gh,isSl,kc];rw[ej,sH]at H;have N:((l.filter λx=>!p x).map λx=>[g x,m x,n x,o x]).length=i:=by rw[<-H,a6];omega
  rw[H];refine⟨by omega,.inl ⟨b,8016,F,_,by rw[N],rfl,by omega,z.2.1,?_⟩⟩;rw[aG,aT,aG,hzl,C,t,z.2.2,N];omega
end Go.X.Sb
namespace Go.X.Bp
open Go Go.X Go.RowKit Go.X.Bg Go.X.Sb
def zIt:It:=(0,0,[],0)
def z3:gM:=(false,0,0)
def sj(l:List It)(s:List UInt8):Int:=fg (λx:It=>aU (x.2.2.1=s)) l 0
def PI(l:List It)(i:Int):It:=(l[i.toNat]?).getD zIt
def nN(l:List It)(i:Nat)(r:Int):List It:=l.set i ((PI l i).1,(PI l i).2.1,(PI l i).2.2.1,r)
def DW(l:List It)(s:Int)(n:Nat):Bool:=aU (0<=fg (ko (true,s,(n:Int))) l 0)
def uY(l:List It)(s:Int):Nat:=((sE 65).find? λn=>!DW l s n).getD 0
def wQ(l:List It)(x:It):List It:=l.take (bk (λy=>kK y x) l)++x::l.drop (bk (λy=>kK y x) l)
def mf(l:List It)(s:List UInt8):List It×gM×Int:=if 64<s.length then([],z3,2)else if 0<=sj l s then(if(PI l (sj l s)).2.2.2=1000000 then([],z3,8)else(nN l (sj l s).toNat ((PI l (sj l s)).2.2.2+1),(true,(PI l (sj l s)).1,(PI l (sj l s)).2.1),0))else if l.length=64 then([],z3,8)else(wQ l (fX s,(uY l (fX s):Int),s,1),(true,fX s,(uY l (fX s):Int)),0)
def OW(l:List It)(s:List UInt8):List It×gM×Int:=if gG l≠0 then([],z3,gG l)else mf l s
theorem vI(l:List It)(s:Int)(n:Nat):DW l s n=true↔∃x∈l,x.1=s/\x.2.1=(n:Int):=by unfold DW;rw[br,B9,List.any_eq_true];refine exists_congr λx=>and_congr_right λ_=>?_;unfold ko;simp
theorem pig(s:Int):∀(n:Nat)(l:List It),(∀m,m<n->DW l s m=true)->n<=l.length|0,_,_=>bJ _|n+1,l,h=>by obtain⟨x,d,f,b⟩:=(vI l s n).1 (h n (by omega));have g:=pig s n (l.erase x) (λm j=>(vI _ s m).2 (by obtain⟨y,i,c,a⟩:=(vI l s m).1 (h m (by omega));refine⟨y,(List.mem_erase_of_ne (λe=>?_)).2 i,c,a⟩;rw[e,b]at a;omega));rw[List.length_erase_of_mem d]at g;have :=List.length_pos_of_mem d;omega
theorem CF{l:List It}{s:Int}{n:Nat}(h:∀m,m<n->DW l s m=true)(a:DW l s n=false)(b:n<65):uY l s=n:=by
 unfold uY;have :(sE 65).find? (λn=>!DW l s n)=some n:=by rw[List.find?_eq_some_iff_getElem];refine⟨by rw[a];rfl,n,by simpa using b,by simp,λj c=>?_⟩;simp only[List.getElem_range];rw[h j c];rfl
 rw[this];rfl
theorem ta(x:It):∀c∈Bg.eG x,c.oneCell'=true:=λc a=>by simp only[Bg.eG,aV,cH,fK]at a;rcases a with rfl|rfl|rfl|rfl<;>rfl
theorem pG{l:List It}{i:Nat}{x:It}(h:l[i]?=some x):(l.map Bg.eG).getD i []=[.int .i64 x.1,.int .i64 x.2.1,.string ⟨x.2.2.1.toArray⟩,.int .i64 x.2.2.2]:=by rw[cN,aN,h];rfl
theorem lP{l:List It}{i:Nat}{x:It}(h:l[i]?=some x):PI l (i:Int)=x:=by unfold PI;rw[aX,h];rfl
theorem sk{l:List It}{j:Nat}{x:It}(h:l[j]?=some x)(r:Int):(l.map Bg.eG).set j (km [.int .i64 x.1,.int .i64 x.2.1,.string ⟨x.2.2.1.toArray⟩,.int .i64 x.2.2.2] 3 [.int .i64 r])=(nN l j r).map Bg.eG:=by unfold nN;rw[lP h,oB];rfl
theorem x_{l:List It}{j:Nat}{x:It}(h:l[j]?=some x)(r:Int):(nN l j r)[j]?=some (x.1,x.2.1,x.2.2.1,r):=by unfold nN;rw[lP h,mz (aI.1 h).1]
theorem qf(l:List It)(j:Nat)(r:Int):(nN l j r).length=l.length:=by unfold nN;rw[eg]
theorem uZ{l:List It}(h:gG l=0):∀x∈l,me x=0:=by
 have :∀{l:List It}{a:List It},Ix a l=0->∀x∈l,me x=0:=λ{l}=>by
  induction l with
   |nil=>intro _ _ x b;cases b
   |cons y r d=>
    intro a h x b;rw[Ix]at h;split at h;·rename_i c;exact absurd h c
    rename_i c;split at h;·cases h
    split at h;·cases h
    rcases aV.1 b with rfl|b;·exact l9 c
    ·exact d h x b
 unfold gG at h;split at h;·cases h
 ·exact this h
theorem abg(a:Nat)(s:List UInt8)(x:It)(M:Mem)(h:BoxM M a [.string ⟨s.toArray⟩]):Meets ab 328 [Iw x,.v (bT a)] M λr _ _=>r=.v (.bool (aU (x.2.2.1=s))):=by refine aH [0,1,2,3] Proofs.Tryz.func328 rfl (by kernel_rfl) rfl λw=>?_;have b:=h.at (j:=0) rfl;simp only[Proofs.Tryz.f328,Iw,zW,seval,b.1,b.2,rO]
def yQ(i:gM):SV:=.agg [.v (.bool i.1),.v (.int .i64 i.2.1),.v (.int .i64 i.2.2)]
def tf(i:gM)(e:Int)(s:SV):SV:=.tup [s,yQ i,.v (.int .i64 e)]
theorem ya(i:gM)(e:Int):Ctx (tf i e):=λs a v u h=>by simp only[tf,yQ,SV.cL,aS,h]
theorem ru{a b:It}:kK a b<0↔a.1<b.1\/(a.1=b.1/\a.2.1<b.2.1):=by unfold kK;split<;>omega
theorem vJ{a b c:It}(d:kK a b<0)(e:kK b c<0):kK a c<0:=by rw[ru]at*;omega
theorem Ng:∀{l c:List It},Ix c l=0->l.Pairwise (λa b=>kK a b<0)/\∀p,c.getLast?=some p->∀x∈l,kK p x<0
 |[],_,_=>⟨.nil,λ_ _ x d=>by cases d⟩
 |y::r,c,h=>by
  rw[Ix]at h;split at h;·rename_i i;exact absurd h i
  split at h;·cases h
  rename_i f;split at h;·cases h
  obtain⟨j,k⟩:=Ng h;have g:=k y (by simp);refine⟨dt.2 ⟨g,j⟩,λp m x d=>?_⟩;rw[m]at f;have e:kK p y<0:=by unfold Bg.Hh at f;rw[br]at f;omega
  rcases aV.1 d with rfl|d;·exact e
  ·exact vJ e (g x d)
theorem Gd{l:List It}(h:gG l=0):l.Pairwise (λa b=>kK a b<0):=by
 unfold gG at h;split at h;·cases h
 ·exact(Ng h).1
theorem Vf{l:List It}(h:gG l=0):∀x∈l,(0<=x.1/\x.1<=2147483647)/\0<=x.2.1/\x.2.1<64:=λx a=>by obtain⟨⟨_,b⟩,c,_⟩:=jY (uZ h x a);rw[b];exact⟨x5 _,c⟩
theorem Rq{l:List It}(h:gG l=0)(x:It)(i j:Nat)(a b:It)(m:i<=j)(d:l[i]?=some a)(c:l[j]?=some b)(k:kK b x<0):kK a x<0:=by
 rcases bR i j with e|n;·have f:=(aI.1 d).1;have g:=(aI.1 c).1;have :=iI.1 (Gd h) i j f g e;rw[(aI.1 d).2,(aI.1 c).2]at this;exact vJ this k
 ·have :i=j:=by omega
  subst this;rw[d]at c;cases c;exact k
theorem lr{l:List It}(h:gG l=0):l.length<=64:=by
 unfold gG at h;split at h;·cases h
 ·omega
theorem IB{l:List It}(h:l.length<=63)(s:Int):uY l s<=l.length/\DW l s (uY l s)=false/\∀m,m<uY l s->DW l s m=true:=by
 have e:∃n,n<=l.length/\DW l s n=false/\∀m,m<n->DW l s m=true:=by
  have :∀k,k<=l.length+1->(∀m,m<k->DW l s m=true)\/∃n,n<k/\DW l s n=false/\∀m,m<n->DW l s m=true:=λk=>by
   induction k with
    |zero=>exactλ_=>.inl (λm g=>by omega)
    |succ k i=>
     intro j;rcases i (by omega)with a|⟨n,a,b,c⟩
     ·cases f:DW l s k with
       |true=>
        refine .inl (λm g=>?_);rcases bR m k with d|d;·exact a m d
        ·rw[show m=k by omega];exact f
       |false=>exact .inr ⟨k,by omega,f,a⟩
     ·exact .inr ⟨n,by omega,b,c⟩
  rcases this (l.length+1) (bc _)with a|⟨n,a,b,c⟩;·have :=pig s (l.length+1) l a;omega
  ·exact⟨n,by omega,b,c⟩
 obtain⟨n,a,b,c⟩:=e;rw[CF c b (by omega)];exact⟨a,b,c⟩
theorem put(y:ay)(l:List It)(s:List UInt8)(M:Mem)(p:RowM M y 4 (l.map Bg.eG)):Meets ab 280 [.v y,.v (.string ⟨s.toArray⟩)] M (OwnR (tf (OW l s).2.1 (OW l s).2.2) 4 ((OW l s).1.map Bg.eG)):=by
 refine uP (ya _ _) ?_;refine aH [0,1,3,4,5,6,7,8,9,10,11,16,21,29,35,59,72] Proofs.Tryz.func280 rfl (by kernel_rfl) rfl λw=>?_;generalize d:OW l s=c;unfold OW at d;have hC:=Nc y l M p;simp only[Proofs.Tryz.f280,zW,seval];refine az ⟨rfl,rfl⟩ rfl hC ?_;by_cases g:gG l=0;rotate_left;·have c1:=ax g;rw[aF g]at d;subst d;simp only[zW,seval,c1,tf,yQ,z3]
 rw[ai (λh=>h g)]at d;unfold mf at d;have L:=p.eQ;rw[ae]at L;have hl64:l.length<=64:=by
  unfold gG at g;split at g;·cases g
  ·omega
 by_cases N:64<s.length;·have O:((64:Int)<(s.length:Int))=True:=aK (by omega);rw[aF N]at d;subst d;simp only[zW,seval,g,O,tf,yQ,z3]
 have O:((64:Int)<(s.length:Int))=False:=ax (by omega);have hs:s.length<=dB:=b6 (Nat.le_of_not_lt N) (by decide);rw[ai N]at d;simp only[zW,seval,g,O];refine dE eh rfl rfl (zl y l M p (by omega)) rfl λM1 P=>?_;simp only[zW,seval,hdel,sigDrop,sigDropA];refine j_ rfl rfl ?_;simp only[zW,seval];refine nY (k:=24) rfl rfl λH C Q q=>?_;simp only[uJ,uK,zV,seval];refine dP (k:=192) rfl rfl rfl (λ_=>rfl) (λv D E R=>W4 (α:=It) (λx=>.int .i64 x.1) (λx=>.int .i64 x.2.1) (λx=>.string ⟨x.2.2.1.toArray⟩) (λx=>.int .i64 x.2.2.2) (λx=>aU (x.2.2.1=s)) _ [.v (bT H)] rfl v l D R (λz _=>abg H s z D (q.le E))) ?_;have u:=q.at (j:=0) rfl;have g0':=q.H6 (j:=0) rfl;rw[show fg (λx:It=>aU (x.2.2.1=s)) l 0=sj l s from rfl];rcases jV (λx:It=>aU (x.2.2.1=s)) l 0 with⟨o,_⟩|⟨j,x,o,B,k3,_⟩;rotate_left
 ·rw[b7]at o;replace o:sj l s=(j:Int):=o;rw[o,lP B,aX,aF (by omega)]at d;rw[o];have c3:((0:Int)<=(j:Int))=True:=aK (by omega);have hg:=pG B;have f:=(aI.1 B).1;by_cases I:x.2.2.2=1000000;·have S:=aK I;rw[aF I]at d;subst d;simp only[zW,seval,c3,hg,a_,bA,S,ae,tf,yQ,z3];exact⟨by omega,f⟩
  have S:=ax I;rw[ai I]at d;subst d;have hset:=sk B (x.2.2.2+1);have T:=pG (x_ B (x.2.2.2+1));have U:=qf l j (x.2.2.2+1);have hrf:=(jY (uZ g x (aL B))).2.2;simp only[zW,seval,c3,hg,a_,bA,S,ae,hset];refine⟨by omega,f,by omega,f,by simp only[cY,lo,hi];omega,by omega,f,gE 13 (by kernel_rfl) (by kernel_rfl) ?_⟩;simp only[zW,seval,T,U,a_,bA,ae,tf,yQ];exact⟨⟨by omega,by omega⟩,f,⟨by omega,by omega⟩,f,.inr ⟨192,rfl,rfl⟩⟩
 ·replace o:sj l s=-1:=o;rw[o,ai (by decide)]at d;rw[o];by_cases h4:l.length=64;·have V:((l.length:Int)=64)=True:=aK (by omega);rw[aF h4]at d;subst d;simp only[zW,seval,p.gC,p.sl,ae,V,tf,yQ,z3]
  have V:((l.length:Int)=64)=False:=ax (by omega);rw[ai h4]at d;subst d;simp only[zW,seval,p.gC,p.sl,ae,V];have W:=x5 s;have F:l.length<=63:=by omega
  have Y:=(p.le P).le Q;obtain⟨f1,f2,f3⟩:=IB F (fX s);refine lU (X:=Unit) (λ_=>True) (λ_=>([(0,true,.v y),(3,true,.v (bT H)),(4,true,.v (.slice none 0 0)),(5,true,.ptr 40 0 0 0),(6,true,.v (.int .i64 0)),(8,true,.own 192),(10,true,.ptr 80 0 0 0)],[(80,.box [.v (.int .i64 (fX s)),.v (.int .i64 0),.v (.string ⟨s.toArray⟩),.v (.int .i64 1)] none),(192,.row 4 (l.map Bg.eG)),(40,.box [.v (.bool false),.v (.int .i64 0),.v (.int .i64 0)] none)],C)) ?_ ?_
  ·refine dV [] (tk [0,2] (.two 1 (tk [3] (.one 4 (.one 5 .done))) 4 (.one 1 (tk [3] (.one 5 .done))))) (by kernel_rfl) (by kernel_rfl) λxs=>?_;simp only[zW,seval,fl,fm,fP,u.1,u.2,SV.cL];refine⟨az ⟨rfl,rfl⟩ rfl (Lc s C hs) ?_,az ⟨rfl,rfl⟩ rfl (Lc s C hs) ?_⟩;·simp only[zW,seval,fl,fm,fP,u.1,u.2,SV.cL];first|exact⟨(),trivial,Ent.heap (HEnt.untie (k:=40) rfl) (Ent.of (by simp only[zV,seval,hset]))⟩|exact⟨(),dO (df (k:=40) rfl) (aR (by simp only[zV,seval,hset]))⟩|exact Ent.heap (HEnt.untie (k:=40) rfl) (Ent.of (by simp only[zV,seval,hset]))
   ·simp only[zW,seval,fl,fm,fP,u.1,u.2,SV.cL];first|exact⟨(),trivial,Ent.heap (HEnt.untie (k:=40) rfl) (Ent.of (by simp only[zV,seval,hset]))⟩|exact⟨(),dO (df (k:=40) rfl) (aR (by simp only[zV,seval,hset]))⟩|exact Ent.heap (HEnt.untie (k:=40) rfl) (Ent.of (by simp only[zV,seval,hset]))
  rintro _ _;simp only[zW,seval];refine bE (X:=Nat) (λn=>([(0,true,.v y),(3,true,.v (bT H)),(4,true,.v (.slice none 0 0)),(5,true,.ptr 40 0 0 0),(6,true,.v (.int .i64 0)),(8,true,.own 192),(10,true,.ptr 80 0 0 0)],[(80,.box [.v (.int .i64 (fX s)),.v (.int .i64 (n:Int)),.v (.string ⟨s.toArray⟩),.v (.int .i64 1)] none),(192,.row 4 (l.map Bg.eG)),(40,.box [.v (.bool false),.v (.int .i64 0),.v (.int .i64 0)] none)],C)) (λn=>∀m,m<n->DW l (fX s) m=true) (λn=>65-n) 0 (λm hm=>by omega) (aR ?_) ?_;·simp only[zV,seval,aZ]
  intro n Z;have hpn:=pig (fX s) n l Z;have hF:=Bg.Rc y l (true,fX s,(n:Int)) C Y;simp only[Kc]at hF;simp only[zW,seval];refine az ⟨rfl,rfl⟩ rfl hF ?_;cases J:DW l (fX s) n with
   |true=>
    have c6:((0:Int)<=fg (ko (true,fX s,(n:Int))) l 0)=True:=aK (aW J);simp only[zW,seval,c6,cY,lo,hi];refine⟨by omega,n+1,⟨λm hm=>?_,by omega⟩,aR ?_⟩
    ·rcases bR m n with G|G;·exact Z m G
     ·rw[show m=n by omega];exact J
    ·simp only[zV,seval,aJ]
   |false=>
    have c6:((0:Int)<=fg (ko (true,fX s,(n:Int))) l 0)=False:=ax (mj J);have hfn:=CF Z J (by omega);rw[hfn];simp only[zW,seval,c6];have hxr:∀M',∀x∈l,Meets ab 319 [Iw x,Iw (fX s,(n:Int),s,1)] M' λr _ _=>r=.v (.int .i64 (kK x (fX s,(n:Int),s,1))):=λM' x K=>by obtain⟨q1,q2⟩:=Vf g x K;exact Bg.cmp x (fX s,(n:Int),s,1) M' ⟨q1,W,q2,by simp only;omega⟩
    refine dP (k:=192) rfl rfl rfl (λ_=>rfl) (λv D E R=>bsB (α:=It) (λx=>.int .i64 x.1) (λx=>.int .i64 x.2.1) (λx=>.string ⟨x.2.2.1.toArray⟩) (λx=>.int .i64 x.2.2.2) (λx=>kK x (fX s,(n:Int),s,1)) 319 _ _ _ _ v l D R (by omega) ⟨rfl,rfl,rfl,rfl⟩ (λx K=>hxr D x K) (λi j a b hij ha hb d=>Rq g _ i j a b hij ha hb d)) ?_;have hbl:=Ro (λx=>kK x (fX s,(n:Int),s,1)) l;have hii:wQ l (fX s,(n:Int),s,1)=l.take (bk (λx=>kK x (fX s,(n:Int),s,1)) l)++(fX s,(n:Int),s,1)::l.drop (bk (λx=>kK x (fX s,(n:Int),s,1)) l):=rfl;rw[hii];generalize bk (λx=>kK x (fX s,(n:Int),s,1)) l=bi at*;generalize bf (λx=>kK x (fX s,(n:Int),s,1)) l=bF;simp only[zW,seval];refine dV [80] (tk [0,1,2,5,7,6,8,9] (.one 3 (.one 4 (tk [10] (.one 11 (tk [12] .done)))))) (by kernel_rfl) (by kernel_rfl) λxs=>?_;simp only[zW,seval,fl,fm,fP];refine sW (A:=λs t=>[s,.v (.int .i64 bi),t]) 192 688 (λs t s' t' ν ν' e1 e2=>by simp only[aS,SV.cL,e1,e2]) eh rfl rfl rfl rfl rfl (λM6 h6=>Vd (l.map Bg.eG) [.int .i64 (fX s),.int .i64 (n:Int),.string ⟨s.toArray⟩,.int .i64 1] bi M6 (by rw[ae];exact hbl) (by rw[ae];omega) (λe he=>by obtain⟨x,K,rfl⟩:=dq.1 he;exact⟨rfl,ta x⟩) ⟨rfl,ta (fX s,(n:Int),s,1)⟩) rfl ?_;simp only[zW,seval,fl,fm,fP,tf,yQ];refine .inr ⟨696,rfl,?_⟩;simp[hget,eH,fI,Bg.eG]
end Go.X.Bp
namespace Go.X.Bp
open Go Go.X Go.RowKit Go.X.Bg Go.X.Sb
def kp(l:List It)(id:gM):Int:=fg (ko id) l 0
def CG(l:List It)(i:Nat):List It:=if(PI l i).2.2.2-1=0 then l.take i++l.drop (i+1)else nN l i ((PI l i).2.2.2-1)
def sn(l:List It)(id:gM):List It×Int:=if kp l id<0 then([],4)else(CG l (kp l id).toNat,0)
def yb(l:List It)(id:gM):List It×Int:=if gG l≠0 then([],gG l)else sn l id
theorem Ec{α:Type}{l:List α}{i:Nat}(a:α)(h:i<l.length):(l.set i a).take i++(l.set i a).drop (i+1)=l.take i++l.drop (i+1):=by rw[List.take_set_of_le (bc _),List.drop_set_of_lt (by omega)]
theorem aaa(y:ay)(l:List It)(id:gM)(M:Mem)(o:RowM M y 4 (l.map Bg.eG)):Meets ab 278 [.v y,yQ id] M (OwnR (λs=>.tup [s,.v (.int .i64 (yb l id).2)]) 4 ((yb l id).1.map Bg.eG)):=by
 refine uP (ku _) ?_;refine aH [0,1,3,4,5,6,7,8,12,18,34] Proofs.Tryz.func278 rfl (by kernel_rfl) rfl λw=>?_;generalize b:yb l id=c;unfold yb at b;have u:=Nc y l M o;have q:=Bg.Rc y l id M o;simp only[Kc]at q;simp only[Proofs.Tryz.f278,yQ,zW,seval];refine az ⟨rfl,rfl⟩ rfl u ?_;by_cases k:gG l=0;rotate_left;·have z:=ax k;rw[aF k]at b;subst b;simp only[zW,seval,z]
 rw[ai (λh=>h k)]at b;unfold sn at b;have r:=lr k;simp only[zW,seval,k];refine az ⟨rfl,rfl⟩ rfl q ?_;rw[show fg (ko id) l 0=kp l id from rfl];rcases jV (ko id) l 0 with⟨d,_⟩|⟨j,x,d,i,G,_⟩;·replace d:kp l id=-1:=d;rw[d,aF (by decide)]at b;subst b;rw[d];simp only[zW,seval]
 rw[b7]at d;replace d:kp l id=(j:Int):=d;have a:=(aI.1 i).1;rw[d,ai (by omega),aX]at b;unfold CG at b;rw[lP i]at b;rw[d];have B:((j:Int)<0)=False:=ax (by omega);have t:=pG i;have g:=sk i (x.2.2.2-1);have m:=pG (x_ i (x.2.2.2-1));have f:=qf l j (x.2.2.2-1);have C:=(jY (uZ k x (aL i))).2.2;simp only[zW,seval,B];refine dE eh rfl rfl (zl y l M o (by omega)) rfl λH D=>?_;by_cases n:x.2.2.2-1=0
 ·have p:=aK n;rw[aF n]at b;subst b;simp only[zW,seval,p,t,m,f,g,a_,bA,ae,cY,lo,hi];refine⟨⟨by omega,by omega⟩,a,⟨by omega,by omega⟩,⟨by omega,by omega⟩,a,⟨by omega,by omega⟩,a,⟨by omega,by omega⟩,?_⟩;refine eR (A:=λs=>[s,.v (.int .i64 j),.v (.int .i64 (j+1:Nat))]) 160 (lN _ rfl) eh rfl rfl rfl (λE I=>Ve ((nN l j (x.2.2.2-1)).map Bg.eG) j (j+1) E (by omega) (by rw[ae,f];omega) (by rw[ae,f];omega)) rfl ?_;simp only[zW,seval];refine .inr ⟨312,rfl,?_⟩;have e:=Ec (x.1,x.2.1,x.2.2.1,x.2.2.2-1) a;have F:nN l j (x.2.2.2-1)=l.set j (x.1,x.2.1,x.2.2.1,x.2.2.2-1):=by unfold nN;rw[lP i]
  rw[<-e,<-F,bq,eH,fI];rfl
 ·have p:=ax n;rw[ai n]at b;subst b;simp only[zW,seval,p,t,m,f,g,a_,bA,ae,cY,lo,hi];exact⟨⟨by omega,by omega⟩,a,⟨by omega,by omega⟩,⟨by omega,by omega⟩,a,⟨by omega,by omega⟩,a,.inr ⟨160,rfl,rfl⟩⟩
theorem IC{l:List It}(h:∀x∈l,1<=x.2.2.2){j:Nat}{x:It}(b:l[j]?=some x):((nN l j (x.2.2.2-1)).filter λx=>!aU (x.2.2.2=0))=CG l j:=by
 have d:=(aI.1 b).1;have a:∀m:List It,(∀x∈m,1<=x.2.2.2)->(m.filter λx=>!aU (x.2.2.2=0))=m:=λm f=>DS.2 λx b=>by have :=f x b;rw[bI (by omega)];rfl
 unfold CG nN;rw[lP b];rw[List.set_eq_take_append_cons_drop,aF d,G',nH,a _ (λy e=>h y (cq e)),a _ (λy e=>h y (cG e))];by_cases c:x.2.2.2-1=0;·rw[aF c,ai (by rw[cy c];decide)]
 ·rw[ai c,aF (by rw[bI c];rfl)]
theorem aab(x:It)(M:Mem):Meets ab 259 [Iw x] M λr _ _=>r=.v (.bool (aU (x.2.2.2=0))):=by refine aH [0,1,2] Proofs.Tryz.func259 rfl (by kernel_rfl) rfl λw=>?_;simp only[Proofs.Tryz.f259,Iw,zW,seval]
theorem aac(y:ay)(l:List It)(id:gM)(M:Mem)(k:RowM M y 4 (l.map Bg.eG))(g:gG l=0):Meets ab 198 [.v y,yQ id] M (OwnR (λs=>.tup [s,.v (.int .i64 (sn l id).2)]) 4 ((sn l id).1.map Bg.eG)):=by
 refine uP (ku _) ?_;refine aH [0,1,3,4,5,6,7,12] Proofs.Tryz.func198 rfl (by kernel_rfl) rfl λw=>?_;generalize d:sn l id=c;unfold sn at d;have m:=Bg.U9 y l id M k;simp only[Kc]at m;have n:=lr g;simp only[Proofs.Tryz.f198,yQ,zW,seval];refine az ⟨rfl,rfl⟩ rfl m ?_;rw[show fg (ko id) l 0=kp l id from rfl];rcases jV (ko id) l 0 with⟨a,_⟩|⟨j,x,a,b,D,_⟩;·replace a:kp l id=-1:=a;rw[a,aF (by decide)]at d;subst d;rw[a];simp only[zW,seval]
 rw[b7]at a;replace a:kp l id=(j:Int):=a;have e:=(aI.1 b).1;rw[a,ai (by omega),aX]at d;rw[a];subst d;have o:((j:Int)<0)=False:=ax (by omega);have p:=pG b;have f:=sk b (x.2.2.2-1);have q:=pG (x_ b (x.2.2.2-1));have h:=qf l j (x.2.2.2-1);have r:=(jY (uZ g x (aL b))).2.2;have i:=IC (λz t=>(jY (uZ g z t)).2.2.1) b;simp only[zW,seval,o];refine dE eh rfl rfl (zl y l M k (by omega)) rfl λE u=>?_;simp only[zW,seval,p,f,a_,bA,ae,cY,lo,hi];refine⟨⟨by omega,by omega⟩,e,⟨by omega,by omega⟩,⟨by omega,by omega⟩,e,?_⟩;refine eR (A:=λs=>[s,.fn 259 []]) 112 (lN _ rfl) eh rfl rfl rfl (λB F=>Z_ (α:=It) (λx=>.int .i64 x.1) (λx=>.int .i64 x.2.1) (λx=>.string ⟨x.2.2.1.toArray⟩) (λx=>.int .i64 x.2.2.2) (λx=>aU (x.2.2.2=0)) _ (nN l j (x.2.2.2-1)) B (by rw[h];omega) (λ_ _=>⟨rfl,rfl,rfl,rfl⟩) (λC _ z _=>aab z C)) rfl ?_;rw[i];simp only[zW,seval];refine .inr ⟨192,rfl,?_⟩;rfl
end Go.X.Bp
namespace Go.X.Vo
open Go Go.X Go.RowKit Go.X.Bg Go.X.Nm Go.X.Bp
/-!### right bags, told at once -/
abbrev Ky:=Int×Int×List UInt8
def vK(x:It):Ky:=(x.1,x.2.1,x.2.2.1)
def kyR(a b:Ky):Prop:=(a.1<b.1\/(a.1=b.1/\a.2.1<b.2.1))/\a.2.2≠b.2.2
theorem Li{a b c:Ky}(d:a.1<b.1\/(a.1=b.1/\a.2.1<b.2.1))(e:b.1<c.1\/(b.1=c.1/\b.2.1<c.2.1)):a.1<c.1\/(a.1=c.1/\a.2.1<c.2.1):=by omega
theorem Nh(p x:It):Bg.Hh (some p) x=false↔((vK p).1<(vK x).1\/((vK p).1=(vK x).1/\(vK p).2.1<(vK x).2.1)):=by have :=@ru p x;unfold Bg.Hh vK;rw[jl];simp only;omega
theorem ID:∀(l c:List It),(c.map vK).Pairwise kyR->(Ix c l=0↔(∀x∈l,me x=0)/\((c++l).map vK).Pairwise kyR)
 |[],c,g=>by simp[Ix,g]
 |x::r,c,g=>by
  rw[Ix];by_cases i:me x=0;rotate_left;·rw[aF i];exact⟨λh=>absurd h i,λh=>absurd (h.1 x (by simp)) i⟩
  rw[ai (λh=>h i)];have j:((c++[x]).map vK).Pairwise kyR↔(Bg.Hh c.getLast? x=false/\(c.any λy=>aU (y.2.2.1=x.2.2.1))=false):=by
   rw[bq,rK];constructor
   ·rintro⟨_,_,h⟩;refine⟨?_,?_⟩;·cases f:c.getLast? with|none=>rfl|some p=>rw[Nh];exact(h (vK p) (du (List.mem_of_getLast? f)) (vK x) (by simp)).1
    ·rw[Us];intro y d;have :=(h (vK y) (du d) (vK x) (by simp)).2;simpa[vK]using this
   ·rintro⟨e,m⟩;refine⟨g,List.pairwise_singleton _ _,λa o b n=>?_⟩;simp only[ca,cr,bD]at n;subst n;obtain⟨y,d,rfl⟩:=dq.1 o;rw[Us]at m;have q:=m y d;refine⟨?_,by simpa[vK]using q⟩;cases f:c.getLast? with
     |none=>rw[List.getLast?_eq_none_iff]at f;subst f;cases d
     |some p=>
      rw[f,Nh]at e;obtain⟨s,k⟩:=List.getLast?_eq_some_iff.1 f;subst k;rcases bU.1 d with d|d;·rw[bq,rK]at g;exact Li (g.2.2 (vK y) (du d) (vK p) (by simp)).1 e
      ·rw[bD.1 d];exact e
  by_cases e:((c++[x]).map vK).Pairwise kyR
  ·obtain⟨t,u⟩:=j.1 e;rw[t,u,ai (by decide),ai (by decide),ID r (c++[x]) e,bN];exact⟨λ⟨a,b⟩=>⟨λy d=>by
    rcases aV.1 d with rfl|d;·exact i
    ·exact a y d,b⟩,λ⟨a,b⟩=>⟨λy d=>a y (by simp[d]),b⟩⟩
  ·refine⟨λh=>?_,λ⟨_,h⟩=>?_⟩
   ·split at h;·cases h
    ·rename_i v;split at h;·cases h
     ·rename_i w;exact absurd (j.2 ⟨eq_false_of_ne_true v,eq_false_of_ne_true w⟩) e
   ·refine absurd ?_ e;rw[show c++x::r=(c++[x])++r by simp,bq,rK]at h;exact h.1
theorem oS(l:List It):gG l=0↔l.length<=64/\(∀x∈l,me x=0)/\(l.map vK).Pairwise kyR:=by
 unfold gG;by_cases h:64<l.length;·rw[aF h];exact⟨λh=>(by cases h),λa=>by omega⟩
 ·rw[ai h,ID l [] .nil];exact⟨λa=>⟨by omega,a⟩,λa=>a.2⟩
theorem Ge{l:List It}{j:Nat}{x:It}(h:l[j]?=some x)(r:Int):(nN l j r).map vK=l.map vK:=by
 unfold nN;rw[lP h,oB];apply gA;intro i;rw[nr];split;·rename_i e;subst e;have a:=(aI.1 h).1;rw[ae,aF a,aN,h];rfl
 ·rfl
theorem yc{l:List It}{j:Nat}{x:It}(h:l[j]?=some x){r:Int}{y:It}(a:y∈nN l j r):y∈l\/y=(x.1,x.2.1,x.2.2.1,r):=by unfold nN at a;rw[lP h]at a;exact List.mem_or_eq_of_mem_set a
theorem CH{x:It}{r:Int}(h:me x=0)(b:1<=r)(c:r<=1000000):me (x.1,x.2.1,x.2.2.1,r)=0:=by obtain⟨⟨d,a⟩,e,_⟩:=jY h;unfold me;rw[ai (by simp only;omega),ai (by simp only;exactλh=>h a),ai (by simp only;omega)]
theorem OX{l:List It}(h:gG l=0)(j:Nat)(i:j<l.length):gG (CG l j)=0:=by
 obtain⟨x,c⟩:∃x,l[j]?=some x:=⟨_,aP i⟩;rw[oS]at h⊢;obtain⟨e,d,f⟩:=h;unfold CG;rw[lP c];split
 ·have a:(l.take j++l.drop (j+1)).Sublist l:=by
   conv=>rhs;rw[<-iT j l]
   refine List.Sublist.append (qB _) ?_;rw[<-l6];exact List.drop_sublist _ _
  exact⟨b6 a.length_le e,λy b=>d y (a.subset b),f.sublist (a.map vK)⟩
 ·rename_i k;have g:=d x (aL c);have m:=(jY g).2.2;refine⟨by rw[qf];exact e,λy b=>?_,by rw[Ge c];exact f⟩;rcases yc c b with b|rfl;·exact d y b
  ·exact CH g (by omega) (by omega)
theorem IE:gG []=0:=by decide
theorem Lj{l:List It}(h:gG l=0)(id:gM):gG (sn l id).1=0:=by
 unfold sn;split;·exact IE
 ·rename_i b;rcases jV (ko id) l 0 with⟨a,_⟩|⟨j,x,a,c,d,_⟩;·exact absurd (show kp l id<0 by unfold kp;rw[a];decide) b
  ·have :kp l id=(j:Int):=by unfold kp;rw[a,b7]
   rw[this,aX];exact OX h j (aI.1 c).1
/-!### what deeds make -/
def jx:gM:=(false,0,0)
def wu(l:List fy)(i:Nat):fy:=(l[i]?).getD ([],[])
def lX(l:List fy)(i a:Nat)(id:gM):List fy:=l.set i ((wu l i).1,(wu l i).2.set a id)
def CI(l:List fy)(i a:Nat):gM:=((wu l i).2[a]?).getD jx
theorem ib{l:List fy}{i:Nat}{x:fy}(h:l[i]?=some x):wu l i=x:=by unfold wu;rw[h];rfl
def fU(bag:List It)(id:gM):List It:=if id.1=true then(sn bag id).1 else bag
def jy(bag:List It)(id:gM):List It:=if 0<=kp bag id then nN bag (kp bag id).toNat ((PI bag (kp bag id)).2.2.2+1)else bag
theorem oT{l:List It}(h:gG l=0)(id:gM):gG (fU l id)=0:=by
 unfold fU;split;·exact Lj h id
 ·exact h
theorem pH:∀(a:List gM){l:List It},gG l=0->gG (a.foldl fU l)=0|[],_,h=>h|b::r,_,h=>pH r (oT h b)
theorem IG{l:List It}(h:gG l=0)(id:gM):yb l id=sn l id:=ai (λa=>a h)
abbrev St:=List It×List fy
def uk:St:=([],[])
def kk(bag:List It)(l:List fy)(i a:Nat):St:=(fU bag (CI l i a),lX l i a jx)
def tg(bag:List It)(l:List fy)(i a:Nat)(s:List UInt8):St×Int:=if(mf (fU bag (CI l i a)) s).2.2≠0 then(uk,(mf (fU bag (CI l i a)) s).2.2)else(((mf (fU bag (CI l i a)) s).1,lX l i a (mf (fU bag (CI l i a)) s).2.1),0)
theorem mB{l:List fy}{i:Nat}{x:fy}(h:l[i]?=some x)(a:Nat)(id:gM):lX l i a id=l.set i (x.1,x.2.set a id):=by unfold lX;rw[ib h]
theorem E3{l:List fy}{i:Nat}(hi:i<l.length)(a:Nat)(id b:gM):lX (lX l i a id) i a b=lX l i a b:=by
 obtain⟨x,c⟩:∃x,l[i]?=some x:=⟨_,aP hi⟩;have d:(l.set i (x.1,x.2.set a id))[i]?=some (x.1,x.2.set a id):=by rw[mz hi]
 rw[mB c,mB d,List.set_set,List.set_set,mB c]
abbrev pI(a b:List UInt8):Int:=pz a b
theorem Bi:∀a b:List UInt8,pI a b<0↔cd a b=true
 |[],[]=>by simp[pI,pz,cd]
 |[],_::_=>by simp[pI,pz,cd]
 |_::_,[]=>by simp[pI,pz,cd]
 |x::a,y::b=>by
  have g:=Bi a b;simp only[pI,pz,cd]at g⊢;by_cases c:x<y;·simp[c]
  ·by_cases d:y<x
   ·have f:¬x=y:=λe=>by subst e;exact c d
    simp[c,d,f]
   ·have f:x=y:=by have i:¬x.toNat<y.toNat:=λh=>c (j5.2 h);have j:¬y.toNat<x.toNat:=λh=>d (j5.2 h);exact rJ.1 (by omega)
    subst f;simp[c,g]
def qx(l:List WV)(x:WV):List WV:=l.take (Sb.bk (λy=>pI y.2.1 x.2.1) l)++x::l.drop (Sb.bk (λy=>pI y.2.1 x.2.1) l)
def II(l:List fy)(x:fy):List fy:=l.take (Sb.bk (λy=>pI y.1 x.1) l)++x::l.drop (Sb.bk (λy=>pI y.1 x.1) l)
theorem Rr{α b:Type}(g:α->b)(a:b->Int):∀l:List α,Sb.bk a (l.map g)=Sb.bk (λx=>a (g x)) l|[]=>rfl|x::l=>by simp only[ca,Sb.bk,Rr g a l]
theorem u6(l:List WV)(x:WV):(qx l x).map (·.2)=II (l.map (·.2)) x.2:=by unfold qx II;rw[Rr,bq,ca,eH,fI]
def iO(l:List fy)(n:List UInt8):Int:=if uX n=false then 3 else if 0<=iD l n then 5 else if 5<l.length then 8 else 0
def IJ(bag:List It)(l:List fy)(n:List UInt8)(k:Nat):St:=(bag,II l (n,bg k jx))
def OY(l:List fy)(i:Nat):List fy:=l.take i++l.drop (i+1)
def wR(bag:List It)(l:List fy)(i:Nat):St:=((wu l i).2.foldl fU bag,OY l i)
def u7(bag:List It)(l:List fy)(i:Nat)(a:List UInt8):St:=((wu l i).2.foldl jy bag,II l (a,(wu l i).2))
def sr(bag:List It)(l:List fy)(n:List UInt8)(k:Int):St×Int:=if qp bag l≠0 then(uk,qp bag l)else if k<1\/32<k then(uk,1)else if iO l n≠0 then(uk,iO l n)else(IJ bag l n k.toNat,0)
def qU(bag:List It)(l:List fy)(n:List UInt8):St×Int:=if qp bag l≠0 then(uk,qp bag l)else if iD l n<0 then(uk,4)else(wR bag l (iD l n).toNat,0)
def nB(bag:List It)(l:List fy)(n a:List UInt8):St×Int:=if qp bag l≠0 then(uk,qp bag l)else if iD l n<0 then(uk,4)else if iO l a≠0 then(uk,iO l a)else(u7 bag l (iD l n).toNat a,0)
def pq(bag:List It)(l:List fy)(n:List UInt8)(a:Int):St×Int:=if vH bag l n a≠0 then(uk,vH bag l n a)else(kk bag l (iD l n).toNat a.toNat,0)
def mI(bag:List It)(l:List fy)(n:List UInt8)(a:Int)(s:List UInt8):St×Int:=if vH bag l n a≠0 then(uk,vH bag l n a)else tg bag l (iD l n).toNat a.toNat s
/-!### incId keeps what stands where -/
theorem yd(bag:List It)(id:gM):(jy bag id).map vK=bag.map vK:=by
 unfold jy;split
 ·rcases jV (ko id) bag 0 with⟨a,_⟩|⟨j,x,a,b,_⟩;·rename_i h _;unfold kp at h;rw[a]at h;exact absurd h (by decide)
  ·have :kp bag id=(j:Int):=by unfold kp;rw[a,b7]
   rw[this,aX];exact Ge b _
 ·rfl
theorem Ni(bag:List It)(id:gM):kp bag id=fg (λk:Ky=>id.1&&(aU (k.1=id.2.1)&&aU (k.2.1=id.2.2))) (bag.map vK) 0:=by unfold kp;rw[Cl];rfl
theorem Rs(bag:List It)(id a:gM):kp (jy bag id) a=kp bag a:=by rw[Ni,Ni,yd]
theorem E4:∀(b:List gM)(bag:List It)(a:gM),kp (b.foldl jy bag) a=kp bag a|[],_,_=>rfl|c::r,bag,a=>by rw[lf,E4 r,Rs]
theorem OZ{bag:List It}{id:gM}{m:Int}(h:∀x∈bag,0<=x.2.2.2/\x.2.2.2<=m):∀x∈jy bag id,0<=x.2.2.2/\x.2.2.2<=m+1:=λx a=>by
 unfold jy at a;split at a
 ·rcases jV (ko id) bag 0 with⟨b,_⟩|⟨j,y,b,c,_⟩;·rename_i h _;unfold kp at h;rw[b]at h;exact absurd h (by decide)
  ·have e:kp bag id=(j:Int):=by unfold kp;rw[b,b7]
   rw[e,aX,lP c]at a;have d:=h y (aL c);rcases yc c a with a|rfl;·have :=h x a;omega
   ·simp only;omega
 ·have :=h x a;omega
theorem wS:∀(a:List gM){bag:List It}{m:Int},(∀x∈bag,0<=x.2.2.2/\x.2.2.2<=m)->∀x∈a.foldl jy bag,0<=x.2.2.2/\x.2.2.2<=m+(a.length:Int)|[],_,m,h=>by simpa using h|c::r,bag,m,h=>λx b=>by have :=wS r (OZ h) x b;rw[aM];omega
theorem wT:∀(a:List gM)(bag:List It),(a.foldl jy bag).length=bag.length|[],_=>rfl|b::r,bag=>by rw[lf,wT r];have :=aY dU (yd bag b);rwa[ae,ae]at this
end Go.X.Vo
namespace Go.X.Bp
open Go Go.X Go.RowKit Go.X.Bg Go.X.Sb
theorem E5(y:It)(r:List It)(x:It):wQ (y::r) x=if kK y x<0 then y::wQ r x else x::y::r:=by unfold wQ;rw[show bk (λz=>kK z x) (y::r)=if kK y x<0 then bk (λz=>kK z x) r+1 else 0 from rfl];split<;>rfl
theorem vL(x:It):∀l:List It,(wQ l x).Perm (l++[x])
 |[]=>List.Perm.refl _
 |y::r=>by
  rw[E5];split;·exact(vL x r).cons y
  ·exact(List.perm_append_singleton x (y::r)).symm
theorem CJ(x:It):∀l:List It,l.Pairwise (λa b=>kK a b<0)->(∀y∈l,¬(y.1=x.1/\y.2.1=x.2.1))->(wQ l x).Pairwise (λa b=>kK a b<0)
 |[],_,_=>List.pairwise_singleton _ _
 |y::r,h,e=>by
  rw[E5];obtain⟨f,i⟩:=dt.1 h;split
  ·rename_i g;refine dt.2 ⟨λz c=>?_,CJ x r i (λz c=>e z (by simp[c]))⟩;rcases bU.1 ((vL x r).subset c)with c|c;·exact f z c
   ·rw[bD.1 c];exact g
  ·rename_i g;have d:kK x y<0:=by have :=e y (by simp);rw[ru]at*;omega
   refine dt.2 ⟨λz c=>?_,h⟩;rcases aV.1 c with rfl|c;·exact d
   ·exact vJ d (f z c)
end Go.X.Bp
namespace Go.X.Vo
open Go Go.X Go.RowKit Go.X.Bg Go.X.Nm Go.X.Bp
def Nj(a b:WV):Bool:=cd a.2.1 b.2.1
theorem E6(y:WV)(r:List WV)(x:WV):qx (y::r) x=if pI y.2.1 x.2.1<0 then y::qx r x else x::y::r:=by unfold qx;rw[show Sb.bk (λz=>pI z.2.1 x.2.1) (y::r)=if pI y.2.1 x.2.1<0 then Sb.bk (λz:WV=>pI z.2.1 x.2.1) r+1 else 0 from rfl];split<;>rfl
theorem vM(x:WV):∀l:List WV,(qx l x).Perm (l++[x])
 |[]=>List.Perm.refl _
 |y::r=>by
  rw[E6];split;·exact(vM x r).cons y
  ·exact(List.perm_append_singleton x (y::r)).symm
theorem CK(x:WV):∀l:List WV,l.Pairwise (λa b=>Nj a b=true)->(∀y∈l,y.2.1≠x.2.1)->(qx l x).Pairwise (λa b=>Nj a b=true)
 |[],_,_=>List.pairwise_singleton _ _
 |y::r,h,g=>by
  rw[E6];obtain⟨i,j⟩:=dt.1 h;split
  ·rename_i d;rw[Bi]at d;refine dt.2 ⟨λz c=>?_,CK x r j (λz c=>g z (by simp[c]))⟩;rcases bU.1 ((vM x r).subset c)with c|c;·exact i z c
   ·rw[bD.1 c];exact d
  ·rename_i d;rw[Bi,Bool.not_eq_true]at d;have f:Nj x y=true:=by have t:=sf x.2.1 y.2.1;rw[d,nQ,ug,br]at t;exact t.resolve_right (λe=>g y (by simp) e.symm)
   refine dt.2 ⟨λz c=>?_,h⟩;rcases aV.1 c with rfl|c;·exact f
   ·exact mH f (i z c)
end Go.X.Vo
namespace Go.X.Vo
open Go Go.X Go.RowKit Go.X.Bg Go.X.Nm Go.X.Bp Go.X.Sb
/-!### a bag, by keys -/
abbrev K2:=Int×Int
def qt(x:It):K2:=(x.1,x.2.1)
def ry(bag:List It)(k:K2):Option It:=bag.find? λx=>aU (qt x=k)
def lE(bag:List It)(k:K2):Int:=((ry bag k).map (·.2.2.2)).getD 0
theorem u_{bag:List It}{k:K2}:ry bag k=none↔∀x∈bag,qt x≠k:=by unfold ry;rw[T4];simp
theorem Nk{bag:List It}{k:K2}{x:It}(h:ry bag k=some x):x∈bag/\qt x=k:=by unfold ry at h;exact⟨List.mem_of_find?_eq_some h,by simpa using List.find?_some h⟩
theorem ye{a c:List It}{x:It}(h:∀y∈a,qt y≠qt x)(k:K2):ry (a++x::c) k=if k=qt x then some x else ry (a++c) k:=by
 unfold ry;rw[Ut,Ut,List.find?_cons];by_cases b:k=qt x
 ·subst b;rw[aF rfl,cy rfl];have :List.find? (λy=>aU (qt y=qt x)) a=none:=by rw[T4];intro y d;simpa using h y d
  rw[this];rfl
 ·rw[ai b,bI (λe=>b e.symm)]
def Dk(bag:List It):Prop:=(bag.map qt).Nodup
theorem CL{bag:List It}(h:gG bag=0):Dk bag:=by have c:=((oS bag).1 h).2.2;unfold Dk List.Nodup;rw[kO]at c⊢;refine c.imp λ{a b}h=>?_;obtain⟨d,_⟩:=h;intro e;unfold qt at e;unfold vK at d;have f:=aY yF e;have g:=aY Prod.snd e;simp only at f g d;omega
theorem nC{α:Type}{l:List α}{j:Nat}{x:α}(h:l[j]?=some x):l=l.take j++x::l.drop (j+1):=by
 have a:=(aI.1 h).1;have e:l.drop j=x::l.drop (j+1):=by rw[ft a,(aI.1 h).2]
 rw[<-e,iT]
theorem zm{α:Type}{l:List α}{j:Nat}{x:α}(h:l[j]?=some x)(y:α):l.set j y=l.take j++y::l.drop (j+1):=by have a:=(aI.1 h).1;rw[List.set_eq_take_append_cons_drop,aF a]
theorem Lk{b c:List It}{x:It}(h:Dk (b++x::c)):(∀y∈b,qt y≠qt x)/\∀y∈c,qt y≠qt x:=by unfold Dk at h;rw[bq,ca,List.nodup_append,gK]at h;obtain⟨_,⟨d,_⟩,f⟩:=h;refine⟨λy a=>f _ (du a) _ (by simp),λy a e=>d (by rw[<-e];exact du a)⟩
theorem CM{bag:List It}(h:Dk bag){x:It}(a:x∈bag):ry bag (qt x)=some x:=by
 obtain⟨j,b⟩:=List.mem_iff_getElem?.1 a;have e:=nC b;rw[e]at h;conv=>lhs;rw[e]
 rw[ye (Lk h).1,aF rfl]
theorem Vg{bag:List It}(h:Dk bag){j:Nat}{x:It}(f:bag[j]?=some x)(k:K2):ry (bag.take j++bag.drop (j+1)) k=if k=qt x then none else ry bag k:=by
 have e:=nC f;have c:=h;rw[e]at c;obtain⟨d,g⟩:=Lk c;by_cases b:k=qt x
 ·rw[aF b,u_,b];intro y a;rcases bU.1 a with a|a;·exact d y a
  ·exact g y a
 ·rw[ai b];conv=>rhs;rw[e]
  rw[ye d,ai b]
theorem Gf{bag:List It}(h:Dk bag){j:Nat}{x:It}(b:bag[j]?=some x)(r:Int)(k:K2):ry (nN bag j r) k=if k=qt x then some (x.1,x.2.1,x.2.2.1,r)else ry bag k:=by
 have e:=nC b;have d:=h;rw[e]at d;obtain⟨f,g⟩:=Lk d;unfold nN;rw[lP b,zm b];have c:∀y∈bag.take j,qt y≠qt (x.1,x.2.1,x.2.2.1,r):=f;rw[ye c];change(if k=qt x then _ else _)=_;by_cases a:k=qt x;·rw[aF a,aF a]
 ·rw[ai a,ai a];conv=>rhs;rw[e]
  rw[ye f,ai a]
theorem Vh{bag:List It}{x:It}(h:ry bag (qt x)=none)(k:K2):ry (wQ bag x) k=if k=qt x then some x else ry bag k:=by unfold wQ;rw[u_]at h;rw[ye (λy a=>h y (cq a)),iT]
theorem yf{id:gM}{x:It}:ko id x=true↔id.1=true/\qt x=id.2:=by
 unfold ko qt;simp only[ba,br];constructor;·rintro⟨b,a,c⟩;exact⟨b,by rw[a,c]⟩
 ·rintro⟨b,a⟩;exact⟨b,aY yF a,aY Prod.snd a⟩
theorem wU{bag:List It}(h:Dk bag)(id:gM)(c:id.1=true):(kp bag id<0/\ry bag id.2=none)\/∃(j:Nat)(x:It),kp bag id=(j:Int)/\bag[j]?=some x/\qt x=id.2/\ry bag id.2=some x:=by
 unfold kp;rcases jV (ko id) bag 0 with⟨b,a⟩|⟨j,x,b,a,d,_⟩;·refine .inl ⟨by rw[b];decide,u_.2 λx f e=>?_⟩;have :=a x f;rw[yf.2 ⟨c,e⟩]at this;cases this
 ·have e:=(yf.1 d).2;refine .inr ⟨j,x,by rw[b,b7],a,e,?_⟩;rw[<-e];exact CM h (aL a)
/-!### one less, one more -/
theorem Ru{bag:List It}(h:Dk bag){id:gM}(d:id.1=true){x:It}(b:ry bag id.2=some x)(k:K2):ry (fU bag id) k=if k=id.2 then(if x.2.2.2-1=0 then none else some (x.1,x.2.1,x.2.2.1,x.2.2.2-1))else ry bag k:=by
 unfold fU;rw[aF d];unfold sn;rcases wU h id d with⟨e,a⟩|⟨j,y,e,a,f,g⟩;·rw[a]at b;cases b
 ·rw[g]at b;cases b;rw[e,ai (by omega),aX];unfold CG;rw[lP a,<-f];by_cases c:x.2.2.2-1=0;·rw[aF c,Vg h a,aF c]
  ·rw[ai c,Gf h a,ai c]
theorem E7{bag:List It}{id:gM}(h:id.1=false):fU bag id=bag:=by unfold fU;rw[ai (by rw[h];decide)]
theorem E8{bag:List It}(h:gG bag=0){id:gM}(e:id.1=true)(a:1<=lE bag id.2)(k:K2):lE (fU bag id) k=lE bag k-(if k=id.2 then 1 else 0):=by
 cases b:ry bag id.2 with
  |none=>unfold lE at a;rw[b]at a;exact absurd a (by decide)
  |some x=>
   unfold lE;rw[Ru (CL h) e b];by_cases c:k=id.2
   ·subst c;rw[aF rfl,aF rfl,b];by_cases d:x.2.2.2-1=0;·rw[aF d];simp only[uo,o6,cJ,dn];omega
    ·rw[ai d];rfl
   ·rw[ai c,ai c,EB]
theorem Nl{bag:List It}(h:Dk bag)(id:gM)(k:K2):ry (jy bag id) k=if id.1=true/\k=id.2 then(ry bag k).map (λx=>(x.1,x.2.1,x.2.2.1,x.2.2.2+1))else ry bag k:=by
 unfold jy;cases f:id.1 with
  |false=>
   have g:¬0<=kp bag id:=by
    unfold kp;rcases jV (ko id) bag 0 with⟨b,_⟩|⟨j,x,b,c,e,_⟩;·rw[b];decide
    ·have :=(yf.1 e).1;rw[f]at this;cases this
   rw[ai g,ai (λd=>by cases d.1)]
  |true=>
   rcases wU h id f with⟨b,c⟩|⟨j,y,b,c,e,i⟩
   ·rw[ai (by omega)];by_cases a:k=id.2;·rw[aF ⟨rfl,a⟩,a,c];rfl
    ·rw[ai (λd=>a d.2)]
   ·rw[b,aF (by omega),aX,lP c,Gf h c,e];by_cases a:k=id.2;·rw[aF a,aF ⟨rfl,a⟩,a,i];rfl
    ·rw[ai a,ai (λd=>a d.2)]
theorem Rw{bag:List It}(h:Dk bag)(id:gM):Dk (jy bag id):=by
 unfold Dk at*;have e:∀l:List It,l.map qt=(l.map vK).map (λq=>(q.1,q.2.1)):=λl=>by rw[jB];rfl
 rw[e,yd,<-e];exact h
theorem Rx{bag:List It}(h:Dk bag)(id:gM)(k:K2)(i:id.1=true->ry bag id.2≠none):lE (jy bag id) k=lE bag k+(if id=(true,k)then 1 else 0):=by
 unfold lE;rw[Nl h];by_cases c:id.1=true/\k=id.2
 ·have e:id=(true,k):=by obtain⟨a,b⟩:=id;obtain⟨d,f⟩:=c;simp only at d f;rw[d,f]
  rw[aF c,aF e];cases g:ry bag k with|none=>rw[c.2]at g;exact absurd g (i c.1)|some x=>rfl
 ·have e:id≠(true,k):=λe=>c ⟨by rw[e],by rw[e]⟩;rw[ai c,ai e,PY]
theorem Gg{bag:List It}(h:Dk bag)(id:gM)(k:K2):ry (jy bag id) k=none↔ry bag k=none:=by
 rw[Nl h];split;·simp
 ·rfl
theorem E9:∀(a:List gM){bag:List It},Dk bag->(∀id∈a,id.1=true->ry bag id.2≠none)->∀k:K2,lE (a.foldl jy bag) k=lE bag k+((a.count (true,k):Nat):Int)
 |[],_,_,_,k=>by simp
 |id::r,bag,h,d,k=>by
  rw[lf,E9 r (Rw h id) (λi f b e=>d i (by simp[f]) b ((Gg h id i.2).1 e)) k,Rx h id k (d id (by simp)),xz];by_cases e:id=(true,k)
  ·have c:(id==(true,k))=true:=by rw[e];exact beq_self_eq_true _
   rw[aF e,c,aF rfl];omega
  ·have c:(id==(true,k))=false:=nU.2 e;rw[ai e,c,ai (by decide)];omega
theorem IK(bag:List It)(s:List UInt8):(sj bag s<0/\∀x∈bag,x.2.2.1≠s)\/∃(j:Nat)(x:It),sj bag s=(j:Int)/\bag[j]?=some x/\x.2.2.1=s:=by
 unfold sj;rcases jV (λx:It=>aU (x.2.2.1=s)) bag 0 with⟨a,b⟩|⟨j,x,a,b,c,_⟩;·exact .inl ⟨by rw[a];decide,λx d=>by simpa using b x d⟩
 ·exact .inr ⟨j,x,by rw[a,b7],b,by simpa using c⟩
structure PutR(bag:List It)(s:List UInt8)(bag':List It)(id:gM):Prop where
 ok:gG bag'=0
 is:id.1=true
 itk:∀k,ry bag' k=if k=id.2 then some (k.1,k.2,s,lE bag k+1)else ry bag k
 txt:∀x,ry bag id.2=some x->x.2.2.1=s
 old:(∃x∈bag,x.2.2.1=s)->bag'.length=bag.length
 new:bag'.length<=bag.length+1
 txts:∀t,(∃x∈bag',x.2.2.1=t)↔t=s\/∃x∈bag,x.2.2.1=t
theorem abh{bag:List It}(h:gG bag=0){s:List UInt8}(m:(mf bag s).2.2=0):PutR bag s (mf bag s).1 (mf bag s).2.1:=by
 have F:=CL h;obtain⟨K,A,B⟩:=(oS bag).1 h;unfold mf at m⊢;by_cases C:64<s.length;·rw[aF C]at m;exact absurd m (by decide)
 rw[ai C]at m⊢;rcases IK bag s with⟨G,f⟩|⟨j,x,G,f,v⟩
 ·rw[ai (by omega)]at m⊢;by_cases H:bag.length=64;·rw[aF H]at m;exact absurd m (by decide)
  rw[ai H];obtain⟨R,L,_⟩:=IB (l:=bag) (by omega) (fX s);have p:ry bag (fX s,(uY bag (fX s):Int))=none:=u_.2 λy c e=>by have :DW bag (fX s) (uY bag (fX s))=true:=(vI _ _ _).2 ⟨y,c,aY yF e,aY Prod.snd e⟩;rw[L]at this;cases this
  generalize w:((fX s,(uY bag (fX s):Int),s,1):It)=x;have n:qt x=(fX s,(uY bag (fX s):Int)):=by rw[<-w];rfl
  have o:x.2.2.1=s:=by rw[<-w]
  rw[<-n]at p;have z:=vL x bag;have q:me x=0:=by rw[<-w];unfold me;simp only;rw[ai C,ai (λh=>h rfl),ai (by omega)]
  have d:∀y,y∈wQ bag x↔y∈bag\/y=x:=λy=>by rw[z.mem_iff,bU,bD]
  have D:∀y∈bag,¬(y.1=x.1/\y.2.1=x.2.1):=λy c e=>(u_.1 p) y c (by unfold qt;rw[e.1,e.2]);refine⟨?_,rfl,λk=>?_,λy c=>?_,λ⟨y,c,e⟩=>absurd e (f y c),?_,λt=>?_⟩
  ·rw[oS];refine⟨by rw[z.length_eq,aG];simp only[bG];omega,λy c=>?_,?_⟩
   ·rcases(d y).1 c with c|rfl;·exact A y c
    ·exact q
   ·rw[kO];have M:=CJ x bag (Gd h) D;have N:(wQ bag x).Pairwise (λa b=>(vK a).2.2≠(vK b).2.2):=by
     refine List.Perm.pairwise z.symm ?_ (λ{a b}h e=>h e.symm);rw[rK];refine⟨?_,List.pairwise_singleton _ _,λa O b P=>?_⟩;·rw[kO]at B;exact B.imp λ{a b}h=>h.2
     ·rw[bD.1 P];show a.2.2.1≠x.2.2.1;rw[o];exact f a O
    refine(M.and N).imp λ{a b}h=>⟨?_,h.2⟩;have :=ru.1 h.1;exact this
  ·show ry (wQ bag x) k=_;rw[Vh p,<-n];by_cases g:k=qt x;·rw[aF g,aF g];unfold lE;rw[g,p,<-w];rfl
   ·rw[ai g,ai g]
  ·simp only at c;rw[<-n,p]at c;cases c
  ·show(wQ bag x).length<=_;rw[z.length_eq,aG];exact bc _
  ·show(∃y∈wQ bag x,_)↔_;constructor
   ·rintro⟨y,c,rfl⟩;rcases(d y).1 c with c|rfl;·exact .inr ⟨y,c,rfl⟩
    ·exact .inl o
   ·rintro(rfl|⟨y,c,rfl⟩);·exact⟨x,(d x).2 (.inr rfl),o⟩
    ·exact⟨y,(d y).2 (.inl c),rfl⟩
 ·rw[G,aF (by omega),lP f,aX]at m⊢;by_cases I:x.2.2.2=1000000;·rw[aF I]at m;exact absurd m (by decide)
  rw[ai I];have J:=A x (aL f);have Q:=jY J;have r:=CM F (aL f);refine⟨?_,rfl,λk=>?_,λy c=>?_,λ_=>qf _ _ _,by rw[qf];omega,λt=>?_⟩
  ·rw[oS];refine⟨by rw[qf];exact K,λy c=>?_,by rw[Ge f];exact B⟩;rcases yc f c with c|rfl;·exact A y c
   ·exact CH J (by omega) (by omega)
  ·show ry (nN bag j (x.2.2.2+1)) k=_;rw[Gf F f];change(if k=qt x then _ else _)=if k=qt x then _ else _;by_cases n:k=qt x;·rw[aF n,aF n];unfold lE;rw[n,r,v];rfl
   ·rw[ai n,ai n]
  ·change ry bag (qt x)=some y at c;rw[r]at c;cases c;exact v
  ·show(∃y∈nN bag j (x.2.2.2+1),_)↔_;constructor
   ·rintro⟨y,c,rfl⟩;rcases yc f c with c|rfl;·exact .inr ⟨y,c,rfl⟩
    ·exact .inl v
   ·rintro(rfl|⟨y,c,rfl⟩);·exact⟨_,aL (x_ f _),v⟩
    ·obtain⟨i,E⟩:=List.mem_iff_getElem?.1 c;by_cases u:i=j;·subst u;rw[f]at E;cases E;exact⟨_,aL (x_ f _),rfl⟩
     ·refine⟨y,aL (i:=i) ?_,rfl⟩;unfold nN;rw[List.getElem?_set_ne (λe=>u e.symm)];exact E
theorem Ry{bag:List It}{s:List UInt8}{bag':List It}{id:gM}(h:PutR bag s bag' id)(k:K2):lE bag' k=lE bag k+(if k=id.2 then 1 else 0):=by
 conv=>lhs;unfold lE
 rw[h.itk];by_cases a:k=id.2;·rw[aF a,aF a];rfl
 ·rw[ai a,ai a,PY];rfl
/-!### right states -/
structure Rt(bag:List It)(l:List fy):Prop where
 ok:gG bag=0
 len:l.length<=6
 vol:∀v∈l,v.2.length<=32/\uX v.1=true
 srt:l.Pairwise λa b=>cd a.1 b.1=true
 ids:∀id∈eW l,id.1=false->id=jx
 cnt:∀k:K2,(((eW l).count (true,k):Nat):Int)=lE bag k
theorem vN{l:List fy}{id:gM}:id∈eW l↔∃v∈l,id∈v.2:=by unfold eW;rw[List.mem_flatMap]
theorem IL{bag:List It}:∀{a:List gM},(∀id∈a,Bh bag id=0)->Ga bag a=0|[],_=>rfl|x::r,h=>by rw[Ga,ai (by rw[h x (by simp)];exactλh=>h rfl)];exact IL λid b=>h id (by simp[b])
theorem IM{bag:List It}:∀{l:List fy}{p:Option (List UInt8)},(∀v∈l,v.2.length<=32/\uX v.1=true/\Ga bag v.2=0)->(∀q,p=some q->∀v∈l,cd q v.1=true)->l.Pairwise (λa b=>cd a.1 b.1=true)->Le bag p l=0
 |[],_,_,_,_=>rfl
 |x::r,p,d,e,f=>by
  obtain⟨o,g,i⟩:=d x (by simp);obtain⟨j,k⟩:=dt.1 f;have m:lW p x.1=false:=by cases p with|none=>rfl|some q=>show(!cd q x.1)=false;rw[e q rfl x (by simp)];rfl
  rw[Le,ai (by rw[g,m];rintro(h|h)<;>cases h),ai (by omega),ai (λh=>h i)];exact IM (λv c=>d v (by simp[c])) (λq n v c=>by cases n;exact j v c) k
theorem Gh{bag:List It}(f:Dk bag){id:gM}:Bh bag id=0↔(id.1=false->id=jx)/\(id.1=true->ry bag id.2≠none):=by
 unfold Bh;cases h:id.1 with
  |false=>
   by_cases d:id.2.1=0/\id.2.2=0;·rw[ai (λh=>h.2 d),ai (λh=>by cases h.1)];refine⟨λ_=>⟨λ_=>?_,(λh=>by cases h)⟩,λ_=>rfl⟩;obtain⟨a,b,c⟩:=id;simp only at h d;rw[h,d.1,d.2];rfl
   ·rw[aF ⟨rfl,d⟩];refine⟨(λh=>by cases h),λ⟨g,_⟩=>absurd ?_ d⟩;rw[g rfl];exact⟨rfl,rfl⟩
  |true=>
   rw[ai (λh=>by cases h.1)];rcases wU f id h with⟨e,i⟩|⟨j,x,e,_,_,k⟩;·unfold kp at e;rw[aF ⟨rfl,e⟩,i];exact⟨(λh=>by cases h),λ⟨_,h⟩=>absurd rfl (h rfl)⟩
   ·unfold kp at e;rw[ai (λh=>by have :=h.2;omega),k];exact⟨λ_=>⟨(λh=>by cases h),(λ_ h=>by cases h)⟩,λ_=>rfl⟩
theorem IN{bag:List It}(h:gG bag=0){k:K2}:(ry bag k≠none↔1<=lE bag k)/\(ry bag k=none↔lE bag k=0):=by unfold lE;cases a:ry bag k with|none=>simp|some x=>have :=(jY (((oS bag).1 h).2.1 x (Nk a).1)).2.2;simp only[cJ,dn,ne_eq,reduceCtorEq,gy,true_iff,false_iff];omega
theorem IP{bag:List It}{l:List fy}(h:qp bag l=0):Rt bag l:=by
 obtain⟨j,m,f⟩:=lj h;obtain⟨o,g⟩:=gQ m;have n:=CL j;have a:∀b∈eW l,Bh bag b=0:=λb c=>by obtain⟨v,d,i⟩:=vN.1 c;exact zk (g v d).2.2 b i
 refine⟨j,o,λv d=>⟨(g v d).1,(g v d).2.1⟩,si m,λb c=>((Gh n).1 (a b c)).1,λk=>?_⟩;cases e:ry bag k with|some x=>obtain⟨p,q⟩:=Nk e;unfold CD at f;rw[l7]at f;have :=aW (f x p);unfold lE;rw[e,<-q];exact this|none=>have :(eW l).count (true,k)=0:=T5.2 λc=>((Gh n).1 (a _ c)).2 rfl e;unfold lE;rw[this,e];rfl
theorem E'{bag:List It}{l:List fy}(h:Rt bag l):qp bag l=0:=by
 have j:=CL h.ok;have c:qT bag l=0:=by
  unfold qT;rw[ai (by have :=h.len;omega)];refine IM (λv c=>⟨(h.vol v c).1,(h.vol v c).2,IL λd f=>?_⟩) (λq m=>by cases m) h.srt;have g:=vN.2 ⟨v,c,f⟩;refine(Gh j).2 ⟨h.ids d g,λk=>?_⟩;have e:d=(true,d.2):=by obtain⟨a,b⟩:=d;simp only at k;rw[k]
  rw[e]at g;have :=List.count_pos_iff.2 g;have :=h.cnt d.2;rw[(IN h.ok).1];omega
 have n:CD bag (eW l)=true:=by unfold CD;rw[l7];intro x o;refine cy ?_;have :=h.cnt (qt x);unfold lE at this;rw[CM j o]at this;exact this
 unfold qp;rw[ai (λi=>i h.ok),ai (λi=>i c),ai (by rw[n];decide)]
theorem Ym:Rt [] []:=⟨IE,by decide,(λv a=>by cases a),.nil,(λv a=>by cases a),λk=>rfl⟩
/-!### counts -/
theorem Bj(a b:List fy):eW (a++b)=eW a++eW b:=by unfold eW;rw[iv]
theorem IQ(v:fy)(b:List fy):eW (v::b)=v.2++eW b:=by unfold eW;rw[lq]
theorem Bk(a:List fy)(x:fy)(b:List fy)(q:gM):(eW (a++x::b)).count q=(eW (a++b)).count q+x.2.count q:=by rw[Bj,Bj,IQ,mC,mC,mC];omega
theorem va{a:List fy}{x:fy}{b:List fy}{q:gM}:q∈eW (a++x::b)↔q∈x.2\/q∈eW (a++b):=by
 rw[Bj,Bj,IQ,bU,bU,bU];constructor
 ·rintro(h|h|h);·exact .inr (.inl h)
  ·exact .inl h
  ·exact .inr (.inr h)
 ·rintro(h|h|h);·exact .inr (.inl h)
  ·exact .inl h
  ·exact .inr (.inr h)
theorem O0{l:List gM}{a:Nat}{y:gM}(h:l[a]?=some y)(z q:gM):(l.set a z).count q+(if y=q then 1 else 0)=l.count q+(if z=q then 1 else 0):=by
 have e:=nC h;rw[zm h];conv=>rhs;rw[e]
 rw[mC,mC,xz,xz];have c:∀y:gM,(if(y==q)=true then 1 else 0)=(if y=q then 1 else 0):=λy=>by
  by_cases b:y=q;·rw[aF b,aF (by rw[b];exact beq_self_eq_true _)]
  ·rw[ai b,ai (by rw[nU.2 b];decide)]
 rw[c,c];omega
/-!### setV, insV, delV -/
theorem CN{l:List fy}{i:Nat}{x:fy}(h:l[i]?=some x)(a:Nat)(id:gM):lX l i a id=l.take i++(x.1,x.2.set a id)::l.drop (i+1):=by rw[mB h,zm h]
theorem CO{l:List fy}{i a:Nat}{x:fy}{y:gM}(h:l[i]?=some x)(b:x.2[a]?=some y)(id q:gM):(eW (lX l i a id)).count q+(if y=q then 1 else 0)=(eW l).count q+(if id=q then 1 else 0):=by
 have e:(eW l).count q=(eW (l.take i++l.drop (i+1))).count q+x.2.count q:=by
  conv=>lhs;rw[nC h]
  exact Bk _ _ _ _
 rw[CN h,Bk,e];have :=O0 b id q;simp only;omega
theorem IT{l:List fy}{i a:Nat}{x:fy}(h:l[i]?=some x){id q:gM}(b:q∈eW (lX l i a id)):q=id\/q∈eW l:=by
 rw[CN h,va]at b;have e:q∈eW l↔q∈x.2\/q∈eW (l.take i++l.drop (i+1)):=by
  conv=>lhs;rw[nC h]
  exact va
 rw[e];rcases b with b|b
 ·rcases List.mem_or_eq_of_mem_set b with b|b;·exact .inr (.inl b)
  ·exact .inl b
 ·exact .inr (.inr b)
theorem IU{l:List fy}{i a:Nat}{x:fy}(h:l[i]?=some x){id:gM}{v:fy}(b:v∈lX l i a id):∃u∈l,v.1=u.1/\v.2.length=u.2.length:=by
 rw[mB h]at b;rcases List.mem_or_eq_of_mem_set b with b|rfl;·exact⟨v,b,rfl,rfl⟩
 ·exact⟨x,aL h,rfl,eg⟩
theorem CP{l:List fy}{i a:Nat}{x:fy}(h:l[i]?=some x){id:gM}:(lX l i a id).map (·.1)=l.map (·.1):=by
 rw[CN h];conv=>rhs;rw[nC h]
 rw[bq,bq,ca,ca]
theorem E_{l c:List fy}(h:c.map (·.1)=l.map (·.1))(d:l.Pairwise λa b=>cd a.1 b.1=true):c.Pairwise λa b=>cd a.1 b.1=true:=by
 have e:∀l:List fy,(l.Pairwise λa b=>cd a.1 b.1=true)↔(l.map (·.1)).Pairwise λa b=>cd a b=true:=λl=>by rw[kO]
 rw[e,h,<-e];exact d
theorem IV{l:List fy}{i a:Nat}{id:gM}:(lX l i a id).length=l.length:=by unfold lX;rw[eg]
theorem Gi{l:List fy}{i a:Nat}{x:fy}{y:gM}(h:l[i]?=some x)(b:x.2[a]?=some y):CI l i a=y:=by unfold CI;rw[ib h,b];rfl
theorem Yn{l:List fy}{i a:Nat}{x:fy}{y:gM}(h:l[i]?=some x)(b:x.2[a]?=some y):y∈eW l:=vN.2 ⟨x,aL h,aL b⟩
theorem Rt.ref{bag:List It}{l:List fy}(h:Rt bag l){id:gM}(c:id∈eW l)(d:id.1=true):1<=lE bag id.2:=by
 have e:id=(true,id.2):=by obtain⟨a,b⟩:=id;simp only at d;rw[d]
 rw[e]at c;have :=List.count_pos_iff.2 c;have :=h.cnt id.2;omega
theorem Rt.it{bag:List It}{l:List fy}(h:Rt bag l){id:gM}(a:id∈eW l)(b:id.1=true):ry bag id.2≠none:=(IN h.ok).1.2 (h.ref a b)
theorem Nn{bag:List It}{l:List fy}(h:Rt bag l){i a:Nat}{x:fy}{y:gM}(f:l[i]?=some x)(m:x.2[a]?=some y):Rt (fU bag y) (lX l i a jx):=by
 have n:=Yn f m;refine⟨oT h.ok y,by rw[IV];exact h.len,λv o=>?_,E_ (CP f) h.srt,λp g d=>?_,λk=>?_⟩;·obtain⟨u,q,r,s⟩:=IU f o;rw[r,s];exact h.vol u q
 ·rcases IT f g with g|g;·exact g
  ·exact h.ids p g d
 ·have j:=CO f m jx (true,k);have t:¬jx=(true,k):=λe=>by have :=aY yF e;cases this
  rw[ai t]at j;have w:=h.cnt k;cases d:y.1 with
   |false=>rw[E7 d];rw[ai (λe=>by rw[e]at d;cases d)]at j;omega
   |true=>
    rw[E8 h.ok d (h.ref n d)];by_cases c:k=y.2;·rw[aF (by obtain⟨a,b⟩:=y;simp only at d c;rw[d,c])]at j;rw[aF c];omega
    ·rw[ai (λe=>c (by rw[e]))]at j;rw[ai c];omega
theorem Yo{bag bag':List It}{l:List fy}(h:Rt bag l){i a:Nat}{x:fy}{s:List UInt8}{id:gM}(d:l[i]?=some x)(n:x.2[a]?=some jx)(f:PutR bag s bag' id):Rt bag' (lX l i a id):=by
 refine⟨f.ok,by rw[IV];exact h.len,λv o=>?_,E_ (CP d) h.srt,λq g j=>?_,λk=>?_⟩;·obtain⟨u,p,r,t⟩:=IU d o;rw[r,t];exact h.vol u p
 ·rcases IT d g with rfl|g;·rw[f.is]at j;cases j
  ·exact h.ids q g j
 ·have m:=CO d n id (true,k);have w:¬jx=(true,k):=λe=>by have :=aY yF e;cases this
  rw[ai w]at m;have y:=h.cnt k;rw[Ry f];by_cases c:k=id.2;·rw[aF (by have :=f.is;obtain⟨a,b⟩:=id;simp only at this c;rw[this,c])]at m;rw[aF c];omega
  ·rw[ai (λe=>c (by rw[e]))]at m;rw[ai c];omega
theorem Rz{l:List fy}{i a:Nat}{x:fy}{y:gM}(h:l[i]?=some x)(b:x.2[a]?=some y)(id:gM):(lX l i a id)[i]?=some (x.1,x.2.set a id)/\(x.2.set a id)[a]?=some id:=by have c:=(aI.1 h).1;have d:=(aI.1 b).1;exact⟨by rw[mB h,mz c],by rw[mz d]⟩
theorem RA{bag:List It}{l:List fy}(h:Rt bag l){i a:Nat}{x:fy}{y:gM}(b:l[i]?=some x)(c:x.2[a]?=some y){s:List UInt8}(e:(mf (fU bag y) s).2.2=0):Rt (mf (fU bag y) s).1 (lX l i a (mf (fU bag y) s).2.1):=by have d:=Nn h b c;obtain⟨f,g⟩:=Rz b c jx;have :=Yo d f g (abh d.ok e);rwa[E3 (aI.1 b).1]at this
/-! with a volume more, or less -/
theorem IW(l:List fy)(x:fy):∃a b,l=a++b/\II l x=a++x::b:=⟨_,_,(iT (Sb.bk (λy=>pI y.1 x.1) l) l).symm,rfl⟩
theorem RB{l:List fy}{x y:fy}:y∈II l x↔y∈l\/y=x:=by
 obtain⟨a,b,c,d⟩:=IW l x;rw[d,c,bU,bU,aV];constructor
 ·rintro(h|h|h);·exact .inl (.inl h)
  ·exact .inr h
  ·exact .inl (.inr h)
 ·rintro((h|h)|h);·exact .inl h
  ·exact .inr (.inr h)
  ·exact .inr (.inl h)
theorem RC{l:List fy}{x:fy}(h:l.Pairwise λa b=>cd a.1 b.1=true)(d:∀y∈l,y.1≠x.1):(II l x).Pairwise λa b=>cd a.1 b.1=true:=by
 have e:l=(l.map λy=>((.bool true,y):WV)).map (·.2):=by rw[jB];exact(List.map_id l).symm
 have :=CK ((.bool true,x):WV) (l.map λy=>((.bool true,y):WV)) (by rw[kO];exact h) (λy f=>by obtain⟨z,g,rfl⟩:=dq.1 f;exact d z g);have c:=u6 (l.map λy=>((.bool true,y):WV)) (.bool true,x);rw[<-e]at c;rw[<-c,kO];exact this
theorem zo{l:List fy}{n:List UInt8}(h:iO l n=0):uX n=true/\(∀y∈l,y.1≠n)/\l.length<=5:=by
 unfold iO at h;split at h;·cases h
 rename_i a;split at h;·cases h
 rename_i b;split at h;·cases h
 rename_i g;refine⟨by simpa using a,λy c e=>?_,by omega⟩;rcases CE l n with⟨_,d⟩|⟨j,x,f,_⟩;·exact d y c e
 ·rw[f]at b;omega
theorem Ll(k:Nat)(q:K2):(bg k jx).count (true,q)=0:=T5.2 λh=>by have :=(A5.1 h).2;have :=aY yF this;cases this
theorem RD{bag bag':List It}{l:List fy}(h:Rt bag l){n:List UInt8}{c:List gM}(j:iO l n=0)(m:gG bag'=0)(o:c.length<=32)(p:∀id∈c,id.1=false->id=jx)(q:∀k,lE bag' k=lE bag k+((c.count (true,k):Nat):Int)):Rt bag' (II l (n,c)):=by
 obtain⟨r,s,t⟩:=zo j;obtain⟨a,b,e,f⟩:=IW l (n,c);refine⟨m,?_,λv g=>?_,RC h.srt s,λid d i=>?_,λk=>?_⟩;·have :=aY dU e;rw[f,aG,aM];rw[aG]at this;omega
 ·rcases RB.1 g with g|rfl;·exact h.vol v g
  ·exact⟨o,r⟩
 ·rw[f,va,<-e]at d;rcases d with d|d;·exact p id d i
  ·exact h.ids id d i
 ·rw[f,Bk,<-e,q,<-h.cnt k];simp only;omega
theorem Vi{bag:List It}{l:List fy}(h:Rt bag l){n:List UInt8}{k:Nat}(a:iO l n=0)(b:k<=32):Rt (IJ bag l n k).1 (IJ bag l n k).2:=RD h a h.ok (by rw[dT];exact b) (λd c _=>(A5.1 c).2) (λq=>by rw[Ll];show lE bag q=lE bag q+((0:Nat):Int);simp)
theorem RE{bag:List It}{l:List fy}(h:Rt bag l){n:List UInt8}{i:Nat}{x:fy}(w:l[i]?=some x)(F:iO l n=0):Rt (u7 bag l i n).1 (u7 bag l i n).2:=by
 have c:=aL w;have g:∀b∈x.2,b∈eW l:=λb g=>vN.2 ⟨x,c,g⟩;have A:=E9 x.2 (CL h.ok) (λb d j=>h.it (g b d) j);have k:=E1 h.len (λv G=>(h.vol v G).1);unfold u7;rw[ib w];refine RD h F ?_ (h.vol x c).1 (λb d j=>h.ids b (g b d) j) A;have m:=(oS bag).1 h.ok;have e:∀(a:List gM)(bag:List It),(a.foldl jy bag).map vK=bag.map vK:=λa=>by induction a with|nil=>exactλ_=>rfl|cons b r o=>intro bag;rw[lf,o,yd]
 have p:∀(a:List gM)(bag:List It),Dk bag->Dk (a.foldl jy bag):=λa=>by induction a with|nil=>exactλ_ h=>h|cons b r o=>intro bag h;exact o _ (Rw h b)
 have s:=p x.2 bag (CL h.ok);rw[oS,wT,e];refine⟨m.1,λy B=>?_,m.2.2⟩;have t:vK y∈bag.map vK:=by rw[<-e x.2];exact du B
 obtain⟨z,C,u⟩:=dq.1 t;have f:=m.2.1 z C;have D:y.1=z.1:=(aY yF u).symm;have E:y.2.1=z.2.1:=(aY (λq=>q.2.1) u).symm;have H:y.2.2.1=z.2.2.1:=(aY (λq=>q.2.2) u).symm;have I:y=(z.1,z.2.1,z.2.2.1,y.2.2.2):=by rw[<-D,<-E,<-H]
 have J:=A (qt y);have K:=h.cnt (qt y);have L:lE bag (qt y)=z.2.2.2:=by
  have :qt y=qt z:=by unfold qt;rw[D,E]
  unfold lE;rw[this,CM (CL h.ok) C];rfl
 have M:lE (x.2.foldl jy bag) (qt y)=y.2.2.2:=by unfold lE;rw[CM s B];rfl
 have O:(eW l).count (true,qt y)<=(eW l).length:=T3;have P:x.2.count (true,qt y)<=x.2.length:=T3;have Q:=(h.vol x c).1;have N:=(jY f).2.2;rw[I];exact CH f (by omega) (by omega)
theorem IX{l:List fy}{i:Nat}{x:fy}(a:l[i]?=some x)(q:gM):(eW l).count q=(eW (OY l i)).count q+x.2.count q:=by
 conv=>lhs;rw[nC a]
 exact Bk _ _ _ _
theorem wV:∀(d:List gM){bag:List It},gG bag=0->(∀k:K2,((d.count (true,k):Nat):Int)<=lE bag k)->∀k:K2,lE (d.foldl fU bag) k=lE bag k-((d.count (true,k):Nat):Int)
 |[],_,_,_,k=>by simp
 |c::r,bag,h,p,k=>by
  have g:∀k:K2,(c::r).count (true,k)=r.count (true,k)+(if c=(true,k)then 1 else 0):=λk=>by
   rw[xz];by_cases e:c=(true,k);·rw[aF e,aF (by rw[e];exact beq_self_eq_true _)]
   ·rw[ai e,ai (by rw[nU.2 e];decide)]
  rw[lf];cases f:c.1 with
   |false=>
    have i:∀k:K2,c≠(true,k):=λk e=>by rw[e]at f;cases f
    rw[E7 f,wV r h (λk=>by have :=p k;rw[g,ai (i k)]at this;exact this) k,g,ai (i k)];rfl
   |true=>
    have j:c=(true,c.2):=by obtain⟨a,b⟩:=c;simp only at f;rw[f]
    have l:1<=lE bag c.2:=by have :=p c.2;rw[g,aF j]at this;omega
    have m:=E8 h f l;have n:∀k:K2,(if k=c.2 then(1:Int)else 0)=(((if c=(true,k)then 1 else 0:Nat)):Int):=λk=>by
     by_cases o:k=c.2;·rw[aF o,aF (by rw[o];exact j)];rfl
     ·rw[ai o,ai (λe=>o (by rw[e]))];rfl
    rw[wV r (oT h c) (λk=>by have :=p k;rw[g]at this;rw[m,n];omega) k,m,n,g];omega
theorem Vj{bag:List It}{l:List fy}(h:Rt bag l){i:Nat}{x:fy}(b:l[i]?=some x):Rt (wR bag l i).1 (wR bag l i).2:=by
 unfold wR;rw[ib b];have a:(OY l i).Sublist l:=by
  conv=>rhs;rw[nC b]
  exact List.Sublist.append (qB _) (List.sublist_cons_self _ _)
 refine⟨pH x.2 h.ok,b6 a.length_le h.len,λv c=>h.vol v (a.subset c),h.srt.sublist a,λe f g=>?_,λk=>?_⟩;·obtain⟨v,c,d⟩:=vN.1 f;exact h.ids e (vN.2 ⟨v,a.subset c,d⟩) g
 ·have j:=IX b (true,k);have m:=h.cnt k;rw[wV x.2 h.ok (λk=>by have :=IX b (true,k);have :=h.cnt k;omega)];simp only;omega
/-!### answers are right states -/
theorem kD:qp uk.1 uk.2=0:=E' Ym
theorem zp{l:List fy}{n:List UInt8}(h:¬iD l n<0):∃(j:Nat)(x:fy),iD l n=(j:Int)/\l[j]?=some x/\x.1=n:=by
 rcases CE l n with⟨a,_⟩|b;·exact absurd (by rw[a];decide) h
 ·exact b
theorem IY(bag:List It)(l:List fy)(n:List UInt8)(k:Int):qp (sr bag l n k).1.1 (sr bag l n k).1.2=0:=by
 unfold sr;by_cases a:qp bag l=0;rotate_left;·rw[aF a];exact kD
 rw[ai (λh=>h a)];by_cases c:k<1\/32<k;·rw[aF c];exact kD
 rw[ai c];by_cases b:iO l n=0;·rw[ai (λh=>h b)];exact E' (Vi (IP a) b (by omega))
 ·rw[aF b];exact kD
theorem IZ(bag:List It)(l:List fy)(n:List UInt8):qp (qU bag l n).1.1 (qU bag l n).1.2=0:=by
 unfold qU;by_cases a:qp bag l=0;rotate_left;·rw[aF a];exact kD
 rw[ai (λh=>h a)];by_cases b:iD l n<0;·rw[aF b];exact kD
 rw[ai b];obtain⟨j,x,e,c,_⟩:=zp b;rw[e,aX];exact E' (Vj (IP a) c)
theorem Gj(bag:List It)(l:List fy)(n a:List UInt8):qp (nB bag l n a).1.1 (nB bag l n a).1.2=0:=by
 unfold nB;by_cases b:qp bag l=0;rotate_left;·rw[aF b];exact kD
 rw[ai (λh=>h b)];by_cases c:iD l n<0;·rw[aF c];exact kD
 rw[ai c];obtain⟨j,x,e,f,_⟩:=zp c;by_cases d:iO l a=0;·rw[ai (λh=>h d),e,aX];exact E' (RE (IP b) f d)
 ·rw[aF d];exact kD
theorem RF{bag:List It}{l:List fy}{n:List UInt8}{a:Int}(h:vH bag l n a=0):qp bag l=0/\∃(i:Nat)(x:fy)(m:Nat)(y:gM),iD l n=(i:Int)/\l[i]?=some x/\x.1=n/\a=(m:Int)/\x.2[m]?=some y:=by obtain⟨c,d,j,f⟩:=Gc h;obtain⟨i,x,e,b,g⟩:=zp d;rw[s_ e b]at f;refine⟨c,i,x,a.toNat,x.2[a.toNat]'(by omega),e,b,g,by omega,aP _⟩
theorem I0(bag:List It)(l:List fy)(n:List UInt8)(a:Int):qp (pq bag l n a).1.1 (pq bag l n a).1.2=0:=by
 unfold pq;by_cases b:vH bag l n a=0;·rw[ai (λh=>h b)];obtain⟨f,i,x,m,y,e,c,_,rfl,d⟩:=RF b;rw[e,aX,aX];simp only[kk,Gi c d];exact E' (Nn (IP f) c d)
 ·rw[aF b];exact kD
theorem Gk(bag:List It)(l:List fy)(n:List UInt8)(a:Int)(s:List UInt8):qp (mI bag l n a s).1.1 (mI bag l n a s).1.2=0:=by
 unfold mI;by_cases b:vH bag l n a=0
 ·rw[ai (λh=>h b)];obtain⟨g,i,x,m,y,e,d,_,rfl,f⟩:=RF b;rw[e,aX,aX];unfold tg;rw[Gi d f];by_cases c:(mf (fU bag y) s).2.2=0;·rw[ai (λh=>h c)];exact E' (RA (IP g) d f c)
  ·rw[aF c];exact kD
 ·rw[aF b];exact kD
end Go.X.Vo
namespace Go.X
open Go Go.RowKit
def RowF(M:Mem)(v:ay)(sz:Nat)(es:List (List ay)):Prop:=(∀e∈es,e.length=sz/\∀c∈e,c.oneCell'=true)/\((v=.slice none 0 0/\es=[])\/∃b d T f,v=.slice (some ⟨b,0,none⟩) es.length d/\es.length<=d/\d<=dB/\dU f=(d-es.length)*sz/\M b=some (.cells (es.flatten++f).toArray T (0,0)))
def freshB(M:Mem)(v:ay):Prop:=∀b,ee v=some b->M b=none
def AT(M N:Mem)(v:ay):Prop:=∀c,ee v≠some c->N c=M c
theorem freshB.CQ{M N:Mem}{v:ay}(h:freshB M v)(a:N.le M):freshB N v:=λb c=>by cases d:N b with|none=>rfl|some o=>have :=a b o d;rw[h b c]at this;cases this
theorem RowF.lS{M:Mem}{v:ay}{sz:Nat}{es:List (List ay)}(h:RowF M v sz es):RowM M v sz es:=by
 obtain⟨k,⟨rfl,rfl⟩|⟨b,l,T,q,rfl,m,n,r,o⟩⟩:=h;·exact bY M sz
 ·refine⟨⟨rfl,rfl,m,n⟩,λ_=>rfl,λi e f=>?_⟩;have a:=k e (aL f);refine⟨a.1,λj c g=>?_⟩;have p:j<sz:=by rw[<-a.1];exact(aI.1 g).1
  refine⟨?_,a.2 c (aL g)⟩;have d:(⟨b,0,none⟩:qz).add (i*sz+j)=⟨b,i*sz+j,none⟩:=by unfold Ac;split<;>simp_all
  simp only[mS,jT,d,o];simp only[nk,bp,cA,dH];rw[uE (λe f=>(k e f).1) f p,g]
theorem RowF.eqM{M N:Mem}{v:ay}{sz:Nat}{es:List (List ay)}(h:RowF M v sz es)(d:∀b,ee v=some b->N b=M b):RowF N v sz es:=by
 obtain⟨c,e|⟨b,a,T,f,rfl,g,i,j,k⟩⟩:=h;·exact⟨c,.inl e⟩
 ·exact⟨c,.inr ⟨b,a,T,f,rfl,g,i,j,by rw[d b rfl];exact k⟩⟩
theorem RowF.le{M N:Mem}{v:ay}{sz:Nat}{es:List (List ay)}(h:RowF M v sz es)(d:M.le N):RowF N v sz es:=by
 obtain⟨c,e|⟨b,a,T,f,rfl,g,i,j,k⟩⟩:=h;·exact⟨c,.inl e⟩
 ·exact⟨c,.inr ⟨b,a,T,f,rfl,g,i,j,d _ _ k⟩⟩
theorem RowF.aad{M:Mem}{v:ay}{sz:Nat}{es:List (List ay)}(h:RowF M v sz es){b:Nat}(a:ee v=some b):M b≠none:=by
 obtain⟨_,⟨rfl,_⟩|⟨f,c,T,g,rfl,_,_,_,d⟩⟩:=h;·cases a
 ·cases a;rw[d];exactλe=>by cases e
section
variable{E:Env}{σ:dp}{H:HS}{M:Mem}{a:xp}{w:bQ}{ν:Nat->ay}{K:KP}{o:db}
theorem vO{k sz:Nat}{es:List (List ay)}(m:Heap E ν H M w)(n:hget H k=some (.row sz es)):∃N,M.le N/\RowF N (ν k) sz es/\freshB M (ν k)/\Heap E ν (hpub k (ν k) H) N w:=by
 have f:=y9 m n;obtain⟨p,t⟩:=m.holds _ (bP n);simp only at p t;rcases t with⟨d,rfl⟩|⟨b,q,T,r,d,u,v,x,o⟩;·exact⟨M,cg M,⟨p,.inl ⟨d,rfl⟩⟩,λb o=>(by rw[d]at o;cases o),f⟩
 ·have g:ee (ν k)=some b:=by rw[d];rfl
  obtain⟨i,s⟩:=m.apart b (bH.2 ⟨(k,_),bP n,g⟩);have j:b∉fp ν (hpub k (ν k) H):=by rw[wI];exact kz m n g 0 _ (fq k H) (jo k H)
  have l:M.le (o_ M b (.cells (es.flatten++r).toArray T (0,0))):=FO (cg M) i;refine⟨o_ M b (.cells (es.flatten++r).toArray T (0,0)),l,⟨p,.inr ⟨b,q,T,r,d,u,v,x,A_ _ _ _⟩⟩,λc a=>(by rw[g]at a;cases a;exact i),?_⟩;refine⟨f.holds,f.nodup,λc a=>⟨?_,(f.apart c a).2⟩,λc y a=>?_,f.below,f.le0.dC l,λc a=>?_,f.one⟩;·unfold o_;rw[ai (λe=>j (by rw[<-e];exact a))];exact(f.apart c a).1
  ·unfold o_ at a;split at a;·rename_i e;cases a;rw[e];exact o
   ·exact f.mem c y a
  ·unfold o_ at a;split at a;·rename_i e;exact .inr (by rw[e];exact s)
   ·exact f.fresh c a
theorem Ln{id:Nat}{ops:Array db}{k sz:Nat}{es:List (List ay)}(b:hget H k=some (.row sz es))(h:∀v N,M.le N->RowF N v sz es->freshB M v->DrawK E id ops K (sigPub k v σ) (hpub k v H) N):DrawK E id ops K σ H M:=by rintro a w⟨ν,c,d⟩;obtain⟨N,e,f,g,i⟩:=vO d b;exact h _ N e f g a w ⟨ν,mX c,i⟩
theorem CR{f d k sz:Nat}{l:List SV}{es:List (List ay)}(b:hget H k=some (.row sz es))(h:∀v N,M.le N->RowF N v sz es->freshB M v->CallK E f (SV.nK k v l) d K (sigPub k v σ) (hpub k v H) N):CallK E f l d K σ H M:=by intro ν a w c e;obtain⟨N,g,i,j,m⟩:=vO e b;have :=h _ N g i j ν a w (mX c) m;rw[fW]at this;exact this
theorem vP{t:bL}{x y:bB}{v:ay}{sz i off:Nat}{s:SV}{es:List (List ay)}(S:o.op=.store t x y)(U:o.dst=none)(V:D7 E.P t)(W:opv σ x=some (true,.ea v sz i off))(X:opv σ y=some (true,s))(f:concB s=true)(C:onesV (cellsV s)=true)(m:layN (lay (f_ E.P t))=some (cellsV s).length)(Y:RowF M v sz es)(Z:freshB E.M0 v)(D:i<es.length)(h3:off+(cellsV s).length<=sz)(hK:∀N,AT M N v->RowF N v sz (es.set i (km (es.getD i []) off (cellsV s)))->K σ H N):OpK E o K σ H M:=by
 rintro a w⟨ν,F,O⟩;have ex:=F.mA W rfl;have ey:=F.mA X rfl;have d:=uB ν f C;have k:(s.cL ν).cells.size=(cellsV s).length:=by rw[<-d];simp
 obtain⟨B,⟨rfl,rfl⟩|⟨b,p,T,sp,rfl,g3,g4,g5,Q⟩⟩:=Y;·simp at D
 have R:=O.mem b _ Q;have h0:E.M0 b=none:=Z b rfl;have G:=cX (λe l=>(B e l).1);obtain⟨n,g,r,hn⟩:∃n g,lay (f_ E.P t)=some (n,g)/\(cellsV s).length=n:=by cases r:lay (f_ E.P t)with|none=>rw[r]at m;cases m|some q=>obtain⟨n,g⟩:=q;rw[r]at m;simp only[layN,aO]at m;exact⟨n,g,rfl,m.symm⟩
 obtain⟨i0,I,J⟩:=BY V ⟨n,g,r⟩;have hle:i*sz+sz<=es.length*sz:=by have :=il sz (show i+1<=es.length by omega);rw[jH,Nat.one_mul]at this;exact this
 have h:=nX (P:=E.P) (t:=t) (w:=w) (v:=s.cL ν) (off:=i*sz+off) ⟨i0,I⟩ (by rw[J n g r,k,hn]) R (by rw[k];simp only[dh,aG,G];omega) (by rw[d];exact mV C);rw[d,k]at h;have u:=uC (sp:=sp) (cs:=cellsV s) (λe l=>(B e l).1) D h3;rw[u]at h;have z:(SV.ea (.slice (some ⟨b,0,none⟩) es.length p) sz i off).cL ν=.pointer (some ⟨b,i*sz+off,none⟩):=by simp[SV.cL,mg]
 have L:(da a.eval o).run E.P w=.ok .skip (w.setRow b ((es.set i (km (es.getD i []) off (cellsV s))).flatten++sp).toArray):=by simp only[da,S,ex,ey,z,Instr.storeAt,gj,a7,bC,aQ,h]
 unfold oC;rw[L];simp only[sF];rw[U];have A:(es.getD i []).length=sz/\∀c∈es.getD i [],c.oneCell'=true:=by rw[cN,aP D];exact B _ (G4 _)
 refine⟨_,_,_,⟨ν,F,O.WU Q h0 (λj hj=>ny w b _ hj) (by simp[v7]) ⟨rfl,rfl,rfl⟩ (rT w b _ _ T _ R)⟩,hK _ (λc f=>?_) ⟨λe l=>?_,.inr ⟨b,p,T,sp,by rw[eg],by rw[eg];exact g3,g4,by rw[eg];exact g5,A_ _ _ _⟩⟩⟩;·unfold o_;rw[ai (λe=>f (by rw[e];rfl))]
 ·rcases List.mem_or_eq_of_mem_set l with l|rfl;·exact B e l
  ·refine⟨by simp only[km,aG,a6,aT];omega,λc f=>?_⟩;simp only[km,bU]at f;rcases f with(f|f)|f;·exact A.2 c (cq f)
   ·exact mV C c f
   ·exact A.2 c (cG f)
theorem Fa{e sz:Nat}{v:ay}{es:List (List ay)}(z:RowF M v sz es)(F:freshB E.M0 v)(A:hNoKey e H=true)(r:sigNoKey e σ=true){ν:Nat->ay}(t:Slots E.N ν σ a)(n:Heap E ν H M w):∃L ν2,AT M L v/\ν2 (8*e)=v/\(∀k,k/8≠e->ν2 k=ν k)/\Slots E.N ν2 σ a/\Heap E ν2 ((8*e,.row sz es)::H) L w:=by
 let ν2:Nat->ay:=λi=>if i/8=e then v else ν i;have f:∀i,i/8≠e->ν2 i=ν i:=λi m=>by simp[ν2,m]
 have d:ν2 (8*e)=v:=by simp[ν2,show(8*e)/8=e by omega]
 have o:v.oneCell'=true:=by obtain⟨_,⟨rfl,_⟩|⟨b,p,T,B,rfl,_⟩⟩:=z<;>rfl
 have j:∀i,(ν2 i).oneCell'=true:=λi=>by
  by_cases m:i/8=e;·simp only[ν2,m,cR];exact o
  ·simp only[ν2,m,cA];exact n.one i
 have q:Slots E.N ν2 σ a:=⟨t.1,t.2.1,λi g s m=>by rw[t.2.2 i g s m,nw f s (uA r m)]⟩;obtain⟨C,⟨rfl,rfl⟩|⟨b,p,T,B,rfl,G,I,J,u⟩⟩:=z;·refine⟨M,ν2,λ_ _=>rfl,d,f,q,n.HK A f j ?_ (λc l=>by rw[d]at l;cases l)⟩;rw[d];exact⟨C,.inl ⟨rfl,rfl⟩⟩
 ·have D:E.M0 b=none:=F b rfl;have x:E.w0.heap.size<=b:=(n.fresh b (by rw[u];exactλe=>by cases e)).resolve_left (λe=>e D);have y:b∉fp ν H:=λK=>by have :=(n.apart b K).1;rw[u]at this;cases this
  refine⟨Ck M b,ν2,λc l=>?_,d,f,q,(n.off D).HK A f j ?_ (λc l=>?_)⟩;·unfold Ck;rw[ai (λe=>l (by rw[e];rfl))]
  ·rw[d];exact⟨C,.inr ⟨b,p,T,B,rfl,G,I,J,n.mem b _ u⟩⟩
  ·rw[d]at l;simp only[ee,aO]at l;subst l;exact⟨y,by simp[Ck],x⟩
theorem O1(j e:Nat){sz:Nat}{v:ay}{es:List (List ay)}(l:lk σ j=some (true,.v v))(m:aU (j<E.N)=true)(n:RowF M v sz es)(p:freshB E.M0 v)(q:hNoKey e H=true)(d:sigNoKey e σ=true)(h:∀L,AT M L v->OpK E o K ((j,true,.own (8*e))::σ) ((8*e,.row sz es)::H) L):OpK E o K σ H M:=by
 rintro a w⟨ν,r,t⟩;obtain⟨L,f,u,x,z,c,y⟩:=Fa n p q d r t;refine h L u a w ⟨f,⟨c.1,c.2.1,λi g s b=>?_⟩,y⟩;simp only[lk]at b;split at b;·rename_i k;subst k;simp only[aO,cD]at b;obtain⟨rfl,rfl⟩:=b;rw[c.2.2 _ _ _ l];simp only[dM,SV.cL,x]
 ·exact c.2.2 i g s b
theorem qV{f d:Nat}{l:List SV}{A:SV->List SV}(e:Nat){sz:Nat}{v:ay}{es:List (List ay)}(g:Ctxs A)(i:l=A (.v v))(j:RowF M v sz es)(k:freshB E.M0 v)(m:hNoKey e H=true)(c:sigNoKey e σ=true)(h:∀N,AT M N v->CallK E f (A (.own (8*e))) d K σ ((8*e,.row sz es)::H) N):CallK E f l d K σ H M:=by intro ν a w n o;obtain⟨N,b,p,q,t,r,s⟩:=Fa j k m c n o;have :=h N p b a w r s;rw[i,g (.v v) (.own (8*e)) ν b (by simp only[SV.cL,q])];exact this
end
end Go.X
namespace Go.X.Vo
open Go Go.X Go.RowKit Go.X.Bg Go.X.Nm Go.X.Bp
theorem mb{v:ay}(h:isSl v=true):oneV v=true:=by cases v<;>first|rfl|cases h
theorem I1{M:Mem}{v:ay}{sz:Nat}{es:List (List ay)}(h:RowF M v sz es):(v=.slice none 0 0/\es=[])\/∃b cap,v=.slice (some ⟨b,0,none⟩) es.length cap:=by
 obtain⟨_,h|⟨b,cap,T,a,rfl,_⟩⟩:=h;·exact .inl h
 ·exact .inr ⟨b,cap,rfl⟩
theorem Bl{K:KP}{σ:dp}{H:HS}{M:Mem}(d:Option Nat)(L:Option (Nat×Bool))(e:Prop)(x:ay)(a b c:Nat)(y:Bool×SV):stRD d L e K σ H M (some (true,.ea x a b c)) (some y)=e:=by obtain⟨g,y⟩:=y;cases d<;>cases L<;>cases g<;>rfl
theorem Lo(H:HS)(sz:Nat)(ad:qz)(n c:Nat):HF H sz (.v (.slice (some ad) n c))=none:=rfl
def apartB(x y:ay):Prop:=∀c,ee x=some c->ee y≠some c
theorem apartB.Ed{x y:ay}(h:apartB x y):apartB y x:=λc a b=>h c b a
theorem kZ{M M':Mem}{x u:ay}{sz:Nat}{es:List (List ay)}(h:RowF M u sz es)(a:AT M M' x)(b:apartB x u):RowF M' u sz es:=h.eqM λc d=>a c λe=>b c e d
theorem Gl{M0 M M':Mem}{x:ay}(h:M0.le M)(b:freshB M0 x)(d:AT M M' x):M0.le M':=λc o a=>by rw[d c (λe=>by have :=b c e;rw[a]at this;cases this)];exact h c o a
theorem kg{M:Mem}{u y:ay}{sz:Nat}{es:List (List ay)}(h:RowF M u sz es)(b:freshB M y):apartB y u:=λc d e=>h.aad e (b c d)
structure StF(M0 M:Mem)(b v:ay)(bag:List It)(ws:List WV):Prop where
 bag:RowF M b 4 (bag.map Bg.eG)
 vols:RowF M v 2 (ws.map kL)
 blk:∀w∈ws,RowF M w.1 3 (w.2.2.map gx)
 fr:∀x∈b::v::ws.map (·.1),freshB M0 x
 ap:(b::v::ws.map (·.1)).Pairwise apartB
section
variable{M0 M M':Mem}{b v:ay}{bag:List It}{ws:List WV}
theorem StF.CS(h:StF M0 M b v bag ws):VolsM M v ws:=⟨h.vols.lS,λw a=>(h.blk w a).lS⟩
theorem StF.le(h:StF M0 M b v bag ws)(a:M.le M'):StF M0 M' b v bag ws:=⟨h.bag.le a,h.vols.le a,λw c=>(h.blk w c).le a,h.fr,h.ap⟩
theorem StF.fb(h:StF M0 M b v bag ws):freshB M0 b:=h.fr _ (by simp)
theorem StF.fv(h:StF M0 M b v bag ws):freshB M0 v:=h.fr _ (by simp)
theorem StF.fw(h:StF M0 M b v bag ws){w:WV}(a:w∈ws):freshB M0 w.1:=h.fr _ (by simp only[aV,dq];exact .inr (.inr ⟨w,a,rfl⟩))
theorem StF.bv(h:StF M0 M b v bag ws):apartB b v:=(dt.1 h.ap).1 _ (by simp)
theorem StF.bw(h:StF M0 M b v bag ws){w:WV}(a:w∈ws):apartB b w.1:=(dt.1 h.ap).1 _ (by simp only[aV,dq];exact .inr ⟨w,a,rfl⟩)
theorem StF.vw(h:StF M0 M b v bag ws){w:WV}(a:w∈ws):apartB v w.1:=(dt.1 (dt.1 h.ap).2).1 _ (dq.2 ⟨w,a,rfl⟩)
theorem StF.ww(h:StF M0 M b v bag ws){i j:Nat}{x y:WV}(c:ws[i]?=some x)(d:ws[j]?=some y)(k:i≠j):apartB x.1 y.1:=by
 have a:=(dt.1 (dt.1 h.ap).2).2;rw[iI]at a;have l:=(aI.1 c).1;have m:=(aI.1 d).1;have e:ws[i]=x:=(aI.1 c).2;have f:ws[j]=y:=(aI.1 d).2;rcases bR i j with g|g;·have :=a i j (by rw[ae];omega) (by rw[ae];omega) g;rw[iH,iH,e,f]at this;exact this
 ·have :=a j i (by rw[ae];omega) (by rw[ae];omega) (by omega);rw[iH,iH,e,f]at this;exact this.Ed
theorem StF.W5(h:StF M0 M b v bag ws){i:Nat}{x:WV}{c:List gM}(d:ws[i]?=some x)(l:AT M M' x.1)(n:RowF M' x.1 3 (c.map gx)):StF M0 M' b v bag (ws.set i (x.1,x.2.1,c)):=by
 have f:=aL d;have g:=(aI.1 d).1;have o:(ws.set i (x.1,x.2.1,c)).map kL=ws.map kL:=by
  rw[oB];apply gA;intro j;rw[nr];split;·rename_i e;subst e;rw[ae,aF g,aN,d];rfl
  ·rfl
 have m:(ws.set i (x.1,x.2.1,c)).map (·.1)=ws.map (·.1):=by
  rw[oB];apply gA;intro j;rw[nr];split;·rename_i e;subst e;rw[ae,aF g,aN,d];rfl
  ·rfl
 refine⟨kZ h.bag l (h.bw f).Ed,by rw[o];exact kZ h.vols l (h.vw f).Ed,λw p=>?_,by rw[m];exact h.fr,by rw[m];exact h.ap⟩;obtain⟨j,k⟩:=List.mem_iff_getElem?.1 p;rw[nr]at k;split at k;·rename_i e;cases k;exact n
 ·rename_i e;exact kZ (h.blk w (aL k)) l (h.ww d k e)
theorem StF.Vk(h:StF M0 M b v bag ws){bag':List It}(a:AT M M' b)(d:RowF M' b 4 (bag'.map Bg.eG)):StF M0 M' b v bag' ws:=⟨d,kZ h.vols a h.bv,λw c=>kZ (h.blk w c) a (h.bw c),h.fr,h.ap⟩
end
theorem StF.abi{M0 M M':Mem}{b v:ay}{bag:List It}{ws:List WV}(h:StF M0 M b v bag ws)(a:AT M M' v):RowF M' b 4 (bag.map Bg.eG)/\∀w∈ws,RowF M' w.1 3 (w.2.2.map gx):=⟨kZ h.bag a h.bv.Ed,λw c=>kZ (h.blk w c) a (h.vw c)⟩
/-!### contracts that hand back a state -/
def No(T:SV->SV)(A:St):RP:=λr _ M=>∃(b v:ay)(ws:List WV),r=T (fQ b v)/\ws.map (·.2)=A.2/\RowM M b 4 (A.1.map Bg.eG)/\VolsM M v ws
def StK(M0:Mem)(T:SV->SV)(A:St):RP:=λr _ M=>∃(b v:ay)(ws:List WV),r=T (fQ b v)/\ws.map (·.2)=A.2/\StF M0 M b v A.1 ws
def CT(M0:Mem)(H:HS)(M:Mem)(s:SV)(sz:Nat)(es:List (List ay)):Prop:=match s with|.v x=>RowF M x sz es/\freshB M0 x|.own k=>hget H k=some (.row sz es)|_=>False
def CU:SV->List ay|.v x=>[x]|_=>[]
def StO(T:SV->SV)(A:St):RP:=λr H M=>∃(a b:SV)(ws:List WV),r=T (.agg [a,b])/\ws.map (·.2)=A.2/\(∀k,a=.own k->b≠.own k)/\(IsRow H M a 4 (A.1.map Bg.eG)/\IsRow H M b 2 (ws.map kL))/\∀w∈ws,RowM M w.1 3 (w.2.2.map gx)
def Yp(M0:Mem)(T:SV->SV)(A:St):RP:=λr H M=>∃(a b:SV)(ws:List WV),r=T (.agg [a,b])/\ws.map (·.2)=A.2/\(∀k,a=.own k->b≠.own k)/\(CT M0 H M a 4 (A.1.map Bg.eG)/\CT M0 H M b 2 (ws.map kL))/\(∀w∈ws,RowF M w.1 3 (w.2.2.map gx)/\freshB M0 w.1)/\(CU a++CU b++ws.map (·.1)).Pairwise apartB
section
variable{E:Env}{σ:dp}{H:HS}{M:Mem}{a:xp}{w:bQ}{ν:Nat->ay}{K:KP}{P:bZ}{f:kH}{l:List SV}
theorem yg{E:Env}{H:HS}{M:Mem}{w:bQ}{ν:Nat->ay}{s:SV}{sz:Nat}{es:List (List ay)}(a:Heap E ν H M w)(h:IsRow H M s sz es):∃x M' H',s.cL ν=x/\M.le M'/\RowM M' x sz es/\Heap E ν H' M' w/\∀(k:Nat)(p:Nat×List (List ay)),s≠.own k->hget H k=some (.row p.1 p.2)->hget H' k=some (.row p.1 p.2):=by cases s with|v x=>exact⟨x,M,H,rfl,cg M,h,a,λ_ _ _ h=>h⟩|own k=>obtain⟨M',b,c,d⟩:=lL a h;exact⟨_,M',_,rfl,b,c,d,λj p f g=>vA (p:=.row p.1 p.2) (λe=>f (by rw[e])) g⟩|_=>exact h.elim
theorem k_{T:SV->SV}{A:St}(n:Ctx T)(h:Meets P f l M (StO T A)):Meets P f l M (No T A):=by
 refine⟨h.1,λw a=>(h.2 w a).mono ?_⟩;rintro e W⟨s,L,M',u,rfl,o,p,b,ws,rfl,q,r,⟨t,c⟩,y⟩;obtain⟨d,z,B,C,j,D,E,F⟩:=yg o t;have g:IsRow B z b 2 (ws.map kL):=by cases b with|v x=>exact RowM.le c j|own k=>exact F k (2,_) (λe=>r k e rfl) c|_=>exact c.elim
 obtain⟨i,G,H,I,m,J,K,_⟩:=yg E g;refine⟨T (fQ d i),H,G,u,?_,K,d,i,ws,rfl,q,D.le m,J,λw a=>(y w a).le (j.dC m)⟩;rw[n (.agg [p,b]) (fQ d i) u u (by simp only[fQ,SV.cL,aS,C,I])]
theorem wx{E:Env}{H:HS}{M:Mem}{w:bQ}{ν:Nat->ay}{s:SV}{sz:Nat}{es:List (List ay)}(a:Heap E ν H M w)(h:CT E.M0 H M s sz es):∃x M' H',s.cL ν=x/\M.le M'/\RowF M' x sz es/\freshB E.M0 x/\(CU s=[x]\/(CU s=[]/\freshB M x))/\Heap E ν H' M' w/\∀(k:Nat)(p:Nat×List (List ay)),s≠.own k->hget H k=some (.row p.1 p.2)->hget H' k=some (.row p.1 p.2):=by cases s with|v x=>exact⟨x,M,H,rfl,cg M,h.1,h.2,.inl rfl,a,λ_ _ _ h=>h⟩|own k=>obtain⟨M',c,d,b,f⟩:=vO a h;exact⟨_,M',_,rfl,c,d,b.CQ a.le0,.inr ⟨rfl,b⟩,f,λj p g i=>vA (p:=.row p.1 p.2) (λe=>g (by rw[e])) i⟩|_=>exact h.elim
theorem wy{T:SV->SV}{A:St}(D:Ctx T)(h:Meets P f l M (Yp M T A)):Meets P f l M (StK M T A):=by
 refine⟨h.1,λw d=>(h.2 w d).mono ?_⟩;rintro e w'⟨s,G,M',u,rfl,E,r,n,ws,rfl,F,H,⟨I,m⟩,o,t⟩;obtain⟨g,J,K,L,p,z,N,b,O,Q⟩:=wx E I;have q:CT M K J n 2 (ws.map kL):=by cases n with|v x=>exact⟨RowF.le m.1 p,m.2⟩|own k=>exact Q k (2,_) (λe=>H k e rfl) m|_=>exact m.elim
 obtain⟨i,R,S,U,B,V,W,c,X,_⟩:=wx O q;refine⟨T (fQ g i),S,R,u,?_,X,g,i,ws,rfl,F,?_⟩;·rw[D (.agg [r,n]) (fQ g i) u u (by simp only[fQ,SV.cL,aS,L,U])]
 have Y:∀y∈CU r,y=g:=λy a=>by
  rcases b with b|⟨b,_⟩<;>rw[b]at a;·exact bD.1 a
  ·cases a
 have j:∀y∈ws.map (·.1),∃w∈ws,y=w.1:=λy a=>by obtain⟨w,d,rfl⟩:=dq.1 a;exact⟨w,d,rfl⟩
 rw[bN,rK,rK]at t;obtain⟨_,⟨_,Z,p2⟩,C⟩:=t;refine⟨z.le B,V,λw d=>(o w d).1.le (p.dC B),λy a=>?_,?_⟩
 ·simp only[aV]at a;rcases a with rfl|rfl|a;·exact N
  ·exact W
  ·obtain⟨w,d,rfl⟩:=j y a;exact(o w d).2
 ·have q2:∀y∈ws.map (·.1),apartB i y:=λy a=>by
   obtain⟨w,d,rfl⟩:=j y a;rcases c with c|⟨_,c⟩;·exact p2 i (by rw[c];simp) w.1 a
   ·exact kg ((o w d).1.le p) c
  have q1:∀y∈ws.map (·.1),apartB g y:=λy a=>by
   obtain⟨w,d,rfl⟩:=j y a;rcases b with b|⟨_,b⟩;·exact C g (by rw[b];simp) w.1 (by simp[a])
   ·exact kg (o w d).1 b
  have q0:apartB g i:=by
   rcases c with c|⟨_,c⟩
   ·rcases b with b|⟨_,b⟩;·exact C g (by rw[b];simp) i (by rw[c];simp)
    ·have :CT M G M' n 2 (ws.map kL):=m;cases n with|v y=>simp only[CU,A3,fL]at c;subst c;exact kg m.1 b|_=>cases c
   ·exact(kg z c).Ed
  refine dt.2 ⟨λy a=>?_,dt.2 ⟨q2,Z⟩⟩;rcases aV.1 a with rfl|a;·exact q0
  ·exact q1 y a
theorem eZ{d:Nat}{T:SV->SV}{A:St}(c:∀b v,(T (fQ b v)).conc=true)(e:SV.concs l=true)(g:aU (d<E.N)=true)(h:Meets E.P f l M (No T A))(i:∀b v ws M',M.le M'->ws.map (·.2)=A.2->RowM M' b 4 (A.1.map Bg.eG)->VolsM M' v ws->K ((d,true,T (fQ b v))::σ) H M'):CallK E f l d K σ H M:=by
 refine jQ (R:=λr M'=>∃(b v:ay)(ws:List WV),r=T (fQ b v)/\ws.map (·.2)=A.2/\RowM M' b 4 (A.1.map Bg.eG)/\VolsM M' v ws) e g h (λr M'=>?_) (λr M' j=>?_);·rintro⟨b,v,ws,rfl,_⟩;exact c b v
 ·rintro⟨b,v,ws,rfl,k,m,n⟩;exact i b v ws M' j k m n
theorem pS{d:Nat}{T:SV->SV}{A:St}(a:∀b v,(T (fQ b v)).conc=true)(c:SV.concs l=true)(e:aU (d<E.N)=true)(h:Meets E.P f l M (StK M T A))(g:∀b v ws M',M.le M'->ws.map (·.2)=A.2->StF M M' b v A.1 ws->K ((d,true,T (fQ b v))::σ) H M'):CallK E f l d K σ H M:=by
 refine jQ (R:=λr M'=>∃(b v:ay)(ws:List WV),r=T (fQ b v)/\ws.map (·.2)=A.2/\StF M M' b v A.1 ws) c e h (λr M'=>?_) (λr M' i=>?_);·rintro⟨b,v,ws,rfl,_⟩;exact a b v
 ·rintro⟨b,v,ws,rfl,j,k⟩;exact g b v ws M' i j k
theorem oo{d sz:Nat}{T:SV->SV}{es:List (List ay)}(j:Ctx T)(m:SV.concs l=true)(n:aU (d<E.N)=true)(h:Meets E.P f l M (OwnR T sz es))(o:∀v M',M.le M'->RowF M' v sz es->freshB M v->K ((d,true,T (.v v))::σ) H M'):CallK E f l d K σ H M:=by intro ν a w p g;refine .inl ⟨h.1,?_⟩;rw[cl (ν:=vu) (ν':=ν) l m];refine(h.2 w g.mem).mono ?_;rintro e u⟨s,G,M',ν',rfl,b,k,rfl,q⟩;obtain⟨c,x,r,t,i⟩:=vO b q;exact⟨_,rfl,_,_,_,⟨ν,p.ml (aW n) (by rw[dM];exact j _ (.v (ν' k)) _ _ rfl),g.D_ i⟩,o (ν' k) c i.le0 r (t.CQ b.le0)⟩
end
theorem StK.Vl{M0 M:Mem}{T:SV->SV}{A:St}{r:SV}{H:HS}(h:StK M0 T A r H M):No T A r H M:=by obtain⟨b,v,ws,c,d,a⟩:=h;exact⟨b,v,ws,c,d,a.bag.lS,a.CS⟩
theorem vb(M0 M:Mem):StF M0 M (.slice none 0 0) (.slice none 0 0) [] []:=by refine⟨⟨λe d=>(by cases d),.inl ⟨rfl,rfl⟩⟩,⟨λe d=>(by cases d),.inl ⟨rfl,rfl⟩⟩,λw f=>(by cases f),λx b c a=>?_,dt.2 ⟨λx b c a=>(by cases a),dt.2 ⟨λx b c a=>(by cases a),.nil⟩⟩⟩;simp only[cr,aV,cH,fK]at b;rcases b with rfl|rfl<;>cases a
theorem gi(M:Mem):RowM M (.slice none 0 0) 4 (([]:List It).map Bg.eG)/\VolsM M (.slice none 0 0) []:=⟨bY M 4,bY M 2,λw a=>(by cases a)⟩
end Go.X.Vo
namespace Go.X
open Go Go.RowKit
section
variable{E:Env}{σ:dp}{H:HS}{M:Mem}{a:xp}{w:bQ}{ν:Nat->ay}{K:KP}{o:db}
theorem Aw{t:bL}{x:bB}{d:Nat}{y:ay}(g:o.op=.makeInterface t x)(h:o.dst=some d)(i:opv σ x=some (true,.v y))(j:aU (d<E.N)=true)(k:E.P.packed t=false)(b:∃e,E.P.underlying t=some (.slice e))(l:K ((d,true,.v (.iface t y))::σ) H M):OpK E o K σ H M:=by
 refine jq λν a w c m=>?_;have f:=c.mA i rfl;simp only[SV.cL]at f;obtain⟨e,b⟩:=b;refine⟨.iface t y,w,?_,_,_,_,⟨ν,?_,m⟩,l⟩;·simp[da,g,f,Instr.makeInterface,a8 b]
 ·rw[h];exact c.ml (aW j) rfl
theorem I2{α:Type}[Inhabited α]{enc:α->List ay}{k:Nat}(c:∀x,(enc x).length=k):∀(l:List α)(t:Nat),t<l.length*k->((l.map enc).flatten)[t]?=some ((enc l.toArray[t/k]!)[t%k]!)
 |[],t,h=>by simp at h
 |x::r,t,h=>by
  have d:=c x;rw[ca,jF];rcases bR t k with a|a;·rw[cW (by omega),Up a,Nat.mod_eq_of_lt a];simp[d,a]
  ·have b:0<k:=by
    rcases Nat.eq_zero_or_pos k with e|e;·subst e;simp at h
    ·exact e
   rw[nF (by omega),d];have f:t/k=(t-k)/k+1:=by rw[Nat.div_eq_sub_div b a]
   have g:t%k=(t-k)%k:=Nat.mod_eq_sub_mod a;rw[aM,jH,Nat.one_mul]at h;rw[I2 c r (t-k) (by omega),f,g];simp
theorem th{α:Type}[Inhabited α]{enc:α->List ay}{k:Nat}(a:∀x,(enc x).length=k)(d:Array α):(nR enc k d).toList=(d.toList.map enc).flatten:=by
 have b:((d.toList.map enc).flatten).length=d.size*k:=by rw[Ag,jB];have :(dU∘enc)=λ_=>k:=funext λx=>a x;rw[this,List.map_const',Mm,jE]
 apply gA;intro t;rcases bR t (d.size*k)with h|h;·rw[I2 a _ t (by simpa using h)];simp[nR,h]
 ·rw[dm (by simpa using h),dm (by omega)]
theorem I3{α:Type}{enc:α->List ay}{k:Nat}(a:∀x,(enc x).length=k)(l:List α):((l.map enc).flatten).length=l.length*k:=by rw[Ag,jB];have :(dU∘enc)=λ_=>k:=funext λx=>a x;rw[this,List.map_const',Mm]
theorem wz{F:Array ay}{c:List ay}{sp:List ay}(h:F.size=c.length):Sort.putCells id 0 F (c++sp).toArray=(F.toList++sp).toArray:=by
 apply Array.ext_getElem?;intro t;simp only[Sort.putCells,Array.getElem?_mapIdx,dH];rcases bR t F.size with a|a;·rw[cW (by omega),cW (by simpa using a),aP (by omega)];simp[a]
 ·rw[nF (by omega),nF (by simpa using a)];simp only[jE,h];cases b:sp[t-c.length]? with
   |none=>rfl
   |some y=>
    have :¬t<c.length:=by omega
    simp[this,h]
theorem zq{p:PO}{k:Nat}:∀{H:HS},hget H k=some p->hset k p H=H
 |[],h=>by cases h
 |(j,q)::H,h=>by
  simp only[hget]at h;simp only[hset];by_cases e:k=j;·rw[aF e]at h;cases h;rw[aF e.symm]
  ·rw[ai e]at h;rw[ai (λa=>e a.symm),zq h]
def W6{α:Type}[Inhabited α](P:bZ)(g:Nat)(enc:α->List ay)(k:Nat)(h:α->α->Bool)(size:Nat):Prop:=∀(W:bQ)(f b c:Nat)(d:Array α),d.size=size->W.cell? ⟨f,0,none⟩=some (.slice (some ⟨b,0,none⟩) size c)->(∀t u,t<size->u<k->W.cell? ⟨b,0+t*k+u,none⟩=some ((enc d[t]!)[u]!))->∀i j:Nat,i<size->j<size->Calls P g #[.int .i64 i,.int .i64 j,.pointer (some ⟨f,0,none⟩)] W λe l=>e=.returned (.bool (h d[i]! d[j]!))/\∃q,l=W.drewN q
def Np{α:Type}[Inhabited α](P:bZ)(f g t:Nat)(enc:α->List ay)(k:Nat)(j:α->α->Bool):Prop:=(∀(p:Option qz)(n c:Nat),n<=1->∀(b:Array ay)(w:bQ),Calls P f #[.iface t (.slice p n c),.func (.func g) #[] b] w λe u=>e=.returned (.tuple #[])/\∃h,u=qo w h)/\∀(a c:Nat)(d:Array α),2<=d.size->d.size<4611686018427387904->∀(b:Array ay)(w:bQ),P0 P g b enc k j a 0 d.size w->FB enc k w a 0 d->a<w.heap.size->Calls P f #[.iface t (.slice (some ⟨a,0,none⟩) d.size c),.func (.func g) #[] b] w λe u=>e=.returned (.tuple #[])/\∃i n h,Sort.PermIn 0 d.size d i/\Sort.SortedIn j 0 d.size i/\u=qo (gw enc k (nS w n) a 0 i) h
theorem tj(w:bQ)(a:Array Obj)(n:Nat):um w.heap.size w (qo (nS w n) a):=⟨rfl,rfl,rfl,by simp[qo],λk b=>mO b⟩
theorem Ee{α:Type}[Inhabited α]{f d g t:Nat}(F V:Nat)(enc:α->List ay)(k:Nat)(I:α->α->Bool)(l:List α){b cap:Nat}{sp:List ay}{tb:Option ay}(W:hget H F=some (.box (uj ((l.map enc).flatten++sp)) (some (bT b))))(J:hget H V=some (.box [.v (.slice (some ⟨b,0,none⟩) l.length cap)] tb))(Y:aU (V≠F)=true)(o:∀x,(enc x).length=k)(hd:aU (d<E.N)=true)(Z:l.length<4611686018427387904)(hcl:∃fn,E.P.funcs[f]?=some fn/\(fn.name== "runtime.NumGoroutine")=false/\fn.body.isNone=false)(hS:Np E.P f g t enc k I)(hL:W6 E.P g enc k I l.length)(hK:∀p:List α,p.Perm l->p.Pairwise (λx y=>I y x=false)->K ((d,true,.v (.tuple #[]))::σ) (hset F (.box (uj ((p.map enc).flatten++sp)) (some (bT b))) H) M):CallK E f [.v (.iface t (.slice (some ⟨b,0,none⟩) l.length cap)),.fn g [.ptr V 0 0 0]] d K σ H M:=by
 intro ν a w L O;refine .inl ⟨hcl,?_⟩;obtain⟨⟨b',T,e1,Q⟩,e3⟩:=O.holds _ (bP W);have G:=e3 _ rfl;simp only at e1 G;rw[G]at e1;cases e1;rw[ju]at Q;obtain⟨⟨q,T',f1,f2⟩,_⟩:=O.holds _ (bP J);simp only[aS,SV.cL]at f1 f2;have hbb:q≠b:=by rintro rfl;exact uz O W (b:=q) (by rw[G];rfl) _ (bP J) (aW Y) (by simp only[f1];rfl)
 have A:b<w.heap.size:=(bV.1 Q).1;have R:q<w.heap.size:=(bV.1 f2).1;have hv:(aS ν [.v (.iface t (.slice (some ⟨b,0,none⟩) l.length cap)),.fn g [.ptr V 0 0 0]]).toArray=#[.iface t (.slice (some ⟨b,0,none⟩) l.length cap),.func (.func g) #[] #[.pointer (some ⟨q,0,none⟩)]]:=by simp[aS,SV.cL,f1,KD]
 rw[hv];have s:∀p:List α,p.Perm l->p.Pairwise (λx y=>I y x=false)->∀w',Heap E ν (hset F (.box (uj ((p.map enc).flatten++sp)) (some (bT b))) H) M w'->∃S H' M',Rep E S H' M' (a.put (some d) (.tuple #[])) w'/\K S H' M':=λp X h2 w' h3=>⟨_,_,_,⟨ν,L.ml (aW hd) rfl,h3⟩,hK p X h2⟩;rcases bR 1 l.length with h2|X;rotate_left
 ·refine(hS.1 (some ⟨b,0,none⟩) l.length cap X #[.pointer (some ⟨q,0,none⟩)] w).mono ?_;rintro e w'⟨rfl,z,rfl⟩;refine⟨_,rfl,s l (List.Perm.refl l) ?_ _ ?_⟩;·match l,X with|[],_=>exact .nil|[x],_=>exact List.pairwise_singleton _ _
  ·have :=O.mE (tj w z 0);have hs2:hset F (.box (uj ((l.map enc).flatten++sp)) (some (bT b))) H=H:=zq W;rw[hs2];exact this
 ·have hH:FB enc k w b 0 l.toArray:=λj r=>by
   have hf:=th o l.toArray;have hj2:j<(nR enc k l.toArray).toList.length:=by simpa using r
   have hx:((l.map enc).flatten++sp)[j]?=some ((nR enc k l.toArray)[j]!):=by rw[show(l.map enc).flatten=(nR enc k l.toArray).toList from hf.symm,cW hj2,cu,getElem!_pos _ j (by simpa using r)];exact eC _
   refine⟨?_,?_⟩;·rw[iK Q,b7];exact hx
   ·simp[World.frozen?,Q]
  have B:P0 E.P g #[.pointer (some ⟨q,0,none⟩)] enc k I b 0 l.toArray.size w:=by
   intro m z U L i j hi r;have e:Aj enc k w b 0 m U z=gw enc k (qo (nS w m) z) b 0 U:=by unfold Aj;rw[Sort.putRowK_grow _ _ (nS w m) _ b 0 _ A]
   have hHg:FB enc k (qo (nS w m) z) b 0 l.toArray:=Sort.holdsK_grow _ _ _ _ b 0 _ A (Sort.holdsK_ahead _ _ _ _ _ _ _ hH);refine hL _ q b cap U (by simpa using L) ?_ (λt u ht hu=>?_) i j (by simpa using hi) (by simpa using r);·rw[e,Sort.cell?_putRowK_other _ _ _ b 0 U _ (by exact hbb),Sort.cell?_grow _ _ _ (by exact R)];show w.cell? ⟨q,0,none⟩=_;rw[iK f2];rfl
   ·rw[e];exact((Sort.holdsK_putRowK _ _ _ b 0 l.toArray U hHg L).cell (i:=t) (c:=u) (by rw[L];simpa using ht) hu).1
  refine(hS.2 b cap l.toArray (by simp only[dh];omega) (by simpa using Z) #[.pointer (some ⟨q,0,none⟩)] w B hH A).mono ?_;rintro e w'⟨rfl,C,n,z,hp,hso,rfl⟩;have D:C.size=l.length:=by simpa using hp.1
  refine⟨_,rfl,s C.toList ?_ ?_ _ ?_⟩;·have :=hp.2.2;rw[qH (by rw[D];simp),qH (by simp)]at this;exact this
  ·rw[iI];intro i j hi r hij;have :=hso i j (bJ _) hij (by simpa[D]using r);rw[getElem!_pos _ i (by simpa using hi),getElem!_pos _ j (by simpa using r)]at this;simpa using this
  ·have hF:(nR enc k C).size=((l.map enc).flatten).length:=by rw[I3 o,Sort.size_flatK,D]
   have hpw:Heap E ν (hset F (.box (uj ((C.toList.map enc).flatten++sp)) (some (bT b))) H) M (gw enc k w b 0 C):=by
    refine O.Ql W (b:=b) (by rw[G];rfl) (λj r=>?_) ?_ ⟨rfl,rfl,rfl⟩ ⟨⟨b,T,G,?_⟩,λv hv=>?_⟩;·simp only[gw,yN,uh,gr];rw[ai (λh=>r h.symm)]
    ·simp[gw,yN,uh]
    ·rw[ju];simp only[gw,yN,uh,gr,Q,cR,cJ,Sort.onCells];rw[wz hF,th o]
    ·cases hv;exact G
   exact hpw.mE (w':=qo (gw enc k (nS w n) b 0 C) z) (tj (gw enc k w b 0 C) z n)
theorem yh{P:bZ}{f:kH}{args:List SV}{T:SV->SV}{sz:Nat}{es:List (List ay)}(o:Ctx T)(g:∀e∈es,e.length=sz/\∀c∈e,c.oneCell'=true)(h:Meets P f args M (λr H' N=>(r=T (.v (.slice none 0 0))/\es=[])\/OwnR T sz es r H' N\/QB T sz es r H' N)):Meets P f args M (OwnR T sz es):=by
 refine⟨h.1,λw x=>(h.2 w x).mono ?_⟩;rintro e W⟨s,H',N,u,rfl,a,l⟩;rcases(show QB T sz es s H' N\/(s=T (.v (.slice none 0 0))/\es=[])\/OwnR T sz es s H' N from l.elim (λh=>.inr (.inl h)) (λh=>h.elim (λh=>.inr (.inr h)) .inl))with⟨b,k,d,y,rfl,q,z,A,B⟩|⟨rfl,rfl⟩|C
 ·obtain⟨⟨F,D,m,t⟩,E⟩:=a.holds _ (bP q);have n:=E _ rfl;simp only at m n;rw[n]at m;cases m;rw[ju]at t;refine⟨T (.own 0),[(0,.row sz es)],N,λ_=>.slice (some ⟨b,0,none⟩) es.length d,by rw[o (.v _) (.own 0) u (λ_=>.slice (some ⟨b,0,none⟩) es.length d) rfl],⟨λp i=>?_,by simp[fp,ee],λc j=>?_,a.mem,a.below,a.le0,a.fresh,λ_=>rfl⟩,0,rfl,rfl⟩;·simp only[bD]at i;subst i;exact⟨g,.inr ⟨b,d,D,y,rfl,z,A,B,t⟩⟩
  ·simp only[fp,bK,eu,ee,bD]at j;subst j;exact a.apart c (bH.2 ⟨_,bP q,by rw[n];rfl⟩)
 ·refine⟨T (.own 0),[(0,.row sz [])],N,λ_=>.slice none 0 0,by rw[o (.v _) (.own 0) u (λ_=>.slice none 0 0) rfl],⟨λp i=>?_,by simp[fp,ee],λc j=>by simp[fp,ee]at j,a.mem,a.below,a.le0,a.fresh,λ_=>rfl⟩,0,rfl,rfl⟩;simp only[bD]at i;subst i;exact⟨g,.inl ⟨rfl,rfl⟩⟩
 ·exact⟨s,H',N,u,rfl,a,C⟩
end
end Go.X
namespace Go.X.Vo
open Go Go.X Go.RowKit Go.X.Bg Go.X.Nm Go.X.Bp Go.X.Sb
theorem Yq(u:ay)(l:List (WV))(M:Mem)(b:RowM M u 2 (l.map kL))(g:l.length<=1000000):Meets ab 194 [.v u] M (OwnR (λs=>s) 2 (l.map kL)):=by
 obtain⟨d,e⟩:=b.FL (by omega);cases c:someV u with
  |true=>refine aH [0,2,4] G_ rfl (by kernel_rfl) rfl λw=>?_;simp only[Ks,zV,↓reduceIte,aj,ak,al,af,aA,ag,reduceCtorEq,aB,aC,aD,aE,aq,ar,au,av,ah,aw,b.sl,c,d,ae];exact⟨⟨by omega,e⟩,56,rfl,rfl⟩
  |false=>
   have f:l=[]:=by cases l with|nil=>rfl|cons a r=>have :=b.2.1 (by simp);rw[c]at this;cases this
   subst f;refine pD ?_;refine aH [0,2,4] G_ rfl (by kernel_rfl) rfl λw=>?_;simp only[Ks,zV,↓reduceIte,aj,ak,al,af,aA,ag,reduceCtorEq,aB,aC,aD,aE,aq,ar,au,av,ah,aw,b.sl,c]
theorem Vm(es:List (List ay))(x:List ay)(i:Nat)(M:Mem)(B:i<=es.length)(hb:es.length<=1000000)(t:∀e∈es,e.length=2/\∀c∈e,c.oneCell'=true)(p:x.length=2/\∀c∈x,c.oneCell'=true):MeetsH ab 326 [.own 8000,.v (.int .i64 i),.own 8008] [(8000,.row 2 es),(8008,.row 2 [x])] M (OwnR (λs=>s) 2 (es.take i++x::es.drop i)):=by
 refine gz eh (λe d=>?_) ?_
 ·rcases bU.1 d with d|d;·exact t e (cq d)
  ·rcases aV.1 d with rfl|d;·exact p
   ·exact t e (cG d)
 refine o9 Proofs.Tryz.func326 rfl (by kernel_rfl) λw M0=>?_;refine mr (k:=8000) 1002 rfl (λ_=>rfl) (λd=>?_) (λb cap sp K Y=>?_)
 ·subst d;have Z:i=0:=by simpa using B
  subst Z;refine k9 (live:=[0,1,2,6,7,8,9,16,22,31,68]) ?_;simp only[q_,zV,↓reduceIte,aj,ak,al,af,aA,ag,reduceCtorEq,aB,aC,aD,aE,aq,ar,au,av,ah,aw,im,iq,ir,nzs,eB,gh,isSl];exact .inr ⟨200,rfl,rfl⟩
 refine k9 (live:=[0,1,2,6,7,8,9,16,22,31,68]) ?_;have hm:(cap:Int)<=9223372036854775807:=by have :=K.2.1;simp only[dB]at this;omega
 by_cases hn:i=es.length;·have A:((i:Int)=(es.length:Int))=True:=aK (by omega);simp only[q_,zV,↓reduceIte,aj,ak,al,af,aA,ag,reduceCtorEq,aB,aC,aD,aE,aq,ar,au,av,ah,aw,im,iq,ir,nzs,eB,gh,isSl,A];refine⟨⟨⟨by omega,by omega⟩,by omega⟩,show OpK _ _ _ _ _ _ from y' (es:=es) (sp:=sp) (cap:=cap) (b:=b) 23 8016 1003 rfl rfl rfl K Y rfl (rV ?_)⟩;simp only[zV,↓reduceIte,aj,ak,al,af,aA,ag,reduceCtorEq,aB,aC,aD,aE,aq,ar,au,av,ah,aw,im,iq,ir,nzs];refine⟨⟨by omega,by omega⟩,.inr ⟨200,rfl,?_⟩⟩;simp[hn]
 have A:((i:Int)=(es.length:Int))=False:=ax (by omega);have f:∀e∈es,e.length=2:=λe d=>(t e d).1;have l:=cX f;have o:=cX (λe d=>f e (cq (i:=i) d));have g:=cX (λe d=>f e (cG (i:=i) d));rw[a6,cT B]at o;rw[aT]at g;have C:∀u∈(es.drop i).flatten,u.oneCell'=true:=λu P=>by obtain⟨e,d,P⟩:=rH.1 P;exact(t e (cG d)).2 u P
 have D:es.flatten.take (i*2)=(es.take i).flatten:=n7 f i;have E:es.flatten.drop (i*2)=(es.drop i).flatten:=rY f i;by_cases hr:es.length+1>cap
 ·have Q:((cap:Int)<(es.length:Int)+1)=True:=aK (by omega);simp only[q_,zV,↓reduceIte,aj,ak,al,af,aA,ag,reduceCtorEq,aB,aC,aD,aE,aq,ar,au,av,ah,aw,im,iq,ir,nzs,eB,gh,isSl,A,cY,lo,hi];refine⟨⟨⟨by omega,by omega⟩,by omega⟩,⟨by omega,by omega⟩,⟨rfl,qQ (e:=68) rfl rfl rfl (by kernel_rfl) rfl rfl ?_⟩⟩;simp only[zV,↓reduceIte,aj,ak,al,af,aA,ag,reduceCtorEq,aB,aC,aD,aE,aq,ar,au,av,ah,aw,im,iq,ir,nzs,eB,gh,isSl,A,Q,cY,lo,hi,kc];have em:(es.length:Int)+1-(i:Int)=((es.length+1-i:Nat):Int):=by omega
  simp only[em];refine⟨⟨by omega,by omega⟩,⟨by omega,by omega⟩,⟨by omega,by omega⟩,show OpK _ _ _ _ _ _ from qS (base:=some ⟨b,0,none⟩) (n:=i) (m:=es.length+1-i) (c:=cap) (olds:=(es.take i).flatten) rfl rfl rfl HR (kn:=.i64) (by kernel_rfl) rfl rfl (.inr ⟨⟨b,0,none⟩,rfl,o,gp (k:=8016) (cs:=es.flatten++sp) rfl λj u q=>uN D.symm q⟩) (by omega) (by decide) rfl (by omega) (by omega) (by simp[hdel,hNoKey,poNoKey,opn_noKeys]) λS a F q1 q2 W=>?_⟩;have G:i+(es.length+1-i)=es.length+1:=by omega
  rw[G]at q1 W;have X:(bg (es.length+1-i) [iF ⟨([]:List UInt8).toArray⟩,DJ none 0 0]).flatten.length=(es.length+1-i)*2:=by simp
  have L:(a=i)=False:=ax (by omega);simp only[zV,↓reduceIte,aj,ak,al,af,aA,ag,reduceCtorEq,aB,aC,aD,aE,aq,ar,au,av,ah,aw,im,iq,ir,nzs,eB,gh,isSl,cY,lo,hi,dK S (es.length+1) a 2 i,G,L];refine⟨⟨by omega,by omega⟩,⟨rfl,oO (k:=8008) 1003 rfl (λ_=>by simp[hpub,poPub,hNoKey,poNoKey,opn_noKeys,opn_pubs]) (λh=>by cases h) λT H z r1 r2=>?_⟩⟩;simp only[zV,↓reduceIte,aj,ak,al,af,aA,ag,reduceCtorEq,aB,aC,aD,aE,aq,ar,au,av,ah,aw,im,iq,ir,nzs,AO];refine iz (k:=320) (cs:=(es.take i).flatten++(bg (es.length+1-i) [iF ⟨([]:List UInt8).toArray⟩,DJ none 0 0]).flatten++F) (news:=x) (m:=1) (ad:=⟨T,0,none⟩) rfl rfl HR rfl rfl rfl ?_ (gp (k:=8024) (cs:=[x].flatten++z) rfl λj u q=>?_) p.2 ?_ ?_;·rw[p.1];have :qC 1 (es.length+1-i)=1:=cT (by omega);rw[this]
  ·rw[b7,cW (by have :=(aI.1 q).1;simpa using this)];simpa using q
  ·rw[aG,aG,o,X,p.1];omega
  rw[<-o,bN,mZ];generalize hR:((bg (es.length+1-i) [iF ⟨([]:List UInt8).toArray⟩,DJ none 0 0]).flatten++F).drop x.length=R;have I:R.length=(a-i-1)*2:=by rw[<-hR,aT,aG,X,p.1,W];omega
  simp only[xQ,zV,↓reduceIte,aj,ak,al,af,aA,ag,reduceCtorEq,aB,aC,aD,aE,aq,ar,au,av,ah,aw,im,iq,ir,nzs,AO];refine gE 8 (by kernel_rfl) (by kernel_rfl) ?_;have d2:(a=i+1)=False:=ax (by omega);have N:(cap=i)=False:=ax (by omega);have O:((i:Int)+1).toNat=i+1:=by omega
  simp only[zV,↓reduceIte,aj,ak,al,af,aA,ag,reduceCtorEq,aB,aC,aD,aE,aq,ar,au,av,ah,aw,im,iq,ir,nzs,eB,gh,isSl,cY,lo,hi,O,dK S (es.length+1) a 2 (i+1),dK b es.length cap 2 i,d2,N];refine⟨⟨by omega,by omega⟩,⟨⟨by omega,by omega⟩,by omega⟩,⟨⟨by omega,by omega⟩,by omega⟩,⟨rfl,iz (k:=320) (cs:=(es.take i).flatten++(x++R)) (news:=(es.drop i).flatten) (m:=es.length-i) (ad:=⟨b,i*2,none⟩) rfl rfl HR rfl rfl rfl ?_ (gp (k:=8016) (cs:=es.flatten++sp) rfl λj u q=>kQ E.symm q) C ?_ ?_⟩⟩;·have :qC (es.length-i) (es.length+1-(i+1))=es.length-i:=cT (by omega);rw[this,g]
  ·rw[aG,aG,o,g,I,p.1];omega
  have eo:(i+1)*2=((es.take i).flatten++x).length:=by rw[aG,o,p.1];omega
  rw[eo,<-bN,mZ];have U:(es.take i).flatten++x++((es.drop i).flatten++R.drop (es.drop i).flatten.length)=(es.take i++x::es.drop i).flatten++R.drop (es.drop i).flatten.length:=by simp
  rw[U];have r:(es.take i++x::es.drop i).length=es.length+1:=by simp;omega
  simp only[xQ,zV,↓reduceIte,aj,ak,al,af,aA,ag,reduceCtorEq,aB,aC,aD,aE,aq,ar,au,av,ah,aw,im,iq,ir,nzs,AO];refine .inl ⟨S,320,a,R.drop (es.drop i).flatten.length,by rw[r],rfl,by omega,q2,?_⟩;rw[aT,I,g,r];omega
 ·have Q:((cap:Int)<(es.length:Int)+1)=False:=ax (by omega);have e3:((es.length:Int)+1).toNat=es.length+1:=by omega
  have O:((i:Int)+1).toNat=i+1:=by omega
  have L:(cap=i+1)=False:=ax (by omega);simp only[q_,zV,↓reduceIte,aj,ak,al,af,aA,ag,reduceCtorEq,aB,aC,aD,aE,aq,ar,au,av,ah,aw,im,iq,ir,nzs,eB,gh,isSl,A,cY,lo,hi];refine⟨⟨⟨by omega,by omega⟩,by omega⟩,⟨by omega,by omega⟩,⟨rfl,qQ (e:=68) rfl rfl rfl (by kernel_rfl) rfl rfl ?_⟩⟩;simp only[zV,↓reduceIte,aj,ak,al,af,aA,ag,reduceCtorEq,aB,aC,aD,aE,aq,ar,au,av,ah,aw,im,iq,ir,nzs,eB,gh,isSl,A,Q,cY,lo,hi,kc,e3,O,dK b (es.length+1) cap 2 (i+1),L];refine⟨⟨by omega,by omega⟩,⟨by omega,by omega⟩,⟨by omega,by omega⟩,⟨⟨by omega,by omega⟩,by omega⟩,rj (k:=8008) 1003 rfl (λ_=>by simp[hpub,poPub,hNoKey,poNoKey,opn_noKeys,opn_pubs]) (λh=>by cases h) (λT H z r1 r2=>?_) (λ_=>rfl)⟩;simp only[zV,↓reduceIte,aj,ak,al,af,aA,ag,reduceCtorEq,aB,aC,aD,aE,aq,ar,au,av,ah,aw,im,iq,ir,nzs,AO];refine p7 (k:=8024) (k2:=8016) (cs:=[x].flatten++z) (cs2:=es.flatten++sp) (tS:=28) (tR:=4) (e:=68) (sz:=2) rfl (by kernel_rfl) Proofs.Tryz.sizeOf68 (λw x y v h=>by rw[run_callFunc_extern Proofs.Tryz.func341 (by kernel_rfl) (by kernel_rfl) (by kernel_rfl) (e:=nP #[28,28] #[4]) (by kernel_rfl),h];rfl) rfl rfl rfl ?_ ?_;·rw[aG,l];omega
  simp only[zV,↓reduceIte,aj,ak,al,af,aA,ag,reduceCtorEq,aB,aC,aD,aE,aq,ar,au,av,ah,aw,im,iq,ir,nzs,AO];refine gE 8 (by kernel_rfl) (by kernel_rfl) ?_;have N:(cap=i)=False:=ax (by omega);simp only[zV,↓reduceIte,aj,ak,al,af,aA,ag,reduceCtorEq,aB,aC,aD,aE,aq,ar,au,av,ah,aw,im,iq,ir,nzs,eB,gh,isSl,cY,lo,hi,O,dK b (es.length+1) cap 2 (i+1),dK b (es.length+1) cap 2 i,L,N];refine⟨⟨by omega,by omega⟩,⟨⟨by omega,by omega⟩,by omega⟩,⟨⟨by omega,by omega⟩,by omega⟩,⟨rfl,iz (k:=8016) (cs:=es.flatten++sp) (news:=(es.drop i).flatten) (m:=es.length+1-i) (ad:=⟨b,i*2,none⟩) rfl rfl HR rfl rfl rfl ?_ (gp (k:=8016) (cs:=es.flatten++sp) rfl λj u q=>kQ E.symm q) C ?_ ?_⟩⟩
  ·have :qC (es.length+1-i) (es.length+1-(i+1))=es.length-i:=by rw[show es.length+1-(i+1)=es.length-i by omega];exact Nat.min_eq_right (by omega)
   rw[this,g]
  ·rw[aG,l,g];omega
  simp only[xQ,zV,↓reduceIte,aj,ak,al,af,aA,ag,reduceCtorEq,aB,aC,aD,aE,aq,ar,au,av,ah,aw,im,iq,ir,nzs,AO,eB,gh,isSl,dK b (es.length+1) cap 2 i,N];have V:(km (es.flatten++sp) ((i+1)*2) (es.drop i).flatten).length=(es.flatten++sp).length:=by unfold km;rw[aG,aG,a6,aT,aG,l,g];omega
  refine⟨⟨by omega,by omega⟩,⟨rfl,iz (k:=8016) (cs:=km (es.flatten++sp) ((i+1)*2) (es.drop i).flatten) (news:=x) (m:=1) (ad:=⟨T,0,none⟩) rfl rfl HR rfl rfl rfl ?_ (gp (k:=8024) (cs:=[x].flatten++z) rfl λj u q=>?_) p.2 ?_ ?_⟩⟩;·rw[p.1];have :qC 1 (es.length+1-i)=1:=cT (by omega);rw[this]
  ·rw[b7,cW (by have :=(aI.1 q).1;simpa using this)];simpa using q
  ·rw[V,aG,l,p.1];omega
  have J:=wL (es.flatten++sp) (es.drop i).flatten x (i*2) (by rw[aG,l,p.1];omega);rw[p.1,show i*2+2=(i+1)*2 by omega,jC (by omega),D]at J;rw[J];have U:(es.take i).flatten++x++((es.drop i).flatten++(es.flatten++sp).drop ((i+1)*2+(es.drop i).flatten.length))=(es.take i++x::es.drop i).flatten++(es.flatten++sp).drop ((i+1)*2+(es.drop i).flatten.length):=by simp
  rw[U];have r:(es.take i++x::es.drop i).length=es.length+1:=by simp;omega
  simp only[xQ,zV,↓reduceIte,aj,ak,al,af,aA,ag,reduceCtorEq,aB,aC,aD,aE,aq,ar,au,av,ah,aw,im,iq,ir,nzs,AO];refine .inl ⟨b,8016,cap,_,by rw[r],rfl,by omega,K.2.1,?_⟩;rw[aT,aG,l,g,r,K.2.2];omega
theorem bsV{α:Type}(u z:α->ay)(a:α->Int)(f:Nat)(B C y:ay)(l:List α)(M:Mem)(m:RowM M y 2 (l.map λx=>[u x,z x]))(T:l.length<=1000000)(U:B.oneCell'=true/\C.oneCell'=true)(K:∀x∈l,Meets ab f [.agg [.v (u x),.v (z x)],.agg [.v B,.v C]] M λr _ _=>r=.v (.int .i64 (a x)))(c:∀(i j:Nat)(x y:α),i<=j->l[i]?=some x->l[j]?=some y->a y<0->a x<0):Meets ab 323 [.v y,.agg [.v B,.v C],.fn f []] M λr _ _=>r=.tup [.v (.int .i64 (bk a l)),.v (.bool (bf a l))]:=by
 refine aH [0,1,2,4,6,7,8,9,10,11,17,31] Proofs.Tryz.func323 rfl (by kernel_rfl) rfl λw=>?_;simp only[Proofs.Tryz.f323,zW,↓reduceIte,aj,ak,al,af,aA,ag,reduceCtorEq,aB,aC,aD,aE,aq,ar,au,av,ah,aw,m.gC,m.sl,ae];refine bE (X:=Nat×Nat) (λx=>([(0,true,.v y),(2,true,.fn f []),(4,true,.ptr 32 0 0 0),(8,true,.v (.int .i64 l.length)),(9,true,.v (.int .i64 x.1)),(10,true,.v (.int .i64 x.2))],[(32,.box [.v B,.v C] none)],M)) (λx=>(x.1<=x.2/\x.2<=l.length)/\(∀q d,q<x.1->l[q]?=some d->a d<0)/\∀q d,x.2<=q->l[q]?=some d->0<=a d) (λx=>x.2-x.1) (0,l.length) ⟨⟨by simp,by simp⟩,λq d o=>by simp at o,λq d o b=>by rw[dm (by simpa using o)]at b;cases b⟩ (aR ?_) ?_;·simp only[zV,↓reduceIte,aj,ak,al,af,aA,ag,reduceCtorEq,aB,aC,aD,aE,aq,ar,au,av,ah,aw,aZ]
 rintro⟨i,j⟩⟨⟨L,E⟩,F,G⟩;simp only at L E F G;by_cases N:i<j
 ·have H:((i:Int)<(j:Int))=True:=aK (by omega);have O:xq .u64 ((i:Int)+(j:Int))=(i:Int)+(j:Int):=fO ⟨by simp only[lo];omega,by simp only[hi];omega⟩;have P:xq .i64 (((i:Int)+(j:Int))/2^1)=(((i+j)/2:Nat):Int):=by
   rw[show(2:Int)^1=2 from rfl,fO];·omega
   ·exact⟨by simp only[lo];omega,by simp only[hi];omega⟩
  have Q:(i+j)/2<l.length:=by omega
  obtain⟨x,b,_⟩:=cE (l:=l) Q;have p:=m.fG (i:=(i+j)/2) (e:=[u x,z x]) (by rw[aN,b];rfl) (off:=0) (by omega);have s:=m.fG (i:=(i+j)/2) (e:=[u x,z x]) (by rw[aN,b];rfl) (off:=1) (by omega);have A:=m.ix (i:=(((i+j)/2:Nat):Int)) (by omega) (by rw[ae];omega);simp only[a_,bA]at p s;generalize R:(i+j)/2=h at*;simp only[zW,↓reduceIte,aj,ak,al,af,aA,ag,reduceCtorEq,aB,aC,aD,aE,aq,ar,au,av,ah,aw,H,O,P,cY,lo,hi];refine⟨by omega,by decide,dD (by kernel_rfl) (by kernel_rfl) ?_⟩;simp only[zW,↓reduceIte,aj,ak,al,af,aA,ag,reduceCtorEq,aB,aC,aD,aE,aq,ar,au,av,ah,aw,A,A.2,p.1,p.2.1,s.1,s.2.1];refine⟨_,⟨⟨rfl,rfl⟩,K x (aL b)⟩,?_⟩;by_cases D:a x<0;·have n:(a x<0)=True:=aK D;simp only[zW,↓reduceIte,aj,ak,al,af,aA,ag,reduceCtorEq,aB,aC,aD,aE,aq,ar,au,av,ah,aw,n,cY,lo,hi];refine⟨by omega,(h+1,j),⟨⟨⟨by simp only;omega,E⟩,λq d o t=>c q h d x (by simp only at o;omega) t b D,G⟩,by simp only;omega⟩,aR ?_⟩;simp only[zV,↓reduceIte,aj,ak,al,af,aA,ag,reduceCtorEq,aB,aC,aD,aE,aq,ar,au,av,ah,aw,aJ]
  ·have n:(a x<0)=False:=ax D;simp only[zW,↓reduceIte,aj,ak,al,af,aA,ag,reduceCtorEq,aB,aC,aD,aE,aq,ar,au,av,ah,aw,n,cY,lo,hi];refine⟨(i,h),⟨⟨⟨by simp only;omega,by simp only;omega⟩,F,λq d o t=>PZ.1 λI=>D (c h q x d o b t I)⟩,by simp only;omega⟩,aR ?_⟩;simp only[zV,↓reduceIte,aj,ak,al,af,aA,ag,reduceCtorEq,aB,aC,aD,aE,aq,ar,au,av,ah,aw]
 ·have H:((i:Int)<(j:Int))=False:=ax (by omega);have S:i=j:=by omega
  subst S;have g:bk a l=i:=Rn a l i E F (λx b=>PZ.2 (G i x (bc _) b));simp only[zW,↓reduceIte,aj,ak,al,af,aA,ag,reduceCtorEq,aB,aC,aD,aE,aq,ar,au,av,ah,aw,H];refine dD (by kernel_rfl) (by kernel_rfl) ?_;by_cases J:i<l.length
  ·have n:((i:Int)<(l.length:Int))=True:=aK (by omega);obtain⟨x,b,_⟩:=cE (l:=l) J;have p:=m.fG (i:=i) (e:=[u x,z x]) (by rw[aN,b];rfl) (off:=0) (by omega);have s:=m.fG (i:=i) (e:=[u x,z x]) (by rw[aN,b];rfl) (off:=1) (by omega);have A:=m.ix (i:=(i:Int)) (by omega) (by rw[ae];omega);simp only[a_,bA]at p s;have k:bf a l=aU (a x=0):=by simp only[bf,g,b]
   simp only[zW,↓reduceIte,aj,ak,al,af,aA,ag,reduceCtorEq,aB,aC,aD,aE,aq,ar,au,av,ah,aw,n,A,A.2,p.1,p.2.1,s.1,s.2.1];refine⟨_,⟨⟨rfl,rfl⟩,K x (aL b)⟩,?_⟩;simp only[zW,↓reduceIte,aj,ak,al,af,aA,ag,reduceCtorEq,aB,aC,aD,aE,aq,ar,au,av,ah,aw,g,k]
  ·have n:((i:Int)<(l.length:Int))=False:=ax (by omega);have k:bf a l=false:=by simp only[bf,g,dm (show l.length<=i by omega)]
   simp only[zW,↓reduceIte,aj,ak,al,af,aA,ag,reduceCtorEq,aB,aC,aD,aE,aq,ar,au,av,ah,aw,n,g,k];refine⟨.v (.int .i64 0),?_⟩;simp only[zW,↓reduceIte,aj,ak,al,af,aA,ag,reduceCtorEq,aB,aC,aD,aE,aq,ar,au,av,ah,aw,n,g,k]
theorem Vn(es:List (List ay))(i j:Nat)(M:Mem)(K:i<=j)(I:j<=es.length)(S:es.length<=1000000):MeetsH ab 279 [.own 8000,.v (.int .i64 i),.v (.int .i64 j)] [(8000,.row 2 es)] M (OwnR (λs=>s) 2 (es.take i++es.drop j)):=by
 refine uM (A:=λs=>[s,.v (.int .i64 i),.v (.int .i64 j)]) 8000 (lN _ rfl) (λa=>?_) (λb c n L B N z=>gz eh (λe a=>?_) ?_) ⟨_,uv,by kernel_rfl,by kernel_rfl⟩
 ·subst a;have O:i=0:=by simp at I;omega
  have e2:j=0:=by simpa using I
  subst O e2;refine gz eh (λe a=>by cases a) ?_;refine fS [0,1,2,6,7,16] uv rfl (by kernel_rfl) λw P=>?_;simp only[xB,zV,↓reduceIte,aj,ak,al,af,aA,ag,reduceCtorEq,aB,aC,aD,aE,aq,ar,au,av,ah,aw,eB,gh,isSl];exact .inr trivial
 ·rcases bU.1 a with a|a;·exact z e (cq a)
  ·exact z e (cG a)
 refine fS [0,1,2,6,7,16] uv rfl (by kernel_rfl) λw P=>?_;have T:(c:Int)<=9223372036854775807:=by simp only[dB]at B;omega
 by_cases Q:i=j;·subst Q;have C:((i:Int)=(i:Int))=True:=aK rfl;simp only[xB,zV,↓reduceIte,aj,ak,al,af,aA,ag,reduceCtorEq,aB,aC,aD,aE,aq,ar,au,av,ah,aw,eB,gh,isSl,C];exact⟨⟨by omega,by omega,by omega⟩,.inl ⟨b,8000,c,n,by simp,by rw[iT];rfl,by simpa using L,B,by simpa using N⟩⟩
 have C:((i:Int)=(j:Int))=False:=ax (by omega);simp only[xB,zV,↓reduceIte,aj,ak,al,af,aA,ag,reduceCtorEq,aB,aC,aD,aE,aq,ar,au,av,ah,aw,eB,gh,isSl,C];refine⟨⟨by omega,by omega,by omega⟩,gE 6 (by kernel_rfl) (by kernel_rfl) ?_⟩;have d:∀e∈es,e.length=2:=λe a=>(z e a).1;have o:=cX d;have f:=cX (λe a=>d e (cG (i:=j) a));have p:=cX (λe a=>d e (cq (i:=i) a));rw[aT]at f;rw[a6,cT (by omega)]at p;simp only[zV,↓reduceIte,aj,ak,al,af,aA,ag,reduceCtorEq,aB,aC,aD,aE,aq,ar,au,av,ah,aw,eB,gh,isSl,nzs,kc,dK b es.length c 2 j];refine⟨by omega,⟨by omega,by omega⟩,EP (e2:=68) (k:=8000) (cs:=es.flatten++n) (m:=es.length-j) (news:=(es.drop j).flatten) rfl rfl rfl HR (by kernel_rfl) rfl rfl rfl f (gp (k:=8000) (cs:=es.flatten++n) rfl λq u D=>?_) (λu E=>?_) (by omega) ?_ ?_⟩
 ·by_cases F:c=j;·rw[TQ (by omega)]at D;simp at D
  ·rw[ai F];exact kQ (rY d j).symm D
 ·obtain⟨e,a,E⟩:=rH.1 E;exact(z e (cG a)).2 u E
 ·rw[f,aG,o];omega
 have R:km (es.flatten++n) (0+i*2) (es.drop j).flatten=(es.take i++es.drop j).flatten++(es.flatten++n).drop (i*2+(es.drop j).flatten.length):=by unfold km;rw[b7,jC (by omega),n7 d,j4]
 have r:(es.take i++es.drop j).length=i+(es.length-j):=by rw[aG,a6,aT,cT (by omega)]
 have t:(es.take i++es.drop j).flatten.length=(i+(es.length-j))*2:=by rw[j4,aG,p,f];omega
 rw[R];generalize G:(es.flatten++n).drop (i*2+(es.drop j).flatten.length)=g;have x:g.length=(c-(i+(es.length-j)))*2:=by rw[<-G,aT,aG,o,f];omega
 generalize J:es.take i++es.drop j=y at*;simp only[zV,↓reduceIte,aj,ak,al,af,aA,ag,reduceCtorEq,aB,aC,aD,aE,aq,ar,au,av,ah,aw,eB,gh,isSl,nzs,dK];refine⟨⟨by omega,by omega⟩,⟨rfl,qR (k:=8000) rfl rfl HR rfl rfl rfl rfl ?_ ?_⟩⟩;·rw[aG,t];split<;>omega
 have l:∃h:List ay,h.length=g.length/\km (y.flatten++g) (if c=i+(es.length-j)then 0 else(i+(es.length-j))*2) (bg (es.length-(i+(es.length-j))) [iF ⟨([]:List UInt8).toArray⟩,DJ none 0 0]).flatten=y.flatten++h:=by
  by_cases F:c=i+(es.length-j)
  ·have :es.length-(i+(es.length-j))=0:=by omega
   exact⟨g,rfl,by rw[this,List.replicate_zero,List.flatten_nil,H_]⟩
  ·rw[ai F,<-t,mZ];refine⟨_,?_,rfl⟩;rw[aG,aT,x];simp;omega
 obtain⟨h,H,l⟩:=l;rw[l];simp only[zV,↓reduceIte,aj,ak,al,af,aA,ag,reduceCtorEq,aB,aC,aD,aE,aq,ar,au,av,ah,aw,eB,gh,isSl,nzs];exact .inl ⟨b,8000,c,h,by rw[r],rfl,by omega,B,by rw[H,x,r]⟩
theorem aae(n:Nat)(M:Mem)(k:n<=1000000):Meets ab 199 [.v (.slice none 0 0),.v (.int .i64 n)] M (OwnR (λs=>s) 2 []):=by
 refine OI rfl (gz eh (λe f=>by cases f) ?_);refine fS [0,1,4,6,16] Proofs.Tryz.func199 rfl (by kernel_rfl) λw l=>?_;have g:((n:Int)<0)=False:=ax (by omega);simp only[Proofs.Tryz.f199,zV,↓reduceIte,aj,ak,al,af,aA,ag,reduceCtorEq,aB,aC,aD,aE,aq,ar,au,av,ah,aw,g];refine⟨rfl,qQ (e:=68) rfl rfl rfl (by kernel_rfl) rfl rfl ?_⟩;by_cases h:n=0;·subst h;simp only[zV,↓reduceIte,aj,ak,al,af,aA,ag,reduceCtorEq,aB,aC,aD,aE,aq,ar,au,av,ah,aw,gh,eB,cY,lo,hi,EB];exact .inr trivial
 ·have a:(0<(n:Int))=True:=aK (by omega);simp only[zV,↓reduceIte,aj,ak,al,af,aA,ag,reduceCtorEq,aB,aC,aD,aE,aq,ar,au,av,ah,aw,gh,eB,a,cY,lo,hi,EB];refine⟨by omega,⟨rfl,qQ (e:=68) rfl rfl rfl (by kernel_rfl) rfl rfl ?_⟩⟩;simp only[zV,↓reduceIte,aj,ak,al,af,aA,ag,reduceCtorEq,aB,aC,aD,aE,aq,ar,au,av,ah,aw,gh,eB,a,cY,lo,hi,EB];refine qS (base:=none) (n:=0) (m:=n) (c:=0) (olds:=[]) rfl rfl rfl HR (kn:=.i64) (by kernel_rfl) rfl rfl (.inl ⟨rfl,rfl,rfl⟩) (by omega) (by decide) rfl (by omega) (by omega) rfl λb d o p i j=>?_;simp only[zV,↓reduceIte,aj,ak,al,af,aA,ag,reduceCtorEq,aB,aC,aD,aE,aq,ar,au,av,ah,aw,gh,eB,a,cY,lo,hi,EB];rw[dK];refine⟨by omega,.inl ⟨b,176,d,_,by simp,by simp only[List.flatten_nil,eX];rfl,by simp,i,by simp[j];omega⟩⟩
theorem Vp{α:Type}(enc:α->List ay)(m:ay)(a:List (ay×List α))(M:Mem)(b:RowM M m 1 (a.map λr=>[r.1]))(A:∀r∈a,RowM M r.1 2 (r.2.map enc))(D:(a.flatMap (·.2)).length<=1000000):Meets ab 147 [.v m] M (OwnR (λs=>s) 2 ((a.flatMap (·.2)).map enc)):=by
 refine aH [0,2,3,5,6,8,9,10,11,12,20,25,26,27,28] Proofs.Tryz.func147 rfl (by kernel_rfl) rfl λw=>?_;have u:=b.eQ;rw[ae]at u;have n:∀i,((a.take i).flatMap (·.2)).length+((a.drop i).flatMap (·.2)).length=(a.flatMap (·.2)).length:=λi=>by rw[<-aG,<-iv,iT]
 simp only[Proofs.Tryz.f147,zV,↓reduceIte,aj,ak,al,af,aA,ag,reduceCtorEq,aB,aC,aD,aE,aq,ar,au,av,ah,aw,b.gC,b.sl,ae];refine bE (X:=Nat×Nat) (λx=>([(0,true,.v m),(3,true,.v (.int .i64 ((a.take x.2).flatMap (·.2)).length)),(9,true,.v m),(10,true,.v (.int .i64 a.length)),(11,true,.v (.int .i64 x.2))],[],M)) (λx=>x.1+x.2=a.length) (λx=>x.1) (a.length,0) rfl (aR ?_) ?_;·simp only[zV,↓reduceIte,aj,ak,al,af,aA,ag,reduceCtorEq,aB,aC,aD,aE,aq,ar,au,av,ah,aw,fE,oE,bM]
 rintro⟨f,i⟩y;simp only at y;by_cases d:i<a.length
 ·have g:((i:Int)<(a.length:Int))=True:=aK (by omega);obtain⟨⟨v,l⟩,h,E⟩:=cE (l:=a) (i:=i) d;have j:=b.fG (i:=i) (e:=[v]) (by rw[aN,h];rfl) (off:=0) (by omega);have o:=b.ix (i:=(i:Int)) (by omega) (by rw[ae];omega);have c:=A _ (aL h);simp only[a_]at j c;have k:=n (i+1);have p:(a.take (i+1)).flatMap (·.2)=(a.take i).flatMap (·.2)++l:=by rw[cm,h,iv];simp
  rw[p,aG]at k;have F:((((a.take i).flatMap (·.2)).length:Int)+(l.length:Int)<0)=False:=ax (by omega);simp only[zW,↓reduceIte,aj,ak,al,af,aA,ag,reduceCtorEq,aB,aC,aD,aE,aq,ar,au,av,ah,aw,g,F,o,o.2,j.1,j.2.1,c.gC,c.sl,ae,cY,lo,hi];refine⟨by omega,by omega,(f-1,i+1),⟨by simp only;omega,by simp only;omega⟩,aR ?_⟩;simp only[zV,↓reduceIte,aj,ak,al,af,aA,ag,reduceCtorEq,aB,aC,aD,aE,aq,ar,au,av,ah,aw,p,aG,aJ]
 have g:((i:Int)<(a.length:Int))=False:=ax (by omega);have z:a.take i=a:=bz (by omega);simp only[zW,↓reduceIte,aj,ak,al,af,aA,ag,reduceCtorEq,aB,aC,aD,aE,aq,ar,au,av,ah,aw,g,z];refine dE eh rfl rfl (aae _ M D) rfl λG q=>?_;have t:=b.le q;simp only[zW,↓reduceIte,aj,ak,al,af,aA,ag,reduceCtorEq,aB,aC,aD,aE,aq,ar,au,av,ah,aw,b.gC,b.sl,ae];refine bE (X:=Nat×Nat) (λx=>([(6,true,.own 264),(25,true,.v m),(26,true,.v (.int .i64 a.length)),(27,true,.v (.int .i64 x.2))],[(264,.row 2 (((a.take x.2).flatMap (·.2)).map enc))],G)) (λx=>x.1+x.2=a.length) (λx=>x.1) (a.length,0) rfl (i6 6 33 192 2 _ rfl rfl rfl rfl (aR ?_)) ?_;·simp only[zV,↓reduceIte,aj,ak,al,af,aA,ag,reduceCtorEq,aB,aC,aD,aE,aq,ar,au,av,ah,aw,fE,oE,cr]
 rintro⟨f,i⟩y;simp only at y;by_cases d:i<a.length
 ·have g:((i:Int)<(a.length:Int))=True:=aK (by omega);obtain⟨⟨v,l⟩,h,E⟩:=cE (l:=a) (i:=i) d;have j:=t.fG (i:=i) (e:=[v]) (by rw[aN,h];rfl) (off:=0) (by omega);have o:=t.ix (i:=(i:Int)) (by omega) (by rw[ae];omega);have c:=(A _ (aL h)).le q;obtain⟨B,C⟩:=c.FL (by omega);simp only[a_]at j c B C;have k:=n (i+1);have p:(a.take (i+1)).flatMap (·.2)=(a.take i).flatMap (·.2)++l:=by rw[cm,h,iv];simp
  rw[p,aG]at k;simp only[zW,↓reduceIte,aj,ak,al,af,aA,ag,reduceCtorEq,aB,aC,aD,aE,aq,ar,au,av,ah,aw,g,o,o.2,j.1,j.2.1,c.gC,c.sl,B,ae,cY,lo,hi];refine⟨⟨⟨by omega,by omega⟩,C⟩,by omega,(f-1,i+1),⟨by simp only;omega,by simp only;omega⟩,aR ?_⟩;simp only[zV,↓reduceIte,aj,ak,al,af,aA,ag,reduceCtorEq,aB,aC,aD,aE,aq,ar,au,av,ah,aw,p,bq,aJ]
 have g:((i:Int)<(a.length:Int))=False:=ax (by omega);have z:a.take i=a:=bz (by omega);simp only[zW,↓reduceIte,aj,ak,al,af,aA,ag,reduceCtorEq,aB,aC,aD,aE,aq,ar,au,av,ah,aw,g,z];exact⟨264,rfl,rfl⟩
end Go.X.Vo
namespace Go.X
open Go Go.RowKit
section
variable{P:bZ}{ops:Array db}{Q:Exit->xp->bQ->Prop}{md:BC}{S:bQ->Prop}
def mJ(P:bZ)(md:BC)(ops:Array db)(Q:Exit->xp->bQ->Prop)(S:bQ->Prop)(n:Nat):Nat->Array Bool->xp->bQ->Prop|0,b,a,w=>el md ops b=[]/\Q .normal a w|f+1,b,a,w=>(el md ops b=[]->Q .normal a w)/\∀i∈el md ops b,wpOp P ops Q i (λc u=>(i<n->S u)/\mJ P md ops Q S n f (b.setIfInBounds i true) c u) a w
theorem tm{n:Nat}:∀(f:Nat)(b:Array Bool)(a:xp)(w:bQ),mJ P md ops Q S n f b a w->wpAny P md ops Q f b a w|0,_,_,_,h=>h|f+1,_,_,_,h=>⟨h.1,λi c=>wpOp_mono (λd u e=>tm f _ d u e.2) (h.2 i c)⟩
theorem Gn{n i:Nat}{s:db}{v:ay}(R:mi md ops n=true)(T:lA md ops n=true)(U:n<ops.size)(L:i<n)(hi:ops[i]?=some s)(p:∀(j:Nat)(o:db)cs b,ops[j]?=some o->o.op≠.select cs b)(V:∀c a w,Q (.panic c) (a.put s.dst v) w->Q (.panic c) a w):∀(f:Nat)(d:Array Bool)(a:xp)(w:bQ),HeadInv md ops n d->(∀j t,ops[j]?=some t->j≠i->d.getD j true=false->(∀e∈t.after,ue md e=true->e.on≠i)->s.apart ops t=true)->i∈el md ops d->YieldsIf P ops S s v a->S w->mJ P md ops Q S n f (d.setIfInBounds i true) (a.put s.dst v) w->mJ P md ops Q S n (f+1) d a w:=by
 intro f;induction f with
  |zero=>
   intro d a w u _ x I A H;refine⟨λh=>(by rw[h]at x;cases x),λj z=>?_⟩;by_cases g:j=i;·subst g;exact I.wpOp hi A ⟨λ_=>A,H⟩
   ·have :=L9 z g;rw[H.1]at this;cases this
  |succ f W=>
   intro d a w u l x I A H;have q:=(mem_ready.1 x).1;refine⟨λh=>(by rw[h]at x;cases x),λj z=>?_⟩;have B:j<n:=by
    rcases bR j n with h|h;·exact h
    ·exact absurd z (tail_waits R T U u _ i rfl L q j h)
   by_cases g:j=i;·subst g;exact I.wpOp hi A ⟨λ_=>A,H⟩
   ·have J:=H.2 j (L9 z g);obtain⟨r,t,y,C⟩:=mem_ready.1 z;have D:∀e∈t.after,ue md e=true->e.on≠i:=λe X Y M=>by have J:=C e X Y;rw[M,getD_both q]at J;cases J
    have Z:=wpOp_putIf y (l j t y g r D) (λcs b=>p i s cs b hi) (λcs b=>p j t cs b y) V I J;have m:∀k E,ops[k]?=some E->k≠i->(d.setIfInBounds j true).getD k true=false->(∀e∈E.after,ue md e=true->e.on≠i)->s.apart ops E=true:=λk E hk N F O=>by
     refine l k E hk N ?_ O;by_cases G:j=k;·subst G;exact r
     ·rw[getD_set_ne true G]at F;exact F
    refine wpOp_mono (λa' w' K=>⟨K.2.1,W (d.setIfInBounds j true) a' w' (u.set z B) m (L9 x (wB g)) K.1 (K.2.1 B) ?_⟩) Z;rw[Array.setIfInBounds_comm _ _ g];exact K.2.2
theorem Ax{n i:Nat}{d:db}{v:ay}{f:Nat}{b:Array Bool}{a:xp}{w:bQ}(e:mi md ops n=true)(g:lA md ops n=true)(l:n<ops.size)(j:i<n)(k:HeadInv md ops n b)(hi:ops[i]?=some d)(m:iG ops=true)(o:Region.free md ops b i=true)(p:(el md ops b).contains i=true)(q:∀c a w,Q (.panic c) (a.put d.dst v) w->Q (.panic c) a w)(r:YieldsIf P ops S d v a)(s:S w)(h:mJ P md ops Q S n f (b.setIfInBounds i true) (a.put d.dst v) w):mJ P md ops Q S n (f+1) b a w:=Gn e g l j hi (Region.noSelect_spec m) q f b a w k (Region.free_spec hi o) (by simpa using p) r s h
theorem qg{n:Nat}{c:List Nat}{f:Nat}{b:Array Bool}{a:xp}{w:bQ}(e:el md ops b=c)(d:c≠[])(h:∀i∈c,wpOp P ops Q i (λg w'=>(i<n->S w')/\mJ P md ops Q S n f (b.setIfInBounds i true) g w') a w):mJ P md ops Q S n (f+1) b a w:=⟨λj=>absurd (e▸j) d,e▸h⟩
theorem rz{n:Nat}{Q':Exit->xp->bQ->Prop}:∀(l:List db)(k:Nat)(b:Array Bool)(a:xp)(w:bQ),(∀j,l[j]?=ops[k+j]?)->BD md ops l.length k b=true->n<=k->wpList P ops Q' l a w->mJ P md ops Q' S n l.length b a w
 |[],_,_,_,_,_,c,_,h=>⟨by simpa[BD]using c,h⟩
 |o::l,k,b,a,w,f,c,p,h=>by
  have q:ops[k]?=some o:=by simpa using(f 0).symm
  simp only[aM,BD,ba,br]at c;refine⟨λg=>(by rw[c.1]at g;cases g),λi m=>?_⟩;rw[c.1]at m;have d:i=k:=by simpa using m
  subst d;have r:wpOp P ops Q' i (wpList P ops Q' l) a w:=by unfold wpOp;simp only[q];exact h
  exact wpOp_mono (λs u t=>⟨λe=>absurd e (by omega),rz l (i+1) _ s u (λj=>by have :=f (j+1);simpa[pd,Nat.add_comm 1 j]using this) c.2 (by omega) t⟩) r
end
def qW(md:BC)(ops:Array db)(n:Nat):Sch->Nat->Array Bool->Bool|.done,f,a=>aU (f=ops.size-n)&&BD md ops (ops.size-n) n a|.take i s,f+1,a=>aU (i<n)&&((Region.free md ops a i&&(el md ops a).contains i)&&qW md ops n s f (a.setIfInBounds i true))|.one i s,f+1,a=>aU (i<n)&&(el md ops a==[i]&&qW md ops n s f (a.setIfInBounds i true))|.two i s j m,f+1,a=>(aU (i<n)&&aU (j<n))&&(el md ops a==[i,j]&&(qW md ops n s f (a.setIfInBounds i true)&&qW md ops n m f (a.setIfInBounds j true)))|_,0,_=>false
section
variable{E:Env}{σ:dp}{H Hs:HS}{M Ms:Mem}{ν ν':Nat->ay}{a:xp}{w:bQ}
theorem wpHT_sound {ops : Array db} {K : KP} {U : bQ} {n : Nat} (l : iG ops = true) (q : mi .any ops n = true) (r : lA .any ops n = true) (D : n < ops.size) (A : Heap E ν Hs Ms U) (t : uH ν Hs) :
    ∀ (I : Sch) (f : Nat) (b : Array Bool) (σ : dp) (H : HS) (M : Mem) (a : xp) (w : bQ), qW .any ops n I f b = true → HeadInv .any ops n b → Rep E σ H M a w → (stayH Hs H ∧ Ms.le M) → wpH E ops.toList Hs Ms (BV E ops.toList K (ops.toList.drop n)) I σ H M →
      mJ E.P .any ops (fun e a w => e = fF ∧ ∃ σ H M, Rep E σ H M a w ∧ K σ H M) (fun w => Heap E ν Hs Ms w) n f b a w
  | .done, f, b, σ, H, M, a, w, k, p, s, _, h => by
    simp only [qW, ba, br] at k
    simp only [wpH] at h
    have h2 := rU (E := E) (ops := ops.toList) (K := K) (Q := fun e a w => e = fF ∧ ∃ σ H M, Rep E σ H M a w ∧ K σ H M) (fun σ H M a w s hk => ⟨rfl, σ, H, M, s, hk⟩) (ops.toList.drop n) σ H M a w s h
    have h3 : (ops.toList.drop n).length = ops.size - n := by simp
    have := rz (P := E.P) (md := .any) (ops := ops) (S := fun w => Heap E ν Hs Ms w) (n := n) (Q' := fun e a w => e = fF ∧ ∃ σ H M, Rep E σ H M a w ∧ K σ H M) (ops.toList.drop n) n b a w (fun j => by rw [fx, cu]) (by rw [h3]; exact k.2) (bc _) (by simpa using h2)
    rw [h3] at this
    rw [k.1]
    exact this
  | .take i m, f + 1, b, σ, H, M, a, w, k, p, ⟨ν', G, J⟩, ⟨B, L⟩, h => by
    simp only [qW, ba, br] at k
    obtain ⟨N, ⟨hf, O⟩, k⟩ := k
    simp only [wpH] at h
    cases F : ops[i]? with
    | none => rw [show ops.toList[i]? = none by rw [cu]; exact F] at h; exact h.elim
    | some o =>
      rw [show ops.toList[i]? = some o by rw [cu]; exact F] at h
      simp only [opt1] at h
      cases C : mc ops.toList σ o.guard with
      | none => rw [C] at h; exact h.elim
      | some g =>
        cases V : o.dst with
        | none => rw [C, V] at h; exact h.elim
        | some d =>
          rw [C, V] at h
          obtain ⟨⟨hN, h1⟩, hK⟩ := h
          have u := oH G C o rfl
          obtain ⟨hS, X⟩ := pP A t J B L
          refine Ax q r D N p (v := bif g then (rL E.P Hs Ms σ o.op).2.1.cL ν' else dN) F l hf O (fun c a w h => by obtain ⟨h, _⟩ := h; cases h) ?_ hS ?_
          · cases g with
            | true =>
              obtain ⟨Y, hc⟩ := h1 rfl
              refine .inl ⟨by simpa using u, fun w1 Z => ?_⟩
              exact rS G (wK Z t X J.one) o Y hc
            | false => exact .inr ⟨by simpa using u, rfl⟩
          · refine wpHT_sound l q r D A t m f _ _ H M _ w k (p.set (by simpa using O) N) ⟨ν', ?_, J⟩ ⟨B, L⟩ hK
            rw [V]
            exact G.ml hN rfl
  | .one i m, f + 1, b, σ, H, M, a, w, k, p, s, x, h => by
    simp only [qW, ba, br, pj] at k
    refine qg k.2.1 (by simp) fun j hj => ?_
    obtain rfl : j = i := by simpa using hj
    exact Gp l q r D A t m f b σ H M a w k.2.2 (p.set (by rw [k.2.1]; simp) k.1) s x h
  | .two i m i' m2, f + 1, b, σ, H, M, a, w, k, p, s, x, h => by
    simp only [qW, ba, br, pj] at k
    refine qg k.2.1 (by simp) fun j hj => ?_
    rcases (by simpa using hj : j = i ∨ j = i') with rfl | rfl
    · exact Gp l q r D A t m f b σ H M a w k.2.2.1 (p.set (by rw [k.2.1]; simp) k.1.1) s x h.1
    · exact Gp l q r D A t m2 f b σ H M a w k.2.2.2 (p.set (by rw [k.2.1]; simp) k.1.2) s x h.2
  | .take _ _, 0, _, _, _, _, _, _, k, _, _, _, _ => by simp [qW] at k
  | .one _ _, 0, _, _, _, _, _, _, k, _, _, _, _ => by simp [qW] at k
  | .two _ _ _ _, 0, _, _, _, _, _, _, k, _, _, _, _ => by simp [qW] at k
where
  Gp {ops : Array db} {K : KP} {U : bQ} {n : Nat} (l : iG ops = true) (q : mi .any ops n = true) (r : lA .any ops n = true) (D : n < ops.size) (A : Heap E ν Hs Ms U) (t : uH ν Hs) {i : Nat} (m : Sch) (f : Nat) (b : Array Bool) (σ : dp) (H : HS) (M : Mem) (a : xp) (w : bQ)
      (k : qW .any ops n m f (b.setIfInBounds i true) = true) (p : HeadInv .any ops n (b.setIfInBounds i true)) (s : Rep E σ H M a w) (_ : stayH Hs H ∧ Ms.le M)
      (h : opt1 (fun o => efK E o Hs Ms (wpH E ops.toList Hs Ms (BV E ops.toList K (ops.toList.drop n)) m) σ H M (mc ops.toList σ o.guard)) ops.toList[i]?) :
      wpOp E.P ops (fun e a w => e = fF ∧ ∃ σ H M, Rep E σ H M a w ∧ K σ H M) i (fun a' W => (i < n → Heap E ν Hs Ms W) ∧ mJ E.P .any ops (fun e a w => e = fF ∧ ∃ σ H M, Rep E σ H M a w ∧ K σ H M) (fun w => Heap E ν Hs Ms w) n f (b.setIfInBounds i true) a' W) a w := by
    cases F : ops[i]? with
    | none => rw [show ops.toList[i]? = none by rw [cu]; exact F] at h; exact h.elim
    | some o =>
      rw [show ops.toList[i]? = some o by rw [cu]; exact F] at h
      simp only [opt1] at h
      obtain ⟨ν', G, J⟩ := s
      cases C : mc ops.toList σ o.guard with
      | none => rw [C] at h; exact h.elim
      | some g =>
        rw [C] at h
        simp only [efK] at h
        have u := oH G C o rfl
        have y := lK (Nx := fun a' W => (i < n → Heap E ν Hs Ms W) ∧ mJ E.P .any ops (fun e a w => e = fF ∧ ∃ σ H M, Rep E σ H M a w ∧ K σ H M) (fun w => Heap E ν Hs Ms w) n f (b.setIfInBounds i true) a' W)
          (Qx := fun e a w => e = fF ∧ ∃ σ H M, Rep E σ H M a w ∧ K σ H M)
          (fun σ1 H1 M1 a1 w1 hr1 z => by
            obtain ⟨ν1, hs1, R⟩ := hr1
            exact ⟨fun _ => (pP A t R z.1.1 z.1.2).1, wpHT_sound l q r D A t m f _ σ1 H1 M1 a1 w1 k p ⟨ν1, hs1, R⟩ z.1 z.2⟩) G J h
        unfold wpOp
        simp only [F]
        have T : xr o (yielded ops a.tmps) = g := by simpa using u
        rw [T]
        cases g with
        | true => simp only [cR] at y ⊢; exact .inl y
        | false => simp only [bp, cA] at y ⊢; exact y
theorem oU{id:Nat}{ops:Array db}{K:KP}(n:Nat)(b:List Nat)(c:Sch)(p:E.P.follows .mixedOrders=true)(l:(iG ops&&(aU (n<ops.size)&&(mi .any ops n&&(lA .any ops n&&qW .any ops n c ops.size (nV ops.size false)))))=true)(h:∀f:Nat->ay,stayH (pickH b (tieH f H)) (tieH f H)/\wpH E ops.toList (pickH b (tieH f H)) M (BV E ops.toList K (ops.toList.drop n)) c σ (tieH f H) M):DrawK E id ops K σ H M:=by rintro a w⟨ν,q,r⟩;simp only[ba,br]at l;obtain⟨d,s,g,i,k⟩:=l;have m:=rX (r.mE ((dQ _ _).drew):Heap E ν H M {w with drawn:=w.drawn+1});have e:HeadInv .any ops n (nV ops.size false):=⟨by simp,λj v _ o=>(by rw[sG]at o;cases o),λt _ u=>getD_in (by simpa using u) (sG _ _)⟩;exact wp_region_any p (tm _ _ _ _ (wpHT_sound d g i s (m.gB (k8 b _)) (iX b H) c _ _ σ _ M a _ k e ⟨ν,q,m⟩ ⟨(h ν).1,cg M⟩ (h ν).2))
end
end Go.X
namespace Go.Proofs
open Go.Shelf Go.RowKit Go.Lib
def zt:lH:=⟨λ|106=>325|213=>340|265=>348|n=>n,λ|9=>9|3=>3|n=>n,λ|n=>n⟩
theorem Gq:Go.Proofs.Lays.n106 ab zt:={mixed:=by kernel_rfl,f106:=P3.trans (aY some (by kernel_rfl)),f213:=Tryz.func340.trans (aY some (by kernel_rfl)),f265:=Tryz.func348.trans (aY some (by kernel_rfl)),t3:=jk,a3:=xt,z3:=vm,v3:=dJ,t9:=gX,a9:=tG,z9:=qG,v9:=mQ}
end Go.Proofs
namespace Go.X.Vo
open Go Go.X Go.RowKit Go.X.Bg Go.X.Nm Go.X.Bp Go.X.Sb
theorem RG(a b:List UInt8)(M:Mem):Meets ab 325 [.v (.string ⟨a.toArray⟩),.v (.string ⟨b.toArray⟩)] M λr _ _=>r=.v (.int .i64 (pI a b)):=by refine St.rm ⟨_,P3,by kernel_rfl,by kernel_rfl⟩ λw=>?_;refine(Proofs.Any.strings_Compare Proofs.Gq ⟨a.toArray⟩ ⟨b.toArray⟩ w).mono ?_;rintro e u⟨rfl,rfl⟩;exact⟨rfl,dQ _ _⟩
def Fb(w:WV):SV:=.agg [.v (.string ⟨w.2.1.toArray⟩),.v w.1]
theorem abj(x y:WV)(M:Mem):Meets ab 324 [Fb x,Fb y] M λr _ _=>r=.v (.int .i64 (pI x.2.1 y.2.1)):=by refine aH [0,1,2,3,4] Proofs.Tryz.func324 rfl (by kernel_rfl) rfl λw=>?_;simp only[Proofs.Tryz.f324,Fb,zW,seval];refine az ⟨rfl,rfl⟩ rfl (RG x.2.1 y.2.1 M) ?_;simp only[zW,seval]
theorem CV{w:WV}(h:w.1.oneCell'=true):∀c∈kL w,c.oneCell'=true:=λc a=>by
 simp only[kL,aV,cH,fK]at a;rcases a with rfl|rfl;·rfl
 ·exact h
theorem O2{ws:List WV}(h:(ws.map (·.2)).Pairwise (λa b=>cd a.1 b.1=true))(x:WV)(i j:Nat)(a b:WV)(g:i<=j)(d:ws[i]?=some a)(c:ws[j]?=some b)(e:pI b.2.1 x.2.1<0):pI a.2.1 x.2.1<0:=by
 rw[Bi]at e⊢;rcases bR i j with f|k;·have l:=(aI.1 d).1;have m:=(aI.1 c).1;have :=iI.1 h i j (by rw[ae];omega) (by rw[ae];omega) f;rw[iH,iH,(aI.1 d).2,(aI.1 c).2]at this;exact mH this e
 ·have :i=j:=by omega
  subst this;rw[d]at c;cases c;exact e
theorem add(b:ay)(ws:List WV)(x:WV)(M:Mem)(c:b.oneCell'=true)(n:∀w∈ws,w.1.oneCell'=true)(d:x.1.oneCell'=true)(o:(ws.map (·.2)).Pairwise (λa b=>cd a.1 b.1=true))(H:ws.length<=1000):MeetsH ab 277 [.agg [.v b,.own 8000],Fb x] [(8000,.row 2 (ws.map kL))] M (OwnR (λs=>.agg [.v b,s]) 2 ((qx ws x).map kL)):=by refine fS [0,1,2,3,4,5] Proofs.Tryz.func277 rfl (by kernel_rfl) λw I=>?_;simp only[Proofs.Tryz.f277,Fb,zW,seval];refine dP (k:=8000) rfl rfl rfl (λ_=>rfl) (λv l p q=>bsV (α:=WV) (λx=>.string ⟨x.2.1.toArray⟩) (λx=>x.1) (λy=>pI y.2.1 x.2.1) 324 _ _ v ws l q (by omega) ⟨rfl,d⟩ (λz J=>abj z x l) (λi j a b f r u B=>O2 o x i j a b f r u B)) ?_;have g:=Ro (λy:WV=>pI y.2.1 x.2.1) ws;have h:qx ws x=ws.take (bk (λy:WV=>pI y.2.1 x.2.1) ws)++x::ws.drop (bk (λy:WV=>pI y.2.1 x.2.1) ws):=rfl;rw[h];generalize bk (λy:WV=>pI y.2.1 x.2.1) ws=m at*;generalize bf (λy:WV=>pI y.2.1 x.2.1) ws=K;simp only[zW,seval,d];refine sW (A:=λs t=>[s,.v (.int .i64 m),t]) 8000 144 (λs t L N V U C D=>by simp only[aS,SV.cL,C,D]) eh rfl rfl rfl rfl rfl (λE O=>Vm (ws.map kL) (kL x) m E (by rw[ae];exact g) (by rw[ae];omega) (λe F=>by obtain⟨y,G,rfl⟩:=dq.1 F;exact⟨rfl,CV (n y G)⟩) ⟨rfl,CV d⟩) rfl ?_;simp only[zW,seval];refine⟨c,152,rfl,?_⟩;simp[hget,eH,fI,kL]
theorem RH(b v:ay)(ws:List WV)(n:List UInt8)(M:Mem)(d:VolsM M v ws)(j:ws.length<=6):Meets ab 276 [fQ b v,.v (.string ⟨n.toArray⟩)] M λr _ _=>r=.v (.int .i64 (iO (ws.map (·.2)) n)):=by
 refine aH [0,1,2,4,5,9,14] Proofs.Tryz.func276 rfl (by kernel_rfl) rfl λw=>?_;generalize a:iO (ws.map (·.2)) n=c;unfold iO at a;rw[ae]at a;have h:=Va b v ws n M d;simp only[fQ]at h;simp only[Proofs.Tryz.f276,fQ,zW,seval];refine az ⟨rfl,rfl⟩ rfl (Iy n M) ?_;cases i:uX n with
  |false=>rw[aF i]at a;subst a;simp only[zW,seval]
  |true=>
   rw[ai (by rw[i];decide)]at a;simp only[zW,seval];refine az ⟨rfl,rfl⟩ rfl h ?_;by_cases e:0<=iD (ws.map (·.2)) n;·have f:=aK e;rw[aF e]at a;subst a;simp only[zW,seval,f]
   have f:=ax e;rw[ai e]at a;by_cases k:ws.length=6;·have g:((ws.length:Int)=6)=True:=aK (by omega);rw[aF (by omega)]at a;subst a;simp only[zW,seval,f,d.row.gC,d.row.sl,ae,g]
   ·have g:((ws.length:Int)=6)=False:=ax (by omega);rw[ai (by omega)]at a;subst a;simp only[zW,seval,f,d.row.gC,d.row.sl,ae,g]
theorem RI(b v:ay)(ws:List WV)(n:List UInt8)(M:Mem)(d:VolsM M v ws):Meets ab 144 [fQ b v,.v (.string ⟨n.toArray⟩)] M λr _ _=>r=.v (.int .i64 (iO (ws.map (·.2)) n)):=by
 refine aH [0,1,2,4,7,11,15] Proofs.Tryz.func144 rfl (by kernel_rfl) rfl λw=>?_;generalize a:iO (ws.map (·.2)) n=c;unfold iO at a;rw[ae]at a;have h:=Yl b v ws n M d;simp only[fQ]at h;simp only[Proofs.Tryz.f144,fQ,zW,seval];refine az ⟨rfl,rfl⟩ rfl (F_ n M) ?_;cases i:uX n with
  |false=>rw[aF i]at a;subst a;simp only[zW,seval]
  |true=>
   rw[ai (by rw[i];decide)]at a;simp only[zW,seval];refine az ⟨rfl,rfl⟩ rfl h ?_;by_cases e:0<=iD (ws.map (·.2)) n;·have f:=aK e;rw[aF e]at a;subst a;simp only[zW,seval,f]
   have f:=ax e;rw[ai e]at a;by_cases j:5<ws.length;·have g:((5:Int)<(ws.length:Int))=True:=aK (by omega);rw[aF j]at a;subst a;simp only[zW,seval,f,d.row.gC,d.row.sl,ae,g]
   ·have g:((5:Int)<(ws.length:Int))=False:=ax (by omega);rw[ai j]at a;subst a;simp only[zW,seval,f,d.row.gC,d.row.sl,ae,g]
theorem wW(b v:ay)(bag:List It)(ws:List WV)(M:Mem)(hb:RowM M b 4 (bag.map Bg.eG))(S:VolsM M v ws)(hlb:bag.length<=1000)(hlv:ws.length<=1000)(H:∀w∈ws,w.2.2.length<=1000):Meets ab 185 [fQ b v] M (StK M (λs=>s) (bag,ws.map (·.2))):=by
 refine wy eh ?_;refine aH [0,1,2,3,5,11,12,13,14] Proofs.Tryz.func185 rfl (by kernel_rfl) rfl λw=>?_;simp only[Proofs.Tryz.f185,fQ,zW,seval];refine oo eh rfl rfl (zl b bag M hb (by omega)) λb2 G B f T=>?_;have U:=S.le B;simp only[zW,seval,hdel,sigDrop,sigDropA,mb f.lS.sl,f.lS.dj,S.row.gC,S.row.sl,ae];refine sX 24 1 100 2 rfl rfl rfl rfl rfl ?_;refine bE (X:=Nat×List WV×Mem) (λx=>([(1,true,.ptr 8 0 0 0),(2,true,.ptr 16 0 0 0),(3,true,.ptr 24 0 0 0),(11,true,.v v),(12,true,.v (.int .i64 ws.length)),(13,true,.v (.int .i64 x.1))],[(800,.row 2 (x.2.1.map kL)),(24,.box [.v b2,.own 800] none),(16,.box [.v (.slice none 0 0),.v (.slice none 0 0)] none),(8,.box [.v b,.v v] none)],x.2.2)) (λx=>(x.1<=ws.length/\G.le x.2.2)/\x.2.1.map (·.2)=(ws.take x.1).map (·.2)/\(∀w∈x.2.1,RowF x.2.2 w.1 3 (w.2.2.map gx)/\freshB G w.1)/\(x.2.1.map (·.1)).Pairwise apartB) (λx=>ws.length-x.1) (0,[],G) ⟨⟨bJ _,cg G⟩,by simp,λw c=>by(cases c),.nil⟩ (aR ?_) ?_;·simp only[zV,seval,cr,aZ]
 rintro⟨i,p,N⟩⟨⟨n1,C⟩,I,r,V⟩;simp only at n1 C I r V;have W:p.length=i:=by have :=aY dU I;rw[ae,ae,a6]at this;omega
 by_cases Y:i<ws.length;rotate_left;·have Z:((i:Int)<(ws.length:Int))=False:=ax (by omega);rw[bz (by omega)]at I;simp only[zW,seval,Z];refine⟨f.lS.dj,.v b2,.own 800,p,rfl,I,(λk hk=>by cases hk),⟨⟨f.le C,T⟩,rfl⟩,λw c=>⟨(r w c).1,(r w c).2.CQ B⟩,?_⟩;refine dt.2 ⟨λy L=>?_,V⟩;simp only[CU,eX]at L;obtain⟨w,c,rfl⟩:=dq.1 L;exact(kg f (r w c).2).Ed
 have Z:((i:Int)<(ws.length:Int))=True:=aK (by omega);obtain⟨x,hx,_⟩:=cE (l:=ws) (i:=i) Y;have J:=U.le C;obtain⟨g0,g1,i0⟩:=iM J hx;have D:=aL hx;have t:=J.blk x D;simp only[zW,seval,Z,i0,i0.2,g0.1,g0.2,g1.1,g1.2,t.dj];refine Ln (k:=800) rfl λv' O g E h=>?_;have j:=t.le g;have m:∀(u:ay)(o F:Mem),O.le o->RowF o u 3 (x.2.2.map gx)->freshB O u->AT o F v'->(G.le F/\(p++[(u,x.2)]).map (·.2)=(ws.take (i+1)).map (·.2))/\(∀w∈p++[(u,x.2)],RowF F w.1 3 (w.2.2.map gx)/\freshB G w.1)/\((p++[(u,x.2)]).map (·.1)).Pairwise apartB:=λu o F a q d n=>by
  refine⟨⟨?_,?_⟩,λw c=>?_,?_⟩;·exact Gl (C.dC (g.dC a)) (h.CQ C) n
  ·rw[cm,hx,bq,bq,I];rfl
  ·rcases bU.1 c with c|c;·exact⟨kZ (((r w c).1.le g).le a) n (kg (r w c).1 h),(r w c).2⟩
   ·rw[bD.1 c];exact⟨kZ q n (kg E d).Ed,d.CQ (C.dC g)⟩
  ·rw[bq,rK];refine⟨V,List.pairwise_singleton _ _,λy L z hz=>?_⟩;obtain⟨w,c,rfl⟩:=dq.1 L;simp only[ca,cr,bD]at hz;subst hz;exact(kg ((r w c).1.le g) d).Ed
 have A:∀u:ay,p.map kL++[[.string ⟨x.2.1.toArray⟩,u]]=(p++[(u,x.2)]).map kL:=λu=>by rw[bq];rfl
 rcases I1 E with⟨e,K⟩|⟨bb,cap,e⟩
 ·have hus:p=[]:=by simpa using K
  subst e;refine oU 9 [8,24,40] (tk [0,2,4,1,3,5] (.one 6 (tk [7] (.one 8 .done)))) (by kernel_rfl) (by kernel_rfl) λxs=>?_;simp only[zV,seval,im,iq,ir,nzs,fl,fm,fP];refine oo eh rfl rfl (zj x.1 x.2.2 O j (b6 (H x D) (by omega))) λu o a q d=>?_;simp only[zW,seval,fl,fm,fP,mb q.lS.sl,q.lS.dj,cY,lo,hi];obtain⟨⟨q1,P⟩,Q,R⟩:=m u o o a q d (λ_ _=>rfl);have hr:=A u;subst hus;simp only[cr,eX]at hr P Q R;refine⟨a,a,by omega,(i+1,[(u,x.2)],o),⟨⟨⟨by simp only;omega,q1⟩,P,Q,R⟩,by simp only;omega⟩,dO (df (k:=8) rfl) (dO (df (k:=16) rfl) (dO (df (k:=24) rfl) (gT 24 1 208 100 2 _ rfl rfl rfl rfl rfl (aR ?_))))⟩;simp only[zV,seval,aJ,hr,hset]
 ·subst e;refine oU 9 [8,24,40] (tk [0,2,4,1,3,5] (.one 6 (tk [7] (.one 8 .done)))) (by kernel_rfl) (by kernel_rfl) λxs=>?_;simp only[zV,seval,im,iq,ir,nzs,fl,fm,fP];refine oo eh rfl rfl (zj x.1 x.2.2 O j (b6 (H x D) (by omega))) λu o a q d=>?_;simp only[zW,seval,fl,fm,fP,mb q.lS.sl,q.lS.dj,Lo];refine⟨a,a,O1 18 100 rfl rfl (E.le a) (h.CQ (B.dC C)) rfl rfl λF n=>rV ?_⟩;simp only[zW,seval,cY,lo,hi,ae,W,A];obtain⟨⟨q1,P⟩,Q,R⟩:=m u o F a q d n;refine⟨⟨by omega,by omega⟩,by omega,(i+1,p++[(u,x.2)],F),⟨⟨⟨by simp only;omega,q1⟩,P,Q,R⟩,by simp only;omega⟩,dO (df (k:=8) rfl) (dO (df (k:=16) rfl) (dO (df (k:=24) rfl) (gT 24 1 208 100 2 _ rfl rfl rfl rfl rfl (aR ?_))))⟩;simp only[zV,seval,aJ,hset]
end Go.X.Vo
namespace Go.X.Vo
open Go Go.X Go.RowKit Go.X.Bg Go.X.Nm Go.X.Bp Go.X.Sb
theorem ic(e:ay)(H:HS)(M:Mem):StO (λs=>.tup [s,.v e]) uk (.tup [.agg [.v (.slice none 0 0),.v (.slice none 0 0)],.v e]) H M:=⟨.v (.slice none 0 0),.v (.slice none 0 0),[],rfl,rfl,λk h=>(by cases h),⟨bY M 4,bY M 2⟩,λw a=>by cases a⟩
theorem CW{l:List WV}{x y:WV}(h:y∈qx l x):y∈l\/y=x:=by
 unfold qx at h;rcases bU.1 h with h|h;·exact .inl (cq h)
 ·rcases aV.1 h with rfl|h;·exact .inr rfl
  ·exact .inl (cG h)
theorem StF.W7{e c f d:Mem}{b v u:ay}{bag:List It}{ws:List WV}{n:List UInt8}{a:List gM}(h:StF e c b v bag ws)(k:e.le c)(j:c.le f)(l:RowF f u 3 (a.map gx))(m:freshB c u)(g:AT f d v):e.le d/\RowM d b 4 (bag.map Bg.eG)/\∀w∈qx ws (u,n,a),RowM d w.1 3 (w.2.2.map gx):=by
 obtain⟨o,p⟩:=(h.le j).abi g;refine⟨Gl (k.dC j) h.fv g,o.lS,λw i=>?_⟩;rcases CW i with i|rfl;·exact(p w i).lS
 ·exact(kZ l g (kg h.vols m).Ed).lS
theorem zu(b:ay):Ctx (λs=>.agg [.v b,s]):=λs a V u h=>by simp only[SV.cL,aS,h]
theorem zw(b:ay)(x:SV)(a:x.conc=true):Ctxs (λs=>[.agg [.v b,s],x]):=λs c ν ν' h=>by simp only[aS,SV.cL,h,fz (ν:=ν) (ν':=ν') x a]
theorem qh(k:Nat):(bg k jx).map gx=bg k [.bool false,.int .i64 0,.int .i64 0]:=by rw[List.map_replicate];rfl
theorem abk(b v:ay)(bag:List It)(ws:List WV)(n:List UInt8)(k:Int)(M:Mem)(S:RowM M b 4 (bag.map Bg.eG))(L:VolsM M v ws):Meets ab 223 [fQ b v,.v (.string ⟨n.toArray⟩),.v (.int .i64 k)] M (No (λs=>.tup [s,.v (.int .i64 (sr bag (ws.map (·.2)) n k).2)]) (sr bag (ws.map (·.2)) n k).1):=by
 refine k_ (ku _) ?_;refine aH [0,1,2,3,6,7,8,9,13,21,27] Proofs.Tryz.func223 rfl (by kernel_rfl) rfl λw=>?_;generalize l:sr bag (ws.map (·.2)) n k=c;unfold sr at l;have U:=Gb b v bag ws M S L;simp only[fQ]at U;simp only[Proofs.Tryz.f223,fQ,zW,seval];refine az ⟨rfl,rfl⟩ rfl U ?_;by_cases B:qp bag (ws.map (·.2))=0;rotate_left;·have X:=ax B;rw[aF B]at l;subst l;simp only[zW,seval,X];exact ic _ _ _
 rw[ai (λh=>h B)]at l;obtain⟨Y,V,_⟩:=lj B;have C:=gQ V;have F:=si V;have Z:=lr Y;rw[ae]at C;have N:∀w∈ws,w.2.2.length<=32:=λw G=>(C.2 w.2 (du G)).1;by_cases O:k<1;·have J:=aK O;rw[aF (.inl O)]at l;subst l;simp only[zW,seval,B,J];exact ic _ _ _
 have J:=ax O;by_cases P:32<k;·have Q:=aK P;rw[aF (.inr P)]at l;subst l;simp only[zW,seval,B,J,Q];exact ic _ _ _
 have Q:=ax P;rw[ai (by omega)]at l;have W:=RH b v ws n M L C.1;simp only[fQ]at W;simp only[zW,seval,B,J,Q];refine az ⟨rfl,rfl⟩ rfl W ?_;by_cases K:iO (ws.map (·.2)) n=0;rotate_left;·have c4:=ax K;rw[aF K]at l;subst l;simp only[zW,seval,c4];exact ic _ _ _
 rw[ai (λh=>h K)]at l;subst l;obtain⟨m,rfl⟩:∃m:Nat,k=m:=⟨k.toNat,by omega⟩;have D:=wW b v bag ws M S L (by omega) (by omega) (λw G=>b6 (N w G) (by omega));simp only[fQ]at D;simp only[zW,seval,K];have t:∀(d o u:ay)(a:List WV)(j x y:Mem),M.le j->a.map (·.2)=ws.map (·.2)->StF M j d o bag a->j.le x->RowF x u 3 ((bg m jx).map gx)->freshB j u->AT x y o->M.le y/\∀H,hget H 288=some (.row 2 ((qx a (u,n,bg m jx)).map kL))->StO (λs=>.tup [s,.v (.int .i64 0)]) (IJ bag (ws.map (·.2)) n m) (.tup [.agg [.v d,.own 288],.v (.int .i64 0)]) H y:=λd o u a j x y f e g i r p q=>by obtain⟨q1,q2,q3⟩:=g.W7 (n:=n) f i r p q;refine⟨q1,λH hH=>⟨.v d,.own 288,qx a (u,n,bg m jx),rfl,?_,λk h=>(by cases h),⟨q2,hH⟩,q3⟩⟩;rw[u6,e];simp only[IJ]
 have z:∀(d u:ay)(a:List WV)(j E:Mem)(o:ay),a.map (·.2)=ws.map (·.2)->StF M j d o bag a->u.oneCell'=true->MeetsH ab 277 [.agg [.v d,.own 8000],Fb (u,n,bg m jx)] [(8000,.row 2 (a.map kL))] E (OwnR (λs=>.agg [.v d,s]) 2 ((qx a (u,n,bg m jx)).map kL)):=λd u a j E o e g r=>by refine add d a (u,n,bg m jx) E g.bag.lS.dj (λw G=>(g.blk w G).lS.dj) r (by rw[e];exact F) ?_;have :=aY dU e;rw[ae,ae]at this;omega
 refine dV [24] (tk [0,2,3] (.two 1 (.one 4 (tk [5] (.one 6 (.one 7 (tk [8] .done))))) 4 (tk [5] (.one 1 (.one 6 (.one 7 (tk [8] .done))))))) (by kernel_rfl) (by kernel_rfl) λxs=>?_;simp only[zW,seval,fl,fm,fP,<-qh];refine⟨?_,?_⟩;·refine pS (T:=λs=>s) (λ_ _=>rfl) rfl rfl D λd o a j f e g=>?_;simp only[zW,seval,fl,fm,fP,<-qh,fQ];refine⟨f,⟨⟨by omega,by omega⟩,by omega,by omega⟩,f,?_⟩;refine CR (k:=272) rfl λu x i r p=>?_;simp only[zV,seval,im,iq,ir,nzs];refine qV (A:=λs=>[.agg [.v d,s],Fb (u,n,bg m jx)]) 1000 (zw d (Fb (u,n,bg m jx)) rfl) rfl (g.vols.le i) g.fv rfl rfl λy q=>?_;refine eR (A:=λs=>[.agg [.v d,s],Fb (u,n,bg m jx)]) (T:=λs=>.agg [.v d,s]) 8000 (zw d (Fb (u,n,bg m jx)) rfl) (zu d) rfl rfl rfl (λE _=>z d u a j E o e g r.lS.dj) rfl ?_;obtain⟨I,R⟩:=t d o u a j x y f e g i r p q;simp only[zV,seval,im,iq,ir,nzs,fl,fm,fP,g.bag.lS.dj];exact⟨I,I,R _ rfl⟩
 ·refine⟨⟨⟨by omega,by omega⟩,by omega,by omega⟩,pS (T:=λs=>s) (λ_ _=>rfl) rfl rfl D λd o a j f e g=>?_⟩;simp only[zW,seval,fl,fm,fP,fQ];refine⟨f,?_⟩;refine CR (k:=272) rfl λu x i r p=>?_;simp only[zV,seval,im,iq,ir,nzs];refine qV (A:=λs=>[.agg [.v d,s],Fb (u,n,bg m jx)]) 1000 (zw d (Fb (u,n,bg m jx)) rfl) rfl (g.vols.le i) g.fv rfl rfl λy q=>?_;refine eR (A:=λs=>[.agg [.v d,s],Fb (u,n,bg m jx)]) (T:=λs=>.agg [.v d,s]) 8000 (zw d (Fb (u,n,bg m jx)) rfl) (zu d) rfl rfl rfl (λE _=>z d u a j E o e g r.lS.dj) rfl ?_;obtain⟨I,R⟩:=t d o u a j x y f e g i r p q;simp only[zV,seval,im,iq,ir,nzs,fl,fm,fP,g.bag.lS.dj];exact⟨I,I,R _ rfl⟩
end Go.X.Vo
namespace Go.X.Vo
open Go Go.X Go.RowKit Go.X.Bg Go.X.Nm Go.X.Bp Go.X.Sb
theorem I4{ws:List WV}{L:List fy}(h:ws.map (·.2)=L){i:Nat}{y:fy}(a:L[i]?=some y):∃x,ws[i]?=some x/\x.2=y:=by rw[<-h,aN,dy]at a;exact a
theorem RJ{ws a:List WV}(h:a.map (·.2)=ws.map (·.2)):a.length=ws.length:=by have :=aY dU h;rwa[ae,ae]at this
theorem tq{α B:Type}(g:B->α->B)(b:B){l:List α}{j:Nat}{y:α}(h:l[j]?=some y):(l.take (j+1)).foldl g b=g ((l.take j).foldl g b) y:=by rw[cm,h,List.foldl_append];rfl
theorem aaf(b v:ay)(bag:List It)(ws:List WV)(n:List UInt8)(M:Mem)(hb:RowM M b 4 (bag.map Bg.eG))(U:VolsM M v ws):Meets ab 224 [fQ b v,.v (.string ⟨n.toArray⟩)] M (No (λs=>.tup [s,.v (.int .i64 (qU bag (ws.map (·.2)) n).2)]) (qU bag (ws.map (·.2)) n).1):=by
 refine k_ (ku _) ?_;refine aH [0,1,2,4,5,6,7,8,10,14,21,30,31,32,33,37] Proofs.Tryz.func224 rfl (by kernel_rfl) rfl λw=>?_;generalize p:qU bag (ws.map (·.2)) n=c;unfold qU at p;have hC:=Gb b v bag ws M hb U;have hF:=Va b v ws n M U;simp only[fQ]at hC hF;simp only[Proofs.Tryz.f224,fQ,zW,seval];refine az ⟨rfl,rfl⟩ rfl hC ?_;by_cases B:qp bag (ws.map (·.2))=0;rotate_left;·have c1:=ax B;rw[aF B]at p;subst p;simp only[zW,seval,c1];exact ic _ _ _
 rw[ai (λh=>h B)]at p;obtain⟨hB,hV,_⟩:=lj B;have C:=gQ hV;have hbl:=lr hB;rw[ae]at C;have V:∀w∈ws,w.2.2.length<=32:=λw m=>(C.2 w.2 (du m)).1;simp only[zW,seval,B];refine az ⟨rfl,rfl⟩ rfl hF ?_;by_cases D:iD (ws.map (·.2)) n<0;·have Q:=aK D;rw[aF D]at p;subst p;simp only[zW,seval,Q];exact ic _ _ _
 have Q:=ax D;rw[ai D]at p;subst p;obtain⟨i,x,k1,k2,k3,k4⟩:=oR D;have E:=wW b v bag ws M hb U (by omega) (by omega) (λw m=>b6 (V w m) (by omega));simp only[fQ]at E;rw[k1]at Q⊢;simp only[zW,seval,Q,aX];refine pS (T:=λs=>s) (λ_ _=>rfl) rfl rfl E λb2 v2 a W hM2 q g=>?_;obtain⟨f,F,e2⟩:=I4 q k4;obtain⟨_,g1,i0⟩:=iM g.CS F;have d:=g.blk f (aL F);have G:=d.lS.eQ;have hl2:=RJ q;have hil:i<ws.length:=(aI.1 k2).1;rw[ae]at G;simp only[zW,seval,fQ,g.bag.lS.dj,g.vols.lS.dj,i0,i0.2,g1.1,g1.2,d.lS.gC,d.lS.sl,ae];refine bE (X:=Nat×ay×Mem) (λz=>([(2,true,.ptr 16 0 0 0),(4,true,.ptr 32 0 0 0),(7,true,.v (.int .i64 i)),(8,true,.ptr 64 0 0 0),(30,true,.v f.1),(31,true,.v (.int .i64 f.2.2.length)),(32,true,.v (.int .i64 z.1))],[(64,.box [.v z.2.1,.v v2] none),(32,.box [.v (.slice none 0 0),.v (.slice none 0 0)] none),(16,.box [.v b,.v v] none)],z.2.2)) (λz=>(z.1<=f.2.2.length/\W.le z.2.2)/\RowF z.2.2 z.2.1 4 (((f.2.2.take z.1).foldl fU bag).map Bg.eG)/\apartB z.2.1 v2) (λz=>f.2.2.length-z.1) (0,b2,W) ⟨⟨bJ _,cg W⟩,g.bag,g.bv⟩ (aR ?_) ?_;·simp only[zV,seval,aZ]
 rintro⟨j,Y,N⟩⟨⟨n1,r⟩,H,Z⟩;simp only at n1 r H Z;by_cases hjl:j<f.2.2.length
 ·have R:((j:Int)<(f.2.2.length:Int))=True:=aK (by omega);obtain⟨y,hy,_⟩:=cE (l:=f.2.2) (i:=j) hjl;obtain⟨I,J,K,S⟩:=tO (d.lS.le r) hy;have o:=tq fU bag hy;have hbE:=pH (f.2.2.take j) hB;generalize(f.2.2.take j).foldl fU bag=u at*;obtain⟨q0,L,O⟩:=y;simp only at I J K;cases q0 with
   |false=>have e3:fU u (false,L,O)=u:=ai (λh=>by cases h);rw[e3]at o;simp only[zW,seval,R,S,S.2,I.1,I.2,J.1,J.2,K.1,K.2,cY,lo,hi];refine⟨by omega,(j+1,Y,N),⟨⟨⟨by simp only;omega,r⟩,by simp only[o];exact H,Z⟩,by simp only;omega⟩,aR ?_⟩;simp only[zV,seval,aJ]
   |true=>
    have e3:fU u (true,L,O)=(yb u (true,L,O)).1:=by rw[IG hbE];exact aF rfl
    rw[e3]at o;have hD:=aaa Y u (true,L,O) N H.lS;simp only[yQ]at hD;simp only[zW,seval,R,S,S.2,I.1,I.2,J.1,J.2,K.1,K.2];refine oo (T:=λs=>.tup [s,.v (.int .i64 (yb u (true,L,O)).2)]) (ku _) rfl rfl hD λb4 N2 hN2 e hf4=>?_;simp only[zW,seval,cY,lo,hi,e.lS.dj];refine⟨mb e.lS.sl,by omega,(j+1,b4,N2),⟨⟨⟨by simp only;omega,r.dC hN2⟩,by simp only[o];exact e,kg (g.vols.le r) hf4⟩,by simp only;omega⟩,aR ?_⟩;simp only[zV,seval,aJ]
 ·have R:((j:Int)<(f.2.2.length:Int))=False:=ax (by omega);rw[bz (by omega)]at H;simp only[zW,seval,R,cY,lo,hi];refine⟨by omega,?_⟩;refine qV (A:=λs=>[s,.v (.int .i64 i),.v (.int .i64 (i+1:Nat))]) 1000 (lN _ rfl) rfl (g.vols.le r) g.fv rfl rfl λM4 e=>?_;refine eR (A:=λs=>[s,.v (.int .i64 i),.v (.int .i64 (i+1:Nat))]) 8000 (lN _ rfl) eh rfl rfl rfl (λM6 _=>Vn (a.map kL) i (i+1) M6 (by omega) (by rw[ae];omega) (by rw[ae];omega)) rfl ?_;have hr:(a.map kL).take i++(a.map kL).drop (i+1)=(a.take i++a.drop (i+1)).map kL:=by rw[bq,eH,fI]
  rw[hr];have t:=kZ H e Z.Ed;simp only[zV,seval,im,iq,ir,nzs,t.lS.dj];refine⟨.v Y,.own 416,a.take i++a.drop (i+1),rfl,?_,λk h=>(by cases h),⟨?_,rfl⟩,λw m=>?_⟩;·simp only[wR,OY,bq,eH,fI,q]
  ·simp only[wR,ib k4];rw[e2]at t;exact t.lS
  ·have P:w∈a:=by
    rcases bU.1 m with m|m;·exact cq m
    ·exact cG m
   exact(kZ ((g.blk w P).le r) e (g.vw P)).lS
end Go.X.Vo
namespace Go.X.Vo
open Go Go.X Go.RowKit Go.X.Bg Go.X.Nm Go.X.Bp Go.X.Sb
theorem O3(a:Mem)(e:ay)(H:HS)(M:Mem):Yp a (λs=>.tup [s,.v e]) uk (.tup [.agg [.v (.slice none 0 0),.v (.slice none 0 0)],.v e]) H M:=⟨.v (.slice none 0 0),.v (.slice none 0 0),[],rfl,rfl,λk h=>(by cases h),⟨⟨(vb a M).bag,(vb a M).fb⟩,⟨(vb a M).vols,(vb a M).fv⟩⟩,λw b=>(by cases b),(vb a M).ap⟩
theorem CX{α:Type}{l:List α}{i:Nat}{x:α}(h:l[i]?=some x):l.set i x=l:=by
 apply gA;intro j;rw[nr];split;·rename_i e;subst e;rw[aF (aI.1 h).1,h]
 ·rfl
theorem Vq{a M:Mem}{b v:ay}{bag:List It}{ws:List WV}{A:St}(T:SV->SV)(H:HS)(h:StF a M b v bag ws)(d:bag=A.1)(e:ws.map (·.2)=A.2):Yp a T A (T (.agg [.v b,.v v])) H M:=by subst d;exact⟨.v b,.v v,ws,rfl,e,λk h=>(by cases h),⟨⟨h.bag,h.fb⟩,⟨h.vols,h.fv⟩⟩,λw c=>⟨h.blk w c,h.fw c⟩,h.ap⟩
theorem I5{l:List gM}{a:Nat}(r:gM):(l.map gx).set a (gx r)=(l.set a r).map gx:=by rw[oB]
theorem Nq{l:List gM}{i:Nat}{x:gM}(h:l[i]?=some x):(l.map gx).getD i []=[.bool x.1,.int .i64 x.2.1,.int .i64 x.2.2]:=by rw[cN,aN,h];rfl
theorem W8(b v:ay)(bag:List It)(ws:List WV)(n:List UInt8)(a:Int)(M:Mem)(hb:RowM M b 4 (bag.map Bg.eG))(hv:VolsM M v ws):Meets ab 226 [fQ b v,.v (.string ⟨n.toArray⟩),.v (.int .i64 a)] M (StK M (λs=>.tup [s,.v (.int .i64 (pq bag (ws.map (·.2)) n a).2)]) (pq bag (ws.map (·.2)) n a).1):=by
 refine wy (ku _) ?_;refine aH [0,1,2,3,6,7,8,9,10,11,20,36] Proofs.Tryz.func226 rfl (by kernel_rfl) rfl λw=>?_;generalize E:pq bag (ws.map (·.2)) n a=c;unfold pq at E;have V:=Rl b v bag ws n a M hb hv;unfold Z9 at V;simp only[fQ]at V;simp only[Proofs.Tryz.f226,fQ,zW,seval];refine az ⟨rfl,rfl⟩ rfl V ?_;by_cases F:vH bag (ws.map (·.2)) n a=0;rotate_left;·have c1:=ax F;rw[aF F]at E;subst E;simp only[zW,seval,c1];exact O3 _ _ _ _
 rw[ai (λh=>h F)]at E;subst E;obtain⟨hs,W,h3,h4⟩:=Gc F;obtain⟨i,x,k1,k2,k3,G⟩:=oR W;have X:=s_ k1 G;rw[X]at h4;obtain⟨m,rfl⟩:∃m:Nat,a=m:=⟨a.toNat,by omega⟩;obtain⟨hB,hV,_⟩:=lj hs;have H:=gQ hV;have hbl:=lr hB;rw[ae]at H;have Y:∀w∈ws,w.2.2.length<=32:=λw A=>(H.2 w.2 (du A)).1;have I:=wW b v bag ws M hb hv (by omega) (by omega) (λw A=>b6 (Y w A) (by omega));simp only[fQ]at I;rw[k1];simp only[zW,seval,F,cR,aX];refine pS (T:=λs=>s) (λ_ _=>rfl) rfl rfl I λb2 v2 q M2 hM2 J e=>?_;obtain⟨d,r,Z⟩:=I4 J G;obtain⟨_,R,S⟩:=iM e.CS r;have f:=aL r;have K:=e.blk d f;have L:m<x.2.2.length:=by omega
 obtain⟨U,t,_⟩:=cE (l:=x.2.2) (i:=m) L;have g:d.2.2[m]?=some U:=by rw[Z];exact t
 obtain⟨u,y1,y2,B⟩:=tO K.lS g;have y:=zk ((gQ hV).2 x.2 (aL G)).2.2 U (aL t);have j:CI (ws.map (·.2)) i m=U:=by unfold CI;rw[ib G,t];rfl
 have o:(q.set i (d.1,d.2.1,d.2.2.set m jx)).map (·.2)=lX (ws.map (·.2)) i m jx:=by rw[mB G,<-show q.map (·.2)=ws.map (·.2)from J,oB,Z]
 have N:m<(d.2.2.map gx).length:=by rw[ae,Z];exact L
 obtain⟨q0,C,D⟩:=U;simp only at u y1 y2;cases q0 with
  |false=>
   have hq:C=0/\D=0:=by
    unfold Bh at y;by_cases hz:C=0/\D=0;·exact hz
    ·rw[aF ⟨rfl,hz⟩]at y;cases y
   obtain⟨rfl,rfl⟩:=hq;have hs2:q.set i (d.1,d.2.1,d.2.2.set m jx)=q:=by have e5:d.2.2.set m jx=d.2.2:=CX g;rw[e5];exact CX r
   rw[hs2]at o;simp only[zW,seval,fQ,e.bag.lS.dj,e.vols.lS.dj,S,S.2,R.1,R.2,B,B.2,u.1,u.2];exact Vq (λs=>.tup [s,.v (.int .i64 0)]) _ e (by simp only[kk,j];exact(ai (λh=>by cases h)).symm) o
  |true=>
   have hD:=aaa b2 bag (true,C,D) M2 e.bag.lS;simp only[yQ]at hD;simp only[zW,seval,fQ,e.bag.lS.dj,e.vols.lS.dj,S,S.2,R.1,R.2,B,B.2,u.1,u.2];refine js (tk [2,3,4] (.one 0 (.one 1 (.one 5 (tk [6,7,8,9] (.one 10 .done)))))) (by kernel_rfl) (by kernel_rfl) ?_;simp only[zW,seval,fl,fm,fP,B.2,u.1,u.2,y1.1,y1.2,y2.1,y2.2];refine dE (T:=λs=>.tup [s,.v (.int .i64 (yb bag (true,C,D)).2)]) (ku _) rfl rfl hD rfl λM3 z=>?_;have O:=e.le z;simp only[zW,seval,fl,fm,fP,e.vols.lS.dj,Bl];refine⟨z,z,B.2,?_⟩;have P:(d.2.2.map gx).getD m []=[.bool true,.int .i64 C,.int .i64 D]:=Nq g;refine vP (es:=d.2.2.map gx) rfl rfl (of_eq_true WM) rfl rfl rfl rfl (by rw[WL];rfl) (O.blk d f) (e.fw f) N (by decide) λM4 hb4 Q=>?_;have hr5:RowF M4 d.1 3 ((d.2.2.set m jx).map gx):=by rw[P]at Q;rw[<-I5];exact Q
   have p:=O.W5 r hb4 hr5;have eA:(kk bag (ws.map (·.2)) i m).1=(yb bag (true,C,D)).1:=by simp only[kk,j];rw[IG hB];exact aF rfl
   simp only[zW,seval];refine⟨e.vols.lS.dj,.own 344,.v v2,_,rfl,o,λk _ W=>(by cases W),⟨?_,⟨p.vols,p.fv⟩⟩,λw A=>⟨p.blk w A,p.fw A⟩,(dt.1 p.ap).2⟩;rw[eA];rfl
theorem Yr(b v:ay)(bag:List It)(ws:List WV)(n:List UInt8)(a:Int)(s:List UInt8)(M:Mem)(X:RowM M b 4 (bag.map Bg.eG))(Y:VolsM M v ws):Meets ab 225 [fQ b v,.v (.string ⟨n.toArray⟩),.v (.int .i64 a),.v (.string ⟨s.toArray⟩)] M (No (λt=>.tup [t,.v (.int .i64 (mI bag (ws.map (·.2)) n a s).2)]) (mI bag (ws.map (·.2)) n a s).1):=by
 refine k_ (ku _) ?_;refine aH [0,1,2,3,4,8,9,10,11,12,14,15,24,43] Proofs.Tryz.func225 rfl (by kernel_rfl) rfl λw=>?_;have r:=W8 b v bag ws n a M X Y;unfold pq at r;generalize d:mI bag (ws.map (·.2)) n a s=c;unfold mI at d;have K:=Rl b v bag ws n a M X Y;unfold Z9 at K;simp only[fQ]at K r;simp only[Proofs.Tryz.f225,fQ,zW,seval];refine az ⟨rfl,rfl⟩ rfl K ?_;by_cases u:vH bag (ws.map (·.2)) n a=0;rotate_left;·have c1:=ax u;rw[aF u]at d;subst d;simp only[zW,seval,c1];exact ic _ _ _
 rw[ai (λh=>h u)]at d r;obtain⟨hs,L,h3,h4⟩:=Gc u;obtain⟨i,x,Z,k2,k3,y⟩:=oR L;have N:=s_ Z y;rw[N]at h4;obtain⟨m,rfl⟩:∃m:Nat,a=m:=⟨a.toNat,by omega⟩;obtain⟨hB,hV,_⟩:=lj hs;rw[Z]at d r⊢;simp only[aX]at d r;simp only[zW,seval,u,cR];refine pS (T:=λt=>.tup [t,.v (.int .i64 0)]) (λ_ _=>rfl) rfl rfl r λb2 v2 z M2 hM2 A f=>?_;have O:m<x.2.2.length:=by omega
 have P:=(aI.1 y).1;have hy:(kk bag (ws.map (·.2)) i m).2[i]?=some (x.2.1,x.2.2.set m jx):=by show(lX (ws.map (·.2)) i m jx)[i]?=_;rw[mB y,mz P]
 obtain⟨e,j,e2⟩:=I4 A hy;have g:=aL j;obtain⟨_,g1,i0⟩:=iM f.CS j;have B:=f.blk e g;have o:m<e.2.2.length:=by rw[e2,eg];exact O
 obtain⟨Q,C,_⟩:=cE (l:=e.2.2) (i:=m) o;obtain⟨y0,y1,y2,yi⟩:=tO B.lS C;have R:gG (kk bag (ws.map (·.2)) i m).1=0:=oT hB _;have D:=put b2 (kk bag (ws.map (·.2)) i m).1 s M2 f.bag.lS;have hp:OW (kk bag (ws.map (·.2)) i m).1 s=mf (kk bag (ws.map (·.2)) i m).1 s:=ai (λh=>h R);rw[hp]at D;unfold tg at d;change(if(mf (kk bag (ws.map (·.2)) i m).1 s).2.2≠0 then(uk,(mf (kk bag (ws.map (·.2)) i m).1 s).2.2)else(((mf (kk bag (ws.map (·.2)) i m).1 s).1,lX (ws.map (·.2)) i m (mf (kk bag (ws.map (·.2)) i m).1 s).2.1),0))=c at d;simp only[zW,seval,fQ,f.bag.lS.dj,f.vols.lS.dj];refine dE (ya _ _) rfl rfl D rfl λM3 S=>?_;generalize mf (kk bag (ws.map (·.2)) i m).1 s=pg at*;obtain⟨pl,p,pe⟩:=pg;simp only at d;have q:=f.le S;by_cases J:pe=0;rotate_left;·have c5:=ax J;rw[aF J]at d;subst d;simp only[zW,seval,tf,yQ,c5,f.vols.lS.dj];exact ic _ _ _
 rw[ai (λh=>h J)]at d;subst d;simp only[zW,seval,tf,yQ,J,f.vols.lS.dj];have E:=iM q.CS j;refine oU 12 [120] (tk [2,6,7,8] (.one 0 (.one 1 (tk [3,4,5,9] (.one 10 (tk [11] .done)))))) (by kernel_rfl) (by kernel_rfl) λxs=>?_;simp only[zW,seval,fl,fm,fP,i0,i0.2,E.2.1.1,E.2.1.2,yi,yi.2,Bl,f.vols.lS.dj];have F:m<(e.2.2.map gx).length:=by rw[ae];exact o
 have G:(e.2.2.map gx).getD m []=[.bool Q.1,.int .i64 Q.2.1,.int .i64 Q.2.2]:=Nq C;refine vP (es:=e.2.2.map gx) rfl rfl (of_eq_true WM) rfl rfl rfl rfl (by rw[WL];rfl) (q.blk e g) (f.fw g) F (bc 3) λM4 U H=>?_;have V:RowF M4 e.1 3 ((e.2.2.set m p).map gx):=by rw[G]at H;rw[<-I5];exact H
 have I:=q.W5 j U V;simp only[zW,seval];refine⟨f.vols.lS.dj,.own 304,.v v2,_,rfl,?_,λk _ L=>(by cases L),⟨rfl,I.vols.lS⟩,λw hw=>(I.blk w hw).lS⟩;have W:z.map (·.2)=lX (ws.map (·.2)) i m jx:=A;show(z.set i (e.1,e.2.1,e.2.2.set m p)).map (·.2)=lX (ws.map (·.2)) i m p;rw[oB,W,mB y,mB y,List.set_set,e2,List.set_set]
end Go.X.Vo
namespace Go.X.Vo
open Go Go.X Go.RowKit Go.X.Bg Go.X.Nm Go.X.Bp Go.X.Sb
theorem Ys(b v:ay)(bag:List It)(ws:List WV)(n e:List UInt8)(M:Mem)(hb:RowM M b 4 (bag.map Bg.eG))(Z:VolsM M v ws):Meets ab 227 [fQ b v,.v (.string ⟨n.toArray⟩),.v (.string ⟨e.toArray⟩)] M (No (λs=>.tup [s,.v (.int .i64 (nB bag (ws.map (·.2)) n e).2)]) (nB bag (ws.map (·.2)) n e).1):=by
 refine k_ (ku _) ?_;refine aH [0,1,2,3,6,7,8,9,10,11,13,14,18,25,31,41,42,43,44,52] Proofs.Tryz.func227 rfl (by kernel_rfl) rfl λw=>?_;generalize m:nB bag (ws.map (·.2)) n e=c;unfold nB at m;have hC:=Gb b v bag ws M hb Z;have hF:=Va b v ws n M Z;simp only[fQ]at hC hF;simp only[Proofs.Tryz.f227,fQ,zW,seval];refine az ⟨rfl,rfl⟩ rfl hC ?_;by_cases J:qp bag (ws.map (·.2))=0;rotate_left;·have c1:=ax J;rw[aF J]at m;subst m;simp only[zW,seval,c1];exact ic _ _ _
 rw[ai (λh=>h J)]at m;obtain⟨hB,hV,_⟩:=lj J;have F:=gQ hV;have hbl:=lr hB;have K:=si hV;rw[ae]at F;have L:∀w∈ws,w.2.2.length<=32:=λw O=>(F.2 w.2 (du O)).1;simp only[zW,seval,J];refine az ⟨rfl,rfl⟩ rfl hF ?_;by_cases P:iD (ws.map (·.2)) n<0;·have c2:=aK P;rw[aF P]at m;subst m;simp only[zW,seval,c2];exact ic _ _ _
 have c2:=ax P;rw[ai P]at m;obtain⟨i,x,k1,k2,k3,k4⟩:=oR P;have Q:=RH b v ws e M Z F.1;simp only[fQ]at Q;rw[k1]at c2 m⊢;simp only[aX]at m;simp only[zW,seval,c2];refine az ⟨rfl,rfl⟩ rfl Q ?_;by_cases h4:iO (ws.map (·.2)) e=0;rotate_left;·have c4:=ax h4;rw[aF h4]at m;subst m;simp only[zW,seval,c4];exact ic _ _ _
 rw[ai (λh=>h h4)]at m;subst m;have R:=wW b v bag ws M hb Z (by omega) (by omega) (λw O=>b6 (L w O) (by omega));simp only[fQ]at R;simp only[zW,seval,h4];refine pS (T:=λs=>s) (λ_ _=>rfl) rfl rfl R λo v2 r M2 hM2 hw2 S=>?_;have f:r.map (·.2)=ws.map (·.2):=hw2;obtain⟨a,G,e2⟩:=I4 f k4;have D:=aL G;obtain⟨_,g1,i0⟩:=iM S.CS G;have p:=S.blk a D;have U:=p.lS.eQ;have hl2:=RJ f;have hil:i<ws.length:=(aI.1 k2).1;have hl32:a.2.2.length<=32:=by rw[e2];exact L x (aL k2)
 have V:∀z∈bag,0<=z.2.2.2/\z.2.2.2<=1000000:=λz hz=>by have :=(jY (uZ hB z hz)).2.2;omega
 rw[ae]at U;simp only[zW,seval,fQ,S.bag.lS.dj,S.vols.lS.dj,i0,i0.2,g1.1,g1.2,p.lS.gC,p.lS.sl,ae];refine bE (X:=Nat×Mem) (λz=>([(2,true,.v (.string ⟨e.toArray⟩)),(3,true,.ptr 24 0 0 0),(6,true,.ptr 48 0 0 0),(9,true,.v (.int .i64 i)),(11,true,.ptr 88 0 0 0),(41,true,.v a.1),(42,true,.v (.int .i64 a.2.2.length)),(43,true,.v (.int .i64 z.1))],[(88,.box [.v o,.v v2] none),(48,.box [.v (.slice none 0 0),.v (.slice none 0 0)] none),(24,.box [.v b,.v v] none)],z.2)) (λz=>(z.1<=a.2.2.length/\M.le z.2)/\StF M z.2 o v2 ((a.2.2.take z.1).foldl jy bag) r) (λz=>a.2.2.length-z.1) (0,M2) ⟨⟨bJ _,hM2⟩,S⟩ (aR ?_) ?_;·simp only[zV,seval,aZ]
 rintro⟨j,N⟩⟨⟨n1,nM⟩,d⟩;simp only at n1 nM d;have q:=d.blk a D;by_cases hjl:j<a.2.2.length
 ·have d1:((j:Int)<(a.2.2.length:Int))=True:=aK (by omega);obtain⟨y,hy,_⟩:=cE (l:=a.2.2) (i:=j) hjl;obtain⟨y0,y1,y2,yi⟩:=tO q.lS hy;have t:=tq jy bag hy;have hrf:=wS (a.2.2.take j) V;have htl:(a.2.2.take j).length<=32:=by rw[a6];omega
  have hblen:=wT (a.2.2.take j) bag;generalize(a.2.2.take j).foldl jy bag=g at*;have W:=Bg.Rc o g y N d.bag.lS;simp only[Kc]at W;simp only[zW,seval,d1,yi,yi.2,y0.1,y0.2,y1.1,y1.2,y2.1,y2.2];refine az ⟨rfl,rfl⟩ rfl W ?_;rw[show fg (ko y) g 0=kp g y from rfl];by_cases I:0<=kp g y
  ·have d2:=aK I;rcases jV (ko y) g 0 with⟨E,_⟩|⟨k,z,E,B,q3,_⟩;·rw[show kp g y=fg (ko y) g 0 from rfl,E]at I;exact absurd I (by decide)
   rw[b7]at E;replace E:kp g y=(k:Int):=E;have e3:jy g y=nN g k (z.2.2.2+1):=by unfold jy;rw[aF I,E,aX,lP B]
   rw[e3]at t;have hzr:=hrf z (aL B);have hkl:=(aI.1 B).1;obtain⟨_,⟨_,z3⟩,zi⟩:=tN d.bag.lS B;have hg:=pG B;rw[E]at d2⊢;simp only[zW,seval,d2,zi,zi.2,z3.1,z3.2,Bl,cY,lo,hi];refine⟨by omega,?_⟩;refine vP (es:=g.map Bg.eG) rfl rfl (of_eq_true so3) rfl rfl rfl rfl (by rw[sh3];rfl) d.bag d.fb (by rw[ae];exact hkl) (bc 4) λM4 C Y=>?_;have hr5:RowF M4 o 4 ((nN g k (z.2.2.2+1)).map Bg.eG):=by rw[hg]at Y;rw[<-sk B];exact Y
   have hS4:=d.Vk C hr5;have hM4:=Gl nM d.fb C;simp only[zW,seval,cY,lo,hi];refine⟨by omega,(j+1,M4),⟨⟨⟨by simp only;omega,hM4⟩,by simp only[t];exact hS4⟩,by simp only;omega⟩,aR ?_⟩;simp only[zV,seval,aJ]
  ·have d2:=ax I;have e3:jy g y=g:=ai I;rw[e3]at t;simp only[zW,seval,d2,cY,lo,hi];refine⟨by omega,(j+1,N),⟨⟨⟨by simp only;omega,nM⟩,by simp only[t];exact d⟩,by simp only;omega⟩,aR ?_⟩;simp only[zV,seval,aJ]
 ·have d1:((j:Int)<(a.2.2.length:Int))=False:=ax (by omega);rw[bz (by omega)]at d;obtain⟨_,gN,iN⟩:=iM d.CS G;simp only[zW,seval,d1];refine oU 10 [88] (tk [0,1,2,4,3,5,6,7] (.one 8 (tk [9] .done))) (by kernel_rfl) (by kernel_rfl) λxs=>?_;simp only[zW,seval,fl,fm,fP,iN,iN.2,gN.1,gN.2];refine oo eh rfl rfl (zj a.1 a.2.2 N q.lS (by omega)) λu M3 H hu huf=>?_;simp only[zV,seval,im,iq,ir,nzs,fl,fm,fP,mb hu.lS.sl,hu.lS.dj];refine⟨H,?_⟩;refine qV (A:=λs=>[.agg [.v o,s],Fb (u,e,a.2.2)]) 1000 (zw o (Fb (u,e,a.2.2)) rfl) rfl (d.vols.le H) d.fv rfl rfl λM4 C=>?_;refine eR (A:=λs=>[.agg [.v o,s],Fb (u,e,a.2.2)]) (T:=λs=>.agg [.v o,s]) 8000 (zw o (Fb (u,e,a.2.2)) rfl) (zu o) rfl rfl rfl (λM6 _=>add o r (u,e,a.2.2) M6 d.bag.lS.dj (λw O=>(d.blk w O).lS.dj) hu.lS.dj (by rw[f];exact K) (by omega)) rfl ?_;obtain⟨E,B,q3⟩:=d.W7 (n:=e) nM H hu huf C;simp only[zV,seval,im,iq,ir,nzs,fl,fm,fP,d.bag.lS.dj];refine⟨.v o,.own 584,qx r (u,e,a.2.2),rfl,?_,λk h=>(by cases h),⟨?_,rfl⟩,q3⟩;·rw[u6,f];simp only[u7,ib k4,e2]
  ·simp only[u7,ib k4];rw[e2]at B;exact B
end Go.X.Vo
namespace Go.Proofs
open Go.Shelf Go.RowKit Go.Lib Go.Sort
def Gr:lH:=⟨λ|6=>195|10=>254|11=>255|12=>256|13=>136|14=>257|24=>186|25=>187|26=>304|27=>305|28=>306|29=>307|30=>308|31=>309|32=>310|33=>311|34=>335|35=>336|36=>337|37=>338|38=>339|39=>347|n=>n,λ|20=>20|26=>165|35=>275|0=>0|37=>277|3=>3|41=>148|44=>281|49=>189|51=>103|4=>4|54=>310|53=>309|58=>157|5=>5|9=>9|60=>336|64=>340|66=>347|67=>168|17=>17|32=>106|33=>273|82=>362|12=>12|75=>356|76=>357|77=>358|78=>84|79=>359|80=>360|n=>n,λ|n=>n⟩
theorem yj:Go.Proofs.LaysGg.n6 ab Gr:={mixed:=by kernel_rfl,f6:=Tryz.func195.trans (aY some (by kernel_rfl)),f10:=Tryz.func254.trans (aY some (by kernel_rfl)),f11:=Tryz.func255.trans (aY some (by kernel_rfl)),f12:=Tryz.func256.trans (aY some (by kernel_rfl)),f13:=Tryz.func136.trans (aY some (by kernel_rfl)),f14:=Tryz.func257.trans (aY some (by kernel_rfl)),f24:=Tryz.func186.trans (aY some (by kernel_rfl)),f25:=Tryz.func187.trans (aY some (by kernel_rfl)),f26:=Tryz.func304.trans (aY some (by kernel_rfl)),f27:=Tryz.func305.trans (aY some (by kernel_rfl)),f28:=Tryz.func306.trans (aY some (by kernel_rfl)),f29:=Tryz.func307.trans (aY some (by kernel_rfl)),f30:=Tryz.func308.trans (aY some (by kernel_rfl)),f31:=Tryz.func309.trans (aY some (by kernel_rfl)),f32:=Tryz.func310.trans (aY some (by kernel_rfl)),f33:=Tryz.func311.trans (aY some (by kernel_rfl)),f34:=Tryz.func335.trans (aY some (by kernel_rfl)),f35:=Tryz.func336.trans (aY some (by kernel_rfl)),f36:=Tryz.func337.trans (aY some (by kernel_rfl)),f37:=Tryz.func338.trans (aY some (by kernel_rfl)),f38:=Tryz.func339.trans (aY some (by kernel_rfl)),f39:=Tryz.func347.trans (aY some (by kernel_rfl)),t0:=yL,a0:=Oi,z0:=J6,v0:=AJ,i0:=by kernel_rfl,t3:=jk,a3:=xt,z3:=vm,v3:=dJ,i3:=by kernel_rfl,t4:=pU,a4:=PR,z4:=Mb,v4:=BF,i4:=by kernel_rfl,t5:=l8,a5:=tF,z5:=qF,v5:=mP,i5:=by kernel_rfl,t9:=gX,a9:=tG,z9:=qG,v9:=mQ,i9:=by kernel_rfl,t12:=Tryz.underlying12,a12:=Tryz.isAgg12,z12:=Tryz.sizeOf12,v12:=Tryz.zeroValue12,i12:=by kernel_rfl,t17:=Tryz.underlying17,a17:=Tryz.isAgg17,z17:=Tryz.sizeOf17,v17:=Tryz.zeroValue17,i17:=by kernel_rfl,t20:=xg,a20:=Tryz.isAgg20,z20:=Tryz.sizeOf20,v20:=Tryz.zeroValue20,i20:=by kernel_rfl,t26:=Tryz.underlying165,a26:=Tryz.isAgg165,z26:=Tryz.sizeOf165,v26:=Tryz.zeroValue165,i26:=by kernel_rfl,t32:=Tryz.underlying106,a32:=Tryz.isAgg106,z32:=Tryz.sizeOf106,v32:=Tryz.zeroValue106,i32:=by kernel_rfl,t33:=Tryz.underlying273,a33:=Tryz.isAgg273,z33:=Tryz.sizeOf273,v33:=Tryz.zeroValue273,i33:=by kernel_rfl,t35:=Tryz.underlying275,a35:=Tryz.isAgg275,z35:=Tryz.sizeOf275,v35:=Tryz.zeroValue275,i35:=by kernel_rfl,t37:=Tryz.underlying277,a37:=Tryz.isAgg277,z37:=Tryz.sizeOf277,v37:=Tryz.zeroValue277,i37:=by kernel_rfl,t41:=uf,a41:=DZ,z41:=A7,v41:=v8,i41:=by kernel_rfl,t44:=Tryz.underlying281,a44:=Tryz.isAgg281,z44:=Tryz.sizeOf281,v44:=Tryz.zeroValue281,i44:=by kernel_rfl,t49:=tH,a49:=BG,z49:=Ah,v49:=ur,i49:=by kernel_rfl,t51:=Oj,a51:=Tryz.isAgg103,z51:=Tryz.sizeOf103,v51:=Tryz.zeroValue103,i51:=by kernel_rfl,t53:=Tryz.underlying309,a53:=Tryz.isAgg309,z53:=Tryz.sizeOf309,v53:=Tryz.zeroValue309,i53:=by kernel_rfl,t54:=Tryz.underlying310,a54:=Tryz.isAgg310,z54:=Tryz.sizeOf310,v54:=Tryz.zeroValue310,i54:=by kernel_rfl,t58:=Tryz.underlying157,a58:=Tryz.isAgg157,z58:=Tryz.sizeOf157,v58:=Tryz.zeroValue157,i58:=by kernel_rfl,t60:=Tryz.underlying336,a60:=Tryz.isAgg336,z60:=Tryz.sizeOf336,v60:=Tryz.zeroValue336,i60:=by kernel_rfl,t64:=Tryz.underlying340,a64:=Tryz.isAgg340,z64:=Tryz.sizeOf340,v64:=Tryz.zeroValue340,i64:=by kernel_rfl,t66:=Tryz.underlying347,a66:=Tryz.isAgg347,z66:=Tryz.sizeOf347,v66:=Tryz.zeroValue347,i66:=by kernel_rfl,t67:=Tryz.underlying168,a67:=Tryz.isAgg168,z67:=Tryz.sizeOf168,v67:=Tryz.zeroValue168,i67:=by kernel_rfl,t75:=Tryz.underlying356,a75:=Tryz.isAgg356,z75:=Tryz.sizeOf356,v75:=Tryz.zeroValue356,i75:=by kernel_rfl,t76:=Tryz.underlying357,a76:=Tryz.isAgg357,z76:=Tryz.sizeOf357,v76:=Tryz.zeroValue357,i76:=by kernel_rfl,t77:=Tryz.underlying358,a77:=Tryz.isAgg358,z77:=Tryz.sizeOf358,v77:=Tryz.zeroValue358,i77:=by kernel_rfl,t78:=Tryz.underlying84,a78:=Tryz.isAgg84,z78:=Tryz.sizeOf84,v78:=Tryz.zeroValue84,i78:=by kernel_rfl,t79:=Tryz.underlying359,a79:=Tryz.isAgg359,z79:=Tryz.sizeOf359,v79:=Tryz.zeroValue359,i79:=by kernel_rfl,t80:=Tryz.underlying360,a80:=Tryz.isAgg360,z80:=Tryz.sizeOf360,v80:=Tryz.zeroValue360,i80:=by kernel_rfl,t82:=Tryz.underlying362,a82:=Tryz.isAgg362,z82:=Tryz.sizeOf362,v82:=Tryz.zeroValue362,i82:=by kernel_rfl}
set_option maxHeartbeats 2000000 in theorem Gs(blk off c Bs size:Nat)(W:bQ)(G1 G2:Nat->Int)(hs:W.cell? ⟨Bs,0,none⟩=some (.slice (some ⟨blk,off,none⟩) size c))(hc:∀t,t<size->W.cell? ⟨blk,off+t*4,none⟩=some (.int .i64 (G1 t))/\W.cell? ⟨blk,off+t*4+1,none⟩=some (.int .i64 (G2 t)))(i j:Nat)(hi:i<size)(hj:j<size)(_hsz:size<4611686018427387904):Calls ab 260 #[.int .i64 i,.int .i64 j,.pointer (some ⟨Bs,0,none⟩)] W λe w'=>e=.returned (.bool (aU (G1 i<G1 j\/(G1 i=G1 j/\G2 i<G2 j))))/\∃q,w'=W.drewN q:=by
 have ci:=(hc i hi).1;have cj:=(hc j hj).1;have ci2:=(hc i hi).2;have cj2:=(hc j hj).2;go_enter Tryz.func260,Tryz.ntmps260;go_wp2;rcases Int.lt_trichotomy (G1 i) (G1 j)with h|h|h;·go_quiet(fail);go_wp2;go_ret;exact⟨by simp[h],nq,rfl⟩
 ·go_quiet(fail);go_wp2;go_ret;exact⟨by simp[h],nq,rfl⟩
 ·have h1:¬G1 i<G1 j:=Int.lt_asymm h;have h2:¬G1 i=G1 j:=Int.ne_of_gt h;go_quiet(fail);go_wp2;go_ret;exact⟨by simp[h1,h2],nq,rfl⟩
end Go.Proofs
namespace Go.Proofs
open Go.Shelf Go.RowKit Go.Lib Go.Sort
noncomputable def I6:TypeInfo:=(ab.info? 27).get (by kernel_rfl)
noncomputable def su:TypeInfo:=(ab.info? 181).get (by kernel_rfl)
theorem RL(n:Nat)(e:2<=n):xi n su 25=9:=by
 have a:su.hasPointers=true:=by kernel_rfl
 have b:su.bytes=40:=by kernel_rfl
 have c:(n==0)=false:=by simp;omega
 have d:(n==1)=false:=by simp;omega
 simp[xi,a,b,c,d]
end Go.Proofs
namespace Go.X.Bp
open Go Go.X Go.RowKit Go.X.Bg Go.X.Sb
def Nr(a b:It):Bool:=aU (kK a b<0)
theorem swo:Sort.SWO Nr:=by
 refine⟨λx=>?_,λx y z a b=>?_,λx y z a b=>?_⟩;·simp[Nr,ru]
 ·simp only[Nr,br]at*;exact vJ a b
 ·simp only[Nr,jl,ru]at*;omega
theorem I7(x:It):(Bg.eG x).length=4:=rfl
theorem Vr(size:Nat)(a:size<4611686018427387904):W6 ab 260 Bg.eG 4 Nr size:=λW h b c d k l f i j m n=>by refine(Proofs.Gs b 0 c h size W (λt=>d[t]!.1) (λt=>d[t]!.2.1) l (λt g=>⟨f t 0 g (by omega),f t 1 g (by omega)⟩) i j m n a).mono ?_;rintro e u⟨rfl,q⟩;refine⟨?_,q⟩;congr 2;simp only[Nr,ru]
theorem aag:Np ab 195 260 27 Bg.eG 4 Nr:=by
 refine⟨λp n c k i w=>?_,λb c d j g i w l m o=>?_⟩
 ·have :∃f,ab.funcs.findIdx? (·.name== "internal/reflectlite"++ ".Swapper$"++toString (xi n Proofs.su 25))=some f:=by
   rcases bR n 1 with h|h
   ·have :n=0:=by omega
    subst this;exact⟨295,by kernel_rfl⟩
   ·have :n=1:=by omega
    subst this;exact⟨296,by kernel_rfl⟩
  obtain⟨f,q⟩:=this;exact Proofs.Any.sort_Slice_tiny Proofs.yj 27 181 Proofs.I6 Proofs.su (by kernel_rfl) (by kernel_rfl) (by kernel_rfl) (by kernel_rfl) 25 (λ_=>by kernel_rfl) p n c k f q (.func 260) #[] i w
 ·exact Proofs.Any.sort_Slice_cells_sorted Proofs.yj 27 181 Proofs.I6 Proofs.su (by kernel_rfl) (by kernel_rfl) (by kernel_rfl) (by kernel_rfl) 25 (λ_=>by kernel_rfl) Bg.eG 4 I7 (by kernel_rfl) (λ_=>by kernel_rfl) ta Nr swo 260 _ (Proofs.enters_of Proofs.Tryz.func260 (by kernel_rfl) rfl) b 0 c d j g 303 (by rw[Proofs.RL _ j];kernel_rfl) false (λa W=>run_callFunc_extern Proofs.Tryz.func303 (by kernel_rfl) (by kernel_rfl) (by kernel_rfl) (e:=vp false) (by kernel_rfl) a W) w l m o
theorem Lp{l d:List It}(g:d.Perm l)(o:d.Pairwise (λx y=>Nr y x=false))(c:l.Pairwise (λa b=>kK a b<0)):d=l:=by
 have p:∀a b,a∈l->b∈l->kK a b=0->a=b:=λa b e f k=>by
  obtain⟨i,m,rfl⟩:=Ai.1 e;obtain⟨j,n,rfl⟩:=Ai.1 f;rw[iI]at c;rcases Nat.lt_trichotomy i j with h|h|h;·have :=c i j m n h;omega
  ·subst h;rfl
  ·have :=c j i n m h;rw[ru]at this;have s:¬kK l[i] l[j]<0:=by omega
   unfold kK at k;split at k<;>omega
 refine g.eq_of_pairwise (le:=λx y=>Nr y x=false) (λa b e f q r=>?_) o (c.imp λ{a b}h=>?_);·refine p a b (g.subset e) f ?_;simp only[Nr,jl,ru]at q r;unfold kK;split<;>omega
 ·simp only[Nr,jl,ru]at*;omega
theorem Vs{l c:List It}{x:It}(d:l.Pairwise (λa b=>kK a b<0))(e:∀y∈l,¬(y.1=x.1/\y.2.1=x.2.1))(f:c.Perm (l++[x]))(g:c.Pairwise (λx y=>Nr y x=false)):c=wQ l x:=Lp (f.trans (vL x l).symm) g (CJ x l d e)
end Go.X.Bp
namespace Go.X.Si
open Go Go.X Go.X.Rp
def ix(k:Int):List Int->Nat->Int|[],_=>-1|x::l,i=>if k=x then(i:Int)else ix k l (i+1)
theorem aah(y:ay)(l:List Int)(k:Int)(M:Mem)(b:RowM M y 1 (l.map AN)):Meets ab 153 [.v y,.v (.int .i64 k)] M λr _ _=>r=.v (.int .i64 (ix k l 0)):=by
 refine aH [0,1,4,5,7,8,9,16] Proofs.Tryz.func153 rfl (by kernel_rfl) rfl λw=>?_;generalize j:ix k l 0=c;have d:=b.eQ;rw[ae]at d;simp only[Proofs.Tryz.f153,zV,seval,b.gC,b.sl,ae];refine bE (X:=Nat×Nat) (λx=>([(0,true,.v y),(1,true,.v (.int .i64 k)),(7,true,.v (.int .i64 l.length)),(8,true,.v (.int .i64 x.2))],[],M)) (λx=>x.1+x.2=l.length/\ix k (l.drop x.2) x.2=c) (λx=>x.1) (l.length,0) ⟨rfl,j⟩ (aR ?_) ?_;·simp only[zV,seval]
 rintro⟨f,i⟩⟨m,a⟩;simp only at m a;simp only[zV,seval];refine⟨λn=>?_,λn=>?_⟩
 ·obtain⟨x,o,e⟩:=jX (l:=l) (i:=i) (by omega);have h:=b.UH o rfl;have p:=b.ix (i:=(i:Int)) (by omega) (by rw[ae];omega);rw[e]at a;simp only[ix]at a;simp only[zV,seval,h.1,cY,lo,hi];refine⟨p,h.2,λg=>?_,λg=>⟨by omega,(f-1,i+1),⟨⟨by simp only;omega,by simp only;rw[ai g]at a;exact a⟩,by simp only;omega⟩,aR ?_⟩⟩;·rw[aF g]at a;rw[a]
  ·simp only[zV,seval,aJ]
 ·have e:l.drop i=[]:=bh (by omega);rw[e]at a;simp only[ix]at a;rw[a]
theorem RM(y:ay)(l:List Int)(k:Int)(M:Mem)(a:RowM M y 1 (l.map AN)):Meets ab 96 [.v y,.v (.int .i64 k)] M λr _ _=>r=.v (.bool (aU (0<=ix k l 0))):=by refine aH [0,1,4] Proofs.Tryz.func96 rfl (by kernel_rfl) rfl λw=>?_;simp only[Proofs.Tryz.f96,zV,seval];refine az ⟨rfl,rfl⟩ rfl (aah y l k M a) ?_;simp only[zV,seval]
theorem W9(k:Int):∀(l:List Int)(i:Nat),(0<=ix k l i)=(k∈l)
 |[],i=>by simp[ix]
 |x::l,i=>by
  rw[ix,aV];split;·rename_i h;exact propext ⟨λ_=>.inl h,λ_=>by omega⟩
  ·rename_i h;rw[W9 k l (i+1)];exact propext ⟨λa=>.inr a,λa=>a.resolve_left h⟩
end Go.X.Si
namespace Go.X.Bp
open Go Go.X Go.RowKit Go.X.Bg Go.X.Sb
def qX(l:List It)(s:Int)(n:Nat):List Int:=((l.take n).filter (λx=>aU (x.1=s))).map (·.2.1)
theorem Lr{l:List It}{n:Nat}{x:It}(s:Int)(h:l[n]?=some x):qX l s (n+1)=if x.1=s then qX l s n++[x.2.1]else qX l s n:=by
 unfold qX;rw[cm,h,PD,G',bq];split;·rename_i a;simp[a]
 ·rename_i a;simp[a]
theorem O4(l:List It)(s:Int)(n:Nat):(qX l s n).length<=n:=by unfold qX;rw[ae];have a:=List.length_filter_le (λx:It=>aU (x.1=s)) (l.take n);have b:=List.length_take_le n l;omega
theorem O5(l:List It)(s:Int)(n:Nat):((n:Int)∈qX l s l.length)=(DW l s n=true):=by unfold qX;rw[sH];apply propext;rw[vI];simp only[dq,BI,br];exact⟨λ⟨x,⟨a,b⟩,c⟩=>⟨x,a,b,c⟩,λ⟨x,a,b,c⟩=>⟨x,⟨a,b⟩,c⟩⟩
theorem abl(y:ay)(l:List It)(s:List UInt8)(M:Mem)(g:RowM M y 4 (l.map Bg.eG))(F:gG l=0):Meets ab 200 [.v y,.v (.string ⟨s.toArray⟩)] M (OwnR (tf (mf l s).2.1 (mf l s).2.2) 4 ((mf l s).1.map Bg.eG)):=by
 have G:∀q:List It,∀e∈q.map Bg.eG,e.length=4/\∀c∈e,c.oneCell'=true:=λq e he=>by obtain⟨x,u,rfl⟩:=dq.1 he;exact⟨rfl,ta x⟩
 refine yh (ya _ _) (G _) ?_;refine aH [0,1,4,5,6,7,8,9,10,11,14,18,19,20,21,28,31,50,59,68] Proofs.Tryz.func200 rfl (by kernel_rfl) rfl λw=>?_;generalize d:mf l s=c;unfold mf at d;have H:=g.eQ;rw[ae]at H;have W:=lr F;simp only[Proofs.Tryz.f200,zW,seval];by_cases I:64<s.length;·have J:((64:Int)<(s.length:Int))=True:=aK (by omega);rw[aF I]at d;subst d;simp only[zW,seval,J,tf,yQ,z3];exactλh=>absurd h (by omega)
 have J:((64:Int)<(s.length:Int))=False:=ax (by omega);have K:((s.length:Int)<=64)=True:=aK (by omega);have Y:s.length<=dB:=b6 (Nat.le_of_not_lt I) (by decide);rw[ai I]at d;simp only[zW,seval,J,K];refine dE eh rfl rfl (zl y l M g (by omega)) rfl λB hM1=>?_;simp only[zW,seval,hdel,sigDrop,sigDropA];refine eI 8 55 1 rfl rfl rfl ?_;refine bE (X:=Nat) (λn=>([(0,true,.v y),(1,true,.v (.string ⟨s.toArray⟩)),(4,true,.v (.slice none 0 0)),(5,true,.ptr 40 0 0 0),(6,true,.v (.int .i64 0)),(7,true,.ptr 56 0 0 0),(8,true,.own 440),(18,true,.own 136),(19,true,.v (.int .i64 l.length)),(20,true,.v (.int .i64 (n:Int)))],[(440,.row 1 ((qX l (fX s) n).map AN)),(56,.box [.own 136] none),(136,.row 4 (l.map Bg.eG)),(40,.box [.v (.bool false),.v (.int .i64 0),.v (.int .i64 0)] none)],B)) (λn=>n<=l.length/\sj l s=fg (λx:It=>aU (x.2.2.1=s)) (l.drop n) n) (λn=>l.length-n) 0 ⟨bJ _,rfl⟩ (aR ?_) ?_;·simp only[zV,seval,ae,qX,fE,List.filter_nil,cr,aZ]
 rintro n⟨C,a⟩;simp only[zW,seval];refine⟨λh3=>?_,λh3=>?_⟩
 ·have L:n<l.length:=by omega
  obtain⟨x,u,N⟩:=Rp.jX (l:=l) (i:=n) L;have Z:=pG u;rw[N]at a;simp only[fg]at a;simp only[zW,seval,Z,a_,bA,ae];have hrf:=(jY (uZ F x (aL u))).2.2;by_cases D:x.2.2.1=s
  ·rw[aF (cy D)]at a;rw[a,lP u,aX,aF (by omega)]at d;have E:=aK D;by_cases h5:x.2.2.2=1000000;·rw[aF h5]at d;subst d;have O:((1000000:Int)<=x.2.2.2)=True:=aK (by omega);have o:(x.2.2.2<1000000)=False:=ax (by omega);simp only[zW,seval,E,O,o,tf,yQ,z3];exact⟨⟨by omega,by omega⟩,by omega⟩
   ·rw[ai h5]at d;subst d;have O:((1000000:Int)<=x.2.2.2)=False:=ax (by omega);have o:(x.2.2.2<1000000)=True:=aK (by omega);have hset:=sk u (x.2.2.2+1);simp only[zW,seval,Z,a_,bA,E,O,o,ae,hset];refine⟨⟨by omega,by omega⟩,by omega,by simp only[cY,lo,hi];omega,⟨by omega,by omega⟩,by omega,gE 7 (by kernel_rfl) (by kernel_rfl) ?_⟩;simp only[zW,seval,tf,yQ];exact .inr (.inl ⟨136,rfl,rfl⟩)
  ·have E:=ax D;rw[ai (by simpa using D)]at a;simp only[zW,seval,E];refine⟨⟨by omega,by omega⟩,by omega,dD (by kernel_rfl) (by kernel_rfl) ?_⟩;simp only[zW,seval];refine⟨_,⟨⟨rfl,rfl⟩,F9 s B Y⟩,?_⟩;simp only[zW,seval];have hul:=O4 l (fX s) n;have f:=Lr (fX s) u;refine⟨λP=>⟨⟨by rw[ae];omega,by rw[ae];omega⟩,by simp only[cY,lo,hi];omega,n+1,⟨⟨by omega,a⟩,by omega⟩,aR ?_⟩,λP=>⟨by simp only[cY,lo,hi];omega,n+1,⟨⟨by omega,a⟩,by omega⟩,aR ?_⟩⟩;·rw[aF P]at f;rw[f,bq,show([x.2.1].map AN)=[[cz bX x.2.1]]from rfl];simp only[zV,seval,aJ]
   ·rw[ai P]at f;rw[f];simp only[zV,seval,aJ]
 ·have N:l.drop n=[]:=bh (by omega);rw[N]at a;simp only[fg]at a;rw[a,ai (by decide)]at d;have Q:n=l.length:=by omega
  subst Q;by_cases h6:l.length=64;·have R:((63:Int)<(l.length:Int))=True:=aK (by omega);have p:((l.length:Int)<=63)=False:=ax (by omega);rw[aF h6]at d;subst d;simp only[zW,seval,g.gC,g.sl,ae,R,p,tf,yQ,z3];skip
  have R:((63:Int)<(l.length:Int))=False:=ax (by omega);have p:((l.length:Int)<=63)=True:=aK (by omega);rw[ai h6]at d;subst d;simp only[zW,seval,g.gC,g.sl,ae,R,p];refine az ⟨rfl,rfl⟩ rfl (F9 s B Y) ?_;simp only[zW,seval];refine bE (X:=Nat) (λn=>([(0,true,.v y),(1,true,.v (.string ⟨s.toArray⟩)),(4,true,.v (.slice none 0 0)),(5,true,.ptr 40 0 0 0),(6,true,.v (.int .i64 0)),(7,true,.ptr 56 0 0 0),(8,true,.own 440),(11,true,.ptr 88 0 0 0)],[(88,.box [.v (.int .i64 (fX s)),.v (.int .i64 (n:Int)),.v (.string ⟨s.toArray⟩),.v (.int .i64 1)] none),(440,.row 1 ((qX l (fX s) l.length).map AN)),(56,.box [.own 136] none),(136,.row 4 (l.map Bg.eG)),(40,.box [.v (.bool false),.v (.int .i64 0),.v (.int .i64 0)] none)],B)) (λn=>∀m,m<n->DW l (fX s) m=true) (λn=>65-n) 0 (λm hm=>by omega) (aR ?_) ?_;·simp only[zV,seval,aZ]
  intro n C;have hpn:=pig (fX s) n l C;simp only[zW,seval];have r:aU (0<=Si.ix (n:Int) (qX l (fX s) l.length) 0)=DW l (fX s) n:=by have :=(Si.W9 (n:Int) (qX l (fX s) l.length) 0).trans (O5 l (fX s) n);rw[Bool.eq_iff_iff,br,this]
  refine dP (k:=440) rfl rfl rfl (λ_=>rfl) (λv M3 hM3 hv=>Si.RM v (qX l (fX s) l.length) (n:Int) M3 hv) ?_;rw[r];cases S:DW l (fX s) n with
   |true=>
    simp only[zW,seval,cY,lo,hi];refine⟨by omega,n+1,⟨λm hm=>?_,by omega⟩,aR ?_⟩
    ·rcases bR m n with z|z;·exact C m z
     ·rw[show m=n by omega];exact S
    ·simp only[zV,seval,aJ]
   |false=>
    have T:=CF C S (by omega);rw[T];simp only[zW,seval];have A:l.map Bg.eG++[[.int .i64 (fX s),.int .i64 (n:Int),.string ⟨s.toArray⟩,.int .i64 1]]=(l++[(fX s,(n:Int),s,1)]).map Bg.eG:=by rw[bq];rfl
    rw[A];refine⟨⟨by rw[ae];omega,by rw[ae];omega⟩,⟨rfl,oO (k:=608) 1002 rfl (λ_=>rfl) (λh=>by simp at h) λb cap sp r1 r2=>?_⟩⟩;refine Aw (t:=27) rfl rfl rfl rfl (by kernel_rfl) ⟨181,by kernel_rfl⟩ ?_;simp only[zV,seval,im,iq,ir,nzs,AO];refine j_ rfl rfl ?_;simp only[zW,seval,ae]at r1⊢;refine Ee 8016 56 Bg.eG 4 Nr (l++[(fX s,(n:Int),s,1)]) (b:=b) (cap:=cap) (sp:=sp) (tb:=none) rfl rfl rfl I7 rfl (by simp;omega) ⟨_,Proofs.Tryz.func195,by kernel_rfl,by kernel_rfl⟩ aag (Vr _ (by simp;omega)) λl' p1 p2=>?_;have j:=p1.length_eq;have U:=Vs (Gd F) (λy g V=>by have :=(vI l (fX s) n).2 ⟨y,g,V⟩;rw[S]at this;cases this) p1 p2;rw[<-U,<-j];simp only[zV,seval,im,iq,ir,nzs,hset];refine gE 7 (by kernel_rfl) (by kernel_rfl) ?_;simp only[zW,seval,tf,yQ];refine .inr (.inr ⟨b,8016,cap,sp,?_,rfl,?_⟩);·rw[ae];rfl
    ·rw[ae,j];exact r1
end Go.X.Bp
namespace Go.X.Vo
open Go Go.X Go.RowKit Go.X.Bg Go.X.Nm Go.X.Bp Go.X.Sb
theorem RN{l:List fy}{i a:Nat}{id:gM}{j:Nat}{x:fy}(h:l[j]?=some x):(lX l i a id)[j]?=some (if j=i then(x.1,x.2.set a id)else x):=by
 unfold lX;rw[nr];by_cases e:i=j;·subst e;rw[aF rfl,aF (aI.1 h).1,aF rfl,ib h]
 ·rw[ai e,ai (λh=>e h.symm),h]
theorem aai(b v:ay)(bag:List It)(ws:List WV)(d a:Nat)(id:gM)(M:Mem)(G:RowM M b 4 (bag.map Bg.eG))(H:VolsM M v ws)(hl:ws.length<=1000)(I:∀w∈ws,w.2.2.length<=1000)(Z:∀x,ws[d]?=some x->a<x.2.2.length):Meets ab 197 [fQ b v,.v (.int .i64 d),.v (.int .i64 a),yQ id] M (No (λs=>s) (bag,lX (ws.map (·.2)) d a id)):=by
 refine k_ eh ?_;refine aH [0,1,2,3,4,7,8,9,10,11,16,17,18,19,29] Proofs.Tryz.func197 rfl (by kernel_rfl) rfl λw=>?_;have J:∀(j:Nat)(x:WV),ws[j]?=some x->(lX (ws.map (·.2)) d a id)[j]?=some (if j=d then(x.2.1,x.2.2.set a id)else x.2):=λj x y=>RN (by rw[aN,y];rfl);have hLl:(lX (ws.map (·.2)) d a id).length=ws.length:=by unfold lX;rw[eg,ae]
 generalize lX (ws.map (·.2)) d a id=L at*;simp only[Proofs.Tryz.f197,fQ,yQ,zW,seval,G.dj,mb G.sl,H.row.dj,H.row.gC,H.row.sl,ae];refine sX 72 1 100 2 rfl rfl rfl rfl rfl ?_;refine bE (X:=Nat×List WV×Mem) (λz=>([(1,true,.v (.int .i64 d)),(2,true,.v (.int .i64 a)),(4,true,.ptr 32 0 0 0),(7,true,.ptr 56 0 0 0),(8,true,.ptr 64 0 0 0),(9,true,.ptr 72 0 0 0),(16,true,.v v),(17,true,.v (.int .i64 ws.length)),(18,true,.v (.int .i64 z.1))],[(800,.row 2 (z.2.1.map kL)),(72,.box [.v b,.own 800] none),(64,.box [.v (.slice none 0 0),.v (.slice none 0 0)] none),(56,.box [.v (.bool id.1),.v (.int .i64 id.2.1),.v (.int .i64 id.2.2)] none),(32,.box [.v b,.v v] none)],z.2.2)) (λz=>(z.1<=ws.length/\M.le z.2.2)/\z.2.1.map (·.2)=L.take z.1/\∀w∈z.2.1,RowM z.2.2 w.1 3 (w.2.2.map gx)) (λz=>ws.length-z.1) (0,[],M) ⟨⟨bJ _,cg M⟩,rfl,λw q=>by(cases q)⟩ (aR ?_) ?_;·simp only[zV,seval,cr,aZ]
 rintro⟨i,m,N⟩⟨⟨n1,A⟩,B,K⟩;simp only at n1 A B K;have C:m.length=i:=by have :=aY dU B;rw[ae,a6]at this;omega
 by_cases O:i<ws.length;rotate_left;·have P:((i:Int)<(ws.length:Int))=False:=ax (by omega);rw[bz (by omega)]at B;simp only[zW,seval,P,G.dj];exact⟨.v b,.own 800,m,rfl,B,λk h=>(by cases h),⟨G.le A,rfl⟩,K⟩
 have P:((i:Int)<(ws.length:Int))=True:=aK (by omega);obtain⟨x,y,_⟩:=cE (l:=ws) (i:=i) O;have D:=H.le A;obtain⟨V,W,Y⟩:=iM D y;have E:=aL y;have n:=D.blk x E;have hxl:=I x E;have Q:=J i x y;have c:∀(u:ay)(f:Mem)(o:List gM),N.le f->RowM f u 3 (o.map gx)->(if i=d then(x.2.1,x.2.2.set a id)else x.2)=(x.2.1,o)->(m++[(u,x.2.1,o)]).map (·.2)=L.take (i+1)/\∀w∈m++[(u,x.2.1,o)],RowM f w.1 3 (w.2.2.map gx):=λu f o h1 h2 h3=>by
  refine⟨?_,λw q=>?_⟩;·rw[cm,Q,h3,bq,B];rfl
  ·rcases bU.1 q with q|q;·exact(K w q).le h1
   ·rw[bD.1 q];exact h2
 have p:∀(u:ay)(o:List gM),m.map kL++[[.string ⟨x.2.1.toArray⟩,u]]=(m++[(u,x.2.1,o)]).map kL:=λu o=>by rw[bq];rfl
 simp only[zW,seval,P,Y,Y.2,V.1,V.2,W.1,W.2,n.dj];refine dE eh rfl rfl (zj x.1 x.2.2 N n (by omega)) rfl λN2 g=>?_;by_cases r:i=d
 ·have R:((i:Int)=(d:Int))=True:=aK (by omega);have S:a<x.2.2.length:=Z x (by rw[<-r];exact y);rw[aF r]at c;have F:(x.2.2.map gx).set a [.bool id.1,.int .i64 id.2.1,.int .i64 id.2.2]=(x.2.2.set a id).map gx:=by rw[oB];rfl
  simp only[zW,seval,R,ae,F];refine⟨⟨by omega,by omega⟩,S,A9 (k:=200) rfl λu f e t=>rV ?_⟩;simp only[zV,seval,im,iq,ir,nzs,t.dj,mb t.sl,ae,C,p u (x.2.2.set a id),cY,lo,hi];obtain⟨T,U⟩:=c u f (x.2.2.set a id) (g.dC e) t rfl;refine⟨⟨by omega,by omega⟩,by omega,(i+1,m++[(u,x.2.1,(x.2.2.set a id))],f),⟨⟨⟨by simp only;omega,A.dC (g.dC e)⟩,T,U⟩,by simp only;omega⟩,gT 72 1 312 100 2 _ rfl rfl rfl rfl rfl (aR ?_)⟩;simp only[zV,seval,aJ]
 ·have R:((i:Int)=(d:Int))=False:=ax (by omega);rw[ai r]at c;simp only[zW,seval,R];refine A9 (k:=200) rfl λu f e t=>rV ?_;simp only[zV,seval,im,iq,ir,nzs,t.dj,mb t.sl,ae,C,p u x.2.2,cY,lo,hi];obtain⟨T,U⟩:=c u f x.2.2 (g.dC e) t rfl;refine⟨⟨by omega,by omega⟩,by omega,(i+1,m++[(u,x.2.1,x.2.2)],f),⟨⟨⟨by simp only;omega,A.dC (g.dC e)⟩,T,U⟩,by simp only;omega⟩,gT 72 1 312 100 2 _ rfl rfl rfl rfl rfl (aR ?_)⟩;simp only[zV,seval,aJ]
theorem RO(b v:ay)(bag:List It)(ws:List WV)(e a:Nat)(M:Mem)(F:RowM M b 4 (bag.map Bg.eG))(r:VolsM M v ws)(Q:gG bag=0)(R:ws.length<=1000)(u:∀w∈ws,w.2.2.length<=1000){x:WV}(t:ws[e]?=some x)(G:a<x.2.2.length):Meets ab 146 [fQ b v,.v (.int .i64 e),.v (.int .i64 a)] M (No (λs=>s) (kk bag (ws.map (·.2)) e a)):=by
 refine aH [0,1,2,3,6,7,8,24] Proofs.Tryz.func146 rfl (by kernel_rfl) rfl λw=>?_;have H:=aai b v bag ws e a jx M F r R u (λy I=>by rw[t]at I;cases I;exact G);obtain⟨_,J,K⟩:=iM r t;have j:=r.blk x (aL t);obtain⟨z,k,_⟩:=cE (l:=x.2.2) (i:=a) G;obtain⟨A,B,C,L⟩:=tO j k;have S:(ws.map (·.2))[e]?=some x.2:=by rw[aN,t];rfl
 have f:CI (ws.map (·.2)) e a=z:=by unfold CI;rw[ib S,k];rfl
 have m:(kk bag (ws.map (·.2)) e a).1=fU bag z:=by simp only[kk,f]
 simp only[fQ,yQ,jx]at H;obtain⟨U,n,o⟩:=z;simp only at A B C;simp only[Proofs.Tryz.f146,fQ,zW,seval,F.dj,r.row.dj,K,K.2,J.1,J.2,L,L.2,A.1,A.2,B.1,B.2,C.1,C.2];refine eZ (T:=λs=>s) (λ_ _=>rfl) rfl rfl H λN O p V W q d c=>?_;cases U with|false=>have D:fU bag (false,n,o)=bag:=ai (λh=>by cases h);simp only[zW,seval,fQ,d.dj,c.row.dj];exact⟨N,O,p,rfl,q,by rw[m,D];exact d,c⟩|true=>have D:fU bag (true,n,o)=(sn bag (true,n,o)).1:=aF rfl;have P:=sY (aac N bag (true,n,o) V d Q);simp only[yQ]at P;simp only[zW,seval,fQ,d.dj,c.row.dj];refine gS (T:=λs=>.tup [s,.v (.int .i64 (sn bag (true,n,o)).2)]) (ku _) rfl rfl P λX Y E g=>?_;simp only[zW,seval,g.dj,c.row.dj,mb g.sl];exact⟨X,O,p,rfl,q,by rw[m,D];exact g,c.le E⟩
theorem Yt(b v:ay)(bag:List It)(ws:List WV)(d a:Nat)(s:List UInt8)(M:Mem)(N:RowM M b 4 (bag.map Bg.eG))(O:VolsM M v ws)(P:gG bag=0)(V:ws.length<=1000)(n:∀w∈ws,w.2.2.length<=1000){x:WV}(A:ws[d]?=some x)(Q:a<x.2.2.length):Meets ab 151 [fQ b v,.v (.int .i64 d),.v (.int .i64 a),.v (.string ⟨s.toArray⟩)] M (No (λt=>.tup [t,.v (.int .i64 (tg bag (ws.map (·.2)) d a s).2)]) (tg bag (ws.map (·.2)) d a s).1):=by
 refine aH [0,1,2,3,4,8,9,10,11,12,13,27] Proofs.Tryz.func151 rfl (by kernel_rfl) rfl λw=>?_;have R:=RO b v bag ws d a M N O P V n A Q;have B:gG (kk bag (ws.map (·.2)) d a).1=0:=oT P _;generalize o:tg bag (ws.map (·.2)) d a s=c;unfold tg at o;change(if(mf (kk bag (ws.map (·.2)) d a).1 s).2.2≠0 then(uk,(mf (kk bag (ws.map (·.2)) d a).1 s).2.2)else(((mf (kk bag (ws.map (·.2)) d a).1 s).1,lX (ws.map (·.2)) d a (mf (kk bag (ws.map (·.2)) d a).1 s).2.1),0))=c at o;have S:(ws.map (·.2))[d]?=some x.2:=by rw[aN,A];rfl
 have p:=(aI.1 S).1;simp only[fQ]at R;simp only[Proofs.Tryz.f151,fQ,zW,seval,N.dj,O.row.dj];refine eZ (T:=λs=>s) (λ_ _=>rfl) rfl rfl R λU W f X Y C j l=>?_;have D:=sY (abl U (kk bag (ws.map (·.2)) d a).1 s X j B);have g:f.map (·.2)=lX (ws.map (·.2)) d a jx:=C;have Z:f.length=ws.length:=by have :=aY dU g;unfold lX at this;rwa[ae,eg,ae]at this
 have k:lX (ws.map (·.2)) d a jx=(ws.map (·.2)).set d (x.2.1,x.2.2.set a jx):=mB S a jx;have q:∀w∈f,w.2.2.length<=1000:=λw hw=>by
  have m:w.2∈f.map (·.2):=du hw;rw[g,k]at m;rcases List.mem_or_eq_of_mem_set m with m|m;·obtain⟨y,E,e⟩:=dq.1 m;rw[<-e];exact n y E
  ·rw[m];simp only[eg];exact n x (aL A)
 have F:∀y,f[d]?=some y->a<y.2.2.length:=λy E=>by
  have m:(f.map (·.2))[d]?=some y.2:=by rw[aN,E];rfl
  rw[g,k,mz p]at m;rw[<-d_ m];simp only[eg];exact Q
 simp only[zW,seval,fQ,j.dj,l.row.dj];refine gS (ya _ _) rfl rfl D λb3 M3 r i=>?_;generalize mf (kk bag (ws.map (·.2)) d a).1 s=pg at*;obtain⟨pl,G,pe⟩:=pg;simp only at o i;by_cases z:pe=0;rotate_left;·have c5:=ax z;rw[aF z]at o;subst o;simp only[zW,seval,tf,yQ,c5,j.dj,l.row.dj,i.dj];exact⟨_,_,[],rfl,rfl,bY _ _,gi _|>.2⟩
 rw[ai (λh=>h z)]at o;subst o;have H:=aai U W (kk bag (ws.map (·.2)) d a).1 f d a G M3 (j.le r) (l.le r) (by omega) q F;rw[g,E3 p]at H;simp only[fQ,yQ]at H;simp only[zW,seval,tf,yQ,z,j.dj,l.row.dj,i.dj];refine eZ (T:=λs=>s) (λ_ _=>rfl) rfl rfl H λb4 v4 I M4 J K L u=>?_;simp only[zW,seval,fQ,L.dj,u.row.dj,i.dj,mb i.sl];exact⟨b3,v4,I,rfl,K,i.le J,u⟩
end Go.X.Vo
namespace Go.X
open Go Go.RowKit
section
variable{E:Env}{σ:dp}{H:HS}{M:Mem}{a:xp}{w:bQ}{ν:Nat->ay}{K:KP}{o:db}
def RT{α:Type}[Inhabited α](P:bZ)(g:Nat)(enc:α->List ay)(k:Nat)(h:α->α->Bool)(size l:Nat):Prop:=∀(W:bQ)(f b c:Nat)(d:Array α),d.size=size->W.cell? ⟨f,l,none⟩=some (.slice (some ⟨b,0,none⟩) size c)->(∀t u,t<size->u<k->W.cell? ⟨b,0+t*k+u,none⟩=some ((enc d[t]!)[u]!))->∀i j:Nat,i<size->j<size->Calls P g #[.int .i64 i,.int .i64 j,.pointer (some ⟨f,0,none⟩)] W λe m=>e=.returned (.bool (h d[i]! d[j]!))/\∃q,m=W.drewN q
theorem CY{α:Type}[Inhabited α]{f d g t:Nat}(F V W:Nat)(enc:α->List ay)(k:Nat)(I:α->α->Bool)(l:List α){b cap:Nat}{sp:List ay}{cs:List SV}{tb:Option ay}(X:hget H F=some (.box (uj ((l.map enc).flatten++sp)) (some (bT b))))(J:hget H V=some (.box cs tb))(Z:cs[W]?=some (.v (.slice (some ⟨b,0,none⟩) l.length cap)))(hne:aU (V≠F)=true)(o:∀x,(enc x).length=k)(hd:aU (d<E.N)=true)(hsz:l.length<4611686018427387904)(hcl:∃fn,E.P.funcs[f]?=some fn/\(fn.name== "runtime.NumGoroutine")=false/\fn.body.isNone=false)(hS:Np E.P f g t enc k I)(hL:RT E.P g enc k I l.length W)(hK:∀p:List α,p.Perm l->p.Pairwise (λx y=>I y x=false)->K ((d,true,.v (.tuple #[]))::σ) (hset F (.box (uj ((p.map enc).flatten++sp)) (some (bT b))) H) M):CallK E f [.v (.iface t (.slice (some ⟨b,0,none⟩) l.length cap)),.fn g [.ptr V 0 0 0]] d K σ H M:=by
 intro ν a w L O;refine .inl ⟨hcl,?_⟩;obtain⟨⟨b',T,e1,Q⟩,e3⟩:=O.holds _ (bP X);have G:=e3 _ rfl;simp only at e1 G;rw[G]at e1;cases e1;rw[ju]at Q;obtain⟨⟨q,T',f1,f2⟩,_⟩:=O.holds _ (bP J);simp only at f1 f2;have fj:(aS ν cs).toArray[W]?=some (.slice (some ⟨b,0,none⟩) l.length cap):=by rw[dH,cC,aN,Z];rfl
 have hbb:q≠b:=by rintro rfl;exact uz O X (b:=q) (by rw[G];rfl) _ (bP J) (aW hne) (by simp only[f1];rfl)
 have A:b<w.heap.size:=(bV.1 Q).1;have R:q<w.heap.size:=(bV.1 f2).1;have hv:(aS ν [.v (.iface t (.slice (some ⟨b,0,none⟩) l.length cap)),.fn g [.ptr V 0 0 0]]).toArray=#[.iface t (.slice (some ⟨b,0,none⟩) l.length cap),.func (.func g) #[] #[.pointer (some ⟨q,0,none⟩)]]:=by simp[aS,SV.cL,f1,KD]
 rw[hv];have s:∀p:List α,p.Perm l->p.Pairwise (λx y=>I y x=false)->∀w',Heap E ν (hset F (.box (uj ((p.map enc).flatten++sp)) (some (bT b))) H) M w'->∃S H' M',Rep E S H' M' (a.put (some d) (.tuple #[])) w'/\K S H' M':=λp Y h2 w' h3=>⟨_,_,_,⟨ν,L.ml (aW hd) rfl,h3⟩,hK p Y h2⟩;rcases bR 1 l.length with h2|Y;rotate_left
 ·refine(hS.1 (some ⟨b,0,none⟩) l.length cap Y #[.pointer (some ⟨q,0,none⟩)] w).mono ?_;rintro e w'⟨rfl,z,rfl⟩;refine⟨_,rfl,s l (List.Perm.refl l) ?_ _ ?_⟩;·match l,Y with|[],_=>exact .nil|[x],_=>exact List.pairwise_singleton _ _
  ·have :=O.mE (tj w z 0);have hs2:hset F (.box (uj ((l.map enc).flatten++sp)) (some (bT b))) H=H:=zq X;rw[hs2];exact this
 ·have hH:FB enc k w b 0 l.toArray:=λj r=>by
   have hf:=th o l.toArray;have hj2:j<(nR enc k l.toArray).toList.length:=by simpa using r
   have hx:((l.map enc).flatten++sp)[j]?=some ((nR enc k l.toArray)[j]!):=by rw[show(l.map enc).flatten=(nR enc k l.toArray).toList from hf.symm,cW hj2,cu,getElem!_pos _ j (by simpa using r)];exact eC _
   refine⟨?_,?_⟩;·rw[iK Q,b7];exact hx
   ·simp[World.frozen?,Q]
  have B:P0 E.P g #[.pointer (some ⟨q,0,none⟩)] enc k I b 0 l.toArray.size w:=by
   intro m z U L i j hi r;have e:Aj enc k w b 0 m U z=gw enc k (qo (nS w m) z) b 0 U:=by unfold Aj;rw[Sort.putRowK_grow _ _ (nS w m) _ b 0 _ A]
   have hHg:FB enc k (qo (nS w m) z) b 0 l.toArray:=Sort.holdsK_grow _ _ _ _ b 0 _ A (Sort.holdsK_ahead _ _ _ _ _ _ _ hH);refine hL _ q b cap U (by simpa using L) ?_ (λt u ht hu=>?_) i j (by simpa using hi) (by simpa using r);·rw[e,Sort.cell?_putRowK_other _ _ _ b 0 U _ (by exact hbb),Sort.cell?_grow _ _ _ (by exact R)];show w.cell? ⟨q,W,none⟩=_;rw[iK f2,<-dH];exact fj
   ·rw[e];exact((Sort.holdsK_putRowK _ _ _ b 0 l.toArray U hHg L).cell (i:=t) (c:=u) (by rw[L];simpa using ht) hu).1
  refine(hS.2 b cap l.toArray (by simp only[dh];omega) (by simpa using hsz) #[.pointer (some ⟨q,0,none⟩)] w B hH A).mono ?_;rintro e w'⟨rfl,C,n,z,hp,hso,rfl⟩;have D:C.size=l.length:=by simpa using hp.1
  refine⟨_,rfl,s C.toList ?_ ?_ _ ?_⟩;·have :=hp.2.2;rw[qH (by rw[D];simp),qH (by simp)]at this;exact this
  ·rw[iI];intro i j hi r hij;have :=hso i j (bJ _) hij (by simpa[D]using r);rw[getElem!_pos _ i (by simpa using hi),getElem!_pos _ j (by simpa using r)]at this;simpa using this
  ·have hF:(nR enc k C).size=((l.map enc).flatten).length:=by rw[I3 o,Sort.size_flatK,D]
   have hpw:Heap E ν (hset F (.box (uj ((C.toList.map enc).flatten++sp)) (some (bT b))) H) M (gw enc k w b 0 C):=by
    refine O.Ql X (b:=b) (by rw[G];rfl) (λj r=>?_) ?_ ⟨rfl,rfl,rfl⟩ ⟨⟨b,T,G,?_⟩,λv hv=>?_⟩;·simp only[gw,yN,uh,gr];rw[ai (λh=>r h.symm)]
    ·simp[gw,yN,uh]
    ·rw[ju];simp only[gw,yN,uh,gr,Q,cR,cJ,Sort.onCells];rw[wz hF,th o]
    ·cases hv;exact G
   exact hpw.mE (w':=qo (gw enc k (nS w n) b 0 C) z) (tj (gw enc k w b 0 C) z n)
end
end Go.X
namespace Go.Proofs
open Go.Shelf Go.RowKit Go.Lib Go.Sort
set_option maxHeartbeats 2000000 in theorem Ef(blk off c Bs size:Nat)(W:bQ)(G:Nat->ByteArray)(hs:W.cell? ⟨Bs,1,none⟩=some (.slice (some ⟨blk,off,none⟩) size c))(hc:∀t,t<size->W.cell? ⟨blk,off+t*2,none⟩=some (.string (G t)))(i j:Nat)(hi:i<size)(hj:j<size)(_hsz:size<4611686018427387904):Calls ab 196 #[.int .i64 i,.int .i64 j,.pointer (some ⟨Bs,0,none⟩)] W λe w'=>e=.returned (.bool (cd (G i).data.toList (G j).data.toList))/\∃q,w'=W.drewN q:=by have ci:=hc i hi;have cj:=hc j hj;go_enter P4,Tryz.ntmps196;go_wp2;go_quiet(fail);go_wp2;go_ret;refine⟨?_,nq,rfl⟩;rw[<-Fy,<-Fy];rfl
noncomputable def I8:TypeInfo:=(ab.info? 28).get (by kernel_rfl)
noncomputable def sw:TypeInfo:=(ab.info? 68).get (by kernel_rfl)
theorem RU(n:Nat)(e:2<=n):xi n sw 25=9:=by
 have a:sw.hasPointers=true:=by kernel_rfl
 have b:sw.bytes=40:=by kernel_rfl
 have c:(n==0)=false:=by simp;omega
 have d:(n==1)=false:=by simp;omega
 simp[xi,a,b,c,d]
end Go.Proofs
namespace Go.X.Vo
open Go Go.X Go.RowKit Go.X.Bg Go.X.Nm Go.X.Bp
theorem RV{a b c:List UInt8}(g:cd a b=false)(h:cd b c=false):cd a c=false:=by
 have e:=sf b a;have d:=sf c b;have f:=sf c a;rw[g,nQ,ug,br]at e;rw[h,nQ,ug,br]at d;rcases d with d|rfl
 ·rcases e with e|rfl;·rw[mH d e,Bool.true_or]at f;simpa using f.symm
  ·rw[d,Bool.true_or]at f;simpa using f.symm
 ·exact g
theorem abm:Sort.SWO Nj:=by refine⟨λx=>sg _,λx y z a b=>mH a b,λx y z a b=>RV a b⟩
def AU(w:WV):List ay:=[.string ⟨w.2.1.toArray⟩,bif w.1.oneCell' then w.1 else .bool false]
theorem I9(x:WV):(AU x).length=2:=rfl
theorem RW(x:WV):∀c∈AU x,c.oneCell'=true:=λc a=>by
 simp only[AU,aV,cH,fK]at a;rcases a with rfl|rfl;·rfl
 ·cases h:x.1.oneCell';·rfl
  ·exact h
theorem Vt{w:WV}(h:w.1.oneCell'=true):AU w=kL w:=by unfold AU kL;rw[h];rfl
theorem I'{l:List WV}(h:∀w∈l,w.1.oneCell'=true):l.map AU=l.map kL:=List.map_congr_left λw a=>Vt (h w a)
theorem RX(size:Nat)(a:size<4611686018427387904):RT ab 196 AU 2 Nj size 1:=λW d b c f g h k i j l m=>by refine(Proofs.Ef b 0 c d size W (λt=>⟨(f[t]!).2.1.toArray⟩) h (λt n=>k t 0 n (by omega)) i j l m a).mono ?_;rintro e u⟨rfl,q⟩;exact⟨rfl,q⟩
theorem Yu:Np ab 195 196 28 AU 2 Nj:=by
 refine⟨λp n c k i w=>?_,λb c d j g i w l m o=>?_⟩
 ·have :∃f,ab.funcs.findIdx? (·.name== "internal/reflectlite"++ ".Swapper$"++toString (xi n Proofs.sw 25))=some f:=by
   rcases bR n 1 with h|h
   ·have :n=0:=by omega
    subst this;exact⟨295,by kernel_rfl⟩
   ·have :n=1:=by omega
    subst this;exact⟨296,by kernel_rfl⟩
  obtain⟨f,q⟩:=this;exact Proofs.Any.sort_Slice_tiny Proofs.yj 28 68 Proofs.I8 Proofs.sw (by kernel_rfl) (by kernel_rfl) (by kernel_rfl) (by kernel_rfl) 25 (λ_=>by kernel_rfl) p n c k f q (.func 196) #[] i w
 ·exact Proofs.Any.sort_Slice_cells_sorted Proofs.yj 28 68 Proofs.I8 Proofs.sw (by kernel_rfl) (by kernel_rfl) (by kernel_rfl) (by kernel_rfl) 25 (λ_=>by kernel_rfl) AU 2 I9 (by kernel_rfl) (λ_=>by kernel_rfl) RW Nj abm 196 _ (Proofs.enters_of P4 (by kernel_rfl) rfl) b 0 c d j g 303 (by rw[Proofs.RU _ j];kernel_rfl) false (λa W=>run_callFunc_extern Proofs.Tryz.func303 (by kernel_rfl) (by kernel_rfl) (by kernel_rfl) (e:=vp false) (by kernel_rfl) a W) w l m o
/-! the sorted row is the one where the new volume stands at its place -/
theorem I_{l d:List WV}(f:d.Perm l)(o:d.Pairwise (λx y=>Nj y x=false))(c:l.Pairwise (λa b=>Nj a b=true)):d=l:=by
 refine f.eq_of_pairwise (le:=λx y=>Nj y x=false) (λa b p e g k=>?_) o (c.imp λ{a b}h=>?_)
 ·obtain⟨i,m,rfl⟩:=Ai.1 (f.subset p);obtain⟨j,n,rfl⟩:=Ai.1 e;rw[iI]at c;rcases Nat.lt_trichotomy i j with h|h|h;·have :=c i j m n h;rw[this]at k;cases k
  ·subst h;rfl
  ·have :=c j i n m h;rw[this]at g;cases g
 ·cases e:Nj b a with|false=>rfl|true=>have :=mH h e;rw[sg]at this;cases this
theorem RY{l c:List WV}{x:WV}(d:l.Pairwise (λa b=>Nj a b=true))(e:∀y∈l,y.2.1≠x.2.1)(f:c.Perm (l++[x]))(g:c.Pairwise (λx y=>Nj y x=false)):c=qx l x:=I_ (f.trans (vM x l).symm) g (CK x l d e)
end Go.X.Vo
