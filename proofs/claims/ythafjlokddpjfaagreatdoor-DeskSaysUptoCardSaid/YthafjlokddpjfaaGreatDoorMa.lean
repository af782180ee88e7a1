/- Contracts of functions, and the logic in which they are proved. Conditions: none. -/
import Derived.WalkKit
import Derived.Deep.Quiet
import Derived.IntWalk
import Derived.Laws.BytesString
import Derived.Laws.StructEq
import Derived.Laws.CopyRow
import Derived.Laws.MakeOwn
import Derived.Deep.AppendSrc
import Derived.Orders
import Derived.Test.YthafjlokddpjfaaGreatDoorProg
import Derived.KernelRfl
import Derived.ChangeSlices
import Derived.OpenShut
import Derived.Deep.Slices
import Derived.Lib.SmallJoins
import Derived.WideShapes
import Derived.SizedLaws
import Derived.Test.YthafjlokddpjfaaGreatDoorRows
import Derived.ProofKit
import Derived.StillTail
import Derived.OrdersHeld
set_option linter.all false
set_option maxHeartbeats 4000000
set_option maxRecDepth 20000
open And renaming intro->aa
open Array renaming ext'->j6,getElem?_append_left->mO,getElem?_eq_getElem->eC,getElem?_eq_some_iff->bV,getElem?_modify->gr,getElem?_setIfInBounds->Er,getElem?_toList->cu,length_toList->jE,range->PA,replicate->nV,size_append->Ew,toList_map->ud,toList_range->PM
open BitVec renaming ofInt->dR,toInt_ofInt->Py
open Bool renaming and_eq_true->ba,and_self->cK,and_true->yI,false_eq_true->bp,not_eq_true'->np,not_true->yH,true_and->fJ
open Decidable renaming decide->aU
open Function renaming comp_def->wi
open Go renaming Act->xp,Addr->qz,BinOp->ni,Code->lp,FuncId->kH,IntKind->jN,MapEntry->nh,Oper->db,Operand->bB,Program->bZ,ResultVar->mh,TypeId->bL,Value->ay,World->bQ,asIntOf->Eu,eqGuard->Es,execOp->da,getD_replicate_false->sG,grownCap->nt,isAgg->TM,madeCells->TO,maxLen->dB,ready_mono->L9,resolve->PL,run_convert_bytes_string->PK,run_underlying->a8,typeInfo->Ad,undef->dN,zeroValue->wA
open Go.Addr renaming add->Ac,add_lit->mg,add_zero'->jZ
open Go.Builtin renaming append_->fC,firstCells->L8,len_->tU,zeroCells->cU
open Go.ByteArray renaming toList_eq->Fy
open Go.Code renaming wp_mono->kq
open Go.Deferred renaming ofValue->yK
open Go.Ending renaming returned->uq
open Go.Exit renaming normal->fF
open Go.Instr renaming buildSlice->ph,field->Oh,fieldAt->yJ,fill->vZ,indexAt->pf,loadAt->qA,slice->Og,sliceAt->nd,sliceBound->BB,sliceBounds->AI,sureAddr->gj
open Go.IntKind renaming i64->bX
open Go.Op renaming bytesLess->cd,eqFields->TN,equal->kI,equalIn->nO,intArith->Fz,maxDepth->Et
open Go.Oper renaming upon->sF,wp->oC
open Go.Proofs.Tryz renaming prog->ab
open Go.Region renaming Mode->BC,binds->ue,chainB->lA,lexHead->Ex,lexTailB->DK,noSelect->iG,ready->el,seqB->BD,sinkB->mi,wanted->xr
open Go.Result renaming andThen_ok->aQ
open Go.RowKit renaming Below->um
open Go.RowKit.Below renaming refl->dQ
open Go.Sem renaming run_bind'->my,run_bind->a7,run_ite->jS,run_pure->bC
open Go.Value renaming int->cz,oneCell'->iR
open Go.Value.int renaming injEq->Pz
open Go.World renaming cell?->qv,setRow->v7
open Int renaming toNat_natCast->aX
open List renaming append_assoc->bN,append_nil->cS,cons_append->gW,drop->nc,drop_drop->l6,drop_eq_getElem_cons->ft,drop_eq_nil_of_le->bh,drop_succ_cons->cM,ext_getElem?->gA,extract_eq_take_drop->Hj,filterMap->iB,filterMap_cons->bK,flatten_append->j4,flatten_cons->jF,foldl_cons->lf,getD->kJ,getD_cons_succ->bA,getD_cons_zero->a_,getD_eq_getElem?_getD->cN,getElem?_append->pN,getElem?_append_left->cW,getElem?_append_right->nF,getElem?_cons_succ->Ae,getElem?_cons_zero->dS,getElem?_drop->fx,getElem?_eq_getElem->aP,getElem?_eq_none->dm,getElem?_eq_some_iff->aI,getElem?_map->aN,getElem?_range->A4,getElem?_set->nr,getElem?_take->i_,getElem?_take_of_lt->tD,getElem?_toArray->dH,getElem_mem->G4,length->dU,length_append->aG,length_cons->aM,length_drop->aT,length_eq_zero_iff->e_,length_map->ae,length_nil->bM,length_replicate->dT,length_set->eg,length_take->a6,map_append->bq,map_cons->ca,map_drop->fI,map_eq_nil_iff->yG,map_map->jB,map_nil->cr,map_set->oB,map_take->eH,mem_append->bU,mem_cons->aV,mem_cons_of_mem->bm,mem_cons_self->bn,mem_filterMap->bH,mem_flatten->rH,mem_map->dq,mem_of_getElem?->aL,mem_of_mem_drop->cG,mem_of_mem_take->cq,mem_replicate->A5,mem_singleton->bD,nil_append->eX,nodup_cons->gK,nodup_nil->kM,range->sE,replicate->bg,size_toArray->dh,take->fH,take_append_drop->iT,take_append_of_le_length->jC,take_zero->fE
open List.Sublist renaming refl->qB
open List.cons renaming inj->J4,injEq->A3
open Min renaming min->wg
open Nat renaming add_assoc->pd,add_mul->jH,add_zero->eJ,div_add_mod->J5,le_refl->bc,le_trans->b6,lt_or_ge->bR,min_eq_left->cT,mod_lt->Af,mul_comm->o8,mul_le_mul_right->il,strongRecOn->Hk,sub_zero->iS,xor_lt_two_pow->TL,zero_add->b7,zero_le->bJ,zero_mul->o7
open Ne renaming symm->wB
open Option renaming bind_some->b_,getD_some->dn,isSome_iff_exists->ij,isSome_none->nk,isSome_some->nj,map_eq_some_iff->dy,map_map->Ev,map_none->uo,map_some->cJ
open Option.some renaming injEq->aO
open Prod.mk renaming injEq->cD
open UInt8 renaming ofNat->bo
theorem ai:type_of% @if_neg:=@if_neg
theorem ax:type_of% @eq_false:=@eq_false
theorem aF:type_of% @if_pos:=@if_pos
theorem aK:type_of% @eq_true:=@eq_true
theorem aW:type_of% @of_decide_eq_true:=@of_decide_eq_true
theorem aY:type_of% @congrArg:=@congrArg
theorem br:type_of% @decide_eq_true_eq:=@decide_eq_true_eq
theorem bI:type_of% @decide_eq_false:=@decide_eq_false
theorem cy:type_of% @decide_eq_true:=@decide_eq_true
theorem cA:type_of% @if_false:=@if_false
theorem cR:type_of% @if_true:=@if_true
theorem cZ:type_of% @false_implies:=@false_implies
theorem c_:type_of% @true_implies:=@true_implies
theorem dr:type_of% @decide_true:=@decide_true
theorem dz:type_of% @true_and:=@true_and
theorem dM:type_of% @cond_true:=@cond_true
theorem dW:type_of% @decide_false:=@decide_false
theorem fK:type_of% @or_false:=@or_false
theorem fL:type_of% @and_true:=@and_true
theorem gy:type_of% @not_false_eq_true:=@not_false_eq_true
theorem jl:type_of% @decide_eq_false_iff_not:=@decide_eq_false_iff_not
theorem ln:type_of% @cond_false:=@cond_false
theorem mj:type_of% @of_decide_eq_false:=@of_decide_eq_false
theorem nU:type_of% @beq_eq_false_iff_ne:=@beq_eq_false_iff_ne
theorem pj:type_of% @beq_iff_eq:=@beq_iff_eq
namespace Go.X
open Go Go.RowKit
/-!### Symbolic values -/
inductive SV where|v(x:ay)|own(k:Nat)|ptr(k sz i off:Nat)|ea(x:ay)(sz i off:Nat)|agg(l:List SV)|tup(l:List SV)|fn(f:kH)(l:List SV)
def KD:ay->Nat|.pointer (some a)=>a.block|.slice (some a) _ _=>a.block|.map (some r)=>r|_=>0
mutual
def SV.cL(ν:Nat->ay):SV->ay
 |.v x=>x
 |.own k=>ν k
 |.ptr k c i b=>.pointer (some ⟨KD (ν k),i*c+b,none⟩)
 |.ea x c i b=>match x with|.slice (some a) _ _=>.pointer (some (a.add (i*c+b)))|_=>dN
 |.agg l=>.agg (aS ν l).toArray
 |.tup l=>.tuple (aS ν l).toArray
 |.fn f l=>.func (.func f) #[] (aS ν l).toArray
def aS(ν:Nat->ay):List SV->List ay|[]=>[]|s::l=>SV.cL ν s::aS ν l
end
mutual
def SV.noKey(d:Nat):SV->Bool|.v _=>true|.own k=>!(k/8==d)|.ptr k _ _ _=>!(k/8==d)|.ea _ _ _ _=>true|.agg l=>SV.jn d l|.tup l=>SV.jn d l|.fn _ l=>SV.jn d l
def SV.jn(d:Nat):List SV->Bool|[]=>true|s::l=>SV.noKey d s&&SV.jn d l
end
mutual
theorem nw{ν ν':Nat->ay}{d:Nat}(h:∀k,k/8≠d->ν' k=ν k):∀s:SV,s.noKey d=true->s.cL ν'=s.cL ν|.v _,_=>rfl|.own k,a=>by simp[SV.noKey]at a;simp[SV.cL,h k a]|.ptr k _ _ _,a=>by simp[SV.noKey]at a;simp[SV.cL,h k a]|.ea _ _ _ _,_=>rfl|.agg l,a=>by simp only[SV.noKey]at a;simp only[SV.cL,j7 h l a]|.tup l,a=>by simp only[SV.noKey]at a;simp only[SV.cL,j7 h l a]|.fn _ l,a=>by simp only[SV.noKey]at a;simp only[SV.cL,j7 h l a]
theorem j7{ν ν':Nat->ay}{d:Nat}(h:∀k,k/8≠d->ν' k=ν k):∀l:List SV,SV.jn d l=true->aS ν' l=aS ν l|[],_=>rfl|s::l,a=>by simp only[SV.jn,ba]at a;simp only[aS,nw h s a.1,j7 h l a.2]
end
theorem cC(ν:Nat->ay)(l:List SV):aS ν l=l.map (SV.cL ν):=by induction l<;>simp_all[aS]
/-!### Slots -/
abbrev dp:=List (Nat×Bool×SV)
def lk:dp->Nat->Option (Bool×SV)|[],_=>none|(k,p)::σ,j=>if j=k then some p else lk σ j
def opv(σ:dp):bB->Option (Bool×SV)|.tmp t=>lk σ t|.const v=>some (true,.v v)|.global g=>some (true,.v (.pointer (some ⟨g,0,none⟩)))|.func f=>some (true,.fn f [])
def Slots(N:Nat)(ν:Nat->ay)(σ:dp)(a:xp):Prop:=a.tmps.size=N/\a.defers=[]/\∀k g s,lk σ k=some (g,s)->a.tmps[k]?=some (bif g then s.cL ν else dN)
theorem Slots.mA{N:Nat}{ν:Nat->ay}{σ:dp}{a:xp}(h:Slots N ν σ a){x:bB}{g:Bool}{s:SV}(c:opv σ x=some (g,s))(d:g=true):a.eval x=s.cL ν:=by cases x with|tmp t=>have :=h.2.2 t g s c;simp[Act.eval,Array.getD_eq_getD_getElem?,this,d]|const v=>simp only[X.opv,aO,cD]at c;obtain⟨_,rfl⟩:=c;rfl|global b=>simp only[X.opv,aO,cD]at c;obtain⟨_,rfl⟩:=c;rfl|func f=>simp only[X.opv,aO,cD]at c;obtain⟨_,rfl⟩:=c;rfl
theorem Slots.ml{N:Nat}{ν:Nat->ay}{σ:dp}{a:xp}(h:Slots N ν σ a){d:Nat}(f:d<N){g:Bool}{s:SV}{x:ay}(i:x=bif g then s.cL ν else dN):Slots N ν ((d,g,s)::σ) (a.put (some d) x):=by
 obtain⟨c,j,l⟩:=h;refine⟨by simp[Act.put,c],by simp[Act.put,j],λk m n b=>?_⟩;simp only[lk]at b;simp only[Act.put,Er];split at b;·rename_i e;subst e;simp only[aO,cD]at b;obtain⟨rfl,rfl⟩:=b;simp[c,f,i]
 ·rename_i e;rw[ai (λo=>e o.symm)];exact l k m n b
def wa:List Nat->dp->dp|[],_=>[]|k::a,σ=>match lk σ k with|some p=>(k,p)::wa a σ|none=>wa a σ
theorem Uw{ks:List Nat}{σ:dp}{k:Nat}{p:Bool×SV}(h:lk (wa ks σ) k=some p):lk σ k=some p:=by
 induction ks with
  |nil=>simp[wa,lk]at h
  |cons j ks a=>
   simp only[wa]at h;split at h
   ·rename_i q b;simp only[lk]at h;split at h;·rename_i e;subst e;rw[b];exact h
    ·exact a h
   ·exact a h
theorem Slots.P_{N:Nat}{ν:Nat->ay}{σ σ':dp}{a:xp}(h:Slots N ν σ a)(b:∀k p,lk σ' k=some p->lk σ k=some p):Slots N ν σ' a:=⟨h.1,h.2.1,λk g s c=>h.2.2 k g s (b _ _ c)⟩
/-!### Memory -/
abbrev Mem:=Nat->Option Obj
def Mem.on(M:Mem)(w:bQ):Prop:=∀b o,M b=some o->w.heap[b]?=some o
def Mem.le(M N:Mem):Prop:=∀b o,M b=some o->N b=some o
theorem cg(M:Mem):M.le M:=λ_ _ h=>h
theorem Mem.le.dC{M N a:Mem}(h:M.le N)(b:N.le a):M.le a:=λ_ _ e=>b _ _ (h _ _ e)
def jT(M:Mem)(a:qz):Option ay:=match M a.block with|some (.cells c _ _)=>if a.spot.isSome then none else c[a.off]?|_=>none
theorem uy{M:Mem}{w:bQ}(h:M.on w){a:qz}{v:ay}(b:jT M a=some v):w.cell? a=some v:=by unfold jT at b;cases c:M a.block with|none=>simp[c]at b|some o=>rw[c]at b;have :=h _ _ c;unfold qv;rw[this];exact b
theorem BJ{M N:Mem}(h:M.le N){a:qz}{v:ay}(b:jT M a=some v):jT N a=some v:=by unfold jT at*;cases c:M a.block with|none=>simp[c]at b|some o=>rw[c]at b;rw[h _ _ c];exact b
inductive PO where|box(cs:List SV)(t:Option ay)|row(sz:Nat)(es:List (List ay))|tab(sz:Nat)(es:List (List SV))|mp(es:List (ay×ay))
abbrev HS:=List (Nat×PO)
def Ux(t:Option ay)(x:ay):Prop:=∀v,t=some v->x=v
def PO.jJ(ν:Nat->ay)(w:bQ)(x:ay):PO->Prop|.box h t=>(∃b T,x=.pointer (some ⟨b,0,none⟩)/\w.heap[b]?=some (.cells (aS ν h).toArray T (0,0)))/\Ux t x|.row f d=>(∀e∈d,e.length=f/\∀c∈e,c.oneCell'=true)/\((x=.slice none 0 0/\d=[])\/∃b a T g,x=.slice (some ⟨b,0,none⟩) d.length a/\d.length<=a/\a<=dB/\dU g=(a-d.length)*f/\w.heap[b]?=some (.cells (d.flatten++g).toArray T (0,0)))|.tab f d=>(∀e∈d.map (aS ν),e.length=f/\∀c∈e,c.oneCell'=true)/\((x=.slice none 0 0/\d.map (aS ν)=[])\/∃b a T g,x=.slice (some ⟨b,0,none⟩) (d.map (aS ν)).length a/\(d.map (aS ν)).length<=a/\a<=dB/\dU g=(a-(d.map (aS ν)).length)*f/\w.heap[b]?=some (.cells ((d.map (aS ν)).flatten++g).toArray T (0,0)))|.mp d=>∃(b:Nat)(m:Array nh)(c:Nat),x=.map (some b)/\w.heap[b]?=some (.map m c)/\m.toList.map (λe=>(e.key,e.val))=d/\(m.size=c/\∀(j:Nat)(e:nh),m[j]?=some e->e.born=j)
theorem sL{ν:Nat->ay}{w:bQ}{x:ay}{sz:Nat}{es:List (List SV)}:(PO.tab sz es).jJ ν w x=(PO.row sz (es.map (aS ν))).jJ ν w x:=rfl
def ee:ay->Option Nat|.pointer (some a)=>some a.block|.slice (some a) _ _=>some a.block|.map (some r)=>some r|_=>none
def fp(ν:Nat->ay)(H:HS):List Nat:=H.filterMap λp=>ee (ν p.1)
def hget:HS->Nat->Option PO|[],_=>none|(k,p)::H,j=>if j=k then some p else hget H j
structure Env where
 P:bZ
 N:Nat
 w0:bQ
 M0:Mem
structure Heap(E:Env)(ν:Nat->ay)(H:HS)(M:Mem)(w:bQ):Prop where
 holds:∀p∈H,p.2.jJ ν w (ν p.1)
 nodup:(fp ν H).Nodup
 apart:∀b∈fp ν H,M b=none/\E.w0.heap.size<=b
 mem:M.on w
 below:um E.w0.heap.size E.w0 w
 le0:E.M0.le M
 fresh:∀b,M b≠none->E.M0 b≠none\/E.w0.heap.size<=b
 one:∀k,(ν k).oneCell'=true
def Rep(E:Env)(σ:dp)(H:HS)(M:Mem)(a:xp)(w:bQ):Prop:=∃ν,Slots E.N ν σ a/\Heap E ν H M w
theorem bP{H:HS}{k:Nat}{p:PO}(h:hget H k=some p):(k,p)∈H:=by
 induction H with
  |nil=>simp[hget]at h
  |cons q H a=>
   simp only[hget]at h;split at h;·rename_i e;subst e;simp only[aO]at h;subst h;exact bn
   ·exact bm _ (a h)
/-!### Types, by shape -/
inductive Shp where|int(k:jN)|str|bool|slice(e sz:Nat)(agg:Bool)|struct(fs:List (Nat×Nat×Bool))(sz:Nat)|one|bad|arr(n sz tot:Nat)deriving DecidableEq
def iJ(P:bZ)(t:bL):Bool:=match P.underlying t with|some (.struct _)|some (.array _ _)=>true|_=>false
def yO(P:bZ)(t:bL):Nat:=((P.info? t).map (·.size)).getD 0
def f_(P:bZ)(t:bL):Shp:=match P.underlying t with
 |some (.int k)=>.int k
 |some .bool=>.bool
 |some .string=>.str
 |some (.slice e)=>match P.info? e with|some _=>.slice e (yO P e) (iJ P e)|none=>.bad
 |some (.struct a)=>if a.all (λf=>(P.info? f.type).isSome&&(P.underlying f.type).isSome)&&(P.info? t).isSome then .struct (a.toList.map λf=>(f.offset,yO P f.type,iJ P f.type)) (yO P t)else .bad
 |some (.array n e)=>if(P.info? e).isSome&&(P.info? t).isSome then .arr n (yO P e) (yO P t)else .bad
 |some _=>.one
 |none=>.bad
end Go.X
namespace Go.X
open Go Go.RowKit
def lo:jN->Int|.i8=>-128|.i16=>-32768|.i32=>-2147483648|.i64=>-9223372036854775808|.u8=>0|.u16=>0|.u32=>0|.u64=>0
def hi:jN->Int|.i8=>127|.i16=>32767|.i32=>2147483647|.i64=>9223372036854775807|.u8=>255|.u16=>65535|.u32=>4294967295|.u64=>18446744073709551615
def cY(k:jN)(n:Int):Prop:=lo k<=n/\n<=hi k
theorem fO{k:jN}{n:Int}(h:cY k n):k.wrap n=n:=by
 cases k;·exact IntWalk.i8_in n h
 ·exact IntWalk.i16_in n h
 ·exact IntWalk.i32_in n h
 ·exact IntWalk.i64_in n h
 ·exact IntWalk.u8_in n h
 ·exact IntWalk.u16_in n h
 ·exact IntWalk.u32_in n h
 ·exact IntWalk.u64_in n h
def bl(s:ByteArray):List UInt8:=s.data.toList
theorem bl_B(l:List UInt8):bl ⟨l.toArray⟩=l:=rfl
theorem aa3(s:ByteArray):ByteArray.mk (bl s).toArray=s:=by cases s;simp only[bl,Array.toArray_toList]
theorem pB(s:ByteArray):s.size=(bl s).length:=by cases s;simp only[bl,jE];rfl
def Zn(k:jN)(a b:Int):Int:=k.wrap (dR k.bits a|||dR k.bits b).toNat
def binI(c:ni)(k:jN)(a b:Int):ay×Prop:=match c with|.add=>(.int k (a+b),cY k (a+b))|.sub=>(.int k (a-b),cY k (a-b))|.mul=>(.int k (a*b),cY k (a*b))|.quo=>(.int k (a.tdiv b),b≠0/\cY k (a.tdiv b))|.rem=>(.int k (a.tmod b),b≠0)|.and=>(.int k ((a.toNat&&&b.toNat:Nat):Int),(0<=a/\a<=hi k)/\(0<=b/\b<=hi k))|.xor=>(.int k ((a.toNat^^^b.toNat:Nat):Int),(0<=a/\a<=hi k)/\(0<=b/\b<=hi k))|.or=>(.int k (Zn k a b),True)|.andNot=>(dN,False)|.eql=>(.bool (aU (a=b)),True)|.neq=>(.bool (!aU (a=b)),True)|.lss=>(.bool (aU (a<b)),True)|.leq=>(.bool (aU (a<=b)),True)|.gtr=>(.bool (aU (b<a)),True)|.geq=>(.bool (aU (b<=a)),True)|.shl=>(.int k (a*2^b.toNat),(0<=b/\b<=k.bits)/\cY k (a*2^b.toNat))|.shr=>(.int k (a/2^b.toNat),0<=b/\b<=k.bits)
def binS(c:ni)(a b:List UInt8):ay×Prop:=match c with|.add=>(.string ⟨(a++b).toArray⟩,((a.length+b.length:Nat):Int)<=9223372036854775807)|.eql=>(.bool (aU (a=b)),True)|.neq=>(.bool (!aU (a=b)),True)|.lss=>(.bool (cd a b),True)|.leq=>(.bool (cd a b||aU (a=b)),True)|.gtr=>(.bool (!(cd a b||aU (a=b))),True)|.geq=>(.bool (!(cd a b)),True)|.sub|.mul|.quo|.rem|.and|.xor|.or|.andNot|.shl|.shr=>(dN,False)
def sameKind:ni->jN->jN->Prop|.shl,_,_=>True|.shr,_,_=>True|.add,k,a|.sub,k,a|.mul,k,a|.quo,k,a|.rem,k,a|.and,k,a|.or,k,a|.xor,k,a|.andNot,k,a|.eql,k,a|.neq,k,a|.lss,k,a|.leq,k,a|.gtr,k,a|.geq,k,a=>k=a
def binB(c:ni)(a b:Bool):ay×Prop:=match c with|.eql=>(.bool (a==b),True)|.neq=>(.bool (!(a==b)),True)|_=>(dN,False)
def isSl:ay->Bool|.slice _ _ _=>true|_=>false
def someV:ay->Bool|.slice (some _) _ _=>true|_=>false
def Shp.Qa:Shp->Bool|.slice _ _ _=>true|_=>false
def nilB(S:Shp)(b:ni)(x:ay):ay×Prop:=match b with|.eql=>(.bool (!someV x),isSl x=true/\S.Qa=true)|.neq=>(.bool (someV x),isSl x=true/\S.Qa=true)|_=>(dN,False)
def bin(S:Shp)(c:ni)(x y:ay):ay×Prop:=match x,y with|.int k a,.int d b=>((binI c k a b).1,sameKind c k d/\(binI c k a b).2)|.string a,.string b=>binS c (bl a) (bl b)|.bool a,.bool b=>((binB c a b).1,S=.bool/\(binB c a b).2)|x,.slice none 0 0=>nilB S c x|_,_=>(dN,False)
theorem someV_none(n c:Nat):someV (.slice none n c)=false:=rfl
theorem bin_nil(S:Shp)(a:ni)(x:ay):bin S a x (.slice none 0 0)=nilB S a x:=by cases x<;>rfl
theorem kP(n:Nat)(a:Int)(b:0<=a)(h:a<2^n):(dR n a).toNat=a.toNat:=by obtain⟨m,rfl⟩:=Int.eq_ofNat_of_zero_le b;rw[BitVec.ofInt_natCast,BitVec.toNat_ofNat,aX];exact Nat.mod_eq_of_lt (by exact_mod_cast h)
theorem Ww(k:jN):hi k<2^k.bits:=by cases k<;>decide
theorem Wx(k:jN):lo k<=0:=by cases k<;>decide
theorem Xw(a b:Nat):a&&&b<=a:=Nat.and_le_left
theorem Xx(k:jN):∃n,hi k+1=(2^n:Nat):=by
 cases k;·exact⟨7,by decide⟩
 ·exact⟨15,by decide⟩
 ·exact⟨31,by decide⟩
 ·exact⟨63,by decide⟩
 ·exact⟨8,by decide⟩
 ·exact⟨16,by decide⟩
 ·exact⟨32,by decide⟩
 ·exact⟨64,by decide⟩
theorem Qb(k:jN)(a b:Int)(c:0<=a/\a<=hi k)(d:0<=b/\b<=hi k):bits .and k a b=((a.toNat&&&b.toNat:Nat):Int):=by have h:=Ww k;show k.wrap ((dR k.bits a&&&dR k.bits b).toNat:Int)=_;rw[BitVec.toNat_and,kP _ _ c.1 (by omega),kP _ _ d.1 (by omega)];refine fO ⟨by have :=Wx k;omega,?_⟩;have :=Xw a.toNat b.toNat;omega
theorem Qc(k:jN)(a b:Int)(c:0<=a/\a<=hi k)(d:0<=b/\b<=hi k):bits .xor k a b=((a.toNat^^^b.toNat:Nat):Int):=by
 have h:=Ww k;show k.wrap ((dR k.bits a^^^dR k.bits b).toNat:Int)=_;rw[BitVec.toNat_xor,kP _ _ c.1 (by omega),kP _ _ d.1 (by omega)];refine fO ⟨by have :=Wx k;omega,?_⟩;obtain⟨n,g⟩:=Xx k;have e:a.toNat<2^n:=by omega
 have f:b.toNat<2^n:=by omega
 have :=TL e f;omega
theorem wk{α:Type}[DecidableEq α](a b:List α):(a==b)=aU (a=b):=by by_cases h:a=b<;>simp[h]
theorem EC(s:ByteArray):s.toList=bl s:=Fy s
theorem Qd{P:bZ}(w:bQ)(op:ni)(t:bL)(x y:bB)(k k':jN)(a b:Int)(hk:sameKind op k k')(hC:(binI op k a b).2):(do Es op t x y (.int k a) (.int k' b);binOp op t (.int k a) (.int k' b):Sem ay).run P w=.ok (binI op k a b).1 w:=by
 cases op<;>simp only[sameKind]at hk<;>(try subst hk)<;>simp only[binI]at hC<;>(try exact hC.elim)<;>simp only[binI];case add=>simp[go_sem,Fz,fO hC]
 case sub=>simp[go_sem,Fz,fO hC]
 case mul=>simp[go_sem,Fz,fO hC]
 case quo=>simp[go_sem,Op.intDiv,hC.1,fO hC.2]
 case rem=>simp[go_sem,Op.intDiv,hC]
 case and=>simp[go_sem,Qb k a b hC.1 hC.2]
 case xor=>simp[go_sem,Qc k a b hC.1 hC.2]
 case or=>simp[go_sem];rfl
 case eql=>simp[go_sem];rfl
 case neq=>simp[go_sem,bne];rfl
 case lss=>simp[go_sem]
 case leq=>simp[go_sem]
 case gtr=>simp[go_sem]
 case geq=>simp[go_sem]
 case shl=>simp[go_sem,shift_shl k k' a b hC.1.1 hC.1.2,fO hC.2]
 case shr=>simp[go_sem,shift_shr k k' a b hC.1 hC.2]
theorem Qe{P:bZ}(w:bQ)(c:ni)(t:bL)(x y:bB)(a b:ByteArray)(d:(binS c (bl a) (bl b)).2):(do Es c t x y (.string a) (.string b);binOp c t (.string a) (.string b):Sem ay).run P w=.ok (binS c (bl a) (bl b)).1 w:=by
 have e:Es c t x y (.string a) (.string b)=pure ():=eqGuard_at_string ..;have f:binOp c t (.string a) (.string b)=Op.stringOp c a b:=by cases c<;>simp[binOp]
 have g:((a.size+b.size:Nat):Int)=((bl a).length+(bl b).length:Nat):=by rw[pB,pB]
 rw[e,f];cases c<;>simp only[binS]at d<;>simp only[binS,Op.stringOp,EC,a7,bC,aQ]<;>(try exact d.elim);case add=>rw[g,ai (by simp only[IntKind.max_i64];omega)];simp only[bC];congr 2
 all_goals simp only[wk]
theorem Qf{P:bZ}(w:bQ)(c:ni)(t:bL)(x y:bB)(a b:Bool)(d:P.underlying t=some .bool)(e:(binB c a b).2):(do Es c t x y (.bool a) (.bool b);binOp c t (.bool a) (.bool b):Sem ay).run P w=.ok (binB c a b).1 w:=by
 have f:Es c t x y (.bool a) (.bool b)=pure ():=eqGuard_at_bool ..;rw[f];cases c<;>simp only[binB]at e<;>(try exact e.elim);·show((kI t (.bool a) (.bool b)).bind _).run P w=_;rw[my,kI,Et,run_equalIn_bool w _ t a b d];rfl
 ·show((kI t (.bool a) (.bool b)).bind _).run P w=_;rw[my,kI,Et,run_equalIn_bool w _ t a b d];rfl
theorem Hw{P:bZ}{t:bL}(h:f_ P t=.bool):P.underlying t=some .bool:=by unfold f_ at h;split at h<;>(try split at h)<;>first|assumption|cases h
theorem Qg{P:bZ}{t:bL}(h:(f_ P t).Qa=true):∃e,P.underlying t=some (.slice e):=by unfold f_ at h;split at h<;>(try split at h)<;>first|exact⟨_,by assumption⟩|cases h
theorem Ak{P:bZ}(w:bQ)(d:Nat)(t e:bL)(a:Option qz)(n c b f:Nat)(h:P.underlying t=some (.slice e)):(nO (d+1) t (.slice a n c) (.slice none b f)).run P w=.ok a.isNone w:=by cases a<;>simp[nO,a8 h]
theorem Qh{P:bZ}(w:bQ)(d:ni)(t:bL)(x y:bB)(a:ay)(f:(nilB (f_ P t) d a).2):(do Es d t x y a (.slice none 0 0);binOp d t a (.slice none 0 0):Sem ay).run P w=.ok (nilB (f_ P t) d a).1 w:=by
 cases d<;>simp only[nilB]at f<;>(try exact f.elim);all_goals obtain⟨h,i⟩:=f;obtain⟨e,g⟩:=Qg i;cases a<;>simp only[isSl,reduceCtorEq]at h;rename_i b n c
 ·show((kI t (.slice b n c) (.slice none 0 0)).bind _).run P w=_;rw[my,kI,Et,Ak w 9999 t e b n c 0 0 g];cases b<;>rfl
 ·show((kI t (.slice b n c) (.slice none 0 0)).bind _).run P w=_;rw[my,kI,Et,Ak w 9999 t e b n c 0 0 g];cases b<;>rfl
theorem Uy{P:bZ}(w:bQ)(c:ni)(t:bL)(x y:bB)(a b:ay)(d:(bin (f_ P t) c a b).2):(do Es c t x y a b;binOp c t a b:Sem ay).run P w=.ok (bin (f_ P t) c a b).1 w:=by
 unfold bin at*;split at d;·exact Qd w c t x y _ _ _ _ d.1 d.2
 ·exact Qe w c t x y _ _ d
 ·exact Qf w c t x y _ _ (Hw d.1) d.2
 ·exact Qh w c t x y _ d
 ·exact d.elim
end Go.X
namespace Go.X
open Go Go.RowKit
def eB:ay->Nat|.slice _ n _=>n|_=>0
def gh:ay->Nat|.slice _ _ c=>c|_=>0
def mS(M:Mem)(x:ay)(j:Nat):Option ay:=match x with|.slice (some a) _ _=>jT M (a.add j)|_=>none
def xj(M:Mem)(x:ay)(sz i off:Nat):ay:=(mS M x (i*sz+off)).getD dN
def yU(M:Mem)(x:ay)(sz i off:Nat):Prop:=(mS M x (i*sz+off)).isSome=true
def FC(x:ay)(i:Int):Prop:=(0<=i/\i<eB x)/\someV x=true
def lC(x:ay)(sz lo hi:Nat):ay:=match x with|.slice a _ b=>.slice (if b=lo then a else a.map (·.add (lo*sz))) (hi-lo) (b-lo)|_=>dN
def cellsE(M:Mem)(x:ay)(sz i:Nat):Nat->Nat->List SV|_,0=>[]|a,n+1=>.v (xj M x sz i a)::cellsE M x sz i (a+1) n
def oksE(M:Mem)(x:ay)(sz i:Nat):Nat->Nat->Prop|_,0=>True|a,n+1=>yU M x sz i a/\oksE M x sz i (a+1) n
def Xy(M:Mem)(a:qz)(off:Nat):ay:=(jT M (a.add off)).getD dN
def Xz(M:Mem)(a:qz)(off:Nat):Prop:=(jT M (a.add off)).isSome=true
def cellsP(M:Mem)(a:qz):Nat->Nat->List SV|_,0=>[]|b,n+1=>.v (Xy M a b)::cellsP M a (b+1) n
def oksP(M:Mem)(a:qz):Nat->Nat->Prop|_,0=>True|b,n+1=>Xz M a b/\oksP M a (b+1) n
def lay:Shp->Option (Nat×Bool)|.int _=>some (1,false)|.str=>some (1,false)|.bool=>some (1,false)|.slice _ _ _=>some (1,false)|.struct _ c=>some (c,true)|.one=>some (1,false)|.bad=>none|.arr _ _ b=>some (b,true)
def bad:SV×Prop:=(.v dN,False)
def getSV(l:List SV)(j:Nat):SV:=l.getD j (.v dN)
def ldBox(cs:List SV)(off:Nat):Option (Nat×Bool)->SV×Prop|some (_,false)=>(getSV cs off,off<cs.length)|some (n,true)=>(.agg ((cs.drop off).take n),off+n<=cs.length)|none=>bad
def ldRow(es:List (List ay))(sz i off:Nat):Option (Nat×Bool)->SV×Prop|some (_,false)=>(.v ((es.getD i []).getD off dN),i<es.length/\off<sz)|some (n,true)=>(.agg ((((es.getD i []).drop off).take n).map .v),i<es.length/\off+n<=sz)|none=>bad
def ldTab(es:List (List SV))(sz i off:Nat):Option (Nat×Bool)->SV×Prop|some (_,false)=>(getSV (es.getD i []) off,i<es.length/\off<sz)|some (n,true)=>(.agg (((es.getD i []).drop off).take n),i<es.length/\off+n<=sz)|none=>bad
def ldE(M:Mem)(x:ay)(sz i off:Nat):Option (Nat×Bool)->SV×Prop|some (_,false)=>(.v (xj M x sz i off),yU M x sz i off)|some (n,true)=>(.agg (cellsE M x sz i off n),n≠0/\oksE M x sz i off n)|none=>bad
def ldP(M:Mem)(a:qz):Option (Nat×Bool)->SV×Prop|some (_,false)=>(.v (Xy M a 0),Xz M a 0)|some (n,true)=>(.agg (cellsP M a 0 n),oksP M a 0 n)|none=>bad
def ldK(p:Option PO)(sz i off:Nat)(L:Option (Nat×Bool)):SV×Prop:=match p with|some (.box c _)=>((ldBox c off L).1,i=0/\(ldBox c off L).2)|some (.row a b)=>((ldRow b sz i off L).1,sz=a/\(ldRow b sz i off L).2)|none=>bad|some (.tab a b)=>((ldTab b sz i off L).1,sz=a/\(ldTab b sz i off L).2)|some (.mp _)=>bad
def ld(H:HS)(M:Mem)(L:Option (Nat×Bool)):SV->SV×Prop|.ptr k c i b=>ldK (hget H k) c i b L|.ea x c i b=>ldE M x c i b L|.v (.pointer (some a))=>ldP M a L|_=>bad
/-! structs of integers, strings and bools, flat: are they equal? -/
def BK(F:bL->Option (List Shp))(P:bZ):List Field->Nat->Option (List Shp)|[],_=>some []|f::r,a=>if f.name≠ "_"/\f.offset=a then match F f.type with|some b=>if yO P f.type=b.length/\(P.info? f.type).isSome=true/\(iJ P f.type=false->b.length=1)then(BK F P r (a+b.length)).map (b++·)else none|none=>none else none
def tJ(P:bZ):Nat->bL->Option (List Shp)|0,_=>none|d+1,t=>match P.underlying t with|some (.int k)=>some [.int k]|some .string=>some [.str]|some .bool=>some [.bool]|some (.struct a)=>if P.stoodInHeld t then none else BK (tJ P d) P a.toList 0|_=>none
def Zo(P:bZ)(t:bL):Option (List Shp):=match P.underlying t with|some (.struct _)=>if P.eqGuardType P.depth t then none else tJ P 8 t|_=>none
def eqV:ay->ay->Bool|.int _ a,.int _ b=>aU (a=b)|.string a,.string b=>aU (bl a=bl b)|.bool a,.bool b=>a==b|_,_=>false
def kindP:Shp->ay->ay->Prop|.int k,.int a _,.int b _=>a=k/\b=k|.str,.string _,.string _=>True|.bool,.bool _,.bool _=>True|_,_,_=>False
def sM:List ay->List ay->Bool|x::l,y::a=>eqV x y&&sM l a|_,_=>true
def nW:List Shp->List ay->List ay->Prop|[],[],[]=>True|k::a,x::l,y::b=>kindP k x y/\nW a l b|_,_,_=>False
def eqLs:List SV->List SV->Bool|.v x::l,.v y::a=>eqV x y&&eqLs l a|_,_=>true
def okLs:List Shp->List SV->List SV->Prop|[],[],[]=>True|k::a,.v x::l,.v y::b=>kindP k x y/\okLs a l b|_,_,_=>False
def eqAgg(l a:List SV):Option (List Shp)->ni->SV×Prop|some b,.eql=>(.v (.bool (eqLs l a)),okLs b l a)|some b,.neq=>(.v (.bool (!eqLs l a)),okLs b l a)|_,_=>bad
def Qi(P:bZ)(t:bL):Bool:=match P.underlying t with|some (.pointer _)=>true|_=>false
def ptrNil(g:Bool):ni->SV×Prop|.eql=>(.v (.bool false),g=true)|.neq=>(.v (.bool true),g=true)|_=>bad
def binSV(P:bZ)(t:bL)(a:ni)(x y:SV):SV×Prop:=match x,y with|.v x,.v y=>(.v (bin (f_ P t) a x y).1,(bin (f_ P t) a x y).2)|.agg l,.agg b=>eqAgg l b (Zo P t) a|.ptr _ _ _ _,.v (.pointer none)=>ptrNil (Qi P t) a|_,_=>bad
def unV(a:UnOp)(x:ay):ay×Prop:=match a,x with|.not,.bool b=>(.bool (!b),True)|.neg,.int k n=>(.int k (-n),cY k (-n))|.xor,.int .i64 n=>(.int .i64 (-n-1),cY .i64 n)|_,_=>(dN,False)
def unSV(a:UnOp):SV->SV×Prop|.v x=>(.v (unV a x).1,(unV a x).2)|_=>bad
def convV(S D:Shp)(x:ay):ay×Prop:=match D,x with|.int k,.int _ n=>(.int k (k.wrap n),S≠.bad)|.str,.string s=>(.string s,S=.str)|_,_=>(dN,False)
def convSV(S D:Shp):SV->SV×Prop|.v x=>(.v (convV S D x).1,(convV S D x).2)|_=>bad
def j8:List ay->UInt8|[.int .u8 n]=>bo n.toNat|_=>0
def u8s:List (List ay)->Prop|[]=>True|[.int .u8 _]::r=>u8s r|_::_=>False
def elShp(P:bZ):Shp->Shp|.slice e _ _=>f_ P e|_=>.bad
def convRow:Option PO->SV×Prop|some (.row b a)=>(.v (.string ⟨(a.map j8).toArray⟩),b=1/\u8s a)|_=>(.v dN,False)
def convH(P:bZ)(H:HS)(s d:bL):SV->SV×Prop|.v x=>convSV (f_ P s) (f_ P d) (.v x)|.own k=>((convRow (hget H k)).1,(elShp P (f_ P s)=.int .u8/\f_ P d=.str)/\(convRow (hget H k)).2)|_=>(.v dN,False)
theorem convRow_none:convRow none=(.v dN,False):=rfl
theorem convRow_tab(sz:Nat)(es:List (List SV)):convRow (some (.tab sz es))=(.v dN,False):=rfl
def fc(s:List UInt8)(i:Int):Int:=((s.getD i.toNat 0).toNat:Nat)
def indexSV(S:Shp):SV->SV->SV×Prop|.v (.string s),.v (.int _ i)=>(.v (.int .u8 (fc (bl s) i)),S=.str/\(0<=i/\i<(bl s).length))|_,_=>bad
def sliceStr(s:List UInt8)(lo hi:Int):SV×Prop:=(.v (.string ⟨((s.drop lo.toNat).take (hi.toNat-lo.toNat)).toArray⟩),(0<=lo/\lo<=hi)/\hi<=s.length)
def sliceVal(sz:Nat)(y:ay)(lo hi:Int):SV×Prop:=(.v (lC y sz lo.toNat hi.toNat),isSl y=true/\(0<=lo/\lo<=hi)/\hi<=gh y)
def sliceSV(S:Shp)(x lo hi:SV):SV×Prop:=match S,x,lo,hi with|.str,.v (.string s),.v (.int _ i),.v (.int _ j)=>sliceStr (bl s) i j|.slice _ a _,.v y,.v (.int _ i),.v (.int _ j)=>sliceVal a y i j|_,_,_,_=>bad
def Qj(x:ay)(sz lo hi b:Nat):ay:=match x with|.slice a _ _=>.slice (if b=lo then a else a.map (·.add (lo*sz))) (hi-lo) (b-lo)|_=>dN
def rQ(S:Shp)(x lo hi a:SV):SV×Prop:=match S,x,lo,hi,a with|.slice _ b _,.v y,.v (.int _ i),.v (.int _ j),.v (.int _ k)=>(.v (Qj y b i.toNat j.toNat k.toNat),isSl y=true/\(0<=i/\i<=j)/\j<=k/\k<=gh y)|_,_,_,_,_=>bad
def qI(S:Shp)(H:HS)(x:SV):SV×Prop:=match S,x with
 |.str,.v (.string s)=>(.v (.int .i64 (bl s).length),True)
 |.slice _ _ _,.v y=>(.v (.int .i64 (eB y)),isSl y=true)
 |.slice _ _ _,.own k=>match hget H k with|some (.row _ a)=>(.v (.int .i64 a.length),True)|some (.tab _ a)=>(.v (.int .i64 a.length),True)|_=>bad
 |_,_=>bad
def sN(S:Shp)(f:Nat):Option (Nat×Nat×Bool):=match S with|.struct a _=>a[f]?|_=>none
def vq(S:Shp)(f:Nat)(x:SV):SV×Prop:=match sN S f,x with|some (a,_,false),.agg l=>(getSV l a,a<l.length)|some (a,n,true),.agg l=>(.agg ((l.drop a).take n),a+n<=l.length)|_,_=>bad
def mT(S:Shp)(f:Nat)(x:SV):SV×Prop:=match sN S f,x with|some (c,n,_),.ptr k d i b=>(.ptr k d i (b+c),n≠0)|some (c,n,_),.ea x d i b=>(.ea x d i (b+c),n≠0/\someV x=true)|some (c,n,_),.v (.pointer (some a))=>(.v (.pointer (some (a.add c))),n≠0)|_,_=>bad
def iW(S:Shp)(H:HS)(x i:SV):SV×Prop:=match S,x,i with
 |.slice _ b _,.v y,.v (.int _ i)=>(.ea y b i.toNat 0,FC y i)
 |.slice _ b _,.own k,.v (.int _ i)=>match hget H k with|some (.row c d)=>(.ptr k b i.toNat 0,b=c/\(0<=i/\i<d.length))|some (.tab c d)=>(.ptr k b i.toNat 0,b=c/\(0<=i/\i<d.length))|_=>bad
 |.arr n b _,.ptr k e i f,.v (.int _ j)=>(.ptr k e i (f+j.toNat*b),0<=j/\j<n)
 |.arr n b _,.v (.pointer (some a)),.v (.int _ j)=>(.v (.pointer (some (a.add (j.toNat*b)))),0<=j/\j<n)
 |_,_,_=>bad
def nilSV(x:SV):SV×Prop:=match x with|.ptr _ _ _ _=>(x,True)|.ea y _ _ _=>(x,someV y=true)|.v (.pointer (some _))=>(x,True)|.fn _ _=>(x,True)|_=>bad
def extSV(x:SV)(i:Nat):SV×Prop:=match x with|.tup l=>(getSV l i,i<l.length)|_=>bad
def pickSV(c:Bool)(a b:SV):SV:=match a,b with|.v (.bool x),.v (.bool y)=>.v (.bool (bif c then x else y))|a,b=>bif c then a else b
theorem pickSV_f(a b:SV):pickSV false a b=b:=by unfold pickSV;split<;>rfl
theorem pickSV_t(a b:SV):pickSV true a b=a:=by unfold pickSV;split<;>rfl
def cellsSV:SV->List SV|.agg l=>l|s=>[s]
def putAt(cs:List SV):Nat->List SV->List SV|_,[]=>cs|a,s::l=>putAt (cs.set a s) (a+1) l
def pW(c:List (Nat×Nat×Bool)):List SV->List (Nat×SV)->Option (List SV)|b,[]=>some b|b,(i,s)::r=>match c[i]? with|some (a,n,_)=>if(cellsSV s).length=n/\a+n<=b.length then pW c (putAt b a (cellsSV s)) r else none|none=>none
def oneV:ay->Bool|.agg _=>false|_=>true
def oneS:SV->Bool|.v x=>oneV x|.tup _=>false|_=>true
def onesP:List (Nat×SV)->Bool|[]=>true|(_,s)::r=>oneS s&&onesP r
def BL(P:bZ)(t:bL):Option (List ay):=((P.info? t).bind (·.zero)).map (·.cells.toList)
def sO(S:Shp)(z:Option (List ay))(a:List (Nat×SV)):SV×Prop:=match S,z with
 |.struct b _,some z=>match pW b (z.map .v) a with|some c=>(.agg c,onesP a=true)|none=>bad
 |_,_=>bad
def o1(σ:dp)(x:bB)(f:SV->SV×Prop):Bool×SV×Prop:=match opv σ x with|some (g,s)=>(g,f s)|none=>(true,bad)
def o2(σ:dp)(x y:bB)(f:SV->SV->SV×Prop):Bool×SV×Prop:=match opv σ x,opv σ y with|some (g,s),some (a,t)=>(g&&a,f s t)|_,_=>(true,bad)
def o3(σ:dp)(x y z:bB)(f:SV->SV->SV->SV×Prop):Bool×SV×Prop:=match opv σ x,opv σ y,opv σ z with|some (g,s),some (b,t),some (a,u)=>(g&&(b&&a),f s t u)|_,_,_=>(true,bad)
def o4(σ:dp)(x y z u:bB)(f:SV->SV->SV->SV->SV×Prop):Bool×SV×Prop:=match opv σ x,opv σ y,opv σ z,opv σ u with|some (g,s),some (b,t),some (a,u),some (c,v)=>(g&&(b&&(a&&c)),f s t u v)|_,_,_,_=>(true,bad)
def Wy(σ:dp)(c a b:bB):Bool×SV×Prop:=match opv σ c,opv σ a,opv σ b with|some (g,.v (.bool c)),some (d,a),some (e,b)=>(g,pickSV c a b,(c=true->d=true)/\(c=false->e=true))|_,_,_=>(true,bad)
def lJ(σ:dp):List (Nat×bB)->Option (Bool×List (Nat×SV))|[]=>some (true,[])|(i,x)::r=>match opv σ x,lJ σ r with|some (g,s),some (a,l)=>some (g&&a,(i,s)::l)|_,_=>none
def FD(P:bZ)(σ:dp)(t:bL)(a:List (Nat×bB)):Bool×SV×Prop:=match lJ σ a with|some (g,l)=>(g,sO (f_ P t) (BL P t) l)|none=>(true,bad)
def kj(σ:dp):List bB->Option (Bool×List SV)|[]=>some (true,[])|x::r=>match opv σ x,kj σ r with|some (g,s),some (a,l)=>some (g&&a,s::l)|_,_=>none
def mnmx(c:Bool)(x:SV)(l:List SV):SV×Prop:=match x,l with|s,[]=>(s,True)|.v (.int k a),.v (.int d b)::r=>((mnmx c (.v (.int k (bif c then max a b else wg a b))) r).1,k=d/\(mnmx c (.v (.int k (bif c then max a b else wg a b))) r).2)|_,_=>bad
def rL(P:bZ)(H:HS)(M:Mem)(σ:dp)(e:Op):Bool×SV×Prop:=match e with
 |.move x=>o1 σ x λs=>(s,True)
 |.assign x=>o1 σ x λs=>(s,True)
 |.pick c a b=>Wy σ c a b
 |.build t m=>FD P σ t m.toList
 |.load t a=>o1 σ a (ld H M (lay (f_ P t)))
 |.nilCheck x=>o1 σ x nilSV
 |.binOp e t x y _=>o2 σ x y (binSV P t e)
 |.unOp e _ x=>o1 σ x (unSV e)
 |.convert s d x=>o1 σ x (convH P H s d)
 |.slice t x (some h) (some j) none=>o3 σ x h j (sliceSV (f_ P t))
 |.slice t x (some h) (some j) (some n)=>o4 σ x h j n (rQ (f_ P t))
 |.slice t x none (some j) none=>o2 σ x j λa b=>sliceSV (f_ P t) a (.v (.int .i64 0)) b
 |.slice t x (some h) none none=>o2 σ x h λa b=>sliceSV (f_ P t) a b (qI (f_ P t) H a).1
 |.fieldAddr t x f=>o1 σ x (mT (f_ P t) f)
 |.field t x f=>o1 σ x (vq (f_ P t) f)
 |.indexAddr t x i=>o2 σ x i (iW (f_ P t) H)
 |.index t x i=>o2 σ x i (indexSV (f_ P t))
 |.extract x i=>o1 σ x λs=>extSV s i
 |.call c=>match c.callee,c.args.toList,c.argTypes.toList with
  |.builtin .len,[x],[t]=>o1 σ x (qI (f_ P t) H)
  |.builtin .min,x::l,_=>match opv σ x,kj σ l with|some (g,s),some (k,l)=>(g&&k,mnmx false s l)|_,_=>(true,bad)
  |.builtin .max,x::l,_=>match opv σ x,kj σ l with|some (g,s),some (k,l)=>(g&&k,mnmx true s l)|_,_=>(true,bad)
  |_,_,_=>(true,bad)
 |_=>(true,bad)
end Go.X
namespace Go.X
open Go Go.RowKit
section
variable{P:bZ}{H:HS}{M:Mem}{N:Nat}{ν:Nat->ay}{σ:dp}{a:xp}{w:bQ}{E:Env}
theorem oG(e:Slots N ν σ a){x:bB}{f:SV->SV×Prop}(c:(o1 σ x f).1=true)(b:(o1 σ x f).2.2):∃s,a.eval x=s.cL ν/\(f s).2/\(o1 σ x f).2.1=(f s).1:=by
 unfold o1 at*;split at b;·rename_i g s d;simp only[d]at c;exact⟨s,e.mA d c,b,rfl⟩
 ·exact b.elim
theorem xG(e:Slots N ν σ a){x y:bB}{f:SV->SV->SV×Prop}(c:(o2 σ x y f).1=true)(d:(o2 σ x y f).2.2):∃s t,a.eval x=s.cL ν/\a.eval y=t.cL ν/\(f s t).2/\(o2 σ x y f).2.1=(f s t).1:=by
 unfold o2 at*;split at d;·rename_i g s i t h b;simp only[h,b,ba]at c;exact⟨s,t,e.mA h c.1,e.mA b c.2,d,rfl⟩
 ·exact d.elim
theorem Uz(e:Slots N ν σ a){x y z:bB}{f:SV->SV->SV->SV×Prop}(d:(o3 σ x y z f).1=true)(h:(o3 σ x y z f).2.2):∃s t u,a.eval x=s.cL ν/\a.eval y=t.cL ν/\a.eval z=u.cL ν/\(f s t u).2/\(o3 σ x y z f).2.1=(f s t u).1:=by
 unfold o3 at*;split at h;·rename_i g s k t j u i c b;simp only[i,c,b,ba]at d;exact⟨s,t,u,e.mA i d.1,e.mA c d.2.1,e.mA b d.2.2,h,rfl⟩
 ·exact h.elim
theorem UA(h:Slots N ν σ a){x y z i:bB}{f:SV->SV->SV->SV->SV×Prop}(c:(o4 σ x y z i f).1=true)(j:(o4 σ x y z i f).2.2):∃s t u v,a.eval x=s.cL ν/\a.eval y=t.cL ν/\a.eval z=u.cL ν/\a.eval i=v.cL ν/\(f s t u v).2/\(o4 σ x y z i f).2.1=(f s t u v).1:=by
 unfold o4 at*;split at j;·rename_i g s m t l u n v k d b e;simp only[k,d,b,e,ba]at c;exact⟨s,t,u,v,h.mA k c.1,h.mA d c.2.1,h.mA b c.2.2.1,h.mA e c.2.2.2,j,rfl⟩
 ·exact j.elim
theorem mD(c:Slots N ν σ a):∀{l:List bB}{g:Bool}{ss:List SV},kj σ l=some (g,ss)->g=true->l.map a.eval=aS ν ss
 |[],g,ss,h,_=>by simp only[kj,aO,cD]at h;obtain⟨_,rfl⟩:=h;rfl
 |x::r,g,ss,h,b=>by
  unfold kj at h;split at h;·rename_i f s i l d e;simp only[aO,cD]at h;obtain⟨rfl,rfl⟩:=h;simp only[ba]at b;simp only[ca,aS,c.mA d b.1,mD c e b.2]
  ·cases h
theorem qJ(c:Slots N ν σ a):∀{l:List (Nat×bB)}{g:Bool}{ss:List (Nat×SV)},lJ σ l=some (g,ss)->g=true->l.map (λp=>(p.1,a.eval p.2))=ss.map (λp=>(p.1,p.2.cL ν))
 |[],g,ss,h,_=>by simp only[lJ,aO,cD]at h;obtain⟨_,rfl⟩:=h;rfl
 |(i,x)::r,g,ss,h,b=>by
  unfold lJ at h;split at h;·rename_i f s j l d e;simp only[aO,cD]at h;obtain⟨rfl,rfl⟩:=h;simp only[ba]at b;simp only[ca,c.mA d b.1,qJ c e b.2]
  ·cases h
/-! types -/
theorem xH{t:bL}(h:f_ P t≠.bad):∃d,P.underlying t=some d:=by cases a:P.underlying t with|some d=>exact⟨d,rfl⟩|none=>simp[f_,a]at h
theorem On{t:bL}(h:f_ P t≠.bad):(TM t).run P w=.ok (iJ P t) w:=by obtain⟨d,a⟩:=xH h;simp only[TM,a7,a8 a,aQ,iJ,a];cases d<;>rfl
theorem fN{t:bL}{i:TypeInfo}(h:P.info? t=some i):(sizeOf t).run P w=.ok (yO P t) w:=by simp[sizeOf,Ad,h,yO]
theorem BM{t:bL}{k:jN}(h:f_ P t=.int k):P.underlying t=some (.int k):=by unfold f_ at h;split at h<;>(try split at h)<;>first|(cases h;assumption)|cases h
theorem sP{t:bL}(h:f_ P t=.str):P.underlying t=some .string:=by unfold f_ at h;split at h<;>(try split at h)<;>first|assumption|cases h
theorem k7{t e sz:Nat}{g:Bool}(h:f_ P t=.slice e sz g):P.underlying t=some (.slice e)/\(∃i,P.info? e=some i)/\yO P e=sz:=by
 unfold f_ at h;split at h;case h_4 c a=>
  split at h;·rename_i i b;simp only[Shp.slice.injEq]at h;obtain⟨rfl,rfl,rfl⟩:=h;exact⟨a,⟨i,b⟩,rfl⟩
  ·cases h
 all_goals(try split at h)<;>cases h
theorem A8{t n sz a:Nat}(h:f_ P t=.arr n sz a):∃e,P.underlying t=some (.array n e)/\(∃i,P.info? e=some i)/\yO P e=sz/\(∃i,P.info? t=some i)/\yO P t=a:=by
 unfold f_ at h;split at h;case h_6 f c d=>
  split at h;·rename_i b;simp only[ba,ij]at b;simp only[Shp.arr.injEq]at h;obtain⟨rfl,rfl,rfl⟩:=h;exact⟨c,d,b.1,rfl,b.2,rfl⟩
  ·cases h
 all_goals(try split at h)<;>cases h
theorem sQ{t sz:Nat}{l:List (Nat×Nat×Bool)}(h:f_ P t=.struct l sz):∃a,P.underlying t=some (.struct a)/\a.toList.map (λf=>(f.offset,yO P f.type,iJ P f.type))=l/\(∀f∈a.toList,(∃i,P.info? f.type=some i)/\∃d,P.underlying f.type=some d)/\(∃i,P.info? t=some i)/\yO P t=sz:=by
 unfold f_ at h;split at h;case h_5 a c=>
  split at h;·rename_i b;simp only[ba,Array.all_eq_true',ij]at b;simp only[Shp.struct.injEq]at h;exact⟨a,c,h.1,λf e=>b.1 f (by simpa using e),b.2,h.2⟩
  ·cases h
 all_goals(try split at h)<;>cases h
theorem Hx{t n:Nat}{g:Bool}(h:lay (f_ P t)=some (n,g)):f_ P t≠.bad/\iJ P t=g/\(g=true->(∃i,P.info? t=some i)/\yO P t=n)/\(g=false->n=1):=by
 have p:f_ P t≠.bad:=by intro e;rw[e]at h;cases h
 refine⟨p,?_,?_,?_⟩
 ·cases a:f_ P t with
   |int k=>rw[a]at h;cases h;simp[iJ,BM a]
   |str=>rw[a]at h;cases h;simp[iJ,sP a]
   |bool=>rw[a]at h;cases h;simp[iJ,Hw a]
   |slice e c g=>rw[a]at h;cases h;simp[iJ,(k7 a).1]
   |struct l c=>rw[a]at h;cases h;obtain⟨q,b,_⟩:=sQ a;simp[iJ,b]
   |arr n c f=>rw[a]at h;cases h;obtain⟨e,b,_⟩:=A8 a;simp[iJ,b]
   |one=>
    rw[a]at h;cases h;unfold f_ at a;unfold iJ;split at a<;>(try split at a)<;>first|(cases a;done)|skip
    rename_i d u v w x r s b;rw[b];cases d<;>first|rfl|(exact absurd rfl (r _))|(exact absurd rfl (s _ _))
   |bad=>exact absurd a p
 ·intro j;subst j;cases a:f_ P t with|struct l c=>rw[a]at h;cases h;obtain⟨q,_,_,_,m,o⟩:=sQ a;exact⟨m,o⟩|arr n c f=>rw[a]at h;cases h;obtain⟨e,_,_,_,m,o⟩:=A8 a;exact⟨m,o⟩|_=>rw[a]at h;cases h
 ·intro j;subst j;cases a:f_ P t with|_=>rw[a]at h;cases h;try rfl
theorem eY{t n:Nat}{g:Bool}{ad:qz}(e:lay (f_ P t)=some (n,g))(cs:List ay)(b:cs.length=n)(d:∀j v,cs[j]?=some v->w.cell? (ad.add j)=some v):(loadVar t ad).run P w=.ok (if g then .agg cs.toArray else cs.getD 0 dN) w:=by obtain⟨f,h,k,l⟩:=Hx e;simp only[loadVar,a7,On f,aQ,h,jS];cases g with|true=>obtain⟨⟨i,m⟩,o⟩:=k rfl;simp only[cR,a7,fN m,aQ,o,<-b,run_loadCells_list w ad cs d,bC]|false=>have a:=l rfl;match cs,b.trans a with|[c],_=>have :=d 0 c rfl;simp only[jZ]at this;simp[run_load,this]
/-! loads -/
theorem vt(ν:Nat->ay)(l:List SV)(j:Nat)(h:j<l.length):(getSV l j).cL ν=(aS ν l).getD j dN:=by rw[cC];simp[getSV,kJ,aP h]
theorem FE(ad:qz)(i j:Nat):(ad.add i).add j=ad.add (i+j):=by unfold Ac;by_cases a:i=0<;>by_cases b:j=0<;>simp[a,b,pd]
theorem Al{x:ay}{ad:qz}{n c:Nat}(a:x=.slice (some ad) n c)(b:M.on w)(ν:Nat->ay)(sz i:Nat):∀(m off:Nat),oksE M x sz i off m->(aS ν (cellsE M x sz i off m)).length=m/\∀j v,(aS ν (cellsE M x sz i off m))[j]?=some v->w.cell? ((ad.add (i*sz+off)).add j)=some v|0,off,_=>⟨rfl,λj v h=>by simp[cellsE,aS]at h⟩|m+1,off,f=>by obtain⟨d,g⟩:=f;obtain⟨k,l⟩:=Al a b ν sz i m (off+1) g;refine⟨by simp[cellsE,aS,k],λj v h=>?_⟩;cases j with|zero=>simp only[cellsE,aS,SV.cL,dS,aO]at h;subst h;subst a;simp only[yU,mS]at d;obtain⟨u,e⟩:=ij.1 d;rw[jZ,xj,mS];simp only[e,dn];exact uy b e|succ j=>simp only[cellsE,aS,Ae]at h;have :=l j v h;rw[FE]at this⊢;rw[<-this];congr 2;omega
theorem Am{ad:qz}(a:M.on w)(ν:Nat->ay):∀(m off:Nat),oksP M ad off m->(aS ν (cellsP M ad off m)).length=m/\∀j v,(aS ν (cellsP M ad off m))[j]?=some v->w.cell? ((ad.add off).add j)=some v|0,off,_=>⟨rfl,λj v h=>by simp[cellsP,aS]at h⟩|m+1,off,d=>by obtain⟨b,e⟩:=d;obtain⟨f,g⟩:=Am a ν m (off+1) e;refine⟨by simp[cellsP,aS,f],λj v h=>?_⟩;cases j with|zero=>simp only[cellsP,aS,SV.cL,dS,aO]at h;subst h;simp only[Xz]at b;obtain⟨u,c⟩:=ij.1 b;rw[jZ,Xy];simp only[c,dn];exact uy a c|succ j=>simp only[cellsP,aS,Ae]at h;have :=g j v h;rw[FE]at this⊢;rw[<-this];congr 2;omega
theorem iK{b:Nat}{cs:List ay}{T:bL}{a:Nat×Nat}(h:w.heap[b]?=some (.cells cs.toArray T a))(j:Nat):w.cell? ⟨b,j,none⟩=cs[j]?:=by simp[qv,h]
theorem Hy{es:List (List ay)}{sz i off:Nat}(a:∀e∈es,e.length=sz)(hi:i<es.length)(g:off<sz):es.flatten[i*sz+off]?=some ((es.getD i []).getD off dN):=by induction es generalizing i with|nil=>simp at hi|cons e es c=>have b:e.length=sz:=a e bn;cases i with|zero=>simp only[o7,b7,jF,a_];rw[cW (by omega)];simp[kJ,aP (show off<e.length by omega)]|succ i=>rw[jF,nF (by rw[b,Nat.succ_mul];omega),bA];have :=c (λd f=>a d (bm _ f)) (i:=i) (by simpa using hi);rw[<-this];congr 1;rw[b,Nat.succ_mul];omega
theorem Hz{t n:Nat}{g:Bool}(Q:Heap E ν H M w)(y:lay (f_ P t)=some (n,g)){s:SV}(d:(ld H M (some (n,g)) s).2):(qA t (s.cL ν)).run P w=.ok ((ld H M (some (n,g)) s).1.cL ν) w:=by
 have z:=(Hx y).2.2.2;unfold ld at d⊢;split at d
 ·rename_i k u i a;try simp only
  unfold ldK at d⊢;split at d
  ·rename_i D tt R;try simp only
   obtain⟨rfl,d⟩:=d;obtain⟨⟨b,T,q,S⟩,_⟩:=Q.holds _ (bP R);simp only[SV.cL,q,KD,qA,gj,a7,bC,aQ,o7,b7];simp only at q;have J:=iK S;cases g with
    |false=>
     simp only[ldBox]at d⊢;obtain rfl:=z rfl;rw[eY y [(aS ν D).getD a dN] rfl];·simp[vt ν D a d]
     ·intro j v l;have U:(aS ν D).length=D.length:=by rw[cC];simp
      cases j with|zero=>simp only[dS,aO]at l;subst l;rw[jZ,J];simp[kJ,aP (show a<(aS ν D).length by omega)]|succ j=>simp at l
    |true=>
     simp only[ldBox]at d⊢;have U:(aS ν D).length=D.length:=by rw[cC];simp
     have K:aS ν ((D.drop a).take n)=((aS ν D).drop a).take n:=by simp[cC,eH,fI]
     rw[eY y (aS ν ((D.drop a).take n))];·simp[SV.cL]
     ·rw[K];simp;omega
     ·intro j v l;rw[K]at l;have A:j<n:=by
       rcases bR j n with h|h;·exact h
       ·rw[dm (by simp;omega)]at l;cases l
      rw[tD A,fx]at l;rw[mg,J];exact l
  ·rename_i X p R;try simp only
   obtain⟨rfl,d⟩:=d;obtain⟨B,Y⟩:=Q.holds _ (bP R);have f:i<p.length:=by cases g<;>exact d.1
   rcases Y with⟨_,rfl⟩|⟨b,Z,T,sp,q,_,_,_,S⟩;·simp at f
   simp only at q;simp only[SV.cL,q,KD,qA,gj,a7,bC,aQ];have J:=iK S;have m:∀o,o<u->w.cell? ⟨b,i*u+o,none⟩=some ((p.getD i []).getD o dN):=by
    intro o I;have F:=Hy (λe L=>(B e L).1) f I;rw[J,cW,F];rcases bR (i*u+o) p.flatten.length with h|h;·exact h
    ·rw[dm h]at F;cases F
   cases g with
    |false=>
     simp only[ldRow]at d⊢;obtain rfl:=z rfl;rw[eY y [(p.getD i []).getD a dN] rfl];·simp[SV.cL]
     ·intro j v l;cases j with|zero=>simp only[dS,aO]at l;subst l;rw[jZ,m a d.2]|succ j=>simp at l
    |true=>
     simp only[ldRow]at d⊢;have L:(p.getD i []).length=u:=by rw[kJ,aP f];exact(B _ (G4 f)).1
     have K:aS ν ((((p.getD i []).drop a).take n).map SV.v)=((p.getD i []).drop a).take n:=by
      rw[cC,jB];conv=>rhs;rw[<-List.map_id (((p.getD i []).drop a).take n)]
      rfl
     rw[eY y (((p.getD i []).drop a).take n)];·simp only[cR,SV.cL,K]
     ·simp only[a6,aT];omega
     ·intro j v l;have A:j<n:=by
       rcases bR j n with h|h;·exact h
       ·rw[dm (by simp;omega)]at l;cases l
      rw[tD A,fx]at l;rw[mg,pd,m (a+j) (by omega),kJ,l,dn]
  ·exact d.elim
  ·rename_i X p R;try simp only
   obtain⟨rfl,d⟩:=d;obtain⟨B,Y⟩:=Q.holds _ (bP R);have f:i<p.length:=by cases g<;>exact d.1
   have V:(p.map (aS ν)).getD i []=aS ν (p.getD i []):=by rw[cN,cN,aN,aP f];rfl
   rcases Y with⟨_,G⟩|⟨b,Z,T,sp,q,_,_,_,S⟩;·rw[yG]at G;subst G;simp at f
   simp only at q;simp only[SV.cL,q,KD,qA,gj,a7,bC,aQ];have J:=iK S;have m:∀o,o<u->w.cell? ⟨b,i*u+o,none⟩=some ((aS ν (p.getD i [])).getD o dN):=by
    intro o I;have F:=Hy (λe L=>(B e L).1) (show i<(p.map (aS ν)).length by rw[ae];exact f) I;rw[V]at F;rw[J,cW,F];rcases bR (i*u+o) (p.map (aS ν)).flatten.length with h|h;·exact h
    ·rw[dm h]at F;cases F
   have L:(aS ν (p.getD i [])).length=u:=by rw[<-V,kJ,aP (show i<(p.map (aS ν)).length by rw[ae];exact f)];exact(B _ (G4 _)).1
   have hel:(p.getD i []).length=u:=by rw[<-L,cC,ae]
   cases g with
    |false=>
     simp only[ldTab]at d⊢;generalize p.getD i []=N at*;obtain rfl:=z rfl;rw[eY y [(aS ν N).getD a dN] rfl];·have hgs:=vt ν N a (by rw[hel];exact d.2);rw[hgs];simp
     ·intro j v l;cases j with|zero=>simp only[dS,aO]at l;subst l;rw[jZ,m a d.2]|succ j=>simp at l
    |true=>
     simp only[ldTab]at d⊢;generalize p.getD i []=N at*;have K:aS ν ((N.drop a).take n)=((aS ν N).drop a).take n:=by simp[cC,eH,fI]
     rw[eY y (((aS ν N).drop a).take n)];·simp only[cR,SV.cL,K]
     ·simp only[a6,aT];omega
     ·intro j v l;have A:j<n:=by
       rcases bR j n with h|h;·exact h
       ·rw[dm (by simp;omega)]at l;cases l
      rw[tD A,fx]at l;rw[mg,pd,m (a+j) (by omega),kJ,l,dn]
  ·exact d.elim
 ·rename_i x u i a;try simp only
  have O:∃ad n c,x=.slice (some ad) n c:=by
   have W:∀o,yU M x u i o->∃ad n c,x=.slice (some ad) n c:=by
    intro o I;unfold yU mS at I;split at I;·exact⟨_,_,_,rfl⟩
    ·simp at I
   cases g with|false=>exact W a d|true=>cases n with|zero=>exact absurd rfl d.1|succ n=>exact W a d.2.1
  obtain⟨ad,n',c,O⟩:=O;have C:=Al (w:=w) O Q.mem ν u i;simp only[SV.cL,O,qA,gj,a7,bC,aQ];cases g with|false=>simp only[ldE]at d⊢;obtain rfl:=z rfl;have r:=C 1 a ⟨d,trivial⟩;rw[eY y _ r.1 r.2];simp[cellsE,aS,SV.cL,O]|true=>simp only[ldE]at d⊢;have r:=C n a d.2;rw[eY y _ r.1 r.2];simp[SV.cL,O]
 ·rename_i ad;try simp only
  have C:=Am (ad:=ad) (w:=w) Q.mem ν;simp only[SV.cL,qA,gj,a7,bC,aQ];cases g with|false=>simp only[ldP]at d⊢;obtain rfl:=z rfl;have r:=C 1 0 ⟨d,trivial⟩;rw[jZ]at r;rw[eY y _ r.1 r.2];simp[cellsP,aS,SV.cL]|true=>simp only[ldP]at d⊢;have r:=C n 0 d;rw[jZ]at r;rw[eY y _ r.1 r.2];simp[SV.cL]
 ·exact d.elim
end
end Go.X
namespace Go.X
open Go Go.RowKit
section
variable{P:bZ}{H:HS}{M:Mem}{N:Nat}{ν:Nat->ay}{σ:dp}{a:xp}{w:bQ}{E:Env}
theorem KE{b:UnOp}{s:SV}(a:(unSV b s).2):(Op.unary b (s.cL ν)).run P w=.ok ((unSV b s).1.cL ν) w:=by
 unfold unSV at a⊢;split at a
 ·simp only at a⊢;unfold unV at a⊢;split at a;·rfl
  ·rename_i k n;simp only[SV.cL,Op.unary,Fz,Int.zero_sub,fO a];rfl
  ·rename_i n;simp only[SV.cL,Op.unary,Op.intBits];show Result.ok (cz .i64 (bX.wrap ((dR 64 (-1)^^^dR 64 n).toNat:Int))) w=_;congr 2;have d:dR 64 (-1)^^^dR 64 n=dR 64 (-n-1):=by rw[show dR 64 (-1)=BitVec.allOnes 64 from by decide,BitVec.allOnes_xor];apply BitVec.eq_of_toInt_eq;rw[BitVec.not_eq_neg_add];simp only[BitVec.toInt_sub,BitVec.toInt_neg,Py];simp
   rw[d];have f:-9223372036854775808<=n/\n<=9223372036854775807:=a;rw[IntKind.wrap_i64];have e:(dR 64 (-n-1)).toInt=-n-1:=by rw[Py];simp only[Int.bmod];omega
   have c:=BitVec.toInt_eq_toNat_cond (dR 64 (-n-1));rw[e]at c;have g:=(dR 64 (-n-1)).isLt;split at c<;>omega
  ·exact a.elim
 ·exact a.elim
theorem FG{b c:bL}{s:SV}(a:(convSV (f_ P b) (f_ P c) s).2):(convert b c (s.cL ν)).run P w=.ok ((convSV (f_ P b) (f_ P c) s).1.cL ν) w:=by
 unfold convSV at a⊢;split at a
 ·simp only at a⊢;unfold convV at a⊢;split at a;·rename_i k h n f;obtain⟨d,g⟩:=xH a;have e:=BM f;simp only[SV.cL,convert,a7,a8 g,a8 e,aQ,f];cases d<;>rfl
  ·rename_i i f;have g:=sP a;have e:=sP f;simp only[SV.cL,convert,a7,a8 g,a8 e,aQ,f];rfl
  ·exact a.elim
 ·exact a.elim
theorem BN:∀(ns:List Int)(r:ByteArray),ns.foldl (λr n=>r.push (bo n.toNat)) r=⟨r.data++(ns.map λn=>bo n.toNat).toArray⟩|[],r=>by simp|n::ns,r=>by simp only[lf,ca];rw[BN ns];simp[ByteArray.push]
theorem HA:∀{es:List (List ay)},u8s es->∃ns:List Int,es.flatten=ns.map (cz .u8)/\es.map j8=ns.map (λn=>bo n.toNat)/\ns.length=es.length
 |[],_=>⟨[],rfl,rfl,rfl⟩
 |e::es,h=>by
  unfold u8s at h;split at h;·rename_i a;cases a
  ·rename_i n r a;obtain⟨rfl,rfl⟩:=J4 a;obtain⟨ns,b,c,d⟩:=HA h;exact⟨n::ns,by simp[b],by simp[c,j8],by simp[d]⟩
  ·exact h.elim
theorem HB{a c:bL}(F:Heap E ν H M w){s:SV}(o:(convH P H a c s).2):(convert a c (s.cL ν)).run P w=.ok ((convH P H a c s).1.cL ν) w:=by
 cases s with
  |v x=>exact FG o
  |own k=>
   simp only[convH]at o⊢;obtain⟨⟨m,G⟩,d⟩:=o;have r:=sP G;cases l:hget H k with
    |none=>rw[l]at d;exact d.elim
    |some p=>
     cases p with
      |box R t=>rw[l]at d;exact d.elim
      |tab I u=>rw[l]at d;exact d.elim
      |mp u=>rw[l]at d;exact d.elim
      |row I u=>
       rw[l]at d;obtain⟨rfl,J⟩:=d;obtain⟨e,f,g,q⟩:∃e f g,f_ P a=.slice e f g:=by
        unfold elShp at m;split at m;·rename_i e f g q;exact⟨e,f,g,q⟩
        ·cases m
       rw[q]at m;have y:=(k7 q).1;have z:=BM (show f_ P e=.int .u8 from m);obtain⟨A,K,L,N⟩:=HA J;obtain⟨_,B⟩:=F.holds _ (bP l);simp only at B;simp only[convRow,SV.cL];rcases B with⟨i,rfl⟩|⟨b,O,T,S,i,U,V,W,Q⟩;·rw[i,PK w a c e none 0 0 y z r];rfl
       ·rw[i,PK w a c e _ _ _ y z r];have C:=run_loadCells_list (P:=P) w ⟨b,0,none⟩ (A.map (cz .u8)) (λj v D=>by
         have n:(⟨b,0,none⟩:qz).add j=⟨b,j,none⟩:=by unfold Ac;split<;>simp_all
         rw[n,iK Q,K,cW (aI.1 D).1];exact D);rw[ae,N]at C;rw[run_bytesToString w _ _ _ A C,BN,L];simp[show ByteArray.empty.data=#[]from rfl]
  |_=>exact o.elim
theorem D4{t:bL}{s i:SV}(a:(indexSV (f_ P t) s i).2):(Instr.index t (s.cL ν) (i.cL ν)).run P w=.ok ((indexSV (f_ P t) s i).1.cL ν) w:=by
 unfold indexSV at a⊢;split at a
 ·rename_i s k n;obtain⟨c,d,h⟩:=a;have e:=sP c;have b:n.toNat<s.size:=by rw[pB];omega
  have f:s[n.toNat]?=some s[n.toNat]:=ByteArray.getElem?_lt' s _ b;simp only[SV.cL,Instr.index,Eu,a7,bC,aQ,a8 e,d,cR,f,fc];have g:(bl s).getD n.toNat 0=s[n.toNat]:=by
   have :n.toNat<(bl s).length:=by omega
   rw[kJ,aP this];rfl
  rw[g]
 ·exact a.elim
theorem Oo(s:ByteArray)(lo hi:Nat)(h:hi<=(bl s).length):s.extract lo hi=⟨(((bl s).drop lo).take (hi-lo)).toArray⟩:=by apply ByteArray.ext;rw[ByteArray.data_extract];apply j6;simp[bl,Hj]
theorem BO{t:bL}{s:ByteArray}{lo hi:Int}(g:P.underlying t=some .string)(i:(sliceStr (bl s) lo hi).2)(a b:Option ay)(d:(a=none/\lo=0)\/∃k,a=some (.int k lo))(e:(b=none/\hi=(bl s).length)\/∃k,b=some (.int k hi)):(nd t (.string s) a b none).run P w=.ok ((sliceStr (bl s) lo hi).1.cL ν) w:=by obtain⟨⟨f,p⟩,j⟩:=i;have l:=pB s;have c:s.extract lo.toNat hi.toNat=⟨(((bl s).drop lo.toNat).take (hi.toNat-lo.toNat)).toArray⟩:=Oo s _ _ (by omega);simp only[nd,a7,a8 g,aQ,Og,AI,sliceStr,SV.cL,<-c];have m:0<=hi/\hi<=(s.size:Int):=⟨by omega,by omega⟩;have n:0<=lo/\lo<=((hi.toNat:Nat):Int):=⟨f,by omega⟩;have o:0<=lo/\lo<=(s.size:Int):=⟨f,by omega⟩;rcases d with⟨rfl,rfl⟩|⟨k,rfl⟩<;>rcases e with⟨rfl,rfl⟩|⟨q,rfl⟩<;>simp[BB,Eu,a7,m,n,o,l];all_goals first|(intro h;exfalso;omega)|(rw[aF j,aF (by omega)])
theorem BP{t e:bL}{sz:Nat}{y:ay}{lo hi:Int}(l:P.underlying t=some (.slice e))(m:∃i,P.info? e=some i)(f:yO P e=sz)(o:(sliceVal sz y lo hi).2)(a b:Option ay)(g:(a=none/\lo=0)\/∃k,a=some (.int k lo))(d:(b=none/\hi=eB y)\/∃k,b=some (.int k hi)):(nd t y a b none).run P w=.ok ((sliceVal sz y lo hi).1.cL ν) w:=by obtain⟨p,⟨q,v⟩,r⟩:=o;obtain⟨i,j⟩:=m;cases y with|slice x n c=>simp only[eB,gh]at d r;simp only[nd,a7,a8 l,aQ,Og,AI,sliceVal,SV.cL,lC];have s:0<=hi/\hi<=(c:Int):=⟨by omega,by omega⟩;have u:0<=lo/\lo<=((hi.toNat:Nat):Int):=⟨q,by omega⟩;rcases g with⟨rfl,rfl⟩|⟨k,rfl⟩<;>rcases d with⟨rfl,rfl⟩|⟨z,rfl⟩<;>simp[BB,Eu,a7,s,u,fN j,f];all_goals(intro h;exfalso;omega)|_=>simp[isSl]at p
theorem HC{t r:bL}(q:Heap E ν H M w){s:SV}(f:(qI (f_ P t) H s).2)(args:Array ay)(u:args=#[s.cL ν]):(tU #[t] r args).run P w=.ok ((qI (f_ P t) H s).1.cL ν) w:=by
 subst u;unfold qI at f⊢;split at f;·rename_i s d;have i:=sP d;simp[tU,SV.cL,a8 i,goInt,pB,d]
 ·rename_i e v g y d;have i:=(k7 d).1;cases y with|slice A n c=>simp[tU,SV.cL,a8 i,goInt,eB,d]|_=>simp[isSl]at f
 ·rename_i e v g k d;have i:=(k7 d).1;split at f;·rename_i l x m;obtain⟨o,j⟩:=q.holds _ (bP m);simp only at j;rcases j with⟨a,rfl⟩|⟨b,p,T,z,a,_⟩<;>simp[tU,SV.cL,a8 i,goInt,a]
  ·rename_i l x m;obtain⟨o,j⟩:=q.holds _ (bP m);simp only[ae,yG]at j;rcases j with⟨a,rfl⟩|⟨b,p,T,z,a,_⟩<;>simp[tU,SV.cL,a8 i,goInt,a]
  ·exact f.elim
 ·exact f.elim
theorem rh{t:bL}{x lo hi:SV}(f:(sliceSV (f_ P t) x lo hi).2)(c d:Option ay)(a:c=some (lo.cL ν)\/(c=none/\lo=.v (.int .i64 0)))(b:d=some (hi.cL ν)\/(d=none/\hi=(qI (f_ P t) H x).1)):(nd t (x.cL ν) c d none).run P w=.ok ((sliceSV (f_ P t) x lo hi).1.cL ν) w:=by
 unfold sliceSV at f⊢;split at f;·rename_i s k i m j l;simp only[l,qI,SV.cL,SV.v.injEq,Pz]at a b⊢;exact BO (sP l) f _ _ (a.elim (λh=>.inr ⟨_,h⟩) (λh=>.inl ⟨h.1,h.2.2⟩)) (b.elim (λh=>.inr ⟨_,h⟩) (λh=>.inl ⟨h.1,h.2.2⟩))
 ·rename_i e q g y k i m j l;simp only[l,qI,SV.cL,SV.v.injEq,Pz]at a b⊢;obtain⟨n,o,p⟩:=k7 l;exact BP n o p f _ _ (a.elim (λh=>.inr ⟨_,h⟩) (λh=>.inl ⟨h.1,h.2.2⟩)) (b.elim (λh=>.inr ⟨_,h⟩) (λh=>.inl ⟨h.1,h.2.2⟩))
 ·exact f.elim
theorem BQ{t:bL}{x lo hi b:SV}(a:(rQ (f_ P t) x lo hi b).2):(nd t (x.cL ν) (some (lo.cL ν)) (some (hi.cL ν)) (some (b.cL ν))).run P w=.ok ((rQ (f_ P t) x lo hi b).1.cL ν) w:=by
 unfold rQ at a⊢;split at a;·rename_i e u g y v i z j A k h;obtain⟨m,⟨B,d⟩,f⟩:=k7 h;obtain⟨o,⟨p,C⟩,D,l⟩:=a;simp only[h,SV.cL];cases y with|slice E n c=>simp only[gh]at l;have q:0<=k/\k<=(c:Int):=⟨by omega,l⟩;have r:0<=j/\j<=((k.toNat:Nat):Int):=⟨by omega,by omega⟩;have s:0<=i/\i<=((j.toNat:Nat):Int):=⟨p,by omega⟩;simp[nd,a7,a8 m,aQ,Og,AI,Qj,BB,Eu,q,r,s,fN d,f];rw[aF (by omega),aF (by omega)]|_=>simp[isSl]at o
 ·exact a.elim
theorem mm{t n:Nat}{g:Bool}{l:List ay}{off:Nat}(c:∃i,P.info? t=some i)(e:∃d,P.underlying t=some d)(f:yO P t=n)(h:iJ P t=g)(a:if g then off+n<=l.length else off<l.length):(part t l.toArray off).run P w=.ok (if g then .agg ((l.drop off).take n).toArray else l.getD off dN) w:=by
 obtain⟨i,j⟩:=c;obtain⟨d,b⟩:=e;have k:(TM t).run P w=.ok (iJ P t) w:=by simp only[TM,a7,a8 b,aQ,iJ,b];cases d<;>rfl
 simp only[part,a7,k,aQ,h,jS];cases g with|true=>simp only[cR,a7,fN j,aQ,f,bC]at a⊢;congr 2;apply j6;simp[Hj]|false=>simp only[bp,cA]at a⊢;simp[kJ,aP a]
end
end Go.X
namespace Go.X
open Go Go.RowKit
section
variable{P:bZ}{H:HS}{M:Mem}{N:Nat}{ν:Nat->ay}{σ:dp}{a:xp}{w:bQ}{E:Env}
theorem BR:∀{a k2:List Shp}{U V:List ay},nW (a++k2) U V->nW a (U.take a.length) (V.take a.length)/\nW k2 (U.drop a.length) (V.drop a.length)/\sM U V=(sM (U.take a.length) (V.take a.length)&&sM (U.drop a.length) (V.drop a.length))|[],k2,U,V,h=>by simpa[nW,sM]using h|k::a,k2,[],V,h=>by simp[nW]at h|k::a,k2,x::U,[],h=>by simp[nW]at h|k::a,k2,x::U,y::V,h=>by obtain⟨b,c⟩:=h;obtain⟨d,e,f⟩:=BR c;simp only[aM,List.take_succ_cons,cM,nW,sM];exact⟨⟨b,d⟩,e,by rw[f,Bool.and_assoc]⟩
theorem BS:∀{ks:List Shp}{U V:List ay},nW ks U V->U.length=ks.length/\V.length=ks.length|[],[],[],_=>⟨rfl,rfl⟩|k::ks,x::U,y::V,h=>by obtain⟨a,b⟩:=BS h.2;simp[a,b]|[],[],_::_,h=>h.elim|[],_::_,_,h=>by cases h|_::_,[],_,h=>by cases h|_::_,_::_,[],h=>by cases h
def oK(g:Bool)(X:List ay):ay:=if g then .agg X.toArray else X.getD 0 dN
theorem ED{t n off:Nat}{X:List ay}(e:∃i,P.info? t=some i)(f:∃d,P.underlying t=some d)(g:yO P t=n)(h:off+n<=X.length)(c:iJ P t=false->n=1):(part t X.toArray off).run P w=.ok (oK (iJ P t) ((X.drop off).take n)) w:=by
 rw[mm e f g rfl (by
  cases a:iJ P t;·have :=c a;simp;omega
  ·simpa using h)];unfold oK;cases a:iJ P t
 ·have :=c a;subst this;have b:off<X.length:=by omega
  simp[kJ,b]
 ·rfl
theorem Oq{d t:Nat}{ks:List Shp}(h:tJ P d t=some ks):∃a,P.underlying t=some a:=by cases d with|zero=>simp[tJ]at h|succ d=>unfold tJ at h;cases b:P.underlying t with|none=>simp[b]at h|some a=>exact⟨a,rfl⟩
theorem An{d e:Nat}(B:∀t ks,tJ P d t=some ks->∀X Y,nW ks X Y->(nO (d+e) t (oK (iJ P t) X) (oK (iJ P t) Y)).run P w=.ok (sM X Y) w)(X Y:List ay):∀(C:List Field)(off:Nat)(ks:List Shp),BK (tJ P d) P C off=some ks->nW ks (X.drop off) (Y.drop off)->(TN (d+e) X.toArray Y.toArray C).run P w=.ok (sM (X.drop off) (Y.drop off)) w
 |[],off,ks,h,u=>by simp only[BK,aO]at h;subst h;have :=BS u;have o:X.drop off=[]:=e_.1 (by simpa using this.1);rw[o];simp[TN,sM]
 |f::r,off,ks,h,u=>by
  simp only[BK]at h;split at h
  ·rename_i E;obtain⟨z,rfl⟩:=E;cases v:tJ P d f.type with
    |none=>rw[v]at h;cases h
    |some b=>
     rw[v]at h;simp only at h;split at h
     ·rename_i F;obtain⟨m,G,n⟩:=F;obtain⟨D,H,rfl⟩:=dy.1 h;obtain⟨I,J,K⟩:=BR u;have p:=BS u;simp only[aT,aG]at p;have L:∀Z:List ay,Z.length-f.offset=b.length+D.length->(b.length≠0->f.offset+b.length<=Z.length):=λZ O x=>by omega
      have a:f.offset+b.length<=X.length/\f.offset+b.length<=Y.length\/b.length=0:=by omega
      have g:∃i,P.info? f.type=some i:=ij.1 G;have y:=Oq v;have q:=B _ _ v _ _ I;have s:=An B X Y r (f.offset+b.length) D H (by rw[<-l6,<-l6];exact J);have M:(part f.type X.toArray f.offset).run P w=.ok (oK (iJ P f.type) ((X.drop f.offset).take b.length)) w:=by
       rcases a with a|x;·exact ED g y m a.1 n
       ·rw[x]at m n⊢;have j:iJ P f.type=true:=by
         cases k:iJ P f.type;·have :=n k;omega
         ·rfl
        obtain⟨i,l⟩:=g;obtain⟨A,c⟩:=y;have o:(TM f.type).run P w=.ok (iJ P f.type) w:=by simp only[TM,a7,a8 c,aQ,iJ,c];cases A<;>rfl
        simp only[part,a7,o,aQ,j,jS,cR,fN l,m,bC,oK];simp
      have N:(part f.type Y.toArray f.offset).run P w=.ok (oK (iJ P f.type) ((Y.drop f.offset).take b.length)) w:=by
       rcases a with a|x;·exact ED g y m a.2 n
       ·rw[x]at m n⊢;have j:iJ P f.type=true:=by
         cases k:iJ P f.type;·have :=n k;omega
         ·rfl
        obtain⟨i,l⟩:=g;obtain⟨A,c⟩:=y;have o:(TM f.type).run P w=.ok (iJ P f.type) w:=by simp only[TM,a7,a8 c,aQ,iJ,c];cases A<;>rfl
        simp only[part,a7,o,aQ,j,jS,cR,fN l,m,bC,oK];simp
      rw[K];simp only[TN,z,ne_eq,gy,cR,a7,M,N,q,aQ];cases Q:sM (fH b.length (nc f.offset X)) (fH b.length (nc f.offset Y));·simp
      ·simp only[yH,bp,cA,fJ,l6];exact s
     ·cases h
  ·cases h
theorem xI:∀(d e t:Nat)(ks:List Shp),tJ P d t=some ks->∀X Y,nW ks X Y->(nO (d+e) t (oK (iJ P t) X) (oK (iJ P t) Y)).run P w=.ok (sM X Y) w
 |0,e,t,ks,h,X,Y,_=>by simp[tJ]at h
 |d+1,e,t,ks,h,X,Y,a=>by
  have f:d+1+e=(d+e)+1:=by omega
  unfold tJ at h;split at h
  ·rename_i k c;cases h;match X,Y,a with
    |[x],[y],a=>
     obtain⟨g,_⟩:=a;have b:iJ P t=false:=by simp[iJ,c]
     rw[b,f];simp only[oK,bp,cA,a_,sM,yI];cases x<;>cases y<;>simp only[kindP]at g;obtain⟨rfl,rfl⟩:=g;rw[run_equalIn_int w (d+e) t _ _ _ _ c];simp only[eqV];congr 1
    |[],_,a=>simp[nW]at a
    |_::_::_,Y,a=>cases Y<;>simp[nW]at a
    |[x],[],a=>simp[nW]at a
    |[x],_::_::_,a=>simp[nW]at a
  ·rename_i c;cases h;match X,Y,a with
    |[x],[y],a=>
     obtain⟨g,_⟩:=a;have b:iJ P t=false:=by simp[iJ,c]
     rw[b,f];simp only[oK,bp,cA,a_,sM,yI];cases x<;>cases y<;>simp only[kindP]at g;rw[run_equalIn_string w (d+e) t _ _ c];simp only[eqV,EC,wk]
    |[],_,a=>simp[nW]at a
    |_::_::_,Y,a=>cases Y<;>simp[nW]at a
    |[x],[],a=>simp[nW]at a
    |[x],_::_::_,a=>simp[nW]at a
  ·rename_i c;cases h;match X,Y,a with
    |[x],[y],a=>
     obtain⟨g,_⟩:=a;have b:iJ P t=false:=by simp[iJ,c]
     rw[b,f];simp only[oK,bp,cA,a_,sM,yI];cases x<;>cases y<;>simp only[kindP]at g;rw[run_equalIn_bool' w (d+e) t _ _ c];rfl
    |[],_,a=>simp[nW]at a
    |_::_::_,Y,a=>cases Y<;>simp[nW]at a
    |[x],[],a=>simp[nW]at a
    |[x],_::_::_,a=>simp[nW]at a
  ·rename_i l c;split at h;·cases h
   ·rename_i j;have b:iJ P t=true:=by simp[iJ,c]
    have i:P.fieldsOf t=l:=by simp[Program.fieldsOf,c]
    rw[b,f];simp only[oK,cR];rw[run_equalIn_struct w (d+e) t _ _ (by rw[i];exact c) (by simpa using j),i];exact An (λt ks h X Y=>xI d e t ks h X Y) X Y l.toList 0 ks h a
  ·cases h
theorem yV(ν:Nat->ay):∀{ks:List Shp}{l a:List SV},okLs ks l a->nW ks (aS ν l) (aS ν a)/\eqLs l a=sM (aS ν l) (aS ν a)|[],[],[],_=>⟨trivial,rfl⟩|k::ks,.v x::l,.v y::a,h=>by obtain⟨b,c⟩:=yV ν h.2;simp only[aS,SV.cL,nW,eqLs,sM];exact⟨⟨h.1,b⟩,by rw[c]⟩|[],[],_::_,h=>h.elim|[],_::_,_,h=>by cases h|_::_,[],_,h=>by cases h|k::ks,s::l,[],h=>by cases s<;>exact h.elim|k::ks,s::l,d::a,h=>by cases s<;>cases d<;>first|exact h.elim|(obtain⟨b,c⟩:=yV ν h.2;simp only[aS,SV.cL,nW,eqLs,sM];exact⟨⟨h.1,b⟩,by rw[c]⟩)
theorem Ot{t:bL}{c:ni}{x y:bB}{l d:List SV}(b:(eqAgg l d (Zo P t) c).2):(do Es c t x y (.agg (aS ν l).toArray) (.agg (aS ν d).toArray);binOp c t (.agg (aS ν l).toArray) (.agg (aS ν d).toArray):Sem ay).run P w=.ok ((eqAgg l d (Zo P t) c).1.cL ν) w:=by
 cases a:Zo P t with
  |none=>rw[a]at b;exact b.elim
  |some f=>
   rw[a]at b;unfold Zo at a;split at a
   ·rename_i k g;split at a;·cases a
    ·rename_i h;have e:iJ P t=true:=by simp[iJ,g]
     cases c<;>simp only[eqAgg]at b⊢<;>try exact b.elim
     all_goals obtain⟨i,j⟩:=yV ν b;have :=xI (w:=w) 8 9992 t f a _ _ i;rw[e]at this;simp only[oK,cR]at this;simp only[a7,run_eqGuard_agg w _ t x y _ _ (by simpa using h),aQ,run_eql_struct,run_neq_struct,this,SV.cL,j]
   ·cases a
theorem KF{t:bL}{a:ni}{x y:bB}{p:qz}(c:(ptrNil (Qi P t) a).2):(do Es a t x y (.pointer (some p)) (.pointer none);binOp a t (.pointer (some p)) (.pointer none):Sem ay).run P w=.ok ((ptrNil (Qi P t) a).1.cL ν) w:=by
 have b:Qi P t=true->(kI t (.pointer (some p)) (.pointer none)).run P w=.ok false w:=λh=>by
  unfold Qi at h;split at h
  ·rename_i e f;have g:∀d:Nat,(nO (d+1) t (.pointer (some p)) (.pointer none)).run P w=.ok false w:=λd=>by simp[nO,a8 f]
   rw[kI,Et];exact g 9999
  ·cases h
 cases a<;>simp only[ptrNil]at c<;>(try exact c.elim);·show((kI t (.pointer (some p)) (.pointer none)).bind _).run P w=_;rw[my,b c];rfl
 ·show((kI t (.pointer (some p)) (.pointer none)).bind _).run P w=_;rw[my,b c];rfl
theorem HD{t u:bL}{c:ni}{x y:bB}{s d:SV}(e:a.eval x=s.cL ν)(f:a.eval y=d.cL ν)(b:(binSV P t c s d).2):(do Es c t x y (a.eval x) (a.eval y);binOp c t (a.eval x) (a.eval y):Sem ay).run P w=.ok ((binSV P t c s d).1.cL ν) w:=by
 unfold binSV at b⊢;split at b;·rw[e,f];exact Uy w c t x y _ _ b
 ·rename_i l g;rw[e,f];simp only[SV.cL];exact Ot b
 ·rw[e,f];exact KF b
 ·exact b.elim
theorem nx{t f off n:Nat}{g:Bool}(h:sN (f_ P t) f=some (off,n,g)):∃b a,P.underlying t=some (.struct b)/\b[f]?=some a/\a.offset=off/\yO P a.type=n/\iJ P a.type=g/\(∃i,P.info? a.type=some i)/\∃d,P.underlying a.type=some d:=by
 unfold sN at h;split at h;·rename_i l p k;obtain⟨b,m,o,e,_⟩:=sQ k;rw[<-o,aN]at h;cases c:b.toList[f]? with|none=>simp[c]at h|some a=>simp only[c,cJ,aO,cD]at h;have j:=aL c;exact⟨b,a,m,by rw[<-cu];exact c,h.1,h.2.1,h.2.2,(e a j).1,(e a j).2⟩
 ·cases h
theorem D5{t f:Nat}{s:SV}(b:(vq (f_ P t) f s).2):(Oh t (s.cL ν) f).run P w=.ok ((vq (f_ P t) f s).1.cL ν) w:=by
 unfold vq at b⊢;split at b
 ·rename_i off n l c;obtain⟨o,e,g,a,h,i,j,k,m⟩:=nx c;have d:(aS ν l).length=l.length:=by rw[cC];simp
  have :=mm (P:=P) (w:=w) (l:=aS ν l) (off:=off) k m i j (by simp only[bp,cA];simp only at b;omega);simp only[Oh,a7,a8 g,aQ,a,SV.cL,asAgg,bC,h,this,c,bp,cA];rw[vt ν l off b]
 ·rename_i off n l c;obtain⟨o,e,g,a,h,i,j,k,m⟩:=nx c;have d:(aS ν l).length=l.length:=by rw[cC];simp
  have p:aS ν ((l.drop off).take n)=((aS ν l).drop off).take n:=by simp[cC,eH,fI]
  have :=mm (P:=P) (w:=w) (l:=aS ν l) (off:=off) k m i j (by simp only[cR];simp only at b;omega);simp only[Oh,a7,a8 g,aQ,a,SV.cL,asAgg,bC,h,this,c,cR,p]
 ·exact b.elim
theorem xJ{t f:Nat}{s:SV}(a:(mT (f_ P t) f s).2):(yJ t (s.cL ν) f).run P w=.ok ((mT (f_ P t) f s).1.cL ν) w:=by
 unfold mT at a⊢;split at a;·rename_i r n g k A i p d;obtain⟨u,e,h,b,j,l,v,⟨y,o⟩,z⟩:=nx d;simp only at a;simp only[yJ,a7,a8 h,aQ,b,SV.cL,gj,bC,fieldPlace,fN o,l,jS,ai a,j,d,mg,pd]
 ·rename_i r n g x A i p d;obtain⟨u,e,h,b,j,l,v,⟨y,o⟩,z⟩:=nx d;simp only at a;cases x with
   |slice q m c=>cases q with|some q=>simp only[yJ,a7,a8 h,aQ,b,SV.cL,gj,bC,fieldPlace,fN o,l,jS,ai a.1,j,d,FE,pd]|none=>simp[someV]at a
   |_=>simp[someV]at a
 ·rename_i r n g q d;obtain⟨u,e,h,b,j,l,v,⟨y,o⟩,z⟩:=nx d;simp only at a;simp only[yJ,a7,a8 h,aQ,b,SV.cL,gj,bC,fieldPlace,fN o,l,jS,ai a,j,d]
 ·exact a.elim
theorem xK{t:Nat}(F:Heap E ν H M w){s i:SV}(o:(iW (f_ P t) H s i).2):(pf t (s.cL ν) (i.cL ν)).run P w=.ok ((iW (f_ P t) H s i).1.cL ν) w:=by
 unfold iW at o⊢;split at o;·rename_i e x g y k n f;obtain⟨q,⟨z,d⟩,r⟩:=k7 f;obtain⟨⟨p,j⟩,G⟩:=o;cases y with
                              |slice I m c=>cases I with|some I=>simp only[eB]at j;simp only[f,pf,SV.cL,Eu,a7,bC,aQ,a8 q,jS,p,j,and_self,cR,fN d,r,eJ]|none=>simp[someV]at G
                              |_=>simp[someV]at G
 ·rename_i e x g k J n f;obtain⟨q,⟨z,d⟩,r⟩:=k7 f;split at o
  ·rename_i A K u;obtain⟨rfl,p,j⟩:=o;obtain⟨B,v⟩:=F.holds _ (bP u);rcases v with⟨_,rfl⟩|⟨b,C,T,L,l,_⟩;·simp at j;omega
   ·simp only at l;simp only[f,u,pf,SV.cL,l,KD,Eu,a7,bC,aQ,a8 q,jS,p,j,and_self,cR,fN d,r,mg,b7,eJ]
  ·rename_i A K u;obtain⟨rfl,p,j⟩:=o;obtain⟨B,v⟩:=F.holds _ (bP u);rw[ae,yG]at v;rcases v with⟨_,rfl⟩|⟨b,C,T,L,l,_⟩;·simp at j;omega
   ·simp only at l;simp only[f,u,pf,SV.cL,l,KD,Eu,a7,bC,aQ,a8 q,jS,p,j,and_self,cR,fN d,r,mg,b7,eJ]
  ·exact o.elim
 ·rename_i n x D k N R O J Q f;obtain⟨e,q,⟨z,d⟩,r,_⟩:=A8 f;obtain⟨p,j⟩:=o;simp only[f,pf,gj,SV.cL,Eu,a7,bC,aQ,a8 q,jS,p,j,and_self,cR,fN d,r,mg,pd]
 ·rename_i n x D a J Q f;obtain⟨e,q,⟨z,d⟩,r,_⟩:=A8 f;obtain⟨p,j⟩:=o;simp only[f,pf,gj,SV.cL,Eu,a7,bC,aQ,a8 q,jS,p,j,and_self,cR,fN d,r]
 ·exact o.elim
theorem KG(ν:Nat->ay)(c:Bool)(s t:SV):(pickSV c s t).cL ν=if c then s.cL ν else t.cL ν:=by
 unfold pickSV;split;·cases c<;>rfl
 ·cases c<;>rfl
theorem Qk(ν:Nat->ay)(cs:List SV)(i:Nat)(s:SV):aS ν (cs.set i s)=(aS ν cs).set i (s.cL ν):=by simp[cC,oB]
theorem rR{v:ay}(h:v.oneCell'=true):v.cells=#[v]:=by cases v<;>first|rfl|cases h
theorem pC{s:SV}(h:oneS s=true)(ν:Nat->ay)(b:∀k,(ν k).cells=#[ν k]):(s.cL ν).cells=(aS ν (cellsSV s)).toArray:=by
 cases s with
  |v x=>cases x<;>first|(simp[oneS,oneV]at h;done)|rfl
  |own k=>exact b k
  |ptr k d i a=>rfl
  |ea x d i a=>
   cases x<;>try rfl
   rename_i e n c;cases e<;>rfl
  |agg l=>rfl
  |tup l=>simp[oneS]at h
  |fn f l=>rfl
theorem BU(ν:Nat->ay):∀(l cs:List SV)(off j:Nat),((aS ν l).zipIdx j).foldl (λ(a:Array ay)(p:ay×Nat)=>a.setIfInBounds (off+p.2) p.1) (aS ν cs).toArray=(aS ν (putAt cs (off+j) l)).toArray|[],cs,off,j=>rfl|s::l,cs,off,j=>by simp only[putAt,aS,List.zipIdx_cons,lf];rw[List.setIfInBounds_toArray,<-Qk,BU ν l (cs.set (off+j) s) off (j+1),pd]
theorem xL{l:List (Nat×Nat×Bool)}{ν:Nat->ay}(q:∀k,(ν k).cells=#[ν k])(a:Nat->Option (Nat×Nat))(t:∀i,a i=(l[i]?).map λp=>(p.1,p.2.1)):∀(b:List (Nat×SV))(cs d:List SV),pW l cs b=some d->onesP b=true->vZ a (aS ν cs).toArray (b.map λp=>(p.1,p.2.cL ν))=some (aS ν d).toArray
 |[],cs,d,h,_=>by simp only[pW,aO]at h;subst h;rfl
 |(i,s)::r,cs,d,h,o=>by
  simp only[onesP,ba]at o;unfold pW at h;split at h
  ·rename_i e n g u;split at h
   ·rename_i v;simp only[ca,vZ,t,u,cJ,pC o.1 ν q];have m:(aS ν (cellsSV s)).length=n:=by rw[cC];simp[v.1]
    have f:(aS ν cs).length=cs.length:=by rw[cC];simp
    rw[ai (by simp[m,f];omega)];have :=BU ν (cellsSV s) cs e 0;simp only[eJ]at this;rw[show((aS ν (cellsSV s)).toArray.zipIdx.foldl (λcs x=>match x with|(c,j)=>cs.setIfInBounds (e+j) c) (aS ν cs).toArray)=(aS ν (putAt cs e (cellsSV s))).toArray from by rw[<-this,<-Array.foldl_toList,Array.toList_zipIdx]];exact xL q a t r _ d h o.2
   ·cases h
  ·cases h
theorem D6{t:bL}{a:List (Nat×SV)}(y:∀k,(ν k).cells=#[ν k])(c:(sO (f_ P t) (BL P t) a).2):(Instr.build t (a.map λp=>(p.1,p.2.cL ν)).toArray).run P w=.ok ((sO (f_ P t) (BL P t) a).1.cL ν) w:=by
 unfold sO at c⊢;split at c
 ·rename_i l G z x e;split at c
  ·rename_i A g;obtain⟨j,B,C,m,⟨H,d⟩,_⟩:=sQ x;unfold BL at e;rw[d]at e;simp only[b_,dy]at e;obtain⟨n,o,q⟩:=e;have r:(wA t).run P w=.ok n w:=by simp[wA,Ad,d,o]
   have s:(j.mapM (λf=>do pure (f.offset,<-sizeOf f.type):Field->Sem (Nat×Nat))).run P w=.ok (j.map λf=>(f.offset,yO P f.type)) w:=by
    rw[Array.mapM_eq_mapM_toList];have :∀(L:List Field),(∀f∈L,∃i,P.info? f.type=some i)->(L.mapM (λf=>do pure (f.offset,<-sizeOf f.type):Field->Sem (Nat×Nat))).run P w=.ok (L.map λf=>(f.offset,yO P f.type)) w:=by intro L;induction L with|nil=>intro _;rfl|cons f L D=>intro h;obtain⟨i,m⟩:=h f bn;simp only[List.mapM_cons,a7,fN m,aQ,bC,D (λE F=>h E (bm _ F)),ca]
    rw[Sem.run_map];simp only[this j.toList (λf g=>(m f g).1),aQ];congr 1;apply j6;simp
   have b:=xL (l:=l) y (λi=>(j.map λf=>(f.offset,yO P f.type))[i]?) (by intro i;rw[<-C];simp only[Array.getElem?_map,aN,Ev,cu];rfl) a (z.map .v) A g c;have u:(aS ν (z.map SV.v)).toArray=n.cells:=by
    rw[cC,jB,<-q];apply j6;simp only;conv=>rhs;rw[<-List.map_id n.cells.toList]
    rfl
   rw[u]at b;simp only[Instr.build,a7,r,aQ,a8 B,s,x,g];simp only[b,bC,SV.cL]
  ·exact c.elim
 ·exact c.elim
theorem HE{s:SV}{x:bB}(e:a.eval x=s.cL ν)(b:(nilSV s).2)(o:db)(f:o.op=.nilCheck x):(da a.eval o).run P w=.ok (.value ((nilSV s).1.cL ν)) w:=by
 unfold nilSV at b⊢;simp only[da,f,e];split at b;·rfl
 ·rename_i y h i g;cases y with
   |slice d n c=>cases d with|some d=>rfl|none=>simp[someV]at b
   |_=>simp[someV]at b
 ·rfl
 ·rfl
 ·exact b.elim
theorem wC(d:Bool){ν:Nat->ay}:∀{l:List SV}{s:SV}(_:(mnmx d s l).2),((aS ν l).foldlM (if d then Builtin.max2 else Builtin.min2) (s.cL ν)).run P w=.ok ((mnmx d s l).1.cL ν) w
 |[],s,_=>by cases s<;>rfl
 |t::r,s,h=>by
  unfold mnmx at h⊢;split at h;·rename_i c;cases c
  ·rename_i k a f b g c;obtain⟨rfl,rfl⟩:=c;obtain⟨rfl,h⟩:=h;have e:=wC (ν:=ν) d h;simp only[aS,List.foldlM_cons,a7,SV.cL];cases d with|true=>simp only[cR,Builtin.max2,bC,aQ,dM]at e⊢;rw[<-e];simp only[SV.cL];congr 3;omega|false=>simp only[bp,cA,Builtin.min2,bC,aQ,ln]at e⊢;rw[<-e];simp only[SV.cL];congr 3;omega
  ·exact h.elim
theorem rS(m:Slots N ν σ a)(C:Heap E ν H M w)(o:db)(f:(rL P H M σ o.op).1=true)(d:(rL P H M σ o.op).2.2):(da a.eval o).run P w=.ok (.value ((rL P H M σ o.op).2.1.cL ν)) w:=by
 obtain⟨I,op,ty,J,K,gd⟩:=o;simp only at f d⊢;unfold rL at f d⊢;split at d;·obtain⟨s,h,b,e⟩:=oG m f d;simp only[da,h,e];rfl
 ·obtain⟨s,h,b,e⟩:=oG m f d;simp only[da,h,e];rfl
 ·rename_i c x y;unfold Wy at f d⊢;split at d;·rename_i g W ga sa gb sb X q Y;simp only[X,q,Y]at f⊢;have B:a.eval c=.bool W:=m.mA X f;simp only[da,B,asBool,a7,bC,aQ,KG];cases W with|true=>simp only[cR,m.mA q (d.1 rfl)]|false=>simp only[bp,cA,m.mA Y (d.2 rfl)]
  ·exact d.elim
 ·rename_i t L;unfold FD at f d⊢;split at d
  ·rename_i g l Z;simp only[Z]at f⊢;have B:=qJ m Z f;have D:L.map (λx=>(x.1,a.eval x.2))=(l.map λp=>(p.1,p.2.cL ν)).toArray:=by apply j6;rw[<-B];simp
   simp only[da,a7,bC,aQ];rw[show(L.map λ(x:Nat×bB)=>match x with|(i,x)=>(i,a.eval x))=L.map (λx=>(x.1,a.eval x.2))from rfl,D,D6 (λk=>rR (C.one k)) d];rfl
  ·exact d.elim
 ·rename_i t x;obtain⟨s,h,b,e⟩:=oG m f d;cases O:lay (f_ P t)with
   |none=>
    rw[O]at b;unfold ld at b;split at b
    ·unfold ldK at b;split at b;·exact b.2.elim
     ·exact b.2.elim
     ·exact b.elim
     ·exact b.2.elim
     ·exact b.elim
    ·exact b.elim
    ·exact b.elim
    ·exact b.elim
   |some p=>obtain⟨n,g⟩:=p;rw[O]at b e;simp only[da,h,a7,Hz C O b,aQ,bC,e]
 ·rename_i x;obtain⟨s,h,b,e⟩:=oG m f d;rw[e];exact HE h b ⟨I,.nilCheck x,ty,J,K,gd⟩ rfl
 ·obtain⟨s,s',h,j,b,e⟩:=xG m f d;have :=HD (P:=P) (w:=w) (u:=0) h j b;simp only[da];rw[a7,this,e];rfl
 ·obtain⟨s,h,b,e⟩:=oG m f d;simp only[da,h,a7,KE b,aQ,bC,e]
 ·obtain⟨s,h,b,e⟩:=oG m f d;simp only[da,h,a7,HB C b,aQ,bC,e]
 ·obtain⟨s,t,u,h,j,r,b,e⟩:=Uz m f d;have q:=rh (H:=H) (ν:=ν) (w:=w) b (some (t.cL ν)) (some (u.cL ν)) (.inl rfl) (.inl rfl);simp only[da,h,j,r,cJ,uo];rw[a7,q,e];rfl
 ·obtain⟨s,t,u,v,h,j,r,Q,b,e⟩:=UA m f d;have q:=BQ (ν:=ν) (w:=w) b;simp only[da,h,j,r,Q,cJ];rw[a7,q,e];rfl
 ·obtain⟨s,t,h,j,b,e⟩:=xG m f d;have q:=rh (H:=H) (ν:=ν) (w:=w) b none (some (t.cL ν)) (.inr ⟨rfl,rfl⟩) (.inl rfl);simp only[da,h,j,cJ,uo];rw[a7,q,e];rfl
 ·obtain⟨s,t,h,j,b,e⟩:=xG m f d;have q:=rh (H:=H) (ν:=ν) (w:=w) b (some (t.cL ν)) none (.inl rfl) (.inr ⟨rfl,rfl⟩);simp only[da,h,j,cJ,uo];rw[a7,q,e];rfl
 ·obtain⟨s,h,b,e⟩:=oG m f d;simp only[da,h,a7,xJ b,aQ,bC,e]
 ·obtain⟨s,h,b,e⟩:=oG m f d;simp only[da,h,a7,D5 b,aQ,bC,e]
 ·obtain⟨s,t,h,j,b,e⟩:=xG m f d;simp only[da,h,j,a7,xK C b,aQ,bC,e]
 ·obtain⟨s,t,h,j,b,e⟩:=xG m f d;simp only[da,h,j,a7,D4 b,aQ,bC,e]
 ·obtain⟨s,h,b,e⟩:=oG m f d;rename_i x i;cases s with
   |tup l=>
    have hlen:(aS ν l).length=l.length:=by rw[cC];simp
    have R:i<l.length:=b;have hi:i<(aS ν l).length:=by omega
    rw[e];show _=Result.ok (Next.value ((getSV l i).cL ν)) w;rw[vt ν l _ R];simp only[da,h,SV.cL,Instr.extract,a7];rw[dH,aP hi];simp only[kJ,aP hi,bC,aQ,dn]
   |_=>exact b.elim
 ·rename_i c;obtain⟨G,z,S⟩:=c;simp only at f d⊢;split at d
  ·rename_i x t q ht;simp only[q,ht]at f;obtain⟨s,h,b,e⟩:=oG m f d;have ha:z=#[x]:=by apply j6;simpa using q
   have T:S=#[t]:=by apply j6;simpa using ht
   subst ha T;simp only[da,PL,a7,bC,aQ,invoke,builtin,HC C b _ (show Array.map a.eval #[x]=#[s.cL ν]by simp[h]),e]
  ·rename_i x l q;split at d
   ·rename_i g s g' U F A;simp only[q,F,A,ba]at f⊢;have B:=m.mA F f.1;have D:=mD m A f.2;have V:(z.map a.eval).toList=s.cL ν::aS ν U:=by simp[q,B,D]
    have :=wC (P:=P) (w:=w) (ν:=ν) false d;simp only[bp,cA]at this;simp only[da,PL,a7,bC,aQ,invoke,builtin,Builtin.min_,V,this]
   ·exact d.elim
  ·rename_i x l q;split at d
   ·rename_i g s g' U F A;simp only[q,F,A,ba]at f⊢;have B:=m.mA F f.1;have D:=mD m A f.2;have V:(z.map a.eval).toList=s.cL ν::aS ν U:=by simp[q,B,D]
    have :=wC (P:=P) (w:=w) (ν:=ν) true d;simp only[cR]at this;simp only[da,PL,a7,bC,aQ,invoke,builtin,Builtin.max_,V,this]
   ·exact d.elim
  ·exact d.elim
 ·exact d.elim
end
end Go.X
namespace Go.X
open Go Go.RowKit
abbrev KP:=dp->HS->Mem->Prop
abbrev QP:=Exit->dp->HS->Mem->Prop
def mc(ops:List db)(σ:dp):Option (Nat×Bool)->Option Bool|none=>some true|some (j,a)=>match(ops[j]?).bind (·.dst)with|none=>none|some d=>match lk σ d with|some (g,.v (.bool b))=>some (g&&(b==a))|some (false,_)=>some false|_=>none
def AM(E:Env)(Q:QP):Exit->xp->bQ->Prop:=λe a w=>∃σ H M,Rep E σ H M a w/\Q e σ H M
def OpK(E:Env)(o:db)(K:KP)(σ:dp)(H:HS)(M:Mem):Prop:=∀a w,Rep E σ H M a w->o.wp E.P a w (λb u=>∃t G N,Rep E t G N b u/\K t G N) (λ_ _ _=>False)
def CallK(E:Env)(f:kH)(args:List SV)(d:Nat)(K:KP)(σ:dp)(H:HS)(M:Mem):Prop:=∀ν a w,Slots E.N ν σ a->Heap E ν H M w->((∃b,E.P.funcs[f]?=some b/\(b.name== "runtime.NumGoroutine")=false/\b.body.isNone=false)/\Calls E.P f (aS ν args).toArray w (λe u=>∃v,e=.returned v/\∃t G L,Rep E t G L (a.put (some d) v) u/\K t G L))\/∃v u,(callFunc f (aS ν args).toArray).run E.P w=.ok (.value v) u/\∃t G L,Rep E t G L (a.put (some d) v) u/\K t G L
def hdel(d:Nat):HS->HS|[]=>[]|(k,p)::H=>if k/8=d then hdel d H else(k,p)::hdel d H
def sigNoKey(d:Nat):dp->Bool|[]=>true|(_,_,s)::σ=>s.noKey d&&sigNoKey d σ
def noKeyss(d:Nat):List (List SV)->Bool|[]=>true|e::r=>SV.jn d e&&noKeyss d r
def poNoKey(d:Nat):PO->Bool|.box a _=>SV.jn d a|.row _ _=>true|.tab _ b=>noKeyss d b|.mp _=>true
theorem sR{d:Nat}{ν ν':Nat->ay}(h:∀k,k/8≠d->ν' k=ν k):∀{es:List (List SV)},noKeyss d es=true->es.map (aS ν')=es.map (aS ν)|[],_=>rfl|e::r,a=>by simp only[noKeyss,ba]at a;rw[ca,ca,j7 h e a.1,sR h a.2]
def hNoKey(d:Nat):HS->Bool|[]=>true|(k,p)::H=>!(k/8==d)&&(poNoKey d p&&hNoKey d H)
def boxK(d:Nat)(s:SV)(K:KP)(σ:dp)(H:HS)(M:Mem):Prop:=((oneS s=true/\SV.jn d (cellsSV s)=true)/\sigNoKey d σ=true/\hNoKey d H=true)/\K ((d,true,.ptr (8*d) 0 0 0)::σ) ((8*d,.box (cellsSV s) none)::H) M
def hset(k:Nat)(p:PO):HS->HS|[]=>[]|(j,q)::H=>if j=k then(j,p)::H else(j,q)::hset k p H
def layN:Option (Nat×Bool)->Option Nat|some (n,_)=>some n|none=>none
def one1:SV->Bool|.v x=>x.oneCell'|.ea x _ _ _=>someV x|.agg _=>false|.tup _=>false|.own _=>true|.ptr _ _ _ _=>true|.fn _ _=>true
def ones:List SV->Bool|[]=>true|s::l=>one1 s&&ones l
def stBox(s:SV)(off:Nat)(cs:List SV)(L:Option (Nat×Bool)):List SV×Prop:=(putAt cs off (cellsSV s),((oneS s=true/\ones (cellsSV s)=true)/\layN L=some (cellsSV s).length)/\off+(cellsSV s).length<=cs.length)
def ri(d:Option Nat)(L:Option (Nat×Bool))(p s:SV)(a:Prop)(K:KP)(σ:dp)(H:HS)(M:Mem):Prop:=match p with
 |.ptr k e i b=>match hget H k with|some (.box c t)=>((stBox s b c L).2/\i=0)/\K (match d with|some d=>(d,true,.v dN)::σ|none=>σ) (hset k (.box (stBox s b c L).1 t) H) M|_=>a
 |_=>a
def dOk(N:Nat)(d:Option Nat):Prop:=∀e,d=some e->e<N
def D7(P:bZ)(t:bL):Prop:=∀n g,lay (f_ P t)=some (n,g)->yO P t=n/\n≠0
def qK(E:Env)(b:Op)(g:Bool)(K:KP)(σ:dp)(H:HS)(M:Mem):Option Nat->Prop|some d=>(d<E.N/\(g=true->(rL E.P H M σ b).1=true/\(rL E.P H M σ b).2.2))/\K ((d,g,(rL E.P H M σ b).2.1)::σ) H M|none=>False
/-!### rows of the call's own: literals, make, append, stores -/
def D8(P:bZ)(t:bL):Option (Nat×Nat×Nat×List ay):=match P.underlying t with|some (.slice e)=>(P.info? e).bind λi=>i.zero.map λz=>(e,i.size,i.bytes,z.cells.toList)|_=>none
def Wz(P:bZ)(t:bL):Bool:=match P.underlying t with
 |some (.struct b)=>match b[0]? with
  |some f=>match P.underlying f.type with|some (.pointer u)=>u==t|_=>false
  |none=>false
 |_=>false
def XA(P:bZ)(t:bL):Option (List ay):=bif Wz P t then none else(P.info? t).bind λi=>i.zero.map λz=>z.cells.toList
def memN(j:Nat):List Nat->Bool|[]=>false|k::l=>if j=k then true else memN j l
def sigDropA(d:Nat):List Nat->dp->dp|_,[]=>[]|D,(j,g,s)::σ=>bif memN j D then sigDropA d D σ else bif s.noKey d then(j,g,s)::sigDropA d D σ else sigDropA d (j::D) σ
def sigDrop(d:Nat)(σ:dp):dp:=sigDropA d [] σ
def hdelk(k:Nat):HS->HS|[]=>[]|(j,p)::H=>if j=k then hdelk k H else(j,p)::hdelk k H
def hdelk?:Option Nat->HS->HS|some k,H=>hdelk k H|none,H=>H
def conc1:SV->Bool|.v _=>true|_=>false
def conc1s:List SV->Bool|[]=>true|s::l=>conc1 s&&conc1s l
def concB:SV->Bool|.v _=>true|.agg l=>conc1s l|_=>false
def concP:List (Nat×SV)->Bool|[]=>true|(_,s)::l=>concB s&&concP l
def cell1:SV->ay|.v x=>x|_=>dN
def cells1:List SV->List ay|[]=>[]|s::l=>cell1 s::cells1 l
def cellsV:SV->List ay|.v x=>[x]|.agg l=>cells1 l|_=>[]
def onesV:List ay->Bool|[]=>true|x::l=>x.oneCell'&&onesV l
def rowP(sz:Nat):Nat->List (Nat×SV)->List (List ay)×Prop|_,[]=>([],True)|j,(i,s)::r=>(cellsV s::(rowP sz (j+1) r).1,((i=j/\(cellsV s).length=sz)/\onesV (cellsV s)=true)/\(rowP sz (j+1) r).2)
def rowK(E:Env)(d sz:Nat)(es:List (List ay))(K:KP)(σ:dp)(H:HS)(M:Mem):Prop:=hNoKey d (hdel d H)=true/\K ((d,true,.own (8*d))::sigDrop d σ) ((8*d,.row sz es)::hdel d H) M
def bsD(E:Env)(d sz n:Nat)(ps:List (Nat×SV))(a:Prop)(K:KP)(σ:dp)(H:HS)(M:Mem):Bool->Prop|true=>((d<E.N/\ps.length=n/\n*sz<=16777216/\n<=16777216)/\(rowP sz 0 ps).2)/\rowK E d sz (rowP sz 0 ps).1 K σ H M|false=>a
def bsC(E:Env)(a:Prop)(K:KP)(σ:dp)(H:HS)(M:Mem)(n:Nat):Option Nat->Option (Nat×Nat×Nat×List ay)->Option (Bool×List (Nat×SV))->Prop|some d,some (_,c,_,_),some (true,b)=>bsD E d c n b a K σ H M (concP b)|_,_,_=>a
def tK(M:Mem)(y:ay)(sz:Nat):List (List ay):=(sE (eB y)).map λi=>(sE sz).map λj=>xj M y sz i j
def KH(M:Mem)(y:ay)(sz:Nat):Prop:=(isSl y=true/\0<sz)/\∀i,i<eB y->∀j,j<sz->yU M y sz i j/\(xj M y sz i j).oneCell'=true
def iy(b:UInt8):List ay:=[.int .u8 b.toNat]
def rowC(k:Nat):Option PO->Option (Option Nat×Nat×List (List ay))|some (.row a b)=>some (some k,a,b)|_=>none
def HF(H:HS)(sz:Nat):SV->Option (Option Nat×Nat×List (List ay))|.own k=>rowC k (hget H k)|.v (.slice none 0 0)=>some (none,sz,[])|_=>none
def srcC(sz:Nat):Option PO->Option (List (List ay)×Prop)|some (.row a b)=>some (b,a=sz)|_=>none
def EE(H:HS)(M:Mem)(sz:Nat):Shp->SV->Option (List (List ay)×Prop)|.slice _ _ _,.own k=>srcC sz (hget H k)|.slice _ _ _,.v y=>some (tK M y sz,KH M y sz)|.str,.v (.string s)=>some ((bl s).map iy,sz=1)|_,_=>none
def appD(E:Env)(d sz bt:Nat)(f:List ay)(g:Prop)(K:KP)(σ:dp)(H:HS)(M:Mem):Option (Option Nat×Nat×List (List ay))->Option (List (List ay)×Prop)->Prop|some (e,b,c),some (a,C)=>(((d<E.N/\bt<=4096)/\b=sz/\f.length=sz)/\(c.length+a.length<=70368744177664/\(c.length+a.length)*bt<=70368744177664)/\C)/\hNoKey d (hdelk? e (hdel d H))=true/\K ((d,true,.own (8*d))::sigDrop d σ) ((8*d,.row sz (c++a))::hdelk? e (hdel d H)) M|_,_=>g
def appC(E:Env)(b:Prop)(K:KP)(σ:dp)(H:HS)(M:Mem)(S:Shp):Option Nat->Option (Nat×Nat×Nat×List ay)->Option (Bool×SV)->Option (Bool×SV)->Prop|some d,some (_,a,c,e),some (true,s),some (true,x)=>appD E d a c e b K σ H M (HF H a s) (EE H M a S x)|_,_,_,_=>b
def mkC(E:Env)(f:Prop)(K:KP)(σ:dp)(H:HS)(M:Mem):Option Nat->Option (Nat×Nat×Nat×List ay)->Option (Bool×SV)->Option (Bool×SV)->Prop|some d,some (_,e,g,c),some (true,.v (.int _ a)),some (true,.v (.int _ b))=>((d<E.N/\c.length=e/\onesV c=true)/\(0<=a/\a<=b)/\(b<=70368744177664/\g*b<=281474976710656))/\rowK E d e (bg a.toNat c) K σ H M|_,_,_,_=>f
def alC(E:Env)(a:Prop)(K:KP)(σ:dp)(H:HS)(M:Mem):Option Nat->Option (List ay)->Prop|some d,some b=>(d<E.N/\hNoKey d (hdel d H)=true)/\K ((d,true,.ptr (8*d) 0 0 0)::sigDrop d σ) ((8*d,.box (b.map .v) none)::hdel d H) M|_,_=>a
def km(e:List ay)(off:Nat)(cs:List ay):List ay:=e.take off++cs++e.drop (off+cs.length)
def stRowE(sz off:Nat)(cs e:List ay):List ay:=bif cs.length==sz then cs else km e off cs
def stRC(d:Option Nat)(L:Option (Nat×Bool))(k sz i off:Nat)(cs:List ay)(c:Prop)(K:KP)(σ:dp)(H:HS)(M:Mem):Option PO->Prop|some (.row a b)=>(((onesV cs=true/\layN L=some cs.length)/\a=sz/\cs.length≠0)/\i<b.length/\off+cs.length<=sz)/\K (match d with|some d=>(d,true,.v dN)::σ|none=>σ) (hset k (.row sz (b.set i (stRowE sz off cs (b.getD i [])))) H) M|_=>c
def stRB(d:Option Nat)(L:Option (Nat×Bool))(k sz i off:Nat)(s:SV)(a:Prop)(K:KP)(σ:dp)(H:HS)(M:Mem):Bool->Prop|true=>stRC d L k sz i off (cellsV s) a K σ H M (hget H k)|false=>a
def stRD(d:Option Nat)(L:Option (Nat×Bool))(b:Prop)(K:KP)(σ:dp)(H:HS)(M:Mem):Option (Bool×SV)->Option (Bool×SV)->Prop|some (true,.ptr k c i a),some (true,s)=>stRB d L k c i a s b K σ H M (concB s)|_,_=>b
def Hf(E:Env)(o:db)(K:KP)(σ:dp)(H:HS)(M:Mem):Prop:=match o.op with
 |.buildSlice t n e=>bsC E (OpK E o K σ H M) K σ H M n o.dst (D8 E.P t) (lJ σ e.toList)
 |.makeSlice t a b=>mkC E (OpK E o K σ H M) K σ H M o.dst (D8 E.P t) (opv σ a) (opv σ b)
 |.alloc t=>alC E (OpK E o K σ H M) K σ H M o.dst (XA E.P t)
 |.store t p x=>stRD o.dst (lay (f_ E.P t)) (OpK E o K σ H M) K σ H M (opv σ p) (opv σ x)
 |.call ⟨.builtin .append,c,d⟩=>match c.toList,d.toList with|[s,x],[t,f]=>appC E (OpK E o K σ H M) K σ H M (f_ E.P f) o.dst (D8 E.P t) (opv σ s) (opv σ x)|_,_=>OpK E o K σ H M
 |_=>OpK E o K σ H M
def Ou(S:Shp)(b q:Prop):Prop:=match S with|.slice _ _ _=>b|_=>q
def stepK(E:Env)(o:db)(g:Bool)(K:KP)(σ:dp)(H:HS)(M:Mem):Prop:=match o.op with
 |.box t x=>match o.dst,opv σ x with|some d,some (i,s)=>(g=true/\i=true/\d<E.N)/\boxK d s K σ H M|_,_=>False
 |.store t p x=>match opv σ p,opv σ x with|some (e,p),some (h,s)=>(g=true/\e=true/\h=true/\dOk E.N o.dst)/\D7 E.P t/\ri o.dst (lay (f_ E.P t)) p s (Hf E o K σ H M) K σ H M|_,_=>False
 |.call c=>match c.callee with
  |.builtin b=>match b with|.len|.min|.max=>qK E o.op g K σ H M o.dst|_=>g=true/\Hf E o K σ H M
  |.value f=>match o.dst,opv σ f,kj σ c.args.toList with|some d,some (e,.fn f a),some (h,l)=>d<E.N/\((g=true->(e=true/\h=true)/\CallK E f (l++a) d K σ H M)/\(g=false->K ((d,true,.v dN)::σ) H M))|_,_,_=>g=true/\Hf E o K σ H M
  |.invoke _ _=>g=true/\Hf E o K σ H M
 |.alloc _|.buildSlice _ _ _|.insert _ _ _ _|.ready _|.waits _|.sliceToArrayPointer _ _|.makeInterface _ _|.makeFunc _ _ _|.makeMap _ _|.makeChan _ _|.makeSlice _ _ _|.lookup _ _ _ _|.mapUpdate _ _ _ _|.mapEntry _ _ _|.entryStore _ _ _ _|.range _ _|.next _ _|.entry _|.typeAssert _ _ _ _|.go _|.defer _|.panic _|.send _ _|.recv _ _ _|.select _ _=>g=true/\Hf E o K σ H M
 |.convert _ t _=>Ou (f_ E.P t) (g=true/\Hf E o K σ H M) (qK E o.op g K σ H M o.dst)
 |.move _|.assign _|.pick _ _ _|.build _ _|.load _ _|.nilCheck _|.binOp _ _ _ _ _|.unOp _ _ _|.slice _ _ _ _ _|.fieldAddr _ _ _|.field _ _ _|.indexAddr _ _ _|.index _ _ _|.extract _ _=>qK E o.op g K σ H M o.dst
def BV(E:Env)(ops:List db)(K:KP):List db->dp->HS->Mem->Prop|[],σ,H,M=>K σ H M|o::a,σ,H,M=>match mc ops σ o.guard with|none=>False|some g=>stepK E o g (BV E ops K a) σ H M
def LoopK(E:Env)(live:List Nat)(b:lp)(Q:QP)(σ:dp)(H:HS)(M:Mem):Prop:=∀a w,Rep E σ H M a w->(Code.loop b).wp E.P (AM E Q) a w
def CodeK(E:Env)(c:lp)(Q:QP)(σ:dp)(H:HS)(M:Mem):Prop:=∀a w,Rep E σ H M a w->c.wp E.P (AM E Q) a w
def DrawK(E:Env)(id:Nat)(ops:Array db)(K:KP)(σ:dp)(H:HS)(M:Mem):Prop:=∀a w,Rep E σ H M a w->(Code.region id ops true).wp E.P (λe a w=>e=.normal/\∃σ H M,Rep E σ H M a w/\K σ H M) a w
def ui(E:Env)(live:List Nat):lp->QP->dp->HS->Mem->Prop
 |.skip,Q,σ,H,M=>Q .normal σ H M
 |.ret,Q,σ,H,M=>Q .ret σ H M
 |.exit i,Q,σ,H,M=>Q (.exit i) σ H M
 |.region h d g,Q,σ,H,M=>bif g then DrawK E h d (λσ H M=>Q .normal (wa live σ) H M) σ H M else BV E d.toList (λσ H M=>Q .normal (wa live σ) H M) d.toList σ H M
 |.seq a b,Q,σ,H,M=>ui E live a (λe σ H M=>match e with|.normal=>ui E live b Q σ H M|e=>Q e σ H M) σ H M
 |.block i b,Q,σ,H,M=>ui E live b (λe σ H M=>match e with|.exit j=>if j=i then Q .normal σ H M else Q (.exit j) σ H M|e=>Q e σ H M) σ H M
 |.cond c t e,Q,σ,H,M=>match opv σ c with|some (true,.v (.bool b))=>(b=true->ui E live t Q σ H M)/\(b=false->ui E live e Q σ H M)|_=>False
 |.loop b,Q,σ,H,M=>LoopK E live b Q σ H M
 |.rangeFunc f p a b,Q,σ,H,M=>CodeK E (.rangeFunc f p a b) Q σ H M
 |.scope b,Q,σ,H,M=>CodeK E (.scope b) Q σ H M
 |.label l,Q,σ,H,M=>CodeK E (.label l) Q σ H M
 |.goto l,Q,σ,H,M=>CodeK E (.goto l) Q σ H M
 |.refuse r,Q,σ,H,M=>False
end Go.X
namespace Go.X
open Go Go.RowKit
section
variable{E:Env}{σ:dp}{H:HS}{M:Mem}{a:xp}{w:bQ}{ν:Nat->ay}
theorem oH{ops:List db}{gd:Option (Nat×Bool)}{g:Bool}(f:Slots E.N ν σ a)(h:mc ops σ gd=some g)(o:db)(c:o.guard=gd):xr o (yielded ops.toArray a.tmps)=g:=by
 unfold mc at h;split at h;·simp only[aO]at h;subst h;simp[xr,c]
 ·rename_i j i;split at h;·cases h
  ·rename_i d k;split at h;·rename_i l b e;simp only[aO]at h;subst h;have :=f.2.2 d l _ e;simp only[xr,c,yielded,dH,k,b_,this,SV.cL];cases l<;>simp[dN]
   ·rename_i s _ e;simp only[aO]at h;subst h;have :=f.2.2 d false _ e;simp only[xr,c,yielded,dH,k,b_,this,ln];simp[dN]
   ·cases h
/-! memory steps -/
theorem D9{p:PO}{x:ay}{w':bQ}(h:∀b,b<w.heap.size->w'.heap[b]?=w.heap[b]?)(f:p.jJ ν w x):p.jJ ν w' x:=by
 have g:∀{b:Nat}{o:Obj},w.heap[b]?=some o->w'.heap[b]?=some o:=by intro b o a;rw[h b (bV.1 a).1,a]
 cases p with|box y t=>obtain⟨⟨b,T,e,a⟩,s⟩:=f;exact⟨⟨b,T,e,g a⟩,s⟩|row u r=>obtain⟨i,j⟩:=f;refine⟨i,j.imp id ?_⟩;rintro⟨b,d,T,k,e,l,n,q,a⟩;exact⟨b,d,T,k,e,l,n,q,g a⟩|tab u r=>obtain⟨i,j⟩:=f;refine⟨i,j.imp id ?_⟩;rintro⟨b,d,T,k,e,l,n,q,a⟩;exact⟨b,d,T,k,e,l,n,q,g a⟩|mp r=>obtain⟨b,m,c,e,a,v⟩:=f;exact⟨b,m,c,e,g a,v⟩
theorem HG{p:PO}{x:ay}{b:Nat}(d:p.jJ ν w x)(a:ee x=some b):b<w.heap.size:=by
 cases p with
  |box s t=>obtain⟨⟨f,T,e,h⟩,_⟩:=d;subst e;simp only[ee,aO]at a;subst a;exact(bV.1 h).1
  |row k j=>
   obtain⟨l,g⟩:=d;rcases g with⟨e,_⟩|⟨f,i,T,n,e,o,q,r,h⟩;·subst e;simp[ee]at a
   ·subst e;simp only[ee,aO]at a;subst a;exact(bV.1 h).1
  |tab k j=>
   obtain⟨l,g⟩:=d;rcases g with⟨e,_⟩|⟨f,i,T,n,e,o,q,r,h⟩;·subst e;simp[ee]at a
   ·subst e;simp only[ee,aO]at a;subst a;exact(bV.1 h).1
  |mp j=>obtain⟨f,m,c,e,h,u⟩:=d;subst e;simp only[ee,aO]at a;subst a;exact(bV.1 h).1
theorem Heap.qL(c:Heap E ν H M w){b:Nat}(a:b∈fp ν H):b<w.heap.size:=by simp only[fp,bH]at a;obtain⟨p,d,a⟩:=a;exact HG (c.holds p d) a
theorem Mem.on.lt(h:M.on w){b:Nat}{o:Obj}(a:M b=some o):b<w.heap.size:=(bV.1 (h b o a)).1
theorem Heap.mE(a:Heap E ν H M w){w':bQ}(c:um w.heap.size w w'):Heap E ν H M w':=⟨λp d=>D9 c.block (a.holds p d),a.nodup,a.apart,λb o h=>by rw[c.block b (a.mem.lt h)];exact a.mem b o h,a.below.trans (c.mono a.below.size),a.le0,a.fresh,a.one⟩
theorem uz(i:Heap E ν H M w){k:Nat}{p:PO}{b:Nat}(d:hget H k=some p)(j:ee (ν k)=some b):∀q∈H,q.1≠k->ee (ν q.1)≠some b:=by
 have a:=i.nodup;clear i;induction H with
  |nil=>simp[hget]at d
  |cons q H l=>
   intro r c f;simp only[fp,bK]at a;simp only[hget]at d;split at d
   ·rename_i e;rw[<-e,j]at a;rcases aV.1 c with rfl|c;·exact absurd e.symm f
    ·intro h;have :b∈iB (λp=>ee (ν p.1)) H:=bH.2 ⟨r,c,h⟩;simp only[gK]at a;exact a.1 this
   ·rename_i e;have g:(fp ν H).Nodup:=by
     split at a;·exact a
     ·exact(gK.1 a).2
    rcases aV.1 c with rfl|c;·intro h;rw[h]at a;have m:b∈iB (λp=>ee (ν p.1)) H:=bH.2 ⟨(k,p),bP d,j⟩;simp only[gK]at a;exact a.1 m
    ·exact l d g r c f
theorem BW{d:Nat}{ν':Nat->ay}(h:∀k,k/8≠d->ν' k=ν k)(a:hNoKey d H=true):fp ν' H=fp ν H:=by induction H with|nil=>rfl|cons q H b=>simp only[hNoKey,ba,np,nU]at a;simp only[fp,bK,h q.1 a.1];have :=b a.2.2;simp only[fp]at this;rw[this]
theorem pZ{d:Nat}{ν':Nat->ay}(h:∀k,k/8≠d->ν' k=ν k){p:PO}(c:poNoKey d p=true){x:ay}(a:p.jJ ν w x):p.jJ ν' w x:=by cases p with|box g t=>obtain⟨⟨b,T,e,i⟩,j⟩:=a;exact⟨⟨b,T,e,by rw[j7 h g c];exact i⟩,j⟩|row l f=>exact a|tab l f=>rw[sL]at a⊢;rw[sR h c];exact a|mp f=>exact a
theorem wD{d:Nat}(a:hNoKey d H=true):∀q∈H,q.1/8≠d/\poNoKey d q.2=true:=by
 induction H with
  |nil=>simp
  |cons q H c=>
   simp only[hNoKey,ba,np,nU]at a;intro r b;rcases aV.1 b with rfl|b;·exact⟨a.1,a.2.1⟩
   ·exact c a.2.2 r b
theorem uA{d:Nat}(a:sigNoKey d σ=true){k:Nat}{g:Bool}{s:SV}(h:lk σ k=some (g,s)):s.noKey d=true:=by
 induction σ with
  |nil=>simp[lk]at h
  |cons q σ b=>
   obtain⟨j,c,e⟩:=q;simp only[sigNoKey,ba]at a;simp only[lk]at h;split at h;·simp only[aO,cD]at h;obtain⟨rfl,rfl⟩:=h;exact a.1
   ·exact b a.2 h
theorem Slots.ZK{d:Nat}{ν':Nat->ay}(h:∀k,k/8≠d->ν' k=ν k){N:Nat}(e:sigNoKey d σ=true)(b:Slots N ν σ a):Slots N ν' σ a:=⟨b.1,b.2.1,λk g s c=>by rw[nw h s (uA e c)];exact b.2.2 k g s c⟩
theorem Heap.new(g:Heap E ν H M w){d:Nat}(r:hNoKey d H=true){ν':Nat->ay}(i:∀k,k/8≠d->ν' k=ν k)(s:∀k,(ν' k).oneCell'=true){w':bQ}(t:um w.heap.size w w'){p:PO}(A:(8*d)/8=d)(u:p.jJ ν' w' (ν' (8*d)))(j:∀b,ee (ν' (8*d))=some b->w.heap.size<=b):Heap E ν' ((8*d,p)::H) M w':=by
 have l:=g.mE t;have m:=BW i r;refine⟨λq n=>?_,?_,λb e=>?_,l.mem,l.below,l.le0,l.fresh,s⟩
 ·rcases aV.1 n with rfl|n;·exact u
  ·obtain⟨v,x⟩:=wD r q n;rw[i q.1 v];exact pZ i x (l.holds q n)
 ·show(iB _ _).Nodup;rw[bK];have f:iB (λp=>ee (ν' p.1)) H=fp ν H:=m;rw[f];split;·exact g.nodup
  ·rename_i b e;exact gK.2 ⟨λy=>by have :=g.qL y;have :=j b e;omega,g.nodup⟩
 ·have c:b∈iB (λp=>ee (ν' p.1)) ((8*d,p)::H):=e;rw[bK]at c;have f:iB (λp=>ee (ν' p.1)) H=fp ν H:=m;rw[f]at c;split at c;·exact g.apart b c
  ·rename_i B e;rcases aV.1 c with rfl|c;·refine⟨?_,b6 g.below.size (j _ e)⟩;cases z:M b with|none=>rfl|some o=>have :=g.mem.lt z;have :=j _ e;omega
   ·exact g.apart b c
theorem gm(w:bQ)(o:Obj):um w.heap.size w (w.alloc o):=(dQ _ _).alloc (bc _) o
theorem eP(w:bQ)(o:Obj):(w.alloc o).heap[w.heap.size]?=some o:=by show(w.heap.push o)[w.heap.size]?=_;simp
/-! storing into a private box -/
theorem ny(w:bQ)(g:Nat)(cs:Array ay){b:Nat}(h:b≠g):(w.setRow g cs).heap[b]?=w.heap[b]?:=by simp only[v7,gr];rw[ai (λe=>h e.symm)]
theorem rT(w:bQ)(g:Nat)(cs a:Array ay)(T:bL)(b:Nat×Nat)(h:w.heap[g]?=some (.cells a T b)):(w.setRow g cs).heap[g]?=some (.cells cs T b):=by simp[v7,gr,h]
theorem wE:∀(l cs:List SV)(off:Nat),off+l.length<=cs.length->putAt cs off l=cs.take off++l++cs.drop (off+l.length)
 |[],cs,off,_=>by simp[putAt]
 |s::l,cs,off,h=>by
  simp only[putAt];rw[wE l (cs.set off s) (off+1) (by simp at h⊢;omega)];simp only[aM]at h;apply gA;intro j;simp only[bN,pN,a6,eg,i_,fx,nr,aM,List.getElem?_cons,aG];by_cases e:j<off
  ·have :j<wg (off+1) cs.length:=by omega
   have a:j<wg off cs.length:=by omega
   simp[this,a,e];rw[aF (by omega),ai (by omega)]
  ·by_cases a:j=off
   ·subst a;have :j<wg (j+1) cs.length:=by omega
    have b:¬j<wg j cs.length:=by omega
    have c:j<cs.length:=by omega
    have d:j-wg j cs.length=0:=by omega
    simp[this,b,c,d]
   ·have b:¬j<wg (off+1) cs.length:=by omega
    have c:¬j<wg off cs.length:=by omega
    have d:j-wg off cs.length≠0:=by omega
    have f:j-wg (off+1) cs.length=j-wg off cs.length-1:=by omega
    simp only[b,c,cA,f,d];have g:(j-wg off cs.length<l.length+1)↔(j-wg off cs.length-1<l.length):=by omega
    simp only[g];split;·rfl
    ·have i:off≠off+1+l.length+(j-wg off cs.length-1-l.length):=by omega
     simp[i];congr 1;omega
theorem HH{l:List SV}(h:ones l=true)(e:∀k,(ν k).oneCell'=true):∀v∈aS ν l,v.oneCell'=true:=by
 induction l with
  |nil=>simp[aS]
  |cons s l g=>
   simp only[ones,ba]at h;intro v a;simp only[aS,aV]at a;rcases a with rfl|a;·cases s with
                                                                               |v x=>exact h.1
                                                                               |own k=>exact e k
                                                                               |ptr k j i b=>rfl
                                                                               |ea x j i b=>cases x with
                                                                                             |slice d n c=>cases d with|some d=>rfl|none=>simp[one1,someV]at h
                                                                                             |_=>simp[one1,someV]at h
                                                                               |agg l=>simp[one1]at h
                                                                               |tup l=>simp[one1]at h
                                                                               |fn f l=>rfl
   ·exact g h.2 v a
theorem BX{k:Nat}{p:PO}:∀{H:HS}{q:Nat×PO},q∈hset k p H->q=(k,p)\/q∈H
 |[],q,h=>by simp[hset]at h
 |(j,r)::H,q,h=>by
  simp only[hset]at h;split at h
  ·rename_i e;rcases aV.1 h with rfl|h;·left;rw[e]
   ·exact .inr (bm _ h)
  ·rcases aV.1 h with rfl|h;·exact .inr bn
   ·exact(BX h).imp id (bm _)
theorem qM(ν:Nat->ay)(k:Nat)(p:PO):∀H:HS,fp ν (hset k p H)=fp ν H
 |[]=>rfl
 |(j,r)::H=>by
  simp only[hset];split;·rfl
  ·have :=qM ν k p H;simp only[fp,bK]at this⊢;rw[this]
theorem HI{k:Nat}{p d:PO}{b:Nat}(g:Heap E ν H M w)(f:hget H k=some d)(l:ee (ν k)=some b){q:Nat×PO}(a:q∈hset k p H):q=(k,p)\/(q∈H/\ee (ν q.1)≠some b):=by
 have c:=g.nodup;have m:=g.holds;clear g;induction H with
  |nil=>simp[hget]at f
  |cons r H n=>
   obtain⟨j,r⟩:=r;simp only[hget]at f;simp only[hset]at a;simp only[fp,bK]at c;split at f
   ·rename_i e;subst e;rw[aF rfl]at a;rw[l]at c;simp only[gK]at c;rcases aV.1 a with rfl|a;·exact .inl rfl
    ·exact .inr ⟨bm _ a,λh=>c.1 (bH.2 ⟨q,a,h⟩)⟩
   ·rename_i e;rw[ai (λh=>e h.symm)]at a;have i:(fp ν H).Nodup:=by
     split at c;·exact c
     ·exact(gK.1 c).2
    rcases aV.1 a with rfl|a;·refine .inr ⟨bn,λh=>?_⟩;simp only at h;rw[h]at c;simp only[gK]at c;exact c.1 (bH.2 ⟨(k,d),bP f,l⟩)
    ·exact(n f a i (λp o=>m p (bm _ o))).imp id (λh=>⟨bm _ h.1,h.2⟩)
theorem Heap.Ql(f:Heap E ν H M w){k b:Nat}{s p:PO}(G:hget H k=some s)(I:ee (ν k)=some b){w':bQ}(n:∀j,j≠b->w'.heap[j]?=w.heap[j]?)(K:w'.heap.size=w.heap.size)(v:w'.os=w.os/\w'.tape=w.tape/\w'.output=w.output)(L:p.jJ ν w' (ν k)):Heap E ν (hset k p H) M w':=by
 have x:b∈fp ν H:=bH.2 ⟨(k,s),bP G,I⟩;obtain⟨N,U⟩:=f.apart b x;refine⟨λq y=>?_,by rw[qM];exact f.nodup,λc r=>f.apart c (by rw[qM]at r;exact r),λc o r=>?_,?_,f.le0,f.fresh,f.one⟩
 ·rcases HI f G I y with rfl|⟨y,d⟩;·exact L
  ·have u:=f.holds q y;obtain⟨j,O⟩:=q;cases O with|box V t=>obtain⟨⟨g,T,e,h⟩,P⟩:=u;refine⟨⟨g,T,e,?_⟩,P⟩;simp only at e d;rw[n g (λi=>d (by rw[e,i];rfl))];exact h|row Q J=>obtain⟨z,A⟩:=u;refine⟨z,A.imp id ?_⟩;rintro⟨g,l,T,B,e,C,D,F,h⟩;refine⟨g,l,T,B,e,C,D,F,?_⟩;simp only at e d;rw[n g (λi=>d (by rw[e,i];rfl))];exact h|tab Q J=>obtain⟨z,A⟩:=u;refine⟨z,A.imp id ?_⟩;rintro⟨g,l,T,B,e,C,D,F,h⟩;refine⟨g,l,T,B,e,C,D,F,?_⟩;simp only at e d;rw[n g (λi=>d (by rw[e,i];rfl))];exact h|mp J=>obtain⟨g,m,c,e,h,R⟩:=u;refine⟨g,m,c,e,?_,R⟩;simp only at e d;rw[n g (λi=>d (by rw[e,i];rfl))];exact h
 ·rw[n c (λe=>by rw[e,N]at r;cases r)];exact f.mem c o r
 ·exact⟨v.1.trans f.below.os,v.2.1.trans f.below.tape,v.2.2.trans f.below.output,by rw[K];exact f.below.size,λj S=>by rw[n j (by omega)];exact f.below.block j S⟩
end
end Go.X
namespace Go.X
open Go Go.RowKit
section
variable{E:Env}{σ:dp}{H:HS}{M:Mem}{a:xp}{w:bQ}{ν:Nat->ay}
theorem yW{P:bZ}{o:db}{a:xp}{w:bQ}{K c:xp->bQ->Prop}{Q Q':Exit->xp->bQ->Prop}(h:∀a w,K a w->c a w)(d:∀e a w,Q e a w->Q' e a w)(g:o.wp P a w K Q):o.wp P a w c Q':=by have b:o.wp P a w c Q:=Oper.wp_mono h g;clear g h;unfold oC at*;generalize(da a.eval o).run P w=r at*;cases r with
                                                                                                                                                                      |ok n u=>cases n<;>simp only[sF]at b⊢<;>first|exact b|exact Calls.mono b (λe i f=>by cases e<;>first|exact f|exact d _ _ _ f|exact f.imp λa h=>h.imp λw h=>d _ _ _ h)
                                                                                                                                                                      |halt x u=>cases x<;>simp only[sF]at b⊢<;>first|exact d _ _ _ b|exact b
theorem KI{d:Nat}{s:SV}{K:KP}(o:Slots E.N ν σ a)(l:Heap E ν H M w)(p:d<E.N)(h:boxK d s K σ H M)(t:bL):∃w',(Instr.box t (s.cL ν)).run E.P w=.ok (.pointer (some ⟨w.heap.size,0,none⟩)) w'/\∃σ' H' L,Rep E σ' H' L (a.put (some d) (.pointer (some ⟨w.heap.size,0,none⟩))) w'/\K σ' H' L:=by
 obtain⟨⟨⟨q,m⟩,r,v⟩,x⟩:=h;have g:∀k,(ν k).cells=#[ν k]:=λk=>rR (l.one k);have e:=pC q ν g;refine⟨w.alloc (.cells (aS ν (cellsSV s)).toArray t),?_,_,_,_,?_,x⟩;·simp only[Instr.box,newVar,newRow,e,a7,run_newObj,aQ,bC];rfl
 ·let u:Nat->ay:=λk=>if k/8=d then .pointer (some ⟨w.heap.size,0,none⟩)else ν k;have f:∀k,k/8≠d->u k=ν k:=λk j=>by simp[u,j]
  have i:(8*d)/8=d:=by omega
  have c:u (8*d)=.pointer (some ⟨w.heap.size,0,none⟩):=by simp[u,i]
  refine⟨u,?_,?_⟩;·refine(o.ZK f r).ml p ?_;simp[SV.cL,c,KD]
  ·refine l.new v f (λk=>?_) (gm w _) i ?_ ?_
   ·by_cases j:k/8=d;·simp[u,j,iR]
    ·simp only[u,j,cA];exact l.one k
   ·refine⟨⟨w.heap.size,t,c,?_⟩,λ_ h=>by cases h⟩;rw[eP,j7 f _ m]
   ·intro b n;rw[c]at n;simp only[ee,aO]at n;omega
theorem nX{P:bZ}{t b off:Nat}{v:ay}{a:Array ay}{T:bL}(hi:∃i,P.info? t=some i)(c:yO P t=v.cells.size)(d:w.heap[b]?=some (.cells a T (0,0)))(e:off+v.cells.size<=a.size)(f:∀u∈v.cells.toList,u.oneCell'=true):(storeVar t ⟨b,off,none⟩ v).run P w=.ok () (w.setRow b (a.toList.take off++v.cells.toList++a.toList.drop (off+v.cells.size)).toArray):=by obtain⟨i,hi⟩:=hi;have :=run_storeCells_at P b off T v.cells.toList 0 a w d (by simpa using e) f;simp only[eJ,jE]at this;simp only[storeVar,a7,fN hi,aQ,c,ne_eq,not_true_eq_false,cA,jS,this]
theorem FH{d:Option Nat}{t:bL}{p s:SV}{l:Prop}{K:KP}{x:bB}{y:bB}{o:db}(X:o.op=.store t x y)(A:o.dst=d)(J:Slots E.N ν σ a)(z:Heap E ν H M w)(Y:a.eval x=p.cL ν)(Z:a.eval y=s.cL ν)(hd:∀e,d=some e->e<E.N)(B:l->OpK E o K σ H M)(h:ri d (lay (f_ E.P t)) p s l K σ H M)(hi:(∃n g,lay (f_ E.P t)=some (n,g))->∃i,E.P.info? t=some i/\∀n g,lay (f_ E.P t)=some (n,g)->yO E.P t=n):o.wp E.P a w (λa' w'=>∃σ' H' U,Rep E σ' H' U a' w'/\K σ' H' U) (λ_ _ _=>False):=by
 unfold ri at h;split at h
 ·rename_i k sz i off;split at h
  ·rename_i L tt V;obtain⟨⟨⟨⟨⟨h1,O⟩,C⟩,h2⟩,rfl⟩,hK⟩:=h;obtain⟨⟨b,T,r,W⟩,D⟩:=z.holds _ (bP V);simp only at r;have F:∀k,(ν k).cells=#[ν k]:=λk=>rR (z.one k);have c:=pC h1 ν F;have u:(aS ν L).length=L.length:=by rw[cC];simp
   have f:(aS ν (cellsSV s)).length=(cellsSV s).length:=by rw[cC];simp
   obtain⟨n,g,G,hn⟩:∃n g,lay (f_ E.P t)=some (n,g)/\(cellsSV s).length=n:=by cases G:lay (f_ E.P t)with|none=>rw[G]at C;cases C|some q=>obtain⟨n,g⟩:=q;rw[G]at C;simp only[layN,aO]at C;exact⟨n,g,rfl,C.symm⟩
   obtain⟨i0,Q,R⟩:=hi ⟨n,g,G⟩;have m:=nX (w:=w) (v:=s.cL ν) (off:=off) ⟨i0,Q⟩ (by rw[R n g G,c];simp[f,hn]) W (by rw[c];simp only[dh,u,f];omega) (by rw[c];exact HH O z.one);rw[c]at m;simp only[dh,f]at m;have I:(SV.ptr k sz 0 off).cL ν=.pointer (some ⟨b,off,none⟩):=by simp[SV.cL,r,KD]
   have S:(da a.eval o).run E.P w=.ok .skip (w.setRow b (aS ν (putAt L off (cellsSV s))).toArray):=by rw[wE _ _ _ h2];simp only[da,X,Y,Z,I,Instr.storeAt,gj,a7,bC,aQ,m];congr 3;simp[cC,eH,fI]
   unfold oC;rw[S];simp only[sF];refine⟨_,_,_,⟨ν,?_,z.Ql V (b:=b) (by rw[r];rfl) (λj hj=>ny w b _ hj) (by simp[v7]) ⟨rfl,rfl,rfl⟩ (p:=.box (stBox s off L (lay (f_ E.P t))).1 tt) ⟨⟨b,T,r,rT w b _ _ T _ W⟩,D⟩⟩,hK⟩;rw[A];cases d with|none=>exact J|some d=>exact J.ml (hd d rfl) rfl
  ·exact B h a w ⟨ν,J,z⟩
 ·exact B h a w ⟨ν,J,z⟩
theorem BY{P:bZ}{t:bL}(a:∀n g,lay (f_ P t)=some (n,g)->yO P t=n/\n≠0)(h:∃n g,lay (f_ P t)=some (n,g)):∃i,P.info? t=some i/\∀n g,lay (f_ P t)=some (n,g)->yO P t=n:=by obtain⟨n,g,b⟩:=h;obtain⟨c,e⟩:=a n g b;cases d:P.info? t with|some i=>exact⟨i,rfl,λn g h=>(a n g h).1⟩|none=>simp[yO,d]at c;omega
/-! rows: soundness -/
section
variable{o:db}{K:KP}
theorem qN{d:Nat}:∀{σ:dp}{D:List Nat}{k:Nat}{p:Bool×SV},lk (sigDropA d D σ) k=some p->memN k D=false/\lk σ k=some p/\p.2.noKey d=true
 |[],D,k,p,h=>by simp[sigDropA,lk]at h
 |(j,g,s)::σ,D,k,p,h=>by
  simp only[sigDropA]at h;cases b:memN j D with
   |true=>rw[b]at h;simp only[dM]at h;obtain⟨a,c,f⟩:=qN h;refine⟨a,?_,f⟩;simp only[lk];rw[ai (λe=>by rw[e,b]at a;cases a)];exact c
   |false=>
    rw[b]at h;simp only[ln]at h;cases i:s.noKey d with
     |true=>
      rw[i]at h;simp only[dM,lk]at h;simp only[lk];split at h;·rename_i e;rw[aF e];simp only[aO]at h;subst h e;exact⟨b,rfl,i⟩
      ·rename_i e;rw[ai e];exact qN h
     |false=>
      rw[i]at h;simp only[ln]at h;obtain⟨a,c,f⟩:=qN h;simp only[memN]at a;split at a;·cases a
      ·rename_i e;refine⟨a,?_,f⟩;simp only[lk];rw[ai e];exact c
theorem Slots.wF{N:Nat}{d:Nat}{ν':Nat->ay}(b:Slots N ν σ a)(c:∀k,k/8≠d->ν' k=ν k):Slots N ν' (sigDrop d σ) a:=⟨b.1,b.2.1,λk g s e=>by obtain⟨_,f,i⟩:=qN e;rw[nw c s i];exact b.2.2 k g s f⟩
theorem fR(d:Nat):∀H:HS,(hdel d H).Sublist H
 |[]=>qB _
 |(k,p)::H=>by
  simp only[hdel];split;·exact(fR d H).cons _
  ·exact(fR d H).cons_cons _
theorem fq(k:Nat):∀H:HS,(hdelk k H).Sublist H
 |[]=>qB _
 |(j,p)::H=>by
  simp only[hdelk];split;·exact(fq k H).cons _
  ·exact(fq k H).cons_cons _
theorem KJ(k:Option Nat)(H:HS):(hdelk? k H).Sublist H:=by cases k with|none=>exact qB _|some k=>exact fq k H
theorem jo(k:Nat):∀(H:HS)(q:Nat×PO),q∈hdelk k H->q.1≠k
 |[],q,h=>by simp[hdelk]at h
 |(j,p)::H,q,h=>by
  simp only[hdelk]at h;split at h;·exact jo k H q h
  ·rename_i e;rcases aV.1 h with rfl|h;·exact e
   ·exact jo k H q h
theorem Heap.gB(a:Heap E ν H M w){H':HS}(h:H'.Sublist H):Heap E ν H' M w:=⟨λp c=>a.holds p (h.subset c),a.nodup.sublist (h.filterMap _),λb d=>a.apart b ((h.filterMap _).subset d),a.mem,a.below,a.le0,a.fresh,a.one⟩
theorem mU(n:Slots E.N ν σ a)(m:Heap E ν H M w){d:Nat}(o:d<E.N){H':HS}(f:H'.Sublist H)(q:hNoKey d H'=true){w':bQ}(i:um w.heap.size w w'){v:ay}(r:v.oneCell'=true){p:PO}{s:SV}(t:∀ν',(∀k,k/8≠d->ν' k=ν k)->p.jJ ν' w' v)(l:∀b,ee v=some b->w.heap.size<=b)(u:∀ν':Nat->ay,ν' (8*d)=v->s.cL ν'=v):Rep E ((d,true,s)::sigDrop d σ) ((8*d,p)::H') M (a.put (some d) v) w':=by
 let ν':Nat->ay:=λk=>if k/8=d then v else ν k;have e:∀k,k/8≠d->ν' k=ν k:=λk j=>by simp[ν',j]
 have g:(8*d)/8=d:=by omega
 have c:ν' (8*d)=v:=by simp[ν',g]
 refine⟨ν',(n.wF e).ml o (by rw[dM,u ν' c]),(m.gB f).new q e (λk=>?_) i g (by rw[c];exact t ν' e) (λb i=>by rw[c]at i;exact l b i)⟩;by_cases j:k/8=d;·simp[ν',j,r]
 ·simp only[ν',j,cA];exact m.one k
theorem oL{P:bZ}{t e sz bt:Nat}{b:List ay}(h:D8 P t=some (e,sz,bt,b)):∃i z,P.underlying t=some (.slice e)/\P.info? e=some i/\i.zero=some z/\i.size=sz/\i.bytes=bt/\z.cells.toList=b:=by
 unfold D8 at h;split at h;·rename_i c d;cases a:P.info? c with|none=>rw[a]at h;cases h|some i=>rw[a]at h;simp only[b_,dy,cD]at h;obtain⟨z,f,rfl,rfl,rfl,rfl⟩:=h;exact⟨i,z,d,a,f,rfl,rfl,rfl⟩
 ·cases h
theorem Ao(ν:Nat->ay):∀l:List SV,conc1s l=true->aS ν l=cells1 l|[],_=>rfl|s::l,h=>by simp only[conc1s,ba]at h;simp only[aS,cells1,Ao ν l h.2];cases s<;>first|rfl|(simp[conc1]at h)
theorem mV{l:List ay}(h:onesV l=true):∀c∈l,c.oneCell'=true:=by
 induction l with
  |nil=>simp
  |cons x l b=>
   simp only[onesV,ba]at h;intro c a;rcases aV.1 a with rfl|a;·exact h.1
   ·exact b h.2 c a
theorem uB(ν:Nat->ay){s:SV}(h:concB s=true)(a:onesV (cellsV s)=true):(s.cL ν).cells.toList=cellsV s:=by cases s with|v x=>simp only[cellsV,onesV,yI]at a;simp only[SV.cL,cellsV,rR a]|agg l=>simp only[concB]at h;simp only[SV.cL,cellsV,Value.cells,Ao ν l h]|_=>simp[concB]at h
theorem FI{sz:Nat}:∀(ps:List (Nat×ay))(es:List (List ay))(j:Nat)(b a:List ay),ps.map (λp=>p.2.cells.toList)=es->(∀i(p:Nat×ay),ps[i]?=some p->p.1=j+i)->(∀e∈es,e.length=sz)->b.length=j*sz->a.length=ps.length*sz->vZ (λi=>some (i*sz,sz)) (b++a).toArray ps=some (b++es.flatten).toArray
 |[],es,j,b,a,d,_,_,_,g=>by simp only[cr]at d;subst d;simp only[bM,o7,e_]at g;subst g;simp[vZ]
 |(i,v)::ps,es,j,b,a,d,t,u,w,g=>by
  have y:=t 0 (i,v) rfl;simp only[eJ]at y;subst y;cases es with
   |nil=>simp at d
   |cons e es=>
    simp only[ca,A3]at d;obtain⟨f,h⟩:=d;have c:e.length=sz:=u e bn;have m:v.cells.size=sz:=by rw[<-c,<-f];simp
    have n:a.length=sz+ps.length*sz:=by rw[g,aM,jH];omega
    unfold vZ;simp only[m];rw[ai (by simp;omega)];have o:(v.cells.zipIdx.foldl (λq(x:ay×Nat)=>q.setIfInBounds (i*sz+x.2) x.1) (b++a).toArray)=((b++e)++a.drop sz).toArray:=by
     have r:=BU (λ_=>Value.bool false) (e.map .v) ((b++a).map .v) (i*sz) 0;have s:∀l:List ay,aS (λ_=>Value.bool false) (l.map .v)=l:=λl=>by
      rw[cC,jB];conv=>rhs;rw[<-List.map_id l]
      rfl
     rw[s,s]at r;rw[wE _ _ _ (by simp;omega)]at r;rw[<-Array.foldl_toList,Array.toList_zipIdx,f];refine r.trans ?_;congr 1;simp only[eJ,ae,<-eH,<-fI,<-bq,s];rw[<-w,c,List.take_left];congr 1;rw[List.drop_append];simp
    show vZ _ (v.cells.zipIdx.foldl (λq(x:ay×Nat)=>q.setIfInBounds (i*sz+x.2) x.1) (b++a).toArray) ps=_;rw[o];have :=FI ps es (i+1) (b++e) (a.drop sz) h (λk p z=>by have :=t (k+1) p z;omega) (λA B=>u A (bm _ B)) (by rw[aG,w,c,jH,Nat.one_mul]) (by rw[aT,n];omega);rw[this];simp
theorem EF{sz:Nat}{ν:Nat->ay}:∀{ps:List (Nat×SV)}{j:Nat},concP ps=true->(rowP sz j ps).2->(ps.map λp=>(p.2.cL ν).cells.toList)=(rowP sz j ps).1/\(∀i(p:Nat×SV),ps[i]?=some p->p.1=j+i)/\∀e∈(rowP sz j ps).1,e.length=sz/\∀c∈e,c.oneCell'=true
 |[],j,_,_=>by simp[rowP]
 |(i,s)::r,j,b,h=>by
  simp only[concP,ba]at b;obtain⟨⟨⟨rfl,g⟩,f⟩,l⟩:=h;obtain⟨m,n,o⟩:=EF (ν:=ν) b.2 l;refine⟨?_,λk p d=>?_,λe a=>?_⟩;·simp only[ca,rowP,uB ν b.1 f,m]
  ·cases k with|zero=>simp only[dS,aO]at d;subst d;rfl|succ k=>have :=n k p d;omega
  ·simp only[rowP,aV]at a;rcases a with rfl|a;·exact⟨g,mV f⟩
   ·exact o e a
theorem jq(h:∀ν a w,Slots E.N ν σ a->Heap E ν H M w->∃n w',(da a.eval o).run E.P w=.ok (.value n) w'/\∃σ' H' L,Rep E σ' H' L (a.put o.dst n) w'/\K σ' H' L):OpK E o K σ H M:=by rintro a w⟨ν,b,c⟩;obtain⟨n,w',d,e⟩:=h ν a w b c;unfold oC;rw[d];exact e
theorem cX{sz:Nat}{es:List (List ay)}(h:∀e∈es,e.length=sz):es.flatten.length=es.length*sz:=by induction es with|nil=>simp|cons e es a=>rw[jF,aG,a (λb c=>h b (bm _ c)),h e bn,aM,jH];omega
theorem HJ{t n:Nat}{ps:Array (Nat×bB)}(Q:o.op=.buildSlice t n ps)(h:bsC E (OpK E o K σ H M) K σ H M n o.dst (D8 E.P t) (lJ σ ps.toList)):OpK E o K σ H M:=by
 unfold bsC at h;split at h
 ·rename_i d e sz bt zs l R s S;unfold bsD at h;split at h
  ·rename_i T;obtain⟨⟨⟨V,f,W,D⟩,m⟩,X,Y⟩:=h;obtain⟨i,z,F,G,I,rfl,rfl,rfl⟩:=oL s;refine jq λν a w J Z=>?_;obtain⟨L,g2,u⟩:=EF (ν:=ν) T m;have v:=qJ J S rfl;have hps:(ps.map λ(x:Nat×bB)=>match x with|(i,x)=>(i,a.eval x)).toList=l.map λp=>(p.1,p.2.cL ν):=by rw[<-v,ud]
   have g:(rowP i.size 0 l).1.length=n:=by rw[<-L,ae,f]
   have hfl:=cX (λe y=>(u e y).1);have c:∀r:Array ay,r.size=n*i.size->vZ (λj=>some (j*i.size,i.size)) r (l.map λp=>(p.1,p.2.cL ν))=some ((rowP i.size 0 l).1.flatten).toArray:=by intro r A;have :=FI (sz:=i.size) (l.map λp=>(p.1,p.2.cL ν)) (rowP i.size 0 l).1 0 [] r.toList (by rw[jB];exact L) (λk p N=>by rw[aN,dy]at N;obtain⟨q,hq,rfl⟩:=N;exact g2 k q hq) (λe y=>(u e y).1) (by simp) (by simp[A,f]);simpa using this
   refine⟨.slice (some ⟨w.heap.size,0,none⟩) n n,w.alloc (.cells ((rowP i.size 0 l).1.flatten).toArray e),?_,_,_,_,?_,Y⟩
   ·simp only[da,Q,a7];have :(ph t n (ps.map λ(x:Nat×bB)=>match x with|(i,x)=>(i,a.eval x))).run E.P w=.ok (.slice (some ⟨w.heap.size,0,none⟩) n n) (w.alloc (.cells ((rowP i.size 0 l).1.flatten).toArray e)):=by
     by_cases B:n*i.size=0;·have C:=c (Array.map (λx=>default) (PA 0)) (by simp[B]);simp[ph,a8 F,sizeOf,Ad,wA,G,I,B,newRow,v,C]
     ·have C:=c ((PA (n*i.size)).map (z.cells[·%z.cells.size]!)) (by simp);simp[ph,a8 F,sizeOf,Ad,wA,G,I,B,newRow,v,C,show¬16777216<n*i.size by omega]
    rw[this];rfl
   ·rw[R];refine mU J Z V (fR d H) X (gm w _) rfl (λU O=>⟨u,.inr ⟨w.heap.size,n,e,[],by rw[g],by omega,by simp only[dB];omega,by simp[g],?_⟩⟩) (λb hb=>by simp only[ee,aO]at hb;omega) (λU h=>h);rw[cS];exact eP w _
  ·exact h
 ·exact h
theorem yX(a:Array ay):∀n:Nat,(TO a (n*a.size)).toList=(bg n a.toList).flatten:=by
 intro n;have b:∀(n k:Nat),(bg n a.toList).flatten[k]?=if k<n*a.size then some (a[k%a.size]!)else none:=by
  intro n;induction n with
   |zero=>intro k;simp
   |succ n d=>
    intro k;rw[List.replicate_succ,jF,pN];simp only[jE];have e:(n+1)*a.size=a.size+n*a.size:=by rw[jH];omega
    split;·rename_i h;rw[aF (by omega),Nat.mod_eq_of_lt h];rw[cu,eC h];simp[h]
    ·rename_i h;rw[d (k-a.size),e];have f:k%a.size=(k-a.size)%a.size:=by rw[Nat.mod_eq_sub_mod (by omega)]
     rw[f];by_cases c:k-a.size<n*a.size;·rw[aF c,aF (by omega)]
     ·rw[ai c,ai (by omega)]
 apply gA;intro k;rw[b n k];simp only[TO,ud,aN,PM];split;·rename_i h;rw[A4 h];rfl
 ·rename_i h;rw[dm (by simp;omega)];rfl
theorem Qm{t:bL}{x y:bB}(q:o.op=.makeSlice t x y)(h:mkC E (OpK E o K σ H M) K σ H M o.dst (D8 E.P t) (opv σ x) (opv σ y)):OpK E o K σ H M:=by
 unfold mkC at h;split at h
 ·rename_i d e sz Y Z r A s B v g C D;obtain⟨⟨⟨F,c,j⟩,⟨G,k⟩,I,l⟩,J,L⟩:=h;obtain⟨i,z,N,O,Q,rfl,rfl,rfl⟩:=oL g;refine jq λν a w m R=>?_;have S:=m.mA C rfl;have T:=m.mA D rfl;have U:=run_make (P:=E.P) w t e i z N O Q r s A B G k l (by omega);have n:z.cells.size=i.size:=by rw[<-c];simp
  have V:(TO z.cells (B.toNat*i.size)).toList=(bg A.toNat z.cells.toList).flatten++(bg (B.toNat-A.toNat) z.cells.toList).flatten:=by rw[<-n,yX,<-j4,List.replicate_append_replicate,show A.toNat+(B.toNat-A.toNat)=B.toNat by omega]
  refine⟨.slice (some ⟨w.heap.size,0,none⟩) A.toNat B.toNat,w.alloc (.cells (TO z.cells (B.toNat*i.size)) e),?_,_,_,_,?_,L⟩;·simp only[da,q,S,T,SV.cL,a7,U,aQ,bC]
  ·rw[v];refine mU m R F (fR d H) J (gm w _) rfl (λu p=>⟨λW f=>?_,.inr ⟨w.heap.size,B.toNat,e,(bg (B.toNat-A.toNat) z.cells.toList).flatten,by rw[dT],by rw[dT];omega,by simp only[dB];omega,?_,?_⟩⟩) (λb X=>by simp only[ee,aO]at X;omega) (λu h=>h);·rw[A5]at f;obtain⟨_,rfl⟩:=f;exact⟨c,mV j⟩
   ·rw[cX (sz:=i.size) (λW f=>by rw[A5]at f;rw[f.2];exact c),dT,dT]
   ·rw[<-V];exact eP w _
 ·exact h
theorem Qn{P:bZ}{t:bL}{b:List ay}(h:XA P t=some b):∃i z,P.info? t=some i/\i.zero=some z/\z.cells.toList=b:=by unfold XA at h;cases a:Wz P t with|true=>rw[a]at h;cases h|false=>rw[a]at h;simp only[ln]at h;cases c:P.info? t with|none=>rw[c]at h;cases h|some i=>rw[c]at h;simp only[b_,dy]at h;obtain⟨z,d,rfl⟩:=h;exact⟨i,z,rfl,d,rfl⟩
theorem Qo{t:bL}(f:o.op=.alloc t)(h:alC E (OpK E o K σ H M) K σ H M o.dst (XA E.P t)):OpK E o K σ H M:=by
 unfold alC at h;split at h
 ·rename_i d s g c;obtain⟨⟨j,k⟩,l⟩:=h;obtain⟨i,z,m,n,rfl⟩:=Qn c;refine jq λν a w p q=>?_;refine⟨.pointer (some ⟨w.heap.size,0,none⟩),w.alloc (.cells z.cells t),?_,_,_,_,?_,l⟩;·simp[da,f,Instr.alloc,wA,Ad,m,n,newVar,newRow]
  ·rw[g];refine mU p q j (fR d H) k (gm w _) rfl (λu e=>⟨⟨w.heap.size,t,rfl,?_⟩,λ_ h=>by cases h⟩) (λb r=>by simp only[ee,aO]at r;omega) (λu h=>by simp[SV.cL,h,KD]);rw[eP,cC,jB];have :(z.cells.toList.map (SV.cL u∘SV.v)).toArray=z.cells:=by
    apply j6;conv=>rhs;rw[<-List.map_id z.cells.toList]
    rfl
   rw[this]
 ·exact h
theorem uC{sz:Nat}{cs sp:List ay}:∀{es:List (List ay)}{i off:Nat},(∀e∈es,e.length=sz)->i<es.length->off+cs.length<=sz->(es.flatten++sp).take (i*sz+off)++cs++(es.flatten++sp).drop (i*sz+off+cs.length)=(es.set i (km (es.getD i []) off cs)).flatten++sp|[],i,off,_,b,_=>by simp at b|e::es,0,off,a,_,c=>by have d:e.length=sz:=a e bn;simp only[o7,b7,List.set_cons_zero,a_,jF,km,bN];rw[jC (by omega),List.drop_append_of_le_length (by omega)]|e::es,i+1,off,a,b,c=>by have d:e.length=sz:=a e bn;have f:=uC (sp:=sp) (es:=es) (i:=i) (off:=off) (λg h=>a g (bm _ h)) (by simpa using b) c;simp only[List.set_cons_succ,bA,jF,bN]at f⊢;rw[show(i+1)*sz+off=e.length+(i*sz+off)by rw[jH,d];omega,show e.length+(i*sz+off)+cs.length=e.length+(i*sz+off+cs.length)by omega];rw[List.take_length_add_append,List.drop_length_add_append,bN,f]
theorem Ov{t:bL}{x y:bB}(ho:o.op=.store t x y)(hz:D7 E.P t)(V:dOk E.N o.dst)(h:stRD o.dst (lay (f_ E.P t)) (OpK E o K σ H M) K σ H M (opv σ x) (opv σ y)):OpK E o K σ H M:=by
 unfold stRD at h;split at h
 ·rename_i k sz i off s hx hy;unfold stRB at h;split at h
  ·rename_i u;unfold stRC at h;split at h
   ·rename_i f m hk;obtain⟨⟨⟨⟨R,F⟩,rfl,h0⟩,D,h3⟩,hK⟩:=h;rintro a w⟨ν,S,hh⟩;have ex:=S.mA hx rfl;have ey:=S.mA hy rfl;have l:=uB ν u R;have B:(s.cL ν).cells.size=(cellsV s).length:=by rw[<-l];simp
    obtain⟨G,g2⟩:=hh.holds _ (bP hk);rcases g2 with⟨_,rfl⟩|⟨b,W,T,I,z,g3,g4,g5,hb⟩;·simp at D
    simp only at z;have X:=cX (λe C=>(G e C).1);obtain⟨n,g,J,hn⟩:∃n g,lay (f_ E.P t)=some (n,g)/\(cellsV s).length=n:=by cases J:lay (f_ E.P t)with|none=>rw[J]at F;cases F|some q=>obtain⟨n,g⟩:=q;rw[J]at F;simp only[layN,aO]at F;exact⟨n,g,rfl,F.symm⟩
    obtain⟨i0,Y,Z⟩:=BY hz ⟨n,g,J⟩;have hle:i*f+f<=m.length*f:=by have :=il f (show i+1<=m.length by omega);rw[jH,Nat.one_mul]at this;exact this
    have A:=nX (P:=E.P) (t:=t) (w:=w) (v:=s.cL ν) (off:=i*f+off) ⟨i0,Y⟩ (by rw[Z n g J,B,hn]) hb (by rw[B];simp only[dh,aG,X];omega) (by rw[l];exact mV R);rw[l,B]at A;have L:(m.set i (stRowE f off (cellsV s) (m.getD i []))).flatten++I=(m.flatten++I).take (i*f+off)++cellsV s++(m.flatten++I).drop (i*f+off+(cellsV s).length):=by
     rw[uC (λe C=>(G e C).1) D h3];congr 3;unfold stRowE;cases U:(cellsV s).length==f with
      |false=>rfl
      |true=>
       simp only[pj]at U;obtain rfl:off=0:=by omega
       have r:(m.getD i []).length=f:=by rw[cN,aP D];exact(G _ (G4 D)).1
       simp only[dM,km,fE,eX,b7];rw[bh (by omega),cS]
    have O:(SV.ptr k f i off).cL ν=.pointer (some ⟨b,i*f+off,none⟩):=by simp[SV.cL,z,KD]
    have hw':(da a.eval o).run E.P w=.ok .skip (w.setRow b ((m.set i (stRowE f off (cellsV s) (m.getD i []))).flatten++I).toArray):=by rw[L];simp only[da,ho,ex,ey,O,Instr.storeAt,gj,a7,bC,aQ,A]
    unfold oC;rw[hw'];simp only[sF];have Q:∀e∈m.set i (stRowE f off (cellsV s) (m.getD i [])),e.length=f/\∀c∈e,c.oneCell'=true:=by
     intro e C;rcases List.mem_or_eq_of_mem_set C with C|rfl;·exact G e C
     ·have r:(m.getD i []).length=f/\∀c∈m.getD i [],c.oneCell'=true:=by rw[cN,aP D];exact G _ (G4 D)
      unfold stRowE;cases U:(cellsV s).length==f with
       |true=>simp only[pj]at U;exact⟨U,mV R⟩
       |false=>
        simp only[ln,km];refine⟨by simp only[aG,a6,aT];omega,λc u=>?_⟩;simp only[bU]at u;rcases u with(u|u)|u;·exact r.2 c (cq u)
        ·exact mV R c u
        ·exact r.2 c (cG u)
    refine⟨_,_,_,⟨ν,?_,hh.Ql hk (b:=b) (by rw[z];rfl) (λj hj=>ny w b _ hj) (by simp[v7]) ⟨rfl,rfl,rfl⟩ (p:=.row f (m.set i (stRowE f off (cellsV s) (m.getD i [])))) ⟨Q,.inr ⟨b,W,T,I,by rw[eg];exact z,by rw[eg];exact g3,g4,by rw[eg];exact g5,rT w b _ _ T _ hb⟩⟩⟩,hK⟩;cases hd:o.dst with|none=>exact S|some d=>exact S.ml (V d hd) rfl
   ·exact h
  ·exact h
 ·exact h
theorem BZ(f:Nat->ay)(sz:Nat):∀n:Nat,((sE n).map λi=>(sE sz).map λj=>f (i*sz+j)).flatten=(sE (n*sz)).map f|0=>by simp|n+1=>by rw[List.range_succ,bq,j4,BZ f sz n,jH,Nat.one_mul,List.range_add,bq];simp[jB,wi]
theorem Qp{P:bZ}{sz:Nat}{tx:bL}{x:SV}{es:List (List ay)}{C:Prop}(K:Heap E ν H M w)(h:EE H M sz (f_ P tx) x=some (es,C))(D:C):Src P sz tx (x.cL ν) es.length es.flatten w/\∀e∈es,e.length=sz/\∀c∈e,c.oneCell'=true:=by
 unfold EE at h;split at h
 ·rename_i Q F g k r;obtain⟨d,_,_⟩:=k7 r;unfold srcC at h;split at h
  ·rename_i R S U;simp only[aO,cD]at h;obtain⟨rfl,rfl⟩:=h;subst D;obtain⟨G,V⟩:=K.holds _ (bP U);refine⟨?_,G⟩;have f:=cX (λe a=>(G e a).1);rcases V with⟨m,rfl⟩|⟨b,W,T,sp,m,g3,g4,g5,X⟩;·simp only at m;simp only[SV.cL,m];exact Src.ofNil w d 0
   ·simp only at m;simp only[SV.cL,m];refine Src.ofSlice w d _ _ _ _ f (λj u o=>?_) (λu d=>?_)
    ·have z:(⟨b,0,none⟩:qz).add j=⟨b,j,none⟩:=by unfold Ac;split<;>simp_all
     rw[z,cell_of_row w b j _ T (0,0) X];simp only[dH,pN];rw[aF (aI.1 o).1,o]
    ·obtain⟨e,a,q⟩:=rH.1 d;exact(G e a).2 u q
  ·cases h
 ·rename_i Q F g y r;obtain⟨d,_,_⟩:=k7 r;simp only[aO,cD]at h;obtain⟨rfl,rfl⟩:=h;obtain⟨⟨Y,L⟩,I⟩:=D;have p:∀e∈tK M y sz,e.length=sz/\∀c∈e,c.oneCell'=true:=by intro e a;simp only[tK,dq,List.mem_range]at a;obtain⟨i,Z,rfl⟩:=a;refine⟨by simp,λc q=>?_⟩;simp only[dq,List.mem_range]at q;obtain⟨j,o,rfl⟩:=q;exact(I i Z j o).2
  refine⟨?_,p⟩;have f:=cX (λe a=>(p e a).1);have A:∀u∈(tK M y sz).flatten,u.oneCell'=true:=by intro u d;obtain⟨e,a,q⟩:=rH.1 d;exact(p e a).2 u q
  cases y with
   |slice t n c=>
    have N:(tK M (.slice t n c) sz).length=n:=by simp[tK,eB]
    rw[N]at f;cases t with
     |none=>
      cases n with
       |zero=>
        have :(tK M (.slice none 0 c) sz)=[]:=by simp[tK,eB]
        rw[this];exact Src.ofNil w d c
       |succ n=>have :=(I 0 (by simp[eB]) 0 L).1;simp[yU,mS]at this
     |some t=>
      simp only[SV.cL];rw[N];refine Src.ofSlice w d t n c _ f (λj u o=>?_) A;have B:j<n*sz:=by rw[<-f];exact(aI.1 o).1
      have hr:(tK M (.slice (some t) n c) sz).flatten=(sE (n*sz)).map λj=>(mS M (.slice (some t) n c) j).getD dN:=BZ (λj=>(mS M (.slice (some t) n c) j).getD dN) sz n;rw[hr,aN,A4 B]at o;simp only[cJ,aO]at o;have J:=(I (j/sz) (by simp only[eB];exact Nat.div_lt_of_lt_mul (by rw[o8];exact B)) (j%sz) (Af _ L)).1;simp only[yU]at J;rw[o8,J5]at J;obtain⟨v,O⟩:=ij.1 J;rw[O]at o;simp only[dn]at o;subst o;exact uy K.mem O
   |_=>simp[isSl]at Y
 ·rename_i s r;have d:P.underlying tx=some .string:=by unfold f_ at r;split at r<;>(try split at r)<;>first|assumption|cases r
  simp only[aO,cD]at h;obtain⟨rfl,rfl⟩:=h;subst D;have e1:((bl s).map iy).flatten=byteCells s:=by unfold byteCells bl;induction s.data.toList with|nil=>rfl|cons b l ih=>simp only[ca,jF,ih];rfl
  refine⟨?_,λe a=>?_⟩;·rw[e1,ae,<-pB];exact Src.ofString w d s
  ·obtain⟨b,_,rfl⟩:=dq.1 a;exact⟨rfl,λc q=>by simp only[iy,bD]at q;subst q;rfl⟩
 ·cases h
theorem Heap.HK(e:Heap E ν H M w){d:Nat}(m:hNoKey d H=true){ν':Nat->ay}(g:∀k,k/8≠d->ν' k=ν k)(n:∀k,(ν' k).oneCell'=true){p:PO}(o:p.jJ ν' w (ν' (8*d)))(i:∀b,ee (ν' (8*d))=some b->b∉fp ν H/\M b=none/\E.w0.heap.size<=b):Heap E ν' ((8*d,p)::H) M w:=by
 have l:=BW g m;have f:iB (λp=>ee (ν' p.1)) H=fp ν H:=l;refine⟨λq j=>?_,?_,λb c=>?_,e.mem,e.below,e.le0,e.fresh,n⟩
 ·rcases aV.1 j with rfl|j;·exact o
  ·obtain⟨r,s⟩:=wD m q j;rw[g q.1 r];exact pZ g s (e.holds q j)
 ·show(iB _ _).Nodup;rw[bK,f];split;·exact e.nodup
  ·rename_i b c;exact gK.2 ⟨(i b c).1,e.nodup⟩
 ·have a:b∈iB (λp=>ee (ν' p.1)) ((8*d,p)::H):=c;rw[bK,f]at a;split at a;·exact e.apart b a
  ·rename_i t c;rcases aV.1 a with rfl|a;·exact(i b c).2
   ·exact e.apart b a
theorem Heap.aa4(f:Heap E ν H M w){b:Nat}(A:b∉fp ν H)(B:M b=none)(K:E.w0.heap.size<=b){w':bQ}(i:∀j,j≠b->w'.heap[j]?=w.heap[j]?)(C:w'.heap.size=w.heap.size)(n:w'.os=w.os/\w'.tape=w.tape/\w'.output=w.output):Heap E ν H M w':=by
 refine⟨λq y=>?_,f.nodup,f.apart,λc o k=>?_,?_,f.le0,f.fresh,f.one⟩;·have l:=f.holds q y;have a:∀c,ee (ν q.1)=some c->c≠b:=λc k e=>A (bH.2 ⟨q,y,by rw[k,e]⟩);obtain⟨j,D⟩:=q;cases D with|box L t=>obtain⟨⟨d,T,e,h⟩,F⟩:=l;refine⟨⟨d,T,e,?_⟩,F⟩;simp only at e a;rw[i d (a d (by rw[e];rfl))];exact h|row G z=>obtain⟨p,r⟩:=l;refine⟨p,r.imp id ?_⟩;rintro⟨d,g,T,s,e,u,v,x,h⟩;refine⟨d,g,T,s,e,u,v,x,?_⟩;simp only at e a;rw[i d (a d (by rw[e];rfl))];exact h|tab G z=>obtain⟨p,r⟩:=l;refine⟨p,r.imp id ?_⟩;rintro⟨d,g,T,s,e,u,v,x,h⟩;refine⟨d,g,T,s,e,u,v,x,?_⟩;simp only at e a;rw[i d (a d (by rw[e];rfl))];exact h|mp z=>obtain⟨d,m,c,e,h,I⟩:=l;refine⟨d,m,c,e,?_,I⟩;simp only at e a;rw[i d (a d (by rw[e];rfl))];exact h
 ·rw[i c (λe=>by rw[e,B]at k;cases k)];exact f.mem c o k
 ·exact⟨n.1.trans f.below.os,n.2.1.trans f.below.tape,n.2.2.trans f.below.output,by rw[C];exact f.below.size,λj J=>by rw[i j (by omega)];exact f.below.block j J⟩
theorem kz(f:Heap E ν H M w){k:Nat}{p:PO}{b:Nat}(g:hget H k=some p)(h:ee (ν k)=some b)(d:Nat)(H':HS)(i:H'.Sublist H)(a:∀q∈H',q.1≠k):b∉fp ν H':=by intro j;obtain⟨q,e,c⟩:=bH.1 j;exact uz f g h q (i.subset e) (a q e) c
theorem Ow{s x:bB}{t tx:bL}(ho:o.op=.call ⟨.builtin .append,#[s,x],#[t,tx]⟩)(h:appC E (OpK E o K σ H M) K σ H M (f_ E.P tx) o.dst (D8 E.P t) (opv σ s) (opv σ x)):OpK E o K σ H M:=by
 unfold appC at h;split at h
 ·rename_i d e sz bt zs sv xv hd hsl hs0 hx0;unfold appD at h;split at h
  ·rename_i ok p g f C m hsrc;obtain⟨⟨⟨⟨hN,hbt⟩,rfl,hzl⟩,⟨hb1,hb2⟩,hC⟩,hn,hK⟩:=h;obtain⟨i,z,hu,hi,hz,y,rfl,rfl⟩:=oL hsl;refine jq λν a w hs R=>?_;have ex:=hs.mA hx0 rfl;have es0:=hs.mA hs0 rfl;obtain⟨Q,hS1⟩:=Qp R hsrc hC;have Y:=cX (λe q=>(hS1 e q).1);have J:∀v w',(fC #[t,tx] o.type #[sv.cL ν,xv.cL ν]).run E.P w=.ok v w'->(da a.eval o).run E.P w=.ok (.value v) w':=by intro v w' hr;simp[da,ho,PL,invoke,builtin,es0,ex,hr]
   have Z:∀(es2:List (List ay)),(∀e∈es2,e.length=p/\∀c∈e,c.oneCell'=true)->∀e∈es2++f,e.length=p/\∀c∈e,c.oneCell'=true:=by
    intro es2 h2 e q;rcases bU.1 q with q|q;·exact h2 e q
    ·exact hS1 e q
   have S:(sv.cL ν=.slice none 0 0/\g=[])\/∃k,ok=some k/\hget H k=some (.row p g)/\sv=.own k:=by
    unfold HF at m;split at m
    ·rename_i k;unfold rowC at m;split at m;·rename_i r;simp only[aO,cD]at m;obtain⟨rfl,rfl,rfl⟩:=m;exact .inr ⟨k,rfl,r,rfl⟩
     ·cases m
    ·simp only[aO,cD]at m;obtain⟨_,_,rfl⟩:=m;exact .inl ⟨rfl,rfl⟩
    ·cases m
   have A:(hdelk? ok (hdel d H)).Sublist H:=(KJ ok _).trans (fR d H);have F:∀(L:Option qz)(l:Nat),sv.cL ν=.slice L g.length l->(∀e∈g,e.length=p/\∀c∈e,c.oneCell'=true)->(L8 i.size g.length (.slice L g.length l)).run E.P w.drew=.ok g.flatten.toArray w.drew->l<g.length+f.length->∃n w',(da a.eval o).run E.P w=.ok (.value n) w'/\∃σ' H' M',Rep E σ' H' M' (a.put o.dst n) w'/\K σ' H' M':=by
    intro L l hsv h1 hold hc;have V:=cX (λe q=>(h1 e q).1);have hnc:=nextslicecap_le hc;have hr:=run_append_grow_src (P:=E.P) w t tx o.type e i z hu hi hz L g.length l g.flatten hold (xv.cL ν) f.length f.flatten (by rw[y];exact Q) hc (by omega) (b6 (il i.bytes hnc) (by rw[Nat.mul_assoc];omega));refine⟨_,_,J _ _ (by rw[hsv];exact hr),_,_,_,?_,hK⟩;rw[hd];have hzc:(cU z.cells (nt w (g.length+f.length) l e-(g.length+f.length))).toList.length=(nt w (g.length+f.length) l e-(g.length+f.length))*p:=by simp only[cU,ud,PM,ae,List.length_range,<-hzl,jE]
    have hge:=grownCap_ge w (g.length+f.length) l e;have hle:=grownCap_le_maxLen w (g.length+f.length) l e (by simp only[dB];omega);refine mU hs R hN A hn ((dQ _ w).drew.alloc (bc _) _) rfl (λU B=>⟨Z g h1,.inr ⟨w.heap.size,nt w (g.length+f.length) l e,e,(cU z.cells (nt w (g.length+f.length) l e-(g.length+f.length))).toList,by rw[aG],by rw[aG];exact hge,hle,by rw[aG];exact hzc,?_⟩⟩) (λb W=>by simp only[ee,aO]at W;omega) (λU h=>h);have :=eP w.drew (.cells ((g.flatten++f.flatten).toArray++cU z.cells (nt w (g.length+f.length) l e-(g.length+f.length))) e (0,0));rw[show w.drew.heap.size=w.heap.size from rfl]at this;rw[this];congr 2;apply j6;simp[j4]
   rcases S with⟨hnil,rfl⟩|⟨k,rfl,r,rfl⟩
   ·by_cases h0:f.length=0
    ·have h0':f=[]:=e_.1 h0;subst h0';have N:(fC #[t,tx] o.type #[sv.cL ν,xv.cL ν]).run E.P w=.ok (.slice none 0 0) w:=by have h5:=Q.len;have h6:=Q.cells;simp only[bM]at h5 h6;rw[hnil];rcases Q.kind with⟨e',r⟩|r<;>simp[fC,a8 hu,a8 r,sizeOf,Ad,hi,h5,y,h6]
     refine⟨_,_,J _ _ N,_,_,_,?_,hK⟩;rw[hd];exact mU hs R hN A hn (dQ _ _) rfl (λU B=>⟨λe q=>by simp at q,.inl ⟨rfl,rfl⟩⟩) (λb W=>by simp[ee]at W) (λU h=>h)
    ·exact F none 0 hnil (λe q=>by simp at q) (run_firstCells_none w.drew i.size 0 0 0) (by simp;omega)
   ·obtain⟨g1,g2⟩:=R.holds _ (bP r);have V:=cX (λe q=>(g1 e q).1);rcases g2 with⟨D,rfl⟩|⟨b,l,T,sp,D,g3,g4,g5,W⟩
    ·simp only at D;by_cases h0:f.length=0
     ·have h0':f=[]:=e_.1 h0;subst h0';have N:(fC #[t,tx] o.type #[(SV.own k).cL ν,xv.cL ν]).run E.P w=.ok (.slice none 0 0) w:=by have h5:=Q.len;have h6:=Q.cells;simp only[bM]at h5 h6;simp only[SV.cL,D];rcases Q.kind with⟨e',r⟩|r<;>simp[fC,a8 hu,a8 r,sizeOf,Ad,hi,h5,y,h6]
      refine⟨_,_,J _ _ N,_,_,_,?_,hK⟩;rw[hd];exact mU hs R hN A hn (dQ _ _) rfl (λU B=>⟨λe q=>by simp at q,.inl ⟨rfl,rfl⟩⟩) (λb W=>by simp[ee]at W) (λU h=>h)
     ·exact F none 0 D (λe q=>by simp at q) (run_firstCells_none w.drew i.size 0 0 0) (by simp;omega)
    ·simp only at D;have G:∀X:bQ,X.heap=w.heap->∀j u,g.flatten[j]?=some u->X.cell? ((⟨b,0,none⟩:qz).add j)=some u:=by
      intro X hw'' j u hj;have hadd:(⟨b,0,none⟩:qz).add j=⟨b,j,none⟩:=by unfold Ac;split<;>simp_all
      rw[hadd,cell_of_row X b j _ T (0,0) (by rw[hw''];exact W)];simp only[dH,pN];rw[aF (aI.1 hj).1,hj]
     by_cases I:g.length+f.length<=l
     ·have hcap:g.length*p+(l-g.length)*p=l*p:=by rw[<-jH];congr 1;omega
      have hcap2:(g.length+f.length)*p<=l*p:=il _ I;rw[jH]at hcap2;have N:=run_storeCells_at E.P b (g.length*p) T f.flatten 0 _ w W (by simp only[dh,aG,V,Y,g5];omega) (λu hu=>by obtain⟨e,q,hc⟩:=rH.1 hu;exact(hS1 e q).2 u hc);simp only[eJ]at N;have happ:(fC #[t,tx] o.type #[(SV.own k).cL ν,xv.cL ν]).run E.P w=.ok (.slice (some ⟨b,0,none⟩) (g.length+f.length) l) (w.setRow b (((g.flatten++sp).toArray.toList.take (g.length*p)++f.flatten++(g.flatten++sp).toArray.toList.drop (g.length*p+f.flatten.length)).toArray)):=by simp only[SV.cL,D];rcases Q.kind with⟨e',r⟩|r<;>simp[fC,a8 hu,a8 r,sizeOf,Ad,hi,Q.len,I,y,Q.cells,mg,N]
      have hcont:(g.flatten++sp).toArray.toList.take (g.length*p)++f.flatten++(g.flatten++sp).toArray.toList.drop (g.length*p+f.flatten.length)=(g++f).flatten++sp.drop f.flatten.length:=by rw[<-V,j4];generalize g.flatten=X1;generalize f.flatten=X2;simp
      rw[hcont]at happ;refine⟨_,_,J _ _ happ,_,_,_,?_,hK⟩;rw[hd];have hkb:ee (ν k)=some b:=by rw[D];rfl
      obtain⟨hMb,hBb⟩:=R.apart b (bH.2 ⟨(k,_),bP r,hkb⟩);have hnf:b∉fp ν (hdelk k (hdel d H)):=kz R r hkb d _ A (jo k _);have h1:=(R.gB A).aa4 hnf hMb hBb (w':=w.setRow b (((g++f).flatten++sp.drop f.flatten.length).toArray)) (λj hj=>ny w b _ hj) (by simp[v7]) ⟨rfl,rfl,rfl⟩;let v:ay:=.slice (some ⟨b,0,none⟩) (g.length+f.length) l;let U:Nat->ay:=λk=>if k/8=d then v else ν k;have B:∀k,k/8≠d->U k=ν k:=λk r=>by simp[U,r]
      have O:U (8*d)=v:=by simp[U,show(8*d)/8=d by omega]
      refine⟨U,(hs.wF B).ml hN O.symm,h1.HK hn B (λk=>?_) ?_ (λc hc=>?_)⟩
      ·by_cases r:k/8=d;·simp[U,r,v,iR]
       ·simp only[U,r,cA];exact R.one k
      ·rw[O];refine⟨Z g g1,.inr ⟨b,l,T,sp.drop f.flatten.length,by rw[aG],by rw[aG];exact I,g4,?_,?_⟩⟩;·rw[aT,g5,Y,aG,<-Nat.sub_mul];congr 1;omega
       ·exact rT w b _ _ T _ W
      ·rw[O]at hc;simp only[v,ee,aO]at hc;subst hc;exact⟨hnf,hMb,hBb⟩
     ·exact F (some ⟨b,0,none⟩) l D g1 (run_firstCells_some w.drew i.size g.length ⟨b,0,none⟩ g.length l g.flatten (by rw[y];exact V) (G w.drew rfl)) (by omega)
  ·exact h
 ·exact h
theorem EG(d:∀t p x,o.op=.store t p x->D7 E.P t/\dOk E.N o.dst)(h:Hf E o K σ H M):OpK E o K σ H M:=by
 unfold Hf at h;split at h;·rename_i a;exact HJ a h
 ·rename_i a;exact Qm a h
 ·rename_i a;exact Qo a h
 ·rename_i a;exact Ov a (d _ _ _ a).1 (d _ _ _ a).2 h
 ·rename_i b c a;split at h
  ·rename_i s x t e f g;have i:b=#[s,x]:=by apply j6;simpa using f
   have j:c=#[t,e]:=by apply j6;simpa using g
   subst i j;exact Ow a h
  ·exact h
 ·exact h
end
theorem lK{o:db}{g:Bool}{K:KP}{Nx:xp->bQ->Prop}{Qx:Exit->xp->bQ->Prop}(i:∀σ H M a w,Rep E σ H M a w->K σ H M->Nx a w)(u:Slots E.N ν σ a)(F:Heap E ν H M w)(h:stepK E o g K σ H M):if g then o.wp E.P a w Nx Qx else Nx (a.put o.dst dN) w:=by
 have J:∀d,o.dst=some d->d<E.N->(g=true->(rL E.P H M σ o.op).1=true/\(rL E.P H M σ o.op).2.2)->K ((d,g,(rL E.P H M σ o.op).2.1)::σ) H M->if g then o.wp E.P a w Nx Qx else Nx (a.put o.dst dN) w:=by intro d O L Y hK;cases g with|true=>obtain⟨Q,Y⟩:=Y rfl;have :=rS u F o Q Y;simp only[cR];unfold oC;rw[this];simp only[sF];rw[O];exact i _ _ _ _ _ ⟨ν,u.ml L rfl,F⟩ hK|false=>simp only[bp,cA];rw[O];exact i _ _ _ _ _ ⟨ν,u.ml L rfl,F⟩ hK
 have R:(∀t p x,o.op=.store t p x->D7 E.P t/\dOk E.N o.dst)->g=true->Hf E o K σ H M->if g then o.wp E.P a w Nx Qx else Nx (a.put o.dst dN) w:=by intro W Q Z;rw[aF Q];exact yW (λa w⟨σ,H,M,B,C⟩=>i _ _ _ _ _ B C) (λ_ _ _ h=>h.elim) (EG W Z a w ⟨ν,u,F⟩)
 have k:(∀t p x,o.op≠.store t p x)->g=true->Hf E o K σ H M->if g then o.wp E.P a w Nx Qx else Nx (a.put o.dst dN) w:=λhne=>R (λt p x S=>(hne t p x S).elim);have eff0:g=true->OpK E o K σ H M->if g then o.wp E.P a w Nx Qx else Nx (a.put o.dst dN) w:=by intro Q Z;rw[aF Q];exact yW (λa w⟨σ,H,M,B,C⟩=>i _ _ _ _ _ B C) (λ_ _ _ h=>h.elim) (Z a w ⟨ν,u,F⟩)
 obtain⟨n,op,ty,pos,aft,gd⟩:=o;have j:qK E op g K σ H M n->if g then oC E.P ⟨n,op,ty,pos,aft,gd⟩ a w Nx Qx else Nx (a.put n dN) w:=by intro X;cases n with|some d=>exact J d rfl X.1.1 X.1.2 X.2|none=>exact X.elim
 cases op;case box t x=>cases n with|none=>exact h.elim|some d=>simp only[stepK]at h;cases S:opv σ x with|none=>rw[S]at h;exact h.elim|some p=>obtain⟨g',s⟩:=p;rw[S]at h;replace h:(g=true/\g'=true/\d<E.N)/\boxK d s K σ H M:=h;obtain⟨⟨rfl,rfl,L⟩,h⟩:=h;have T:=u.mA S rfl;obtain⟨w',z,U,H',M',B,C⟩:=KI u F L h t;simp only[cR];unfold oC;simp only[da,T,a7,z,aQ,bC,sF];exact i _ _ _ _ _ B C
 case store t p x=>simp only[stepK]at h;cases hp:opv σ p with|none=>rw[hp]at h;exact h.elim|some q=>obtain⟨g1,p'⟩:=q;rw[hp]at h;cases T:opv σ x with|none=>rw[T]at h;exact h.elim|some q=>obtain⟨g2,s⟩:=q;rw[T]at h;obtain⟨⟨rfl,rfl,rfl,O⟩,W,h⟩:=h;simp only[cR];exact yW (λa w⟨σ,H,M,B,C⟩=>i _ _ _ _ _ B C) (λ_ _ _ h=>h.elim) (FH (t:=t) (x:=p) (y:=x) rfl rfl u F (u.mA hp rfl) (u.mA T rfl) O (λh=>EG (λt' p' x' e=>by cases e;exact⟨W,O⟩) h) h (BY W))
 case call c=>
  obtain⟨G,A,V⟩:=c;cases G with
   |builtin b=>cases b<;>first|exact k (λ_ _ _ e=>nomatch e) h.1 h.2|exact j h
   |value f=>
    simp only[stepK]at h;cases n with
     |none=>exact k (λ_ _ _ e=>nomatch e) h.1 h.2
     |some d=>
      cases hf:opv σ f with
       |none=>rw[hf]at h;exact k (λ_ _ _ e=>nomatch e) h.1 h.2
       |some q=>
        obtain⟨g1,fs⟩:=q;rw[hf]at h;cases hl:kj σ A.toList with
         |none=>rw[hl]at h;cases fs<;>exact k (λ_ _ _ e=>nomatch e) h.1 h.2
         |some q2=>
          obtain⟨g2,l⟩:=q2;rw[hl]at h;cases fs with
           |fn f' D=>
            obtain⟨L,h1,h2⟩:=h;cases g with
             |false=>simp only[bp,cA];exact i _ _ _ _ _ ⟨ν,u.ml L rfl,F⟩ (h2 rfl)
             |true=>
              obtain⟨⟨rfl,rfl⟩,hc⟩:=h1 rfl;have e1:=u.mA hf rfl;have e2:=mD u hl rfl;have e3:A.map a.eval=(aS ν l).toArray:=by apply j6;simp[<-e2]
              have e4:aS ν (l++D)=aS ν l++aS ν D:=by simp[cC]
              rcases hc ν a w u F with⟨⟨fn,hfn,hnm,hbd⟩,I⟩|⟨v,w',z,U,H',M',B,C⟩;rotate_left
              ·have e5:(da a.eval ⟨some d,.call ⟨.value f,A,V⟩,ty,pos,aft,gd⟩).run E.P w=.ok (.value v) w':=by rw[e4]at z;simp only[da,PL,e1,SV.cL,yK,a7,bC,aQ,invoke,e3];simpa using z
               simp only[cR];unfold oC;rw[e5];exact i _ _ _ _ _ B C
              have e5:(da a.eval ⟨some d,.call ⟨.value f,A,V⟩,ty,pos,aft,gd⟩).run E.P w=.ok (.enter f' (aS ν (l++D)).toArray) w:=by simp only[da,PL,e1,SV.cL,yK,a7,bC,aQ,invoke,callFunc,run_program,hfn,hnm,hbd,e3,bp,cA];rw[e4];simp
              simp only[cR];unfold oC;rw[e5];simp only[sF];refine I.mono λe w'⟨v,he,U,H',M',B,C⟩=>?_;subst he;exact i _ _ _ _ _ B C
           |_=>exact k (λ_ _ _ e=>nomatch e) h.1 h.2
   |invoke r m=>exact k (λ_ _ _ e=>nomatch e) h.1 h.2
 case convert s t x=>
  replace h:Ou (f_ E.P t) (g=true/\Hf E ⟨n,.convert s t x,ty,pos,aft,gd⟩ K σ H M) (qK E (.convert s t x) g K σ H M n):=h;unfold Ou at h;split at h;·exact k (λ_ _ _ e=>nomatch e) h.1 h.2
  ·exact j h
 all_goals first|exact k (λ_ _ _ e=>nomatch e) h.1 h.2|exact j h
theorem rU{ops:List db}{K:KP}{Q:Exit->xp->bQ->Prop}(e:∀σ H M a w,Rep E σ H M a w->K σ H M->Q .normal a w):∀(b:List db)(σ:dp)(H:HS)(M:Mem)(a:xp)(w:bQ),Rep E σ H M a w->BV E ops K b σ H M->wpList E.P ops.toArray Q b a w
 |[],σ,H,M,a,w,c,h=>e _ _ _ _ _ c h
 |o::b,σ,H,M,a,w,c,h=>by
  unfold BV at h;split at h;·exact h.elim
  ·rename_i g i;obtain⟨ν,f,j⟩:=c;refine wpList_step λl d=>?_;rw[oH f i o rfl];exact lK (λσ H M a w c k=>d _ _ (rU e b σ H M a w c k)) f j h
theorem Rep.UB{live:List Nat}(h:Rep E σ H M a w):Rep E (wa live σ) H M a w:=by obtain⟨ν,b,c⟩:=h;exact⟨ν,b.P_ (λk p d=>Uw d),c⟩
end
end Go.X
namespace Go.X
open Go Go.RowKit
section
variable{E:Env}{σ:dp}{H:HS}{M:Mem}{a:xp}{w:bQ}{ν:Nat->ay}
theorem HL{c:bB}{b:Bool}(d:Rep E σ H M a w)(h:opv σ c=some (true,.v (.bool b))):a.eval c=.bool b:=by obtain⟨ν,e,_⟩:=d;exact e.mA h rfl
theorem iY{live:List Nat}:∀(c:lp)(Q:QP)(σ:dp)(H:HS)(M:Mem),ui E live c Q σ H M->∀a w,Rep E σ H M a w->c.wp E.P (AM E Q) a w
 |.skip,Q,σ,H,M,h,a,w,d=>wp_skip ⟨σ,H,M,d,h⟩
 |.ret,Q,σ,H,M,h,a,w,d=>wp_ret ⟨σ,H,M,d,h⟩
 |.exit i,Q,σ,H,M,h,a,w,d=>wp_exit ⟨σ,H,M,d,h⟩
 |.region q ops k,Q,σ,H,M,h,a,w,d=>by cases k with|false=>refine wp_region_list (ops:=ops) ?_;have :=rU (E:=E) (ops:=ops.toList) (K:=λσ H M=>Q .normal (wa live σ) H M) (Q:=AM E Q) (λσ H M a w d n=>⟨_,_,_,d.UB,n⟩) ops.toList σ H M a w d h;simpa using this|true=>exact kq (λe a w⟨o,σ,H,M,d,n⟩=>by subst o;exact⟨_,_,_,d.UB,n⟩) (h a w d)
 |.seq x y,Q,σ,H,M,h,a,w,d=>by refine wp_seq (kq ?_ (iY x _ σ H M h a w d));rintro e a w⟨σ,H,M,d,g⟩;cases e<;>first|exact iY y Q σ H M g a w d|exact⟨σ,H,M,d,g⟩
 |.block i b,Q,σ,H,M,h,a,w,d=>by
  refine wp_block (kq ?_ (iY b _ σ H M h a w d));rintro e a w⟨σ,H,M,d,g⟩;cases e with
   |exit j=>
    simp only[Exit.inBlock];simp only at g;split;·rename_i e;rw[aF e]at g;exact⟨σ,H,M,d,g⟩
    ·rename_i e;rw[ai e]at g;exact⟨σ,H,M,d,g⟩
   |_=>exact⟨σ,H,M,d,g⟩
 |.cond c t e,Q,σ,H,M,h,a,w,d=>by
  simp only[ui]at h;split at h;·rename_i b m;exact wp_cond_split (HL d m) (λm=>iY t Q σ H M (h.1 m) a w d) (λm=>iY e Q σ H M (h.2 m) a w d)
  ·exact h.elim
 |.loop b,Q,σ,H,M,h,a,w,d=>h a w d
 |.rangeFunc f p x y,Q,σ,H,M,h,a,w,d=>h a w d
 |.scope b,Q,σ,H,M,h,a,w,d=>h a w d
 |.label l,Q,σ,H,M,h,a,w,d=>h a w d
 |.goto l,Q,σ,H,M,h,a,w,d=>h a w d
 |.refuse r,Q,σ,H,M,h,a,w,d=>h.elim
/-!### Contracts -/
mutual
def SV.conc:SV->Bool|.v _=>true|.own _=>false|.ptr _ _ _ _=>false|.ea _ _ _ _=>true|.agg l=>SV.concs l|.tup l=>SV.concs l|.fn _ l=>SV.concs l
def SV.concs:List SV->Bool|[]=>true|s::l=>SV.conc s&&SV.concs l
end
mutual
theorem fz{ν ν':Nat->ay}:∀s:SV,s.conc=true->s.cL ν'=s.cL ν|.v _,_=>rfl|.own k,a=>by simp[SV.conc]at a|.ptr k _ _ _,a=>by simp[SV.conc]at a|.ea _ _ _ _,_=>rfl|.agg l,a=>by simp only[SV.conc]at a;simp only[SV.cL,cl (ν:=ν) (ν':=ν') l a]|.tup l,a=>by simp only[SV.conc]at a;simp only[SV.cL,cl (ν:=ν) (ν':=ν') l a]|.fn _ l,a=>by simp only[SV.conc]at a;simp only[SV.cL,cl (ν:=ν) (ν':=ν') l a]
theorem cl{ν ν':Nat->ay}:∀l:List SV,SV.concs l=true->aS ν' l=aS ν l|[],_=>rfl|s::l,a=>by simp only[SV.concs,ba]at a;simp only[aS,fz (ν:=ν) (ν':=ν') s a.1,cl (ν:=ν) (ν':=ν') l a.2]
end
def vu:Nat->ay:=λ_=>.bool false
def jr(P:bZ)(f:kH):Prop:=∃a,P.funcs[f]?=some a/\(a.name== "runtime.NumGoroutine")=false/\a.body.isNone=false
abbrev RP:=SV->HS->Mem->Prop
def Meets(P:bZ)(f:kH)(args:List SV)(M:Mem)(R:RP):Prop:=jr P f/\∀w,M.on w->Calls P f (aS vu args).toArray w λe u=>∃s G N ν,e=.returned (s.cL ν)/\Heap ⟨P,0,w,M⟩ ν G N u/\R s G N
theorem Meets.sS{P:bZ}{f:kH}{args:List SV}{M:Mem}{R a:RP}(h:Meets P f args M R)(c:∀s H N,M.le N->R s H N->a s H N):Meets P f args M a:=⟨h.1,λw d=>(h.2 w d).mono λ_ _⟨s,G,N,ν,e,b,g⟩=>⟨s,G,N,ν,e,b,c _ _ _ b.le0 g⟩⟩
def D'(P:bZ)(σ:dp)(H:HS)(M:Mem):mh->Option (SV×Prop)
 |.tmp t=>match lk σ t with|some (true,s)=>some (s,True)|_=>none
 |.cell a t=>match lk σ a with|some (true,s)=>some (ld H M (lay (f_ P t)) s)|_=>none
def p4(P:bZ)(σ:dp)(H:HS)(M:Mem):List mh->Option (List SV×Prop)|[]=>some ([],True)|r::l=>match D' P σ H M r,p4 P σ H M l with|some (s,C),some (a,D)=>some (s::a,C/\D)|_,_=>none
def one?:List SV->SV|[s]=>s|l=>.tup l
def yY(P:bZ)(b:List mh)(R:RP):QP:=λe σ H M=>match e with
 |.ret=>match p4 P σ H M b with|some (a,C)=>C/\R (one? a) H M|none=>False
 |.normal=>match p4 P σ H M b with|some (a,C)=>C/\R (one? a) H M|none=>False
 |_=>False
theorem KK{n:Nat}{g:Bool}{x:ay}{sz i off:Nat}(h:(ld H M (some (n,g)) (.ea x sz i off)).2):someV x=true:=by
 have a:∀o,yU M x sz i o->someV x=true:=by
  intro o b;unfold yU mS at b;split at b;·rfl
  ·simp at b
 cases g with|false=>exact a off h|true=>cases n with|zero=>exact absurd rfl h.1|succ n=>exact a off h.2.1
def ZL(a:xp):mh->Sem ay|.tmp t=>pure (a.tmps.getD t dN)|.cell b t=>do loadVar t (<-asAddr (a.tmps.getD b dN))
theorem KL{P:bZ}{r:mh}{s:SV}{C:Prop}(u:Slots E.N ν σ a)(z:Heap E ν H M w)(h:D' P σ H M r=some (s,C))(A:C):(ZL a r).run P w=.ok (s.cL ν) w:=by
 cases r with
  |tmp t=>
   simp only[D']at h;split at h;·rename_i l m;simp only[aO,cD]at h;obtain⟨rfl,_⟩:=h;have :=u.mA (x:=.tmp t) m rfl;simp only[Act.eval]at this;simp only[ZL,this,bC]
   ·cases h
  |cell B t=>
   simp only[D']at h;split at h
   ·rename_i l m;simp only[aO]at h;have y:(ld H M (lay (f_ P t)) l).1=s:=by rw[h]
    have b:(ld H M (lay (f_ P t)) l).2:=by rw[h];exact A
    have :=u.mA (x:=.tmp B) m rfl;simp only[Act.eval]at this;cases f:lay (f_ P t)with
     |none=>
      rw[f]at b;unfold ld at b;split at b
      ·unfold ldK at b;split at b;·exact b.2.elim
       ·exact b.2.elim
       ·exact b.elim
       ·exact b.2.elim
       ·exact b.elim
      ·exact b.elim
      ·exact b.elim
      ·exact b.elim
     |some p=>
      obtain⟨n,g⟩:=p;rw[f]at y b;have j:=Hz (P:=P) z f b;rw[y]at j;simp only[ZL,this];have o:∃d,l.cL ν=.pointer (some d):=by cases l with
                                                                                                                              |v x=>cases x with
                                                                                                                                     |pointer p=>cases p with|some d=>exact⟨d,rfl⟩|none=>exact b.elim
                                                                                                                                     |_=>exact b.elim
                                                                                                                              |ptr k D i q=>exact⟨_,rfl⟩
                                                                                                                              |ea x D i q=>have e:=KK b;cases x with
                                                                                                                                            |slice d n c=>cases d with|some d=>exact⟨_,rfl⟩|none=>simp[someV]at e
                                                                                                                                            |_=>simp[someV]at e
                                                                                                                              |_=>exact b.elim
      obtain⟨d,o⟩:=o;rw[o]at j⊢;simpa only[qA,gj,asAddr,a7,bC,aQ]using j
   ·cases h
theorem B0{P:bZ}(b:Slots E.N ν σ a)(c:Heap E ν H M w):∀{l:List mh}{ss:List SV}{C:Prop},p4 P σ H M l=some (ss,C)->C->(l.mapM (ZL a)).run P w=.ok (aS ν ss) w
 |[],ss,C,h,_=>by simp only[p4,aO,cD]at h;obtain⟨rfl,_⟩:=h;rfl
 |r::l,ss,C,h,d=>by
  simp only[p4]at h;split at h;·rename_i s i e j f g;simp only[aO,cD]at h;obtain⟨rfl,rfl⟩:=h;simp only[List.mapM_cons,a7,KL b c f d.1,aQ,B0 b c g d.2,bC,aS]
  ·cases h
theorem j9{P:bZ}{b:Func}{ss:List SV}{C:Prop}(d:Slots E.N ν σ a)(e:Heap E ν H M w)(h:p4 P σ H M b.results.toList=some (ss,C))(f:C):(results b a.tmps).run P w=.ok ((one? ss).cL ν) w:=by
 unfold results;rw[Array.mapM_eq_mapM_toList];have :=B0 d e h f;have c:∀F:mh->Sem ay,F=ZL a->(do let vs<-List.toArray<$>List.mapM F b.results.toList;pure (if h:vs.size=1 then vs[0]else Value.tuple vs):Sem ay).run P w=.ok ((one? ss).cL ν) w:=by intro F g;subst g;simp only[a7,Sem.run_map,this,aQ,bC];congr 1;match ss with|[]=>rfl|[s]=>rfl|s::t::r=>simp[one?,SV.cL,aS]
 exact c _ (by funext r;cases r<;>rfl)
def params(N:Nat):Nat->List SV->dp|_,[]=>[]|k,s::l=>(k,true,s)::params N (k+1) l
theorem mW{N:Nat}:∀{l:List SV}{k j:Nat}{p:Bool×SV},lk (params N k l) j=some p->∃i,j=k+i/\p.1=true/\l[i]?=some p.2
 |[],k,j,p,h=>by simp[params,lk]at h
 |s::l,k,j,p,h=>by
  simp only[params,lk]at h;split at h;·rename_i e;simp only[aO]at h;subst h;exact⟨0,by omega,rfl,rfl⟩
  ·obtain⟨i,c,a,b⟩:=mW h;exact⟨i+1,by omega,a,by simpa using b⟩
def wG(a:Func)(n:Nat):Bool:=(!(a.name== "runtime.NumGoroutine")&&!a.body.isNone)&&aU (n<=a.ntmps)
theorem aH{P:bZ}{f:kH}{d:Func}{c:lp}{args:List SV}{M:Mem}{R:RP}(live:List Nat)(r:P.funcs[f]?=some d)(o:d.body=some c)(p:wG d args.length=true)(F:SV.concs args=true)(h:∀w,ui ⟨P,d.ntmps,w,M⟩ live c (yY P d.results.toList R) (params d.ntmps 0 args) [] M):Meets P f args M R:=by
 simp only[wG,ba,np,br]at p;refine⟨⟨d,r,p.1.1,p.1.2⟩,λw z=>?_⟩;refine calls_of_wp r o ?_;have l:(aS vu args).length=args.length:=by rw[cC];simp
 refine kq ?_ (iY c _ _ _ _ (h w) _ w ⟨vu,⟨?_,rfl,?_⟩,⟨by simp,kM,by simp[fp],z,dQ _ _,cg _,λb o=>.inl o,λk=>rfl⟩⟩)
 ·rintro e a u⟨σ,H,N,⟨ν,t,j⟩,m⟩;have n:(match p4 P σ H N d.results.toList with|some (x,C)=>C/\R (one? x) H N|none=>False)->a.defers=[]/\∃v,(results d a.tmps).run P u=.ok v u/\∃s G N ν,uq v=.returned (s.cL ν)/\Heap ⟨P,0,w,M⟩ ν G N u/\R s G N:=by
   intro m;split at m;·rename_i x C B;exact⟨t.2.1,_,j9 t j B m.1,_,_,_,ν,rfl,⟨j.holds,j.nodup,j.apart,j.mem,j.below,j.le0,j.fresh,j.one⟩,m.2⟩
   ·exact m.elim
  cases e with|normal=>exact n m|ret=>exact n m|_=>exact m.elim
 ·simp only[Ew,dh,Array.size_replicate,l];omega
 ·intro k g s D;obtain⟨i,rfl,y,q⟩:=mW D;simp only at y q;subst y;have E:i<args.length:=(aI.1 q).1;rw[mO (by simp only[dh,l];omega),dH,cC,aN,b7,q];rfl
end
end Go.X
namespace Go.X
open Go Go.RowKit
section
variable{E:Env}{σ:dp}{H:HS}{M:Mem}{a:xp}{w:bQ}{ν:Nat->ay}
/-! what simp is not to enter -/
@[congr]theorem Zp{E:Env}{live:List Nat}{c:lp}{Q:QP}{σ σ':dp}{H H':HS}{M:Mem}(h:σ=σ')(a:H=H'):ui E live c Q σ H M=ui E live c Q σ' H' M:=by rw[h,a]
@[congr]theorem Zq{E:Env}{ops:List db}{K:KP}{l:List db}{σ σ':dp}{H H':HS}{M:Mem}(h:σ=σ')(a:H=H'):BV E ops K l σ H M=BV E ops K l σ' H' M:=by rw[h,a]
@[congr]theorem WA{E:Env}{o:db}{g a:Bool}{K:KP}{σ σ':dp}{H H':HS}{M:Mem}(b:g=a)(h:σ=σ')(c:H=H'):stepK E o g K σ H M=stepK E o a K σ' H' M:=by rw[b,h,c]
@[congr]theorem Zr{E:Env}{o:db}{K:KP}{σ σ':dp}{H H':HS}{M:Mem}(h:σ=σ')(a:H=H'):OpK E o K σ H M=OpK E o K σ' H' M:=by rw[h,a]
@[congr]theorem WB{E:Env}{f d:Nat}{l a:List SV}{K:KP}{σ σ':dp}{H H':HS}{M:Mem}(b:l=a)(h:σ=σ')(c:H=H'):CallK E f l d K σ H M=CallK E f a d K σ' H' M:=by rw[b,h,c]
@[congr]theorem WC{E:Env}{live:List Nat}{b:lp}{Q:QP}{σ σ':dp}{H H':HS}{M:Mem}(h:σ=σ')(a:H=H'):LoopK E live b Q σ H M=LoopK E live b Q σ' H' M:=by rw[h,a]
@[congr]theorem WD{E:Env}{b:lp}{Q:QP}{σ σ':dp}{H H':HS}{M:Mem}(h:σ=σ')(a:H=H'):CodeK E b Q σ H M=CodeK E b Q σ' H' M:=by rw[h,a]
@[congr]theorem WE{E:Env}{i:Nat}{ops:Array db}{K:KP}{σ σ':dp}{H H':HS}{M:Mem}(h:σ=σ')(a:H=H'):DrawK E i ops K σ H M=DrawK E i ops K σ' H' M:=by rw[h,a]
/-!### Loops -/
def Ent(E:Env)(σ:dp)(H:HS)(M:Mem)(S:dp×HS×Mem):Prop:=∀a w,Rep E σ H M a w->Rep E S.1 S.2.1 S.2.2 a w
theorem HM{live:List Nat}{c:lp}{Q:QP}{X:Type}(S:X->dp×HS×Mem)(I:X->Prop)(m:X->Nat)(z:X)(F:I z)(s:Ent E σ H M (S z))(G:∀x,I x->ui E live c (λe σ' H' N=>match e with|.normal=>∃r,(I r/\m r<m x)/\Ent E σ' H' N (S r)|e=>Q e σ' H' N) (S x).1 (S x).2.1 (S x).2.2):LoopK E live c Q σ H M:=by
 intro a w i b k A;have B:∀n x,m x=n->I x->∀a w,Rep E (S x).1 (S x).2.1 (S x).2.2 a w->∃e y W,AM E Q e y W/\Arrives E.P (lone (b.at a (.code c::.inLoop c::k)) A w) b k A e y W:=by intro n;induction n using Hk with|_ n J=>intro x K L a w i;obtain⟨e,g,h,⟨σ',H',N,d,o⟩,f⟩:=iY c _ _ _ _ (G x L) a w i b (.inLoop c::k) A;cases e with|normal=>obtain⟨r,⟨C,D⟩,p⟩:=o;obtain⟨t,u,v,q,j⟩:=J (m r) (K▸D) r rfl C g h (p _ _ d);exact⟨t,u,v,q,.of_steps (Steps.trans f (.one step_inLoop)) j⟩|exit O=>exact⟨_,g,h,⟨σ',H',N,d,o⟩,.pass (x:=.inLoop c) rfl (λ_ _=>.inl (by simp)) f⟩|goto l=>exact⟨_,g,h,⟨σ',H',N,d,o⟩,.pass (x:=.inLoop c) rfl (λ_ _=>.inl (by simp)) f⟩|ret=>exact⟨_,g,h,⟨σ',H',N,d,o⟩,.pass (x:=.inLoop c) rfl (λ_ _=>.inl (by simp)) f⟩|panic R=>exact⟨_,g,h,⟨σ',H',N,d,o⟩,.pass (x:=.inLoop c) rfl (λ_ _=>.inl (by simp)) f⟩|outgrown=>exact⟨_,g,h,⟨σ',H',N,d,o⟩,.pass (x:=.inLoop c) rfl (λ_ _=>.inl (by simp)) f⟩
 obtain⟨e,y,W,o,f⟩:=B _ z rfl F a w (s a w i);exact⟨e,y,W,o,.of_steps (.one step_loop) f⟩
/-! weakening, by looking -/
def subS(σ:dp):dp->Prop|[]=>True|(k,p)::r=>lk σ k=some p/\subS σ r
theorem UC{σ':dp}(h:subS σ σ'){k:Nat}{p:Bool×SV}(a:lk σ' k=some p):lk σ k=some p:=by
 induction σ' with
  |nil=>simp[lk]at a
  |cons q σ' b=>
   obtain⟨j,q⟩:=q;simp only[lk]at a;split at a;·rename_i e;subst e;simp only[aO]at a;subst a;exact h.1
   ·exact b h.2 a
def subH(H:HS):HS->Prop|[]=>True|(k,p)::r=>(hget H k=some p/\hget r k=none)/\subH H r
theorem Qq{H':HS}(h:subH H H'):∀q∈H',hget H q.1=some q.2:=by
 induction H' with
  |nil=>simp
  |cons q r b=>
   intro p a;rcases aV.1 a with rfl|a;·exact h.1.1
   ·exact b h.2 p a
theorem Ox{H':HS}{k:Nat}(h:hget H' k=none):∀q∈H',q.1≠k:=by
 induction H' with
  |nil=>simp
  |cons q r b=>
   obtain⟨j,q⟩:=q;simp only[hget]at h;split at h;·cases h
   ·rename_i e;intro p a;rcases aV.1 a with rfl|a;·exactλh=>e h.symm
    ·exact b h p a
theorem Heap.sub(d:Heap E ν H M w){H':HS}(n:subH H H'){N:Mem}(l:N.le M)(s:E.M0.le N):Heap E ν H' N w:=by
 have i:=Qq n;have f:∀b∈fp ν H',b∈fp ν H:=by intro b c;obtain⟨q,t,c⟩:=bH.1 c;exact bH.2 ⟨q,bP (i q t),c⟩
 refine⟨λp e=>d.holds p (bP (i p e)),?_,λb c=>?_,λb o h=>d.mem b o (l b o h),d.below,s,λb c=>d.fresh b ?_,d.one⟩
 ·clear f;induction H' with
   |nil=>exact kM
   |cons q r j=>
    obtain⟨⟨k,m⟩,u⟩:=n;have j:=j u (λp e=>i p (bm _ e));show(iB _ _).Nodup;rw[bK];split;·exact j
    ·rename_i b c;refine gK.2 ⟨λg=>?_,j⟩;obtain⟨p,e,a⟩:=bH.1 g;exact uz d k c p (bP (i p (bm _ e))) (Ox m p e) a
 ·obtain⟨k,m⟩:=d.apart b (f b c);refine⟨?_,m⟩;cases a:N b with|none=>rfl|some o=>rw[l b o a]at k;cases k
 ·intro h;cases a:N b with|none=>exact c a|some o=>rw[l b o a]at h;cases h
theorem aR{S:dp×HS×Mem}(h:(subS σ S.1/\subH H S.2.1)/\S.2.2=M):Ent E σ H M S:=by obtain⟨⟨c,d⟩,e⟩:=h;rintro a w⟨ν,f,b⟩;exact⟨ν,f.P_ (λk p g=>UC c g),by rw[e];exact b.sub d (cg _) b.le0⟩
/-!### Calls by contract -/
theorem Heap.D_{P:bZ}{N:Mem}{w':bQ}{ν':Nat->ay}{H':HS}(d:Heap E ν H M w)(e:Heap ⟨P,0,w,M⟩ ν' H' N w'):Heap E ν H N w':=by
 have f:um w.heap.size w w':=e.below;have h:=d.mE f;refine⟨h.holds,h.nodup,λb a=>?_,e.mem,h.below,h.le0.dC e.le0,λb a=>?_,h.one⟩
 ·obtain⟨g,i⟩:=d.apart b a;refine⟨?_,i⟩;cases j:N b with
   |none=>rfl
   |some o=>
    rcases e.fresh b (by rw[j];simp)with c|c;·exact absurd g c
    ·have :=d.qL a;simp only at c;omega
 ·rcases e.fresh b a with c|c;·exact d.fresh b c
  ·exact .inr (b6 d.below.size c)
theorem az{f d:Nat}{l:List SV}{K:KP}{s:SV}(g:SV.concs l=true/\s.conc=true)(j:aU (d<E.N)=true)(h:Meets E.P f l M (λb _ _=>b=s))(k:K ((d,true,s)::σ) H M):CallK E f l d K σ H M:=by intro ν a w m i;refine .inl ⟨h.1,?_⟩;rw[cl (ν:=vu) (ν':=ν) l g.1];refine(h.2 w i.mem).mono ?_;rintro e u⟨b,G,L,ν',rfl,c,rfl⟩;refine⟨_,rfl,_,_,_,⟨ν,?_,i.mE c.below⟩,k⟩;exact m.ml (aW j) (by rw[fz (ν:=ν) (ν':=ν') b g.2];rfl)
/-!### Regions that draw their order: quiet operations and pure calls -/
def HN(E:Env)(f:Nat)(l:List SV)(M:Mem)(s:SV):Prop:=(SV.concs l=true/\s.conc=true)/\Meets E.P f l M (λa _ _=>a=s)
@[congr]theorem WG{E:Env}{f:Nat}{l a:List SV}{M:Mem}{s b:SV}(h:l=a)(c:s=b):HN E f l M s=HN E f a M b:=by rw[h,c]
def kA(E:Env)(o:db)(g:Bool)(K:KP)(σ:dp)(H:HS)(M:Mem):Prop:=match o.op with
 |.call c=>match c.callee with
  |.builtin b=>match b with|.len|.min|.max=>qK E o.op g K σ H M o.dst|_=>False
  |.value f=>match o.dst,opv σ f,kj σ c.args.toList with|some d,some (e,.fn f a),some (h,l)=>d<E.N/\∃s,(g=true->(e=true/\h=true)/\HN E f (l++a) M s)/\K ((d,g,s)::σ) H M|_,_,_=>False
  |.invoke _ _=>False
 |.move _|.assign _|.pick _ _ _|.build _ _|.load _ _|.nilCheck _|.binOp _ _ _ _ _|.unOp _ _ _|.convert _ _ _|.slice _ _ _ _ _|.fieldAddr _ _ _|.field _ _ _|.indexAddr _ _ _|.index _ _ _|.extract _ _=>qK E o.op g K σ H M o.dst
 |_=>False
@[congr]theorem WH{E:Env}{o:db}{g a:Bool}{K:KP}{σ σ':dp}{H H':HS}{M:Mem}(b:g=a)(h:σ=σ')(c:H=H'):kA E o g K σ H M=kA E o a K σ' H' M:=by rw[b,h,c]
def PH(E:Env)(ops:List db)(K:KP):List db->dp->HS->Mem->Prop|[],σ,H,M=>K σ H M|o::a,σ,H,M=>match mc ops σ o.guard with|none=>False|some g=>kA E o g (PH E ops K a) σ H M
@[congr]theorem Zs{E:Env}{ops:List db}{K:KP}{l:List db}{σ σ':dp}{H H':HS}{M:Mem}(h:σ=σ')(a:H=H'):PH E ops K l σ H M=PH E ops K l σ' H' M:=by rw[h,a]
theorem HO{o:db}{g:Bool}{K:KP}{Nx:xp->Prop}(n:∀σ a,Slots E.N ν σ a->K σ H M->Nx a)(u:Slots E.N ν σ a)(h:kA E o g K σ H M)(C:bQ->Prop)(T:∀w,C w->Heap E ν H M w)(A:∀w w',C w->um w.heap.size w w'->C w')(X:bQ)(Y:C X):if g then o.quiet E.P a C Nx else Nx (a.put o.dst dN):=by
 have i:∀(v:Op)(d:Option Nat),o.op=v->o.dst=d->qK E v g K σ H M d->if g then o.quiet E.P a C Nx else Nx (a.put o.dst dN):=by
  intro v d Z U V;subst Z;cases d with
   |none=>exact V.elim
   |some d=>
    obtain⟨⟨x,B⟩,y⟩:=V;rw[U];cases g with
     |true=>
      obtain⟨hg,hc⟩:=B rfl;simp only[cR];refine⟨(rL E.P H M σ o.op).2.1.cL ν,λw z=>?_,?_⟩;·unfold Oper.quietAt;rw[rS u (T w z) o hg hc];exact⟨rfl,rfl⟩
      ·rw[U];exact n _ _ (u.ml x rfl) y
     |false=>simp only[bp,cA];exact n _ _ (u.ml x rfl) y
 obtain⟨D,v,ty,pos,aft,gd⟩:=o;cases v;case call c=>
  obtain⟨p,j,F⟩:=c;cases p with
   |builtin b=>cases b<;>first|exact h.elim|exact i _ _ rfl rfl h
   |value f=>
    simp only[kA]at h;cases D with
     |none=>exact h.elim
     |some d=>
      cases G:opv σ f with
       |none=>rw[G]at h;exact h.elim
       |some q=>
        obtain⟨g1,W⟩:=q;rw[G]at h;cases I:kj σ j.toList with
         |none=>rw[I]at h;cases W<;>exact h.elim
         |some q2=>
          obtain⟨g2,l⟩:=q2;rw[I]at h;cases W with
           |fn f' k=>
            obtain⟨x,s,B,y⟩:=h;cases g with
             |false=>simp only[bp,cA];exact n _ _ (u.ml x rfl) y
             |true=>
              obtain⟨⟨rfl,rfl⟩,⟨J,L⟩,⟨fn,O,Q,R⟩,t⟩:=B rfl;have e1:=u.mA G rfl;have e2:=mD u I rfl;have e3:j.map a.eval=(aS ν l).toArray:=by apply j6;simp[<-e2]
              have e4:aS ν (l++k)=aS ν l++aS ν k:=by simp[cC]
              simp only[cR];refine⟨s.cL ν,λw z=>?_,n _ _ (u.ml x rfl) y⟩;have e5:(da a.eval ⟨some d,.call ⟨.value f,j,F⟩,ty,pos,aft,gd⟩).run E.P w=.ok (.enter f' (aS ν (l++k)).toArray) w:=by simp only[da,PL,e1,SV.cL,yK,a7,bC,aQ,invoke,callFunc,run_program,O,Q,R,e3,bp,cA];rw[e4];simp
              unfold Oper.quietAt;rw[e5];refine⟨rfl,?_⟩;rw[cl (ν:=vu) (ν':=ν) _ J];refine(t w (T w z).mem).mono ?_;rintro e w'⟨s',H',M',ν',rfl,S,rfl⟩;exact⟨by rw[fz (ν:=ν) (ν':=ν') s' L],A w w' z S.below⟩
           |_=>exact h.elim
   |invoke r m=>exact h.elim
 all_goals first|exact h.elim|exact i _ _ rfl rfl h
theorem vx{ops:List db}{K:KP}{Nx:xp->Prop}(d:∀σ a,Slots E.N ν σ a->K σ H M->Nx a)(C:bQ->Prop)(k:∀w,C w->Heap E ν H M w)(e:∀w w',C w->um w.heap.size w w'->C w')(i:bQ)(f:C i):∀(b:List db)(σ:dp)(a:xp),Slots E.N ν σ a->PH E ops K b σ H M->wpQuiet E.P ops.toArray C Nx b a
 |[],σ,a,c,h=>d _ _ c h
 |o::b,σ,a,c,h=>by
  unfold PH at h;split at h;·exact h.elim
  ·rename_i g l;refine wpQuiet_step λn j=>?_;rw[oH c l o rfl];exact HO (λσ a c m=>j _ (vx d C k e i f b σ a c m)) c h C k e i f
theorem dD{id:Nat}{ops:Array db}{K:KP}(f:E.P.follows .mixedOrders=true)(g:Region.lexB .any ops=true)(h:PH E ops.toList K ops.toList σ H M):DrawK E id ops K σ H M:=by rintro a w⟨ν,b,d⟩;refine wp_region_quiet (C:=λu=>Heap E ν H M u) f g (d.mE ((dQ _ _).drew)) ?_;have :=vx (E:=E) (ops:=ops.toList) (K:=K) (Nx:=λi=>∀u,Heap E ν H M u->(λe a w=>e=fF/\∃σ H M,Rep E σ H M a w/\K σ H M) .normal i u) (λσ a b j u c=>⟨rfl,σ,H,M,⟨ν,b,c⟩,j⟩) (λu=>Heap E ν H M u) (λ_ h=>h) (λw u h k=>h.mE k) w d ops.toList σ a b h;simpa using this
end
end Go.X
namespace Go.X
open Go Go.RowKit
def keepC:Option (Bool×SV)->Nat->dp->dp|some p,k,r=>(k,p)::r|none,_,r=>r
theorem keep_nil(σ:dp):wa [] σ=[]:=rfl
theorem keep_cons(k:Nat)(ks:List Nat)(σ:dp):wa (k::ks) σ=keepC (lk σ k) k (wa ks σ):=by simp only[wa];cases lk σ k<;>rfl
def o1c:Option (Bool×SV)->(SV->SV×Prop)->Bool×SV×Prop|some (g,s),f=>(g,f s)|none,_=>(true,bad)
theorem wm(σ:dp)(x:bB)(f:SV->SV×Prop):o1 σ x f=o1c (opv σ x) f:=by unfold o1;cases opv σ x<;>rfl
def o2c:Option (Bool×SV)->Option (Bool×SV)->(SV->SV->SV×Prop)->Bool×SV×Prop|some (g,s),some (a,t),f=>(g&&a,f s t)|some _,none,_=>(true,bad)|none,_,_=>(true,bad)
theorem HP(σ:dp)(x y:bB)(f:SV->SV->SV×Prop):o2 σ x y f=o2c (opv σ x) (opv σ y) f:=by unfold o2;cases opv σ x<;>cases opv σ y<;>rfl
def o3c:Option (Bool×SV)->Option (Bool×SV)->Option (Bool×SV)->(SV->SV->SV->SV×Prop)->Bool×SV×Prop|some (g,s),some (b,t),some (a,u),f=>(g&&(b&&a),f s t u)|some _,some _,none,_=>(true,bad)|some _,none,_,_=>(true,bad)|none,_,_,_=>(true,bad)
theorem ZM(σ:dp)(x y z:bB)(f:SV->SV->SV->SV×Prop):o3 σ x y z f=o3c (opv σ x) (opv σ y) (opv σ z) f:=by unfold o3;cases opv σ x<;>cases opv σ y<;>cases opv σ z<;>rfl
def o4c:Option (Bool×SV)->Option (Bool×SV)->Option (Bool×SV)->Option (Bool×SV)->(SV->SV->SV->SV->SV×Prop)->Bool×SV×Prop|some (g,s),some (b,t),some (a,u),some (c,v),f=>(g&&(b&&(a&&c)),f s t u v)|some _,some _,some _,none,_=>(true,bad)|some _,some _,none,_,_=>(true,bad)|some _,none,_,_,_=>(true,bad)|none,_,_,_,_=>(true,bad)
theorem ZN(σ:dp)(x y z u:bB)(f:SV->SV->SV->SV->SV×Prop):o4 σ x y z u f=o4c (opv σ x) (opv σ y) (opv σ z) (opv σ u) f:=by unfold o4;cases opv σ x<;>cases opv σ y<;>cases opv σ z<;>cases opv σ u<;>rfl
theorem slice3_ev(e sz:Nat)(g:Bool)(y:ay)(a b c:jN)(i j k:Int):rQ (.slice e sz g) (.v y) (.v (.int a i)) (.v (.int b j)) (.v (.int c k))=(.v (Qj y sz i.toNat j.toNat k.toNat),isSl y=true/\(0<=i/\i<=j)/\j<=k/\k<=gh y):=rfl
def pickC:Option (Bool×SV)->Option (Bool×SV)->Option (Bool×SV)->Bool×SV×Prop|some (g,.v (.bool c)),some (d,a),some (e,b)=>(g,pickSV c a b,(c=true->d=true)/\(c=false->e=true))|_,_,_=>(true,bad)
def partC:Nat->Option (Bool×SV)->Option (Bool×List (Nat×SV))->Option (Bool×List (Nat×SV))|i,some (g,s),some (a,l)=>some (g&&a,(i,s)::l)|_,some _,none=>none|_,none,_=>none
theorem partsO_nil(σ:dp):lJ σ []=some (true,[]):=rfl
theorem partsO_cons(σ:dp)(i:Nat)(x:bB)(r:List (Nat×bB)):lJ σ ((i,x)::r)=partC i (opv σ x) (lJ σ r):=by simp only[lJ];cases opv σ x<;>cases lJ σ r<;>rfl
def argC:Option (Bool×SV)->Option (Bool×List SV)->Option (Bool×List SV)|some (g,s),some (a,l)=>some (g&&a,s::l)|some _,none=>none|none,_=>none
theorem argsO_nil(σ:dp):kj σ []=some (true,[]):=rfl
theorem argsO_cons(σ:dp)(x:bB)(r:List bB):kj σ (x::r)=argC (opv σ x) (kj σ r):=by simp only[kj];cases opv σ x<;>cases kj σ r<;>rfl
def buildC(S:Shp)(z:Option (List ay)):Option (Bool×List (Nat×SV))->Bool×SV×Prop|some (g,l)=>(g,sO S z l)|none=>(true,bad)
theorem Oy(P:bZ)(σ:dp)(t:bL)(ps:List (Nat×bB)):FD P σ t ps=buildC (f_ P t) (BL P t) (lJ σ ps):=by unfold FD;cases lJ σ ps<;>rfl
def buildD(a:List (Nat×SV)):Option (List SV)->SV×Prop|some b=>(.agg b,onesP a=true)|none=>bad
theorem buildSV_ev(b:List (Nat×Nat×Bool))(sz:Nat)(z:List ay)(a:List (Nat×SV)):sO (.struct b sz) (some z) a=buildD a (pW b (z.map .v) a):=by unfold sO;simp only;cases pW b (z.map .v) a<;>rfl
def fillC(b:List (Nat×Nat×Bool))(cs:List SV)(s:SV)(r:List (Nat×SV)):Option (Nat×Nat×Bool)->Option (List SV)|some (a,n,_)=>if(cellsSV s).length=n/\a+n<=cs.length then pW b (putAt cs a (cellsSV s)) r else none|none=>none
theorem fillSV_nil(a:List (Nat×Nat×Bool))(cs:List SV):pW a cs []=some cs:=rfl
theorem fillSV_cons(a:List (Nat×Nat×Bool))(cs:List SV)(i:Nat)(s:SV)(r:List (Nat×SV)):pW a cs ((i,s)::r)=fillC a cs s r (a[i]?):=by simp only[pW];cases a[i]?<;>rfl
def mmC(a:Bool):Option (Bool×SV)->Option (Bool×List SV)->Bool×SV×Prop|some (g,s),some (b,l)=>(g&&b,mnmx a s l)|some _,none=>(true,bad)|none,_=>(true,bad)
theorem pev_len(P:bZ)(H:HS)(M:Mem)(σ:dp)(x:bB)(t:bL):rL P H M σ (.call ⟨.builtin .len,#[x],#[t]⟩)=o1c (opv σ x) (qI (f_ P t) H):=wm ..
theorem pev_min(P:bZ)(H:HS)(M:Mem)(σ:dp)(x:bB)(l:List bB)(a:Array bL):rL P H M σ (.call ⟨.builtin .min,(x::l).toArray,a⟩)=mmC false (opv σ x) (kj σ l):=by simp only[rL];cases opv σ x<;>cases kj σ l<;>rfl
theorem pev_max(P:bZ)(H:HS)(M:Mem)(σ:dp)(x:bB)(l:List bB)(a:Array bL):rL P H M σ (.call ⟨.builtin .max,(x::l).toArray,a⟩)=mmC true (opv σ x) (kj σ l):=by simp only[rL];cases opv σ x<;>cases kj σ l<;>rfl
section
variable(P:bZ)(H:HS)(M:Mem)(σ:dp)
theorem pev_move(x:bB):rL P H M σ (.move x)=o1c (opv σ x) (λs=>(s,True)):=wm ..
theorem pev_assign(x:bB):rL P H M σ (.assign x)=o1c (opv σ x) (λs=>(s,True)):=wm ..
theorem pev_pick(c a b:bB):rL P H M σ (.pick c a b)=pickC (opv σ c) (opv σ a) (opv σ b):=rfl
theorem pev_build(t:bL)(ps:List (Nat×bB)):rL P H M σ (.build t ps.toArray)=buildC (f_ P t) (BL P t) (lJ σ ps):=Oy ..
theorem pev_load(t:bL)(x:bB):rL P H M σ (.load t x)=o1c (opv σ x) (ld H M (lay (f_ P t))):=wm ..
theorem pev_nil(x:bB):rL P H M σ (.nilCheck x)=o1c (opv σ x) nilSV:=wm ..
theorem pev_bin(a:ni)(t u:bL)(x y:bB):rL P H M σ (.binOp a t x y u)=o2c (opv σ x) (opv σ y) (binSV P t a):=HP ..
theorem pev_un(a:UnOp)(t:bL)(x:bB):rL P H M σ (.unOp a t x)=o1c (opv σ x) (unSV a):=wm ..
theorem pev_conv(s d:bL)(x:bB):rL P H M σ (.convert s d x)=o1c (opv σ x) (convH P H s d):=wm ..
theorem pev_slice(t:bL)(x lo hi:bB):rL P H M σ (.slice t x (some lo) (some hi) none)=o3c (opv σ x) (opv σ lo) (opv σ hi) (sliceSV (f_ P t)):=ZM ..
theorem pev_slice_hi(t:bL)(x hi:bB):rL P H M σ (.slice t x none (some hi) none)=o2c (opv σ x) (opv σ hi) (λa b=>sliceSV (f_ P t) a (.v (.int .i64 0)) b):=HP ..
theorem pev_slice_lo(t:bL)(x lo:bB):rL P H M σ (.slice t x (some lo) none none)=o2c (opv σ x) (opv σ lo) (λa b=>sliceSV (f_ P t) a b (qI (f_ P t) H a).1):=HP ..
theorem pev_slice3(t:bL)(x lo hi a:bB):rL P H M σ (.slice t x (some lo) (some hi) (some a))=o4c (opv σ x) (opv σ lo) (opv σ hi) (opv σ a) (rQ (f_ P t)):=ZN ..
theorem pev_fieldAddr(t:bL)(x:bB)(f:Nat):rL P H M σ (.fieldAddr t x f)=o1c (opv σ x) (mT (f_ P t) f):=wm ..
theorem pev_field(t:bL)(x:bB)(f:Nat):rL P H M σ (.field t x f)=o1c (opv σ x) (vq (f_ P t) f):=wm ..
theorem pev_indexAddr(t:bL)(x i:bB):rL P H M σ (.indexAddr t x i)=o2c (opv σ x) (opv σ i) (iW (f_ P t) H):=HP ..
theorem pev_index(t:bL)(x i:bB):rL P H M σ (.index t x i)=o2c (opv σ x) (opv σ i) (indexSV (f_ P t)):=HP ..
theorem pev_extract(x:bB)(i:Nat):rL P H M σ (.extract x i)=o1c (opv σ x) (λs=>extSV s i):=wm ..
end
def lenC:Option PO->SV×Prop|some (.row _ a)=>(.v (.int .i64 a.length),True)|some (.box _ _)=>bad|none=>bad|some (.tab _ a)=>(.v (.int .i64 a.length),True)|some (.mp _)=>bad
theorem lenSV_str(H:HS)(s:ByteArray):qI .str H (.v (.string s))=(.v (.int .i64 (bl s).length),True):=rfl
theorem lenSV_sl(H:HS)(e sz:Nat)(g:Bool)(y:ay):qI (.slice e sz g) H (.v y)=(.v (.int .i64 (eB y)),isSl y=true):=rfl
theorem lenSV_own(H:HS)(e sz:Nat)(g:Bool)(k:Nat):qI (.slice e sz g) H (.own k)=lenC (hget H k):=by simp only[qI];cases hget H k with|none=>rfl|some p=>cases p<;>rfl
def ixC(k sz:Nat)(i:Int):Option PO->SV×Prop|some (.row a b)=>(.ptr k sz i.toNat 0,sz=a/\(0<=i/\i<b.length))|some (.box _ _)=>bad|none=>bad|some (.tab a b)=>(.ptr k sz i.toNat 0,sz=a/\(0<=i/\i<b.length))|some (.mp _)=>bad
theorem ixSV_sl(H:HS)(e sz:Nat)(g:Bool)(y:ay)(k:jN)(i:Int):iW (.slice e sz g) H (.v y) (.v (.int k i))=(.ea y sz i.toNat 0,FC y i):=rfl
theorem ixSV_own(H:HS)(e sz:Nat)(g:Bool)(j:Nat)(k:jN)(i:Int):iW (.slice e sz g) H (.own j) (.v (.int k i))=ixC j sz i (hget H j):=by simp only[iW];cases hget H j with|none=>rfl|some p=>cases p<;>rfl
theorem ixSV_arr(H:HS)(n sz b k a i off:Nat)(c:jN)(j:Int):iW (.arr n sz b) H (.ptr k a i off) (.v (.int c j))=(.ptr k a i (off+j.toNat*sz),0<=j/\j<n):=rfl
theorem ixSV_arrV(H:HS)(n sz b:Nat)(a:qz)(c:jN)(j:Int):iW (.arr n sz b) H (.v (.pointer (some a))) (.v (.int c j))=(.v (.pointer (some (a.add (j.toNat*sz)))),0<=j/\j<n):=rfl
def fldC:Option (Nat×Nat×Bool)->SV->SV×Prop|some (a,_,false),.agg l=>(getSV l a,a<l.length)|some (a,n,true),.agg l=>(.agg ((l.drop a).take n),a+n<=l.length)|_,_=>bad
theorem fieldSV_ev(S:Shp)(f:Nat)(x:SV):vq S f x=fldC (sN S f) x:=rfl
def faC:Option (Nat×Nat×Bool)->SV->SV×Prop|some (c,n,_),.ptr k d i b=>(.ptr k d i (b+c),n≠0)|some (c,n,_),.ea x d i b=>(.ea x d i (b+c),n≠0/\someV x=true)|some (c,n,_),.v (.pointer (some a))=>(.v (.pointer (some (a.add c))),n≠0)|_,_=>bad
theorem fieldAddrSV_ev(S:Shp)(f:Nat)(x:SV):mT S f x=faC (sN S f) x:=rfl
theorem fieldAt_struct(a:List (Nat×Nat×Bool))(sz f:Nat):X.sN (.struct a sz) f=a[f]?:=rfl
def gdC(a:Bool):Option (Bool×SV)->Option Bool|some (g,.v (.bool b))=>some (g&&(b==a))|some (false,_)=>some false|_=>none
theorem unV_undef(a:UnOp):unV a dN=(dN,False):=by cases a<;>rfl
theorem bin_ui(S:Shp)(a:ni)(k:jN)(n:Int):bin S a dN (.int k n)=(dN,False):=rfl
theorem bin_iu(S:Shp)(a:ni)(k:jN)(n:Int):bin S a (.int k n) dN=(dN,False):=rfl
theorem bin_us(S:Shp)(a:ni)(s:ByteArray):bin S a dN (.string s)=(dN,False):=rfl
theorem bin_su(S:Shp)(a:ni)(s:ByteArray):bin S a (.string s) dN=(dN,False):=rfl
theorem bin_ub(S:Shp)(a:ni)(b:Bool):bin S a dN (.bool b)=(dN,False):=rfl
theorem bin_bu(S:Shp)(a:ni)(b:Bool):bin S a (.bool b) dN=(dN,False):=rfl
theorem bin_uu(S:Shp)(a:ni):bin S a dN dN=(dN,False):=rfl
theorem ext_undef(i:Nat):extSV (.v dN) i=(.v dN,False):=rfl
theorem pickC_undef(g:Bool)(a b:Bool×SV):pickC (some (g,.v dN)) (some a) (some b)=(true,.v dN,False):=rfl
theorem gdC_false(a:Bool)(s:SV):gdC a (some (false,s))=some false:=by unfold gdC;split<;>simp_all
def gdD(σ:dp)(a:Bool):Option Nat->Option Bool|some d=>gdC a (lk σ d)|none=>none
theorem gdOf_none(ops:List db)(σ:dp):mc ops σ none=some true:=rfl
theorem gdOf_some(ops:List db)(σ:dp)(j:Nat)(a:Bool):mc ops σ (some (j,a))=gdD σ a ((ops[j]?).bind (·.dst)):=by simp only[mc];cases(ops[j]?).bind (·.dst)<;>rfl
section
variable(E:Env)(K:KP)(σ:dp)(H:HS)(M:Mem)
def KM(o:db):Option Bool->Prop|some g=>stepK E o g K σ H M|none=>False
@[congr]theorem XB{E:Env}{K:KP}{σ σ':dp}{H H':HS}{M:Mem}{o:db}{g a:Option Bool}(h:σ=σ')(b:H=H')(c:g=a):KM E K σ H M o g=KM E K σ' H' M o a:=by rw[h,b,c]
theorem wpR_nil(ops:List db):BV E ops K [] σ H M=K σ H M:=rfl
theorem wpR_cons(ops:List db)(o:db)(a:List db):BV E ops K (o::a) σ H M=KM E (BV E ops K a) σ H M o (mc ops σ o.guard):=by simp only[BV];cases mc ops σ o.guard<;>rfl
theorem wpRC_some(o:db)(g:Bool):KM E K σ H M o (some g)=stepK E o g K σ H M:=rfl
def UD(o:db):Option Bool->Prop|some g=>kA E o g K σ H M|none=>False
@[congr]theorem XC{E:Env}{K:KP}{σ σ':dp}{H H':HS}{M:Mem}{o:db}{g a:Option Bool}(h:σ=σ')(b:H=H')(c:g=a):UD E K σ H M o g=UD E K σ' H' M o a:=by rw[h,b,c]
theorem wpQ_nil(ops:List db):PH E ops K [] σ H M=K σ H M:=rfl
theorem wpQ_cons(ops:List db)(o:db)(a:List db):PH E ops K (o::a) σ H M=UD E (PH E ops K a) σ H M o (mc ops σ o.guard):=by simp only[PH];cases mc ops σ o.guard<;>rfl
theorem wpQC_some(o:db)(g:Bool):UD E K σ H M o (some g)=kA E o g K σ H M:=rfl
def Qr(d N:Nat)(g:Bool):Bool×SV×Prop->Prop|(b,s,C)=>(d<N/\(g=true->b=true/\C))/\K ((d,g,s)::σ) H M
@[congr]theorem XD{K:KP}{σ σ':dp}{H H':HS}{M:Mem}{d N:Nat}{g:Bool}{r a:Bool×SV×Prop}(h:σ=σ')(b:H=H')(c:r=a):Qr K σ H M d N g r=Qr K σ' H' M d N g a:=by rw[h,b,c]
theorem putK_ev(d N:Nat)(g a:Bool)(s:SV)(C:Prop):Qr K σ H M d N g (a,s,C)=((d<N/\(g=true->a=true/\C))/\K ((d,g,s)::σ) H M):=rfl
theorem qK_ev(a:Op)(g:Bool)(d:Nat):qK E a g K σ H M (some d)=Qr K σ H M d E.N g (rL E.P H M σ a):=by generalize h:rL E.P H M σ a=r;obtain⟨b,s,C⟩:=r;simp only[qK,h,Qr]
variable(g:Bool)(d:Option Nat)(ty:bL)(pos:String)(aft:Array Edge)(gd:Option (Nat×Bool))
theorem stepK_move(x:bB):stepK E ⟨d,.move x,ty,pos,aft,gd⟩ g K σ H M=qK E (.move x) g K σ H M d:=rfl
theorem stepK_assign(x:bB):stepK E ⟨d,.assign x,ty,pos,aft,gd⟩ g K σ H M=qK E (.assign x) g K σ H M d:=rfl
theorem stepK_pick(x y z:bB):stepK E ⟨d,.pick x y z,ty,pos,aft,gd⟩ g K σ H M=qK E (.pick x y z) g K σ H M d:=rfl
theorem stepK_build(t:bL)(ps:Array (Nat×bB)):stepK E ⟨d,.build t ps,ty,pos,aft,gd⟩ g K σ H M=qK E (.build t ps) g K σ H M d:=rfl
theorem stepK_load(t:bL)(x:bB):stepK E ⟨d,.load t x,ty,pos,aft,gd⟩ g K σ H M=qK E (.load t x) g K σ H M d:=rfl
theorem stepK_nil(x:bB):stepK E ⟨d,.nilCheck x,ty,pos,aft,gd⟩ g K σ H M=qK E (.nilCheck x) g K σ H M d:=rfl
theorem stepK_bin(b:ni)(t u:bL)(x y:bB):stepK E ⟨d,.binOp b t x y u,ty,pos,aft,gd⟩ g K σ H M=qK E (.binOp b t x y u) g K σ H M d:=rfl
theorem stepK_un(b:UnOp)(t:bL)(x:bB):stepK E ⟨d,.unOp b t x,ty,pos,aft,gd⟩ g K σ H M=qK E (.unOp b t x) g K σ H M d:=rfl
theorem stepK_conv(s t:bL)(x:bB):stepK E ⟨d,.convert s t x,ty,pos,aft,gd⟩ g K σ H M=Ou (f_ E.P t) (g=true/\Hf E ⟨d,.convert s t x,ty,pos,aft,gd⟩ K σ H M) (qK E (.convert s t x) g K σ H M d):=rfl
theorem stepK_slice(t:bL)(x:bB)(lo hi a:Option bB):stepK E ⟨d,.slice t x lo hi a,ty,pos,aft,gd⟩ g K σ H M=qK E (.slice t x lo hi a) g K σ H M d:=rfl
theorem stepK_fieldAddr(t:bL)(x:bB)(f:Nat):stepK E ⟨d,.fieldAddr t x f,ty,pos,aft,gd⟩ g K σ H M=qK E (.fieldAddr t x f) g K σ H M d:=rfl
theorem stepK_field(t:bL)(x:bB)(f:Nat):stepK E ⟨d,.field t x f,ty,pos,aft,gd⟩ g K σ H M=qK E (.field t x f) g K σ H M d:=rfl
theorem stepK_indexAddr(t:bL)(x i:bB):stepK E ⟨d,.indexAddr t x i,ty,pos,aft,gd⟩ g K σ H M=qK E (.indexAddr t x i) g K σ H M d:=rfl
theorem stepK_index(t:bL)(x i:bB):stepK E ⟨d,.index t x i,ty,pos,aft,gd⟩ g K σ H M=qK E (.index t x i) g K σ H M d:=rfl
theorem stepK_extract(x:bB)(i:Nat):stepK E ⟨d,.extract x i,ty,pos,aft,gd⟩ g K σ H M=qK E (.extract x i) g K σ H M d:=rfl
theorem stepK_len(a:Array bB)(b:Array bL):stepK E ⟨d,.call ⟨.builtin .len,a,b⟩,ty,pos,aft,gd⟩ g K σ H M=qK E (.call ⟨.builtin .len,a,b⟩) g K σ H M d:=rfl
theorem stepK_min(a:Array bB)(b:Array bL):stepK E ⟨d,.call ⟨.builtin .min,a,b⟩,ty,pos,aft,gd⟩ g K σ H M=qK E (.call ⟨.builtin .min,a,b⟩) g K σ H M d:=rfl
theorem stepK_max(a:Array bB)(b:Array bL):stepK E ⟨d,.call ⟨.builtin .max,a,b⟩,ty,pos,aft,gd⟩ g K σ H M=qK E (.call ⟨.builtin .max,a,b⟩) g K σ H M d:=rfl
def boxC(d:Nat)(N:Nat)(g:Bool):Option (Bool×SV)->Prop|some (a,s)=>(g=true/\a=true/\d<N)/\boxK d s K σ H M|none=>False
@[congr]theorem XE{K:KP}{σ σ':dp}{H H':HS}{M:Mem}{d N:Nat}{g:Bool}{r a:Option (Bool×SV)}(h:σ=σ')(b:H=H')(c:r=a):boxC K σ H M d N g r=boxC K σ' H' M d N g a:=by rw[h,b,c]
@[congr]theorem XF{K:KP}{σ σ':dp}{H H':HS}{M:Mem}{d:Nat}{s a:SV}(h:σ=σ')(b:H=H')(c:s=a):boxK d s K σ H M=boxK d a K σ' H' M:=by rw[h,b,c]
theorem stepK_box(t:bL)(x:bB)(d:Nat):stepK E ⟨some d,.box t x,ty,pos,aft,gd⟩ g K σ H M=boxC K σ H M d E.N g (opv σ x):=by simp only[stepK];cases opv σ x<;>rfl
def stC(d:Option Nat)(L:Option (Nat×Bool))(k i off:Nat)(s:SV)(a:Prop):Option PO->Prop|some (.box b t)=>((stBox s off b L).2/\i=0)/\K (match d with|some d=>(d,true,.v dN)::σ|none=>σ) (hset k (.box (stBox s off b L).1 t) H) M|some (.row _ _)=>a|none=>a|some (.tab _ _)=>a|some (.mp _)=>a
@[congr]theorem Zt{K:KP}{σ σ':dp}{H H':HS}{M:Mem}{d:Option Nat}{L b:Option (Nat×Bool)}{k i off c a:Nat}{s e:SV}{f:Prop}{r g:Option PO}(h:σ=σ')(j:H=H')(l:L=b)(hi:i=c)(m:off=a)(n:s=e)(o:r=g):stC K σ H M d L k i off s f r=stC K σ' H' M d b k c a e f g:=by rw[h,j,l,hi,m,n,o]
@[congr]theorem UE{K:KP}{σ σ':dp}{H H':HS}{M:Mem}{d:Option Nat}{L a:Option (Nat×Bool)}{p b s c:SV}{e:Prop}(h:σ=σ')(f:H=H')(g:L=a)(i:p=b)(j:s=c):ri d L p s e K σ H M=ri d a b c e K σ' H' M:=by rw[h,f,g,i,j]
theorem storeK_ptr(d:Option Nat)(L:Option (Nat×Bool))(k sz i off:Nat)(s:SV)(a:Prop):ri d L (.ptr k sz i off) s a K σ H M=stC K σ H M d L k i off s a (hget H k):=by simp only[ri];cases hget H k with|none=>rfl|some p=>cases p<;>rfl
theorem storeK_v(d:Option Nat)(L:Option (Nat×Bool))(x:ay)(s:SV)(a:Prop):ri d L (.v x) s a K σ H M=a:=rfl
theorem storeK_ea(d:Option Nat)(L:Option (Nat×Bool))(x:ay)(sz i off:Nat)(s:SV)(a:Prop):ri d L (.ea x sz i off) s a K σ H M=a:=rfl
def storeC(o:db)(t:bL)(g:Bool):Option (Bool×SV)->Option (Bool×SV)->Prop|some (a,p),some (b,s)=>(g=true/\a=true/\b=true/\dOk E.N o.dst)/\D7 E.P t/\ri o.dst (lay (f_ E.P t)) p s (Hf E o K σ H M) K σ H M|some _,none=>False|none,_=>False
@[congr]theorem UF{E:Env}{K:KP}{σ σ':dp}{H H':HS}{M:Mem}{o:db}{t:bL}{g:Bool}{r a q b:Option (Bool×SV)}(h:σ=σ')(c:H=H')(d:r=a)(e:q=b):storeC E K σ H M o t g r q=storeC E K σ' H' M o t g a b:=by rw[h,c,d,e]
theorem stepK_store(t:bL)(p x:bB):stepK E ⟨d,.store t p x,ty,pos,aft,gd⟩ g K σ H M=storeC E K σ H M ⟨d,.store t p x,ty,pos,aft,gd⟩ t g (opv σ p) (opv σ x):=by simp only[stepK];cases opv σ p<;>cases opv σ x<;>rfl
def MF(o:db)(d:Nat)(g:Bool):Option (Bool×SV)->Option (Bool×List SV)->Prop|some (b,.fn f a),some (c,l)=>d<E.N/\((g=true->(b=true/\c=true)/\CallK E f (l++a) d K σ H M)/\(g=false->K ((d,true,.v dN)::σ) H M))|_,_=>g=true/\Hf E o K σ H M
@[congr]theorem WI{E:Env}{K:KP}{σ σ':dp}{H H':HS}{M:Mem}{o:db}{d:Nat}{g:Bool}{r a:Option (Bool×SV)}{q b:Option (Bool×List SV)}(h:σ=σ')(c:H=H')(e:r=a)(f:q=b):MF E K σ H M o d g r q=MF E K σ' H' M o d g a b:=by rw[h,c,e,f]
theorem stepK_call(f:bB)(a:Array bB)(b:Array bL)(d:Nat):stepK E ⟨some d,.call ⟨.value f,a,b⟩,ty,pos,aft,gd⟩ g K σ H M=MF E K σ H M ⟨some d,.call ⟨.value f,a,b⟩,ty,pos,aft,gd⟩ d g (opv σ f) (kj σ a.toList):=by simp only[stepK];cases opv σ f with|none=>rfl|some p=>obtain⟨c,s⟩:=p;cases s<;>cases kj σ a.toList<;>rfl
theorem callC_ev(o:db)(d:Nat)(g b c:Bool)(f:Nat)(a l:List SV):MF E K σ H M o d g (some (b,.fn f a)) (some (c,l))=(d<E.N/\((g=true->(b=true/\c=true)/\CallK E f (l++a) d K σ H M)/\(g=false->K ((d,true,.v dN)::σ) H M))):=rfl
def FJ(d:Nat)(g:Bool):Option (Bool×SV)->Option (Bool×List SV)->Prop|some (b,.fn f a),some (c,l)=>d<E.N/\∃s,(g=true->(b=true/\c=true)/\HN E f (l++a) M s)/\K ((d,g,s)::σ) H M|_,_=>False
@[congr]theorem UG{E:Env}{K:KP}{σ σ':dp}{H H':HS}{M:Mem}{d:Nat}{g:Bool}{r a:Option (Bool×SV)}{q b:Option (Bool×List SV)}(h:σ=σ')(c:H=H')(e:r=a)(f:q=b):FJ E K σ H M d g r q=FJ E K σ' H' M d g a b:=by rw[h,c,e,f]
theorem stepQ_move(x:bB):kA E ⟨d,.move x,ty,pos,aft,gd⟩ g K σ H M=qK E (.move x) g K σ H M d:=rfl
theorem stepQ_assign(x:bB):kA E ⟨d,.assign x,ty,pos,aft,gd⟩ g K σ H M=qK E (.assign x) g K σ H M d:=rfl
theorem stepQ_pick(x y z:bB):kA E ⟨d,.pick x y z,ty,pos,aft,gd⟩ g K σ H M=qK E (.pick x y z) g K σ H M d:=rfl
theorem stepQ_build(t:bL)(ps:Array (Nat×bB)):kA E ⟨d,.build t ps,ty,pos,aft,gd⟩ g K σ H M=qK E (.build t ps) g K σ H M d:=rfl
theorem stepQ_load(t:bL)(x:bB):kA E ⟨d,.load t x,ty,pos,aft,gd⟩ g K σ H M=qK E (.load t x) g K σ H M d:=rfl
theorem stepQ_nil(x:bB):kA E ⟨d,.nilCheck x,ty,pos,aft,gd⟩ g K σ H M=qK E (.nilCheck x) g K σ H M d:=rfl
theorem stepQ_bin(b:ni)(t u:bL)(x y:bB):kA E ⟨d,.binOp b t x y u,ty,pos,aft,gd⟩ g K σ H M=qK E (.binOp b t x y u) g K σ H M d:=rfl
theorem stepQ_un(b:UnOp)(t:bL)(x:bB):kA E ⟨d,.unOp b t x,ty,pos,aft,gd⟩ g K σ H M=qK E (.unOp b t x) g K σ H M d:=rfl
theorem stepQ_conv(s t:bL)(x:bB):kA E ⟨d,.convert s t x,ty,pos,aft,gd⟩ g K σ H M=qK E (.convert s t x) g K σ H M d:=rfl
theorem stepQ_slice(t:bL)(x:bB)(lo hi a:Option bB):kA E ⟨d,.slice t x lo hi a,ty,pos,aft,gd⟩ g K σ H M=qK E (.slice t x lo hi a) g K σ H M d:=rfl
theorem stepQ_fieldAddr(t:bL)(x:bB)(f:Nat):kA E ⟨d,.fieldAddr t x f,ty,pos,aft,gd⟩ g K σ H M=qK E (.fieldAddr t x f) g K σ H M d:=rfl
theorem stepQ_field(t:bL)(x:bB)(f:Nat):kA E ⟨d,.field t x f,ty,pos,aft,gd⟩ g K σ H M=qK E (.field t x f) g K σ H M d:=rfl
theorem stepQ_indexAddr(t:bL)(x i:bB):kA E ⟨d,.indexAddr t x i,ty,pos,aft,gd⟩ g K σ H M=qK E (.indexAddr t x i) g K σ H M d:=rfl
theorem stepQ_index(t:bL)(x i:bB):kA E ⟨d,.index t x i,ty,pos,aft,gd⟩ g K σ H M=qK E (.index t x i) g K σ H M d:=rfl
theorem stepQ_extract(x:bB)(i:Nat):kA E ⟨d,.extract x i,ty,pos,aft,gd⟩ g K σ H M=qK E (.extract x i) g K σ H M d:=rfl
theorem stepQ_len(a:Array bB)(b:Array bL):kA E ⟨d,.call ⟨.builtin .len,a,b⟩,ty,pos,aft,gd⟩ g K σ H M=qK E (.call ⟨.builtin .len,a,b⟩) g K σ H M d:=rfl
theorem stepQ_min(a:Array bB)(b:Array bL):kA E ⟨d,.call ⟨.builtin .min,a,b⟩,ty,pos,aft,gd⟩ g K σ H M=qK E (.call ⟨.builtin .min,a,b⟩) g K σ H M d:=rfl
theorem stepQ_max(a:Array bB)(b:Array bL):kA E ⟨d,.call ⟨.builtin .max,a,b⟩,ty,pos,aft,gd⟩ g K σ H M=qK E (.call ⟨.builtin .max,a,b⟩) g K σ H M d:=rfl
theorem stepQ_call(f:bB)(a:Array bB)(b:Array bL)(d:Nat):kA E ⟨some d,.call ⟨.value f,a,b⟩,ty,pos,aft,gd⟩ g K σ H M=FJ E K σ H M d g (opv σ f) (kj σ a.toList):=by simp only[kA];cases opv σ f with|none=>rfl|some p=>obtain⟨c,s⟩:=p;cases s<;>cases kj σ a.toList<;>rfl
theorem callQC_ev(d:Nat)(g b c:Bool)(f:Nat)(a l:List SV):FJ E K σ H M d g (some (b,.fn f a)) (some (c,l))=(d<E.N/\∃s,(g=true->(b=true/\c=true)/\HN E f (l++a) M s)/\K ((d,g,s)::σ) H M):=rfl
end
section
variable(E:Env)(live:List Nat)(Q:QP)(σ:dp)(H:HS)(M:Mem)
def MG(t e:lp):Option (Bool×SV)->Prop|some (true,.v (.bool b))=>(b=true->ui E live t Q σ H M)/\(b=false->ui E live e Q σ H M)|_=>False
@[congr]theorem WJ{E:Env}{live:List Nat}{Q:QP}{σ σ':dp}{H H':HS}{M:Mem}{t e:lp}{r a:Option (Bool×SV)}(h:σ=σ')(b:H=H')(c:r=a):MG E live Q σ H M t e r=MG E live Q σ' H' M t e a:=by rw[h,b,c]
theorem condC_ev(t e:lp)(b:Bool):MG E live Q σ H M t e (some (true,.v (.bool b)))=((b=true->ui E live t Q σ H M)/\(b=false->ui E live e Q σ H M)):=rfl
theorem wpC_skip:ui E live .skip Q σ H M=Q .normal σ H M:=rfl
theorem wpC_ret:ui E live .ret Q σ H M=Q .ret σ H M:=rfl
theorem wpC_exit(i:Nat):ui E live (.exit i) Q σ H M=Q (.exit i) σ H M:=rfl
def Qs(live:List Nat)(Q:QP):KP:=λσ H M=>Q .normal (wa live σ) H M
def goK(live:List Nat)(Q:QP)(σ:dp)(H:HS)(M:Mem):Prop:=Q .normal σ H M
@[congr]theorem Zu{live:List Nat}{Q:QP}{σ σ':dp}{H H':HS}{M:Mem}(h:σ=σ')(a:H=H'):goK live Q σ H M=goK live Q σ' H' M:=by rw[h,a]
theorem endK_ev:Qs live Q σ H M=goK live Q (wa live σ) H M:=rfl
theorem goK_ev:goK live Q σ H M=Q .normal σ H M:=rfl
theorem wpC_region(id:Nat)(ops:Array db):ui E live (.region id ops false) Q σ H M=BV E ops.toList (Qs live Q) ops.toList σ H M:=rfl
theorem wpC_draw(id:Nat)(ops:Array db):ui E live (.region id ops true) Q σ H M=DrawK E id ops (Qs live Q) σ H M:=rfl
def Oz(b:lp)(Q:QP):QP:=λe σ H M=>match e with|.normal=>ui E live b Q σ H M|e=>Q e σ H M
theorem wpC_seq(a b:lp):ui E live (.seq a b) Q σ H M=ui E live a (Oz E live b Q) σ H M:=rfl
theorem seqQ_normal(b:lp):Oz E live b Q .normal σ H M=ui E live b Q σ H M:=rfl
theorem seqQ_ret(b:lp):Oz E live b Q .ret σ H M=Q .ret σ H M:=rfl
theorem seqQ_exit(b:lp)(i:Nat):Oz E live b Q (.exit i) σ H M=Q (.exit i) σ H M:=rfl
def FK(i:Nat)(Q:QP):QP:=λe σ H M=>match e with|.exit j=>if j=i then Q .normal σ H M else Q (.exit j) σ H M|e=>Q e σ H M
theorem wpC_block(i:Nat)(b:lp):ui E live (.block i b) Q σ H M=ui E live b (FK i Q) σ H M:=rfl
theorem blkQ_normal(i:Nat):FK i Q .normal σ H M=Q .normal σ H M:=rfl
theorem blkQ_ret(i:Nat):FK i Q .ret σ H M=Q .ret σ H M:=rfl
theorem blkQ_exit(i j:Nat):FK i Q (.exit j) σ H M=if j=i then Q .normal σ H M else Q (.exit j) σ H M:=rfl
theorem wpC_cond(c:bB)(t e:lp):ui E live (.cond c t e) Q σ H M=MG E live Q σ H M t e (opv σ c):=rfl
theorem wpC_loop(b:lp):ui E live (.loop b) Q σ H M=LoopK E live b Q σ H M:=rfl
@[congr]theorem XG{E:Env}{live:List Nat}{b:lp}{Q:QP}{e:Exit}{σ σ':dp}{H H':HS}{M:Mem}(h:σ=σ')(a:H=H'):Oz E live b Q e σ H M=Oz E live b Q e σ' H' M:=by rw[h,a]
@[congr]theorem XH{i:Nat}{Q:QP}{e:Exit}{σ σ':dp}{H H':HS}{M:Mem}(h:σ=σ')(a:H=H'):FK i Q e σ H M=FK i Q e σ' H' M:=by rw[h,a]
def Ea{X:Type}(E:Env)(S:X->dp×HS×Mem)(I:X->Prop)(m:X->Nat)(x:X)(Q:QP):QP:=λe t G N=>match e with|.normal=>∃a,(I a/\m a<m x)/\Ent E t G N (S a)|e=>Q e t G N
theorem rndQ_normal{X:Type}(S:X->dp×HS×Mem)(I:X->Prop)(m:X->Nat)(x:X):Ea E S I m x Q .normal σ H M=∃a,(I a/\m a<m x)/\Ent E σ H M (S a):=rfl
theorem rndQ_ret{X:Type}(S:X->dp×HS×Mem)(I:X->Prop)(m:X->Nat)(x:X):Ea E S I m x Q .ret σ H M=Q .ret σ H M:=rfl
theorem rndQ_exit{X:Type}(S:X->dp×HS×Mem)(I:X->Prop)(m:X->Nat)(x:X)(i:Nat):Ea E S I m x Q (.exit i) σ H M=Q (.exit i) σ H M:=rfl
@[congr]theorem XI{X:Type}{E:Env}{S:X->dp×HS×Mem}{I:X->Prop}{m:X->Nat}{x:X}{Q:QP}{e:Exit}{σ σ':dp}{H H':HS}{M:Mem}(h:σ=σ')(a:H=H'):Ea E S I m x Q e σ H M=Ea E S I m x Q e σ' H' M:=by rw[h,a]
def xM(K:KP)(Q:QP):QP:=λe σ H M=>match e with|.normal=>K σ H M|e=>Q e σ H M
theorem rollQ_normal(K:KP):xM K Q .normal σ H M=K σ H M:=rfl
theorem rollQ_ret(K:KP):xM K Q .ret σ H M=Q .ret σ H M:=rfl
theorem rollQ_exit(K:KP)(i:Nat):xM K Q (.exit i) σ H M=Q (.exit i) σ H M:=rfl
@[congr]theorem WK{K:KP}{Q:QP}{e:Exit}{σ σ':dp}{H H':HS}{M:Mem}(h:σ=σ')(a:H=H'):xM K Q e σ H M=xM K Q e σ' H' M:=by rw[h,a]
def sU(E:Env)(live:List Nat)(a:lp)(Q:QP):Nat->KP|0=>λ_ _ _=>False|n+1=>λσ H M=>ui E live a (xM (sU E live a Q n) Q) σ H M
@[congr]theorem T7{E:Env}{live:List Nat}{b:lp}{Q:QP}{n:Nat}{σ σ':dp}{H H':HS}{M:Mem}(h:σ=σ')(a:H=H'):sU E live b Q n σ H M=sU E live b Q n σ' H' M:=by rw[h,a]
theorem RoundsK_succ(b:lp)(n:Nat):sU E live b Q (n+1) σ H M=ui E live b (xM (sU E live b Q n) Q) σ H M:=rfl
theorem sV{E:Env}{live:List Nat}{c:lp}{Q:QP}{σ:dp}{H:HS}{M:Mem}(n:Nat)(h:sU E live c Q n σ H M):LoopK E live c Q σ H M:=by
 intro a w j b k v;have y:∀n σ H M a w,sU E live c Q n σ H M->Rep E σ H M a w->∃e u W,AM E Q e u W/\Arrives E.P (lone (b.at a (.code c::.inLoop c::k)) v w) b k v e u W:=by intro n;induction n with|zero=>intro σ H M a w h;exact h.elim|succ n z=>intro σ H M a w h j;obtain⟨e,g,i,⟨t,G,N,d,o⟩,f⟩:=iY c _ _ _ _ h a w j b (.inLoop c::k) v;cases e with|normal=>obtain⟨q,r,s,p,m⟩:=z _ _ _ g i o d;exact⟨q,r,s,p,.of_steps (Steps.trans f (.one step_inLoop)) m⟩|exit A=>exact⟨_,g,i,⟨t,G,N,d,o⟩,.pass (x:=.inLoop c) rfl (λ_ _=>.inl (by simp)) f⟩|goto l=>exact⟨_,g,i,⟨t,G,N,d,o⟩,.pass (x:=.inLoop c) rfl (λ_ _=>.inl (by simp)) f⟩|ret=>exact⟨_,g,i,⟨t,G,N,d,o⟩,.pass (x:=.inLoop c) rfl (λ_ _=>.inl (by simp)) f⟩|panic B=>exact⟨_,g,i,⟨t,G,N,d,o⟩,.pass (x:=.inLoop c) rfl (λ_ _=>.inl (by simp)) f⟩|outgrown=>exact⟨_,g,i,⟨t,G,N,d,o⟩,.pass (x:=.inLoop c) rfl (λ_ _=>.inl (by simp)) f⟩
 obtain⟨e,u,W,o,f⟩:=y n _ _ _ a w h j;exact⟨e,u,W,o,.of_steps (.one step_loop) f⟩
theorem bE{E:Env}{live:List Nat}{Q:QP}{σ:dp}{H:HS}{M:Mem}{a:lp}{X:Type}(S:X->dp×HS×Mem)(I:X->Prop)(m:X->Nat)(c:X)(d:I c)(b:Ent E σ H M (S c))(e:∀x,I x->ui E live a (Ea E S I m x Q) (S x).1 (S x).2.1 (S x).2.2):LoopK E live a Q σ H M:=HM S I m c d b e
def retC(R:RP)(H:HS)(M:Mem):Option (List SV×Prop)->Prop|some (a,C)=>C/\R (one? a) H M|none=>False
theorem RetK_ret(P:bZ)(a:List mh)(R:RP):yY P a R .ret σ H M=retC R H M (p4 P σ H M a):=by simp only[yY];cases p4 P σ H M a<;>rfl
theorem RetK_normal(P:bZ)(a:List mh)(R:RP):yY P a R .normal σ H M=retC R H M (p4 P σ H M a):=by simp only[yY];cases p4 P σ H M a<;>rfl
def rsC:Option (SV×Prop)->Option (List SV×Prop)->Option (List SV×Prop)|some (s,C),some (a,D)=>some (s::a,C/\D)|some _,none=>none|none,_=>none
theorem rsvs_nil(P:bZ):p4 P σ H M []=some ([],True):=rfl
theorem rsvs_cons(P:bZ)(r:mh)(l:List mh):p4 P σ H M (r::l)=rsC (D' P σ H M r) (p4 P σ H M l):=by simp only[p4];cases D' P σ H M r<;>cases p4 P σ H M l<;>rfl
def rs1C:Option (Bool×SV)->Option (SV×Prop)|some (true,s)=>some (s,True)|some (false,_)=>none|none=>none
theorem rsv1_tmp(P:bZ)(t:Nat):D' P σ H M (.tmp t)=rs1C (lk σ t):=by simp only[D'];cases h:lk σ t with|none=>rfl|some p=>obtain⟨b,s⟩:=p;cases b<;>rfl
def rs2C(P:bZ)(H:HS)(M:Mem)(t:bL):Option (Bool×SV)->Option (SV×Prop)|some (true,s)=>some (ld H M (lay (f_ P t)) s)|some (false,_)=>none|none=>none
theorem rsv1_cell(P:bZ)(a t:Nat):D' P σ H M (.cell a t)=rs2C P H M t (lk σ a):=by simp only[D'];cases h:lk σ a with|none=>rfl|some p=>obtain⟨b,s⟩:=p;cases b<;>rfl
end
end Go.X
namespace Go.X
open Go Go.RowKit
section
variable{E:Env}{K:KP}{σ:dp}{H:HS}{M:Mem}{d:Option Nat}{ty:bL}{pos:String}{aft:Array Edge}{gd:Option (Nat×Bool)}{g:Bool}
@[congr]theorem XJ{E:Env}{a:Prop}{K:KP}{σ σ':dp}{H H':HS}{M:Mem}{d:Option Nat}{L:Option (Nat×Bool)}{k sz i off:Nat}{cs:List ay}{r b:Option PO}(h:σ=σ')(c:H=H')(e:r=b):stRC d L k sz i off cs a K σ H M r=stRC d L k sz i off cs a K σ' H' M b:=by rw[h,c,e]
@[congr]theorem XK{E:Env}{a:Prop}{K:KP}{σ σ':dp}{H H':HS}{M:Mem}{d:Option Nat}{L:Option (Nat×Bool)}{k sz i off:Nat}{s:SV}{r b:Bool}(h:σ=σ')(c:H=H')(e:r=b):stRB d L k sz i off s a K σ H M r=stRB d L k sz i off s a K σ' H' M b:=by rw[h,c,e]
@[congr]theorem XL{E:Env}{a:Prop}{K:KP}{σ σ':dp}{H H':HS}{M:Mem}{d:Option Nat}{L:Option (Nat×Bool)}{r b:Option (Bool×SV)}{q c:Option (Bool×SV)}(h:σ=σ')(e:H=H')(f:r=b)(g:q=c):stRD d L a K σ H M r q=stRD d L a K σ' H' M b c:=by rw[h,e,f,g]
@[congr]theorem XM{E:Env}{a:Prop}{K:KP}{σ σ':dp}{H H':HS}{M:Mem}{d sz bt:Nat}{b:List ay}{r c:Option (Option Nat×Nat×List (List ay))}{q e:Option (List (List ay)×Prop)}(h:σ=σ')(f:H=H')(g:r=c)(i:q=e):appD E d sz bt b a K σ H M r q=appD E d sz bt b a K σ' H' M c e:=by rw[h,f,g,i]
@[congr]theorem XN{E:Env}{a:Prop}{K:KP}{σ σ':dp}{H H':HS}{M:Mem}{d:Option Nat}{S b:Shp}{r c:Option (Nat×Nat×Nat×List ay)}{q e u f:Option (Bool×SV)}(h:σ=σ')(g:H=H')(i:S=b)(j:r=c)(k:q=e)(l:u=f):appC E a K σ H M S d r q u=appC E a K σ' H' M b d c e f:=by rw[h,g,i,j,k,l]
@[congr]theorem Zv{E:Env}{a:Prop}{K:KP}{σ σ':dp}{H H':HS}{M:Mem}{d:Option Nat}{r b:Option (List ay)}(h:σ=σ')(c:H=H')(e:r=b):alC E a K σ H M d r=alC E a K σ' H' M d b:=by rw[h,c,e]
@[congr]theorem Zw{E:Env}{a:Prop}{K:KP}{σ σ':dp}{H H':HS}{M:Mem}{d:Option Nat}{r b:Option (Nat×Nat×Nat×List ay)}{q c:Option (Bool×SV)}{u e:Option (Bool×SV)}(h:σ=σ')(f:H=H')(g:r=b)(i:q=c)(j:u=e):mkC E a K σ H M d r q u=mkC E a K σ' H' M d b c e:=by rw[h,f,g,i,j]
@[congr]theorem Zx{E:Env}{a:Prop}{K:KP}{σ σ':dp}{H H':HS}{M:Mem}{d sz n:Nat}{ps:List (Nat×SV)}{r b:Bool}(h:σ=σ')(c:H=H')(e:r=b):bsD E d sz n ps a K σ H M r=bsD E d sz n ps a K σ' H' M b:=by rw[h,c,e]
@[congr]theorem Zy{E:Env}{a:Prop}{K:KP}{σ σ':dp}{H H':HS}{M:Mem}{n:Nat}{d:Option Nat}{r b:Option (Nat×Nat×Nat×List ay)}{q c:Option (Bool×List (Nat×SV))}(h:σ=σ')(e:H=H')(f:r=b)(g:q=c):bsC E a K σ H M n d r q=bsC E a K σ' H' M n d b c:=by rw[h,e,f,g]
@[congr]theorem Zz{E:Env}{o:db}{K:KP}{σ σ':dp}{H H':HS}{M:Mem}(h:σ=σ')(a:H=H'):Hf E o K σ H M=Hf E o K σ' H' M:=by rw[h,a]
theorem stepK_bs(t n:Nat)(ps:List (Nat×bB)):stepK E ⟨d,.buildSlice t n ps.toArray,ty,pos,aft,gd⟩ g K σ H M=(g=true/\bsC E (OpK E ⟨d,.buildSlice t n ps.toArray,ty,pos,aft,gd⟩ K σ H M) K σ H M n d (D8 E.P t) (lJ σ ps)):=rfl
theorem stepK_mk(t:bL)(x y:bB):stepK E ⟨d,.makeSlice t x y,ty,pos,aft,gd⟩ g K σ H M=(g=true/\mkC E (OpK E ⟨d,.makeSlice t x y,ty,pos,aft,gd⟩ K σ H M) K σ H M d (D8 E.P t) (opv σ x) (opv σ y)):=rfl
theorem stepK_al(t:bL):stepK E ⟨d,.alloc t,ty,pos,aft,gd⟩ g K σ H M=(g=true/\alC E (OpK E ⟨d,.alloc t,ty,pos,aft,gd⟩ K σ H M) K σ H M d (XA E.P t)):=rfl
theorem stepK_app(t tx:bL)(x y:bB):stepK E ⟨d,.call ⟨.builtin .append,#[x,y],#[t,tx]⟩,ty,pos,aft,gd⟩ g K σ H M=(g=true/\appC E (OpK E ⟨d,.call ⟨.builtin .append,#[x,y],#[t,tx]⟩,ty,pos,aft,gd⟩ K σ H M) K σ H M (f_ E.P tx) d (D8 E.P t) (opv σ x) (opv σ y)):=rfl
theorem OpX_st(t:bL)(x y:bB):Hf E ⟨d,.store t x y,ty,pos,aft,gd⟩ K σ H M=stRD d (lay (f_ E.P t)) (OpK E ⟨d,.store t x y,ty,pos,aft,gd⟩ K σ H M) K σ H M (opv σ x) (opv σ y):=rfl
theorem conc1_own(k:Nat):conc1 (.own k)=false:=rfl
theorem concB_own(k:Nat):concB (.own k)=false:=rfl
theorem conc1_ptr(k a b c:Nat):conc1 (.ptr k a b c)=false:=rfl
theorem concB_ptr(k a b c:Nat):concB (.ptr k a b c)=false:=rfl
theorem conc1_tup(l:List SV):conc1 (.tup l)=false:=rfl
theorem concB_tup(l:List SV):concB (.tup l)=false:=rfl
theorem conc1_fn(f:Nat)(l:List SV):conc1 (.fn f l)=false:=rfl
theorem concB_fn(f:Nat)(l:List SV):concB (.fn f l)=false:=rfl
theorem conc1_ea(x:ay)(a b c:Nat):conc1 (.ea x a b c)=false:=rfl
theorem concB_ea(x:ay)(a b c:Nat):concB (.ea x a b c)=false:=rfl
theorem conc1_agg(l:List SV):conc1 (.agg l)=false:=rfl
theorem rowOf_own(H:HS)(sz k:Nat):HF H sz (.own k)=rowC k (hget H k):=rfl
theorem rowOf_nil(H:HS)(sz:Nat):HF H sz (.v (.slice none 0 0))=some (none,sz,[]):=rfl
theorem rowC_box(k:Nat)(cs:List SV)(t:Option ay):rowC k (some (.box cs t))=none:=rfl
theorem rowC_none(k:Nat):rowC k none=none:=rfl
theorem srcOf_own(H:HS)(M:Mem)(sz e s:Nat)(g:Bool)(k:Nat):EE H M sz (.slice e s g) (.own k)=srcC sz (hget H k):=rfl
theorem srcOf_v(H:HS)(M:Mem)(sz e s:Nat)(g:Bool)(y:ay):EE H M sz (.slice e s g) (.v y)=some (tK M y sz,KH M y sz):=rfl
theorem srcOf_str(H:HS)(M:Mem)(sz:Nat)(s:ByteArray):EE H M sz .str (.v (.string s))=some ((bl s).map iy,sz=1):=rfl
theorem appD_none(d sz bt:Nat)(b:List ay)(a:Prop)(q:Option (List (List ay)×Prop)):appD E d sz bt b a K σ H M none q=a:=by cases q<;>rfl
theorem appD_some(d sz bt:Nat)(b:List ay)(a:Prop)(q:Option Nat×Nat×List (List ay)):appD E d sz bt b a K σ H M (some q) none=a:=rfl
theorem one_int(k:jN)(n:Int):iR (.int k n)=true:=rfl
theorem one_string(s:ByteArray):iR (.string s)=true:=rfl
theorem one_bool(b:Bool):iR (.bool b)=true:=rfl
theorem one_slice(a:Option qz)(n c:Nat):iR (.slice a n c)=true:=rfl
theorem one_pointer(a:Option qz):iR (.pointer a)=true:=rfl
theorem one_map(r:Option Nat):iR (.map r)=true:=rfl
end
@[congr]theorem ZA{S a:Shp}{b q:Prop}(h:S=a):Ou S b q=Ou a b q:=by rw[h]
theorem cvK_slice(e sz:Nat)(n:Bool)(a q:Prop):Ou (.slice e sz n) a q=a:=rfl
theorem cvK_int(k:jN)(a q:Prop):Ou (.int k) a q=q:=rfl
theorem cvK_str(a q:Prop):Ou .str a q=q:=rfl
theorem cvK_bool(a q:Prop):Ou .bool a q=q:=rfl
theorem cvK_one(a q:Prop):Ou .one a q=q:=rfl
theorem cvK_arr(n sz a:Nat)(b q:Prop):Ou (.arr n sz a) b q=q:=rfl
theorem cvK_struct(a:List (Nat×Nat×Bool))(sz:Nat)(b q:Prop):Ou (.struct a sz) b q=q:=rfl
theorem OpX_conv{E:Env}{K:KP}{σ:dp}{H:HS}{M:Mem}{d:Option Nat}{ty:bL}{pos:String}{aft:Array Edge}{gd:Option (Nat×Bool)}(s t:bL)(x:bB):Hf E ⟨d,.convert s t x,ty,pos,aft,gd⟩ K σ H M=OpK E ⟨d,.convert s t x,ty,pos,aft,gd⟩ K σ H M:=rfl
theorem uD:type_of%(aa (aa @rollQ_normal @rollQ_ret) (aa @rollQ_exit @RoundsK_succ)):=⟨⟨@rollQ_normal,@rollQ_ret⟩,@rollQ_exit,@RoundsK_succ⟩
theorem sb7:type_of%(aa (aa @cvK_slice @cvK_int) (aa (aa @cvK_str @cvK_one) (aa (aa @cvK_struct (aa @cvK_arr (aa (aa @ixSV_arr @ixSV_arrV) @lay.eq_8))) (aa @cvK_bool @OpX_conv)))):=aa (aa @cvK_slice @cvK_int) (aa (aa @cvK_str @cvK_one) (aa (aa @cvK_struct (aa @cvK_arr (aa (aa @ixSV_arr @ixSV_arrV) @lay.eq_8))) (aa @cvK_bool @OpX_conv)))
theorem sb6:type_of%(aa (aa @pev_slice3 @slice3_ev) @o4c.eq_1):=aa (aa @pev_slice3 @slice3_ev) @o4c.eq_1
theorem sx0:type_of%(aa (aa (aa (aa (aa (@keep_nil) (aa @keep_cons @partsO_nil)) (aa (@partsO_cons) (aa @argsO_nil @argsO_cons))) (aa (aa (@buildSV_ev) (aa @fillSV_nil @fillSV_cons)) (aa (@pev_len) (aa @pev_min @pev_max)))) (aa (aa (aa (@pev_move) (aa @pev_assign @pev_pick)) (aa (@pev_build) (aa @pev_load @pev_nil))) (aa (aa (@pev_bin) (aa @pev_un @pev_conv)) (aa (@pev_slice) (aa @pev_slice_hi @pev_slice_lo))))) (aa (aa (aa (aa (@pev_fieldAddr) (aa @pev_field @pev_indexAddr)) (aa (@pev_index) (aa @pev_extract @lenSV_str))) (aa (aa (@lenSV_sl) (aa @lenSV_own @ixSV_sl)) (aa (@ixSV_own) (aa @fieldSV_ev @fieldAddrSV_ev)))) (aa (aa (aa (@fieldAt_struct) (aa @gdOf_none @gdOf_some)) (aa (@wpR_nil) (aa @wpR_cons @wpRC_some))) (aa (aa (@wpQ_nil) (aa @wpQ_cons @wpQC_some)) (aa (@putK_ev) (aa @qK_ev @stepK_move)))))):=aa (aa (aa (aa (aa (@keep_nil) (aa @keep_cons @partsO_nil)) (aa (@partsO_cons) (aa @argsO_nil @argsO_cons))) (aa (aa (@buildSV_ev) (aa @fillSV_nil @fillSV_cons)) (aa (@pev_len) (aa @pev_min @pev_max)))) (aa (aa (aa (@pev_move) (aa @pev_assign @pev_pick)) (aa (@pev_build) (aa @pev_load @pev_nil))) (aa (aa (@pev_bin) (aa @pev_un @pev_conv)) (aa (@pev_slice) (aa @pev_slice_hi @pev_slice_lo))))) (aa (aa (aa (aa (@pev_fieldAddr) (aa @pev_field @pev_indexAddr)) (aa (@pev_index) (aa @pev_extract @lenSV_str))) (aa (aa (@lenSV_sl) (aa @lenSV_own @ixSV_sl)) (aa (@ixSV_own) (aa @fieldSV_ev @fieldAddrSV_ev)))) (aa (aa (aa (@fieldAt_struct) (aa @gdOf_none @gdOf_some)) (aa (@wpR_nil) (aa @wpR_cons @wpRC_some))) (aa (aa (@wpQ_nil) (aa @wpQ_cons @wpQC_some)) (aa (@putK_ev) (aa @qK_ev @stepK_move)))))
theorem sx1:type_of%(aa (aa (aa (aa (aa (@stepK_assign) (aa @stepK_pick @stepK_build)) (aa (@stepK_load) (aa @stepK_nil @stepK_bin))) (aa (aa (@stepK_un) (aa @stepK_conv @stepK_slice)) (aa (@stepK_fieldAddr) (aa @stepK_field @stepK_indexAddr)))) (aa (aa (aa (@stepK_index) (aa @stepK_extract @stepK_len)) (aa (@stepK_min) (aa @stepK_max @stepK_box))) (aa (aa (@storeK_ptr) (aa @storeK_v @storeK_ea)) (aa (@stepK_store) (aa @stepK_call @callC_ev))))) (aa (aa (aa (aa (@stepQ_move) (aa @stepQ_assign @stepQ_pick)) (aa (@stepQ_build) (aa @stepQ_load @stepQ_nil))) (aa (aa (@stepQ_bin) (aa @stepQ_un @stepQ_conv)) (aa (@stepQ_slice) (aa @stepQ_fieldAddr @stepQ_field)))) (aa (aa (aa (@stepQ_indexAddr) (aa @stepQ_index @stepQ_extract)) (aa (@stepQ_len) (aa @stepQ_min @stepQ_max))) (aa (aa (@stepQ_call) (aa @callQC_ev @condC_ev)) (aa (@wpC_skip) (aa @wpC_ret @wpC_exit)))))):=aa (aa (aa (aa (aa (@stepK_assign) (aa @stepK_pick @stepK_build)) (aa (@stepK_load) (aa @stepK_nil @stepK_bin))) (aa (aa (@stepK_un) (aa @stepK_conv @stepK_slice)) (aa (@stepK_fieldAddr) (aa @stepK_field @stepK_indexAddr)))) (aa (aa (aa (@stepK_index) (aa @stepK_extract @stepK_len)) (aa (@stepK_min) (aa @stepK_max @stepK_box))) (aa (aa (@storeK_ptr) (aa @storeK_v @storeK_ea)) (aa (@stepK_store) (aa @stepK_call @callC_ev))))) (aa (aa (aa (aa (@stepQ_move) (aa @stepQ_assign @stepQ_pick)) (aa (@stepQ_build) (aa @stepQ_load @stepQ_nil))) (aa (aa (@stepQ_bin) (aa @stepQ_un @stepQ_conv)) (aa (@stepQ_slice) (aa @stepQ_fieldAddr @stepQ_field)))) (aa (aa (aa (@stepQ_indexAddr) (aa @stepQ_index @stepQ_extract)) (aa (@stepQ_len) (aa @stepQ_min @stepQ_max))) (aa (aa (@stepQ_call) (aa @callQC_ev @condC_ev)) (aa (@wpC_skip) (aa @wpC_ret @wpC_exit)))))
theorem sx2:type_of%(aa (aa (aa (aa (aa (@endK_ev) (aa @goK_ev @wpC_region)) (aa (@wpC_draw) (aa @wpC_seq @seqQ_normal))) (aa (aa (@seqQ_ret) (aa @seqQ_exit @wpC_block)) (aa (@blkQ_normal) (aa @blkQ_ret @blkQ_exit)))) (aa (aa (aa (@wpC_cond) (aa @wpC_loop @rndQ_normal)) (aa (@rndQ_ret) (aa @rndQ_exit @RetK_ret))) (aa (aa (@RetK_normal) (aa @rsvs_nil @rsvs_cons)) (aa (@rsv1_tmp) (aa @rsv1_cell @keepC.eq_1))))) (aa (aa (aa (aa (@keepC.eq_2) (aa @o1c.eq_1 @o1c.eq_2)) (aa (@o2c.eq_1) (aa @o2c.eq_2 @o2c.eq_3))) (aa (aa (@o3c.eq_1) (aa @o3c.eq_2 @o3c.eq_3)) (aa (@o3c.eq_4) (aa @pickC.eq_1 @pickC.eq_2)))) (aa (aa (aa (@partC.eq_1) (aa @partC.eq_2 @partC.eq_3)) (aa (@argC.eq_1) (aa @argC.eq_2 @argC.eq_3))) (aa (aa (@buildC.eq_1) (aa @buildC.eq_2 @buildD.eq_1)) (aa (@buildD.eq_2) (aa @fillC.eq_1 @fillC.eq_2)))))):=aa (aa (aa (aa (aa (@endK_ev) (aa @goK_ev @wpC_region)) (aa (@wpC_draw) (aa @wpC_seq @seqQ_normal))) (aa (aa (@seqQ_ret) (aa @seqQ_exit @wpC_block)) (aa (@blkQ_normal) (aa @blkQ_ret @blkQ_exit)))) (aa (aa (aa (@wpC_cond) (aa @wpC_loop @rndQ_normal)) (aa (@rndQ_ret) (aa @rndQ_exit @RetK_ret))) (aa (aa (@RetK_normal) (aa @rsvs_nil @rsvs_cons)) (aa (@rsv1_tmp) (aa @rsv1_cell @keepC.eq_1))))) (aa (aa (aa (aa (@keepC.eq_2) (aa @o1c.eq_1 @o1c.eq_2)) (aa (@o2c.eq_1) (aa @o2c.eq_2 @o2c.eq_3))) (aa (aa (@o3c.eq_1) (aa @o3c.eq_2 @o3c.eq_3)) (aa (@o3c.eq_4) (aa @pickC.eq_1 @pickC.eq_2)))) (aa (aa (aa (@partC.eq_1) (aa @partC.eq_2 @partC.eq_3)) (aa (@argC.eq_1) (aa @argC.eq_2 @argC.eq_3))) (aa (aa (@buildC.eq_1) (aa @buildC.eq_2 @buildD.eq_1)) (aa (@buildD.eq_2) (aa @fillC.eq_1 @fillC.eq_2)))))
theorem sx3:type_of%(aa (aa (aa (aa (aa (@mmC.eq_1) (aa @mmC.eq_2 @mmC.eq_3)) (aa (@lenC.eq_1) (aa @lenC.eq_2 @lenC.eq_3))) (aa (aa (@ixC.eq_1) (aa @ixC.eq_2 @ixC.eq_3)) (aa (@fldC.eq_1) (aa @fldC.eq_2 @fldC.eq_3)))) (aa (aa (aa (@faC.eq_1) (aa @faC.eq_2 @faC.eq_3)) (aa (@faC.eq_4) (aa @gdC.eq_1 @gdC.eq_2))) (aa (aa (@gdD.eq_1) (aa @gdD.eq_2 @boxC.eq_1)) (aa (@boxC.eq_2) (aa @stC.eq_1 @stC.eq_2))))) (aa (aa (aa (aa (@stC.eq_3) (aa @stC.eq_4 @storeC.eq_1)) (aa (@storeC.eq_2) (aa @storeC.eq_3 @retC.eq_1))) (aa (aa (@retC.eq_2) (aa @rsC.eq_1 @rsC.eq_2)) (aa (@rsC.eq_3) (aa @rs1C.eq_1 @rs1C.eq_2)))) (aa (aa (aa (@rs1C.eq_3) (aa @rs2C.eq_1 @rs2C.eq_2)) (aa (@rs2C.eq_3) (aa @pickSV.eq_1 @pickSV.eq_2))) (aa (aa (@putAt.eq_1) (aa @putAt.eq_2 @cellsSV.eq_1)) (aa (@cellsSV.eq_2) (aa @opv.eq_1 @opv.eq_2)))))):=aa (aa (aa (aa (aa (@mmC.eq_1) (aa @mmC.eq_2 @mmC.eq_3)) (aa (@lenC.eq_1) (aa @lenC.eq_2 @lenC.eq_3))) (aa (aa (@ixC.eq_1) (aa @ixC.eq_2 @ixC.eq_3)) (aa (@fldC.eq_1) (aa @fldC.eq_2 @fldC.eq_3)))) (aa (aa (aa (@faC.eq_1) (aa @faC.eq_2 @faC.eq_3)) (aa (@faC.eq_4) (aa @gdC.eq_1 @gdC.eq_2))) (aa (aa (@gdD.eq_1) (aa @gdD.eq_2 @boxC.eq_1)) (aa (@boxC.eq_2) (aa @stC.eq_1 @stC.eq_2))))) (aa (aa (aa (aa (@stC.eq_3) (aa @stC.eq_4 @storeC.eq_1)) (aa (@storeC.eq_2) (aa @storeC.eq_3 @retC.eq_1))) (aa (aa (@retC.eq_2) (aa @rsC.eq_1 @rsC.eq_2)) (aa (@rsC.eq_3) (aa @rs1C.eq_1 @rs1C.eq_2)))) (aa (aa (aa (@rs1C.eq_3) (aa @rs2C.eq_1 @rs2C.eq_2)) (aa (@rs2C.eq_3) (aa @pickSV.eq_1 @pickSV.eq_2))) (aa (aa (@putAt.eq_1) (aa @putAt.eq_2 @cellsSV.eq_1)) (aa (@cellsSV.eq_2) (aa @opv.eq_1 @opv.eq_2)))))
theorem sx4:type_of%(aa (aa (aa (aa (aa (@opv.eq_3) (aa @opv.eq_4 @lk.eq_1)) (aa (@lk.eq_2) (aa @binSV.eq_1 (aa @binSV.eq_2 (aa @binSV.eq_3 (aa @ptrNil.eq_1 @ptrNil.eq_2)))))) (aa (aa (@bin.eq_1) (aa @bin.eq_2 @bin.eq_3)) (aa (@bin.eq_4) (aa @binI.eq_1 @binI.eq_2)))) (aa (aa (aa (@binI.eq_3) (aa @binI.eq_4 @binI.eq_5)) (aa (@binI.eq_6) (aa @binI.eq_7 @binI.eq_8))) (aa (aa (@binI.eq_9) (aa @binI.eq_10 @binI.eq_11)) (aa (@binI.eq_12) (aa @binI.eq_13 @binI.eq_14))))) (aa (aa (aa (aa (@binI.eq_15) (aa @binI.eq_16 @binI.eq_17)) (aa (@binS.eq_1) (aa @binS.eq_2 @binS.eq_3))) (aa (aa (@binS.eq_4) (aa @binS.eq_5 @binS.eq_6)) (aa (@binS.eq_7) (aa @binS.eq_8 @binS.eq_9)))) (aa (aa (aa (@binS.eq_10) (aa @binS.eq_11 @binS.eq_12)) (aa (@binS.eq_13) (aa @binS.eq_14 @binS.eq_15))) (aa (aa (@binS.eq_16) (aa @binS.eq_17 @binB.eq_1)) (aa (@binB.eq_2) (aa @binB.eq_3 @sameKind.eq_1)))))):=aa (aa (aa (aa (aa (@opv.eq_3) (aa @opv.eq_4 @lk.eq_1)) (aa (@lk.eq_2) (aa @binSV.eq_1 (aa @binSV.eq_2 (aa @binSV.eq_3 (aa @ptrNil.eq_1 @ptrNil.eq_2)))))) (aa (aa (@bin.eq_1) (aa @bin.eq_2 @bin.eq_3)) (aa (@bin.eq_4) (aa @binI.eq_1 @binI.eq_2)))) (aa (aa (aa (@binI.eq_3) (aa @binI.eq_4 @binI.eq_5)) (aa (@binI.eq_6) (aa @binI.eq_7 @binI.eq_8))) (aa (aa (@binI.eq_9) (aa @binI.eq_10 @binI.eq_11)) (aa (@binI.eq_12) (aa @binI.eq_13 @binI.eq_14))))) (aa (aa (aa (aa (@binI.eq_15) (aa @binI.eq_16 @binI.eq_17)) (aa (@binS.eq_1) (aa @binS.eq_2 @binS.eq_3))) (aa (aa (@binS.eq_4) (aa @binS.eq_5 @binS.eq_6)) (aa (@binS.eq_7) (aa @binS.eq_8 @binS.eq_9)))) (aa (aa (aa (@binS.eq_10) (aa @binS.eq_11 @binS.eq_12)) (aa (@binS.eq_13) (aa @binS.eq_14 @binS.eq_15))) (aa (aa (@binS.eq_16) (aa @binS.eq_17 @binB.eq_1)) (aa (@binB.eq_2) (aa @binB.eq_3 @sameKind.eq_1)))))
theorem sx5:type_of%(aa (aa (aa (aa (aa (@sameKind.eq_2) (aa @sameKind.eq_3 @sameKind.eq_4)) (aa (@sameKind.eq_5) (aa @sameKind.eq_6 @sameKind.eq_7))) (aa (aa (@sameKind.eq_8) (aa @sameKind.eq_9 @sameKind.eq_10)) (aa (@sameKind.eq_11) (aa @sameKind.eq_12 @sameKind.eq_13)))) (aa (aa (aa (@sameKind.eq_14) (aa @sameKind.eq_15 @sameKind.eq_16)) (aa (@sameKind.eq_17) (aa @unSV.eq_1 @unSV.eq_2))) (aa (aa (@unV.eq_1) (aa @unV.eq_2 @unV.eq_3)) (aa (@unV.eq_4) (aa @convSV.eq_1 @convSV.eq_2))))) (aa (aa (aa (aa (@convV.eq_1) (aa @convV.eq_2 @convV.eq_3)) (aa (@indexSV.eq_1) (aa @indexSV.eq_2 @sliceSV.eq_1))) (aa (aa (@sliceSV.eq_2) (aa @sliceSV.eq_3 @sliceStr.eq_1)) (aa (@sliceVal.eq_1) (aa @nilSV.eq_1 @nilSV.eq_2)))) (aa (aa (aa (@nilSV.eq_3) (aa @nilSV.eq_4 @nilSV.eq_5)) (aa (@extSV.eq_1) (aa @extSV.eq_2 @mnmx.eq_1))) (aa (aa (@mnmx.eq_2) (aa @mnmx.eq_3 @ld.eq_1)) (aa (@ld.eq_2) (aa @ld.eq_3 @ld.eq_4)))))):=aa (aa (aa (aa (aa (@sameKind.eq_2) (aa @sameKind.eq_3 @sameKind.eq_4)) (aa (@sameKind.eq_5) (aa @sameKind.eq_6 @sameKind.eq_7))) (aa (aa (@sameKind.eq_8) (aa @sameKind.eq_9 @sameKind.eq_10)) (aa (@sameKind.eq_11) (aa @sameKind.eq_12 @sameKind.eq_13)))) (aa (aa (aa (@sameKind.eq_14) (aa @sameKind.eq_15 @sameKind.eq_16)) (aa (@sameKind.eq_17) (aa @unSV.eq_1 @unSV.eq_2))) (aa (aa (@unV.eq_1) (aa @unV.eq_2 @unV.eq_3)) (aa (@unV.eq_4) (aa @convSV.eq_1 @convSV.eq_2))))) (aa (aa (aa (aa (@convV.eq_1) (aa @convV.eq_2 @convV.eq_3)) (aa (@indexSV.eq_1) (aa @indexSV.eq_2 @sliceSV.eq_1))) (aa (aa (@sliceSV.eq_2) (aa @sliceSV.eq_3 @sliceStr.eq_1)) (aa (@sliceVal.eq_1) (aa @nilSV.eq_1 @nilSV.eq_2)))) (aa (aa (aa (@nilSV.eq_3) (aa @nilSV.eq_4 @nilSV.eq_5)) (aa (@extSV.eq_1) (aa @extSV.eq_2 @mnmx.eq_1))) (aa (aa (@mnmx.eq_2) (aa @mnmx.eq_3 @ld.eq_1)) (aa (@ld.eq_2) (aa @ld.eq_3 @ld.eq_4)))))
theorem sx6:type_of%(aa (aa (aa (aa (aa (@ldK.eq_1) (aa @ldK.eq_2 @ldK.eq_3)) (aa (@ldBox.eq_1) (aa @ldBox.eq_2 @ldBox.eq_3))) (aa (aa (@ldRow.eq_1) (aa @ldRow.eq_2 @ldRow.eq_3)) (aa (@ldE.eq_1) (aa @ldE.eq_2 @ldE.eq_3)))) (aa (aa (aa (@ldP.eq_1) (aa @ldP.eq_2 @ldP.eq_3)) (aa (@lay.eq_1) (aa @lay.eq_2 @lay.eq_3))) (aa (aa (@lay.eq_4) (aa @lay.eq_5 @lay.eq_6)) (aa (@lay.eq_7) (aa @layN.eq_1 @layN.eq_2))))) (aa (aa (aa (aa (@getSV.eq_1) (aa @bad.eq_1 @boxK.eq_1)) (aa (@sigNoKey.eq_1) (aa @sigNoKey.eq_2 @hNoKey.eq_1))) (aa (aa (@hNoKey.eq_2) (aa @poNoKey.eq_1 @poNoKey.eq_2)) (aa (@SV.noKey.eq_1) (aa @SV.noKey.eq_2 @SV.noKey.eq_3)))) (aa (aa (aa (@SV.noKey.eq_4) (aa @SV.noKey.eq_5 @SV.noKey.eq_6)) (aa (@SV.noKey.eq_7) (aa @SV.jn.eq_1 @SV.jn.eq_2))) (aa (aa (@hget.eq_1) (aa @hget.eq_2 @hset.eq_1)) (aa (@hset.eq_2) (aa @stBox.eq_1 @ones.eq_1)))))):=aa (aa (aa (aa (aa (@ldK.eq_1) (aa @ldK.eq_2 @ldK.eq_3)) (aa (@ldBox.eq_1) (aa @ldBox.eq_2 @ldBox.eq_3))) (aa (aa (@ldRow.eq_1) (aa @ldRow.eq_2 @ldRow.eq_3)) (aa (@ldE.eq_1) (aa @ldE.eq_2 @ldE.eq_3)))) (aa (aa (aa (@ldP.eq_1) (aa @ldP.eq_2 @ldP.eq_3)) (aa (@lay.eq_1) (aa @lay.eq_2 @lay.eq_3))) (aa (aa (@lay.eq_4) (aa @lay.eq_5 @lay.eq_6)) (aa (@lay.eq_7) (aa @layN.eq_1 @layN.eq_2))))) (aa (aa (aa (aa (@getSV.eq_1) (aa @bad.eq_1 @boxK.eq_1)) (aa (@sigNoKey.eq_1) (aa @sigNoKey.eq_2 @hNoKey.eq_1))) (aa (aa (@hNoKey.eq_2) (aa @poNoKey.eq_1 @poNoKey.eq_2)) (aa (@SV.noKey.eq_1) (aa @SV.noKey.eq_2 @SV.noKey.eq_3)))) (aa (aa (aa (@SV.noKey.eq_4) (aa @SV.noKey.eq_5 @SV.noKey.eq_6)) (aa (@SV.noKey.eq_7) (aa @SV.jn.eq_1 @SV.jn.eq_2))) (aa (aa (@hget.eq_1) (aa @hget.eq_2 @hset.eq_1)) (aa (@hset.eq_2) (aa @stBox.eq_1 @ones.eq_1)))))
theorem sx7:type_of%(aa (aa (aa (aa (aa @ones.eq_2 @one1.eq_1) (aa (@one1.eq_2) (aa @one1.eq_3 @one1.eq_4))) (aa (aa @one1.eq_5 @one1.eq_6) (aa (@one1.eq_7) (aa @oneS.eq_1 @oneS.eq_2)))) (aa (aa (aa @oneS.eq_3 @oneV.eq_1) (aa (@oneV.eq_2) (aa @onesP.eq_1 @onesP.eq_2))) (aa (aa (@dOk.eq_1) (aa @params.eq_1 @params.eq_2)) (aa (@one?.eq_1) (aa @one?.eq_2 @SV.conc.eq_1))))) (aa (aa (aa (aa @SV.conc.eq_2 @SV.conc.eq_3) (aa (@SV.conc.eq_4) (aa @SV.conc.eq_5 @SV.conc.eq_6))) (aa (aa @SV.conc.eq_7 @SV.concs.eq_1) (aa (@SV.concs.eq_2) (aa @subS.eq_1 @subS.eq_2)))) (aa (aa (aa @subH.eq_1 @subH.eq_2) (aa (@cellsE.eq_1) (aa @cellsE.eq_2 @oksE.eq_1))) (aa (aa (@oksE.eq_2) (aa @cellsP.eq_1 @cellsP.eq_2)) (aa (@oksP.eq_1) (aa @oksP.eq_2 @bl_B)))))):=aa (aa (aa (aa (aa @ones.eq_2 @one1.eq_1) (aa (@one1.eq_2) (aa @one1.eq_3 @one1.eq_4))) (aa (aa @one1.eq_5 @one1.eq_6) (aa (@one1.eq_7) (aa @oneS.eq_1 @oneS.eq_2)))) (aa (aa (aa @oneS.eq_3 @oneV.eq_1) (aa (@oneV.eq_2) (aa @onesP.eq_1 @onesP.eq_2))) (aa (aa (@dOk.eq_1) (aa @params.eq_1 @params.eq_2)) (aa (@one?.eq_1) (aa @one?.eq_2 @SV.conc.eq_1))))) (aa (aa (aa (aa @SV.conc.eq_2 @SV.conc.eq_3) (aa (@SV.conc.eq_4) (aa @SV.conc.eq_5 @SV.conc.eq_6))) (aa (aa @SV.conc.eq_7 @SV.concs.eq_1) (aa (@SV.concs.eq_2) (aa @subS.eq_1 @subS.eq_2)))) (aa (aa (aa @subH.eq_1 @subH.eq_2) (aa (@cellsE.eq_1) (aa @cellsE.eq_2 @oksE.eq_1))) (aa (aa (@oksE.eq_2) (aa @cellsP.eq_1 @cellsP.eq_2)) (aa (@oksP.eq_1) (aa @oksP.eq_2 @bl_B)))))
def sdC(d:Nat)(D:List Nat)(j:Nat)(g:Bool)(s:SV)(σ:dp):Bool->Bool->dp|true,_=>sigDropA d D σ|false,true=>(j,g,s)::sigDropA d D σ|false,false=>sigDropA d (j::D) σ
theorem sigDropA_ev(d:Nat)(D:List Nat)(j:Nat)(g:Bool)(s:SV)(σ:dp):sigDropA d D ((j,g,s)::σ)=sdC d D j g s σ (memN j D) (s.noKey d):=by simp only[sigDropA];cases memN j D<;>cases s.noKey d<;>rfl
theorem sx8:type_of%(aa (aa (aa (aa (aa (aa @stepK_bs @stepK_mk) (aa @stepK_al @stepK_app)) (aa (aa @OpX_st @conc1_own) (aa @concB_own (aa @conc1_ptr @concB_ptr)))) (aa (aa (aa @conc1_tup @concB_tup) (aa @conc1_fn @concB_fn)) (aa (aa @conc1_ea @concB_ea) (aa @conc1_agg (aa @rowOf_own @rowOf_nil))))) (aa (aa (aa (aa @rowC_box @rowC_none) (aa @srcOf_own @srcOf_v)) (aa (aa @srcOf_str @appD_none) (aa @appD_some (aa @one_int @one_string)))) (aa (aa (aa @one_bool @one_slice) (aa @one_pointer @one_map)) (aa (aa @memN.eq_1 @memN.eq_2) (aa @sigDropA.eq_1 (aa (aa @sigDropA_ev (aa @sdC.eq_1 (aa @sdC.eq_2 @sdC.eq_3))) @sigDrop.eq_1)))))) (aa (aa (aa (aa (aa @hdel.eq_1 @hdel.eq_2) (aa @hdelk.eq_1 @hdelk.eq_2)) (aa (aa @hdelk?.eq_1 @hdelk?.eq_2) (aa @conc1.eq_1 (aa @conc1s.eq_1 @conc1s.eq_2)))) (aa (aa (aa @concB.eq_1 @concB.eq_2) (aa @concP.eq_1 @concP.eq_2)) (aa (aa @cell1.eq_1 @cells1.eq_1) (aa @cells1.eq_2 (aa @cellsV.eq_1 @cellsV.eq_2))))) (aa (aa (aa (aa @onesV.eq_1 @onesV.eq_2) (aa @rowP.eq_1 @rowP.eq_2)) (aa (aa @rowK.eq_1 @bsD.eq_1) (aa @bsD.eq_2 (aa @bsC.eq_1 @rowC.eq_1)))) (aa (aa (aa @srcC.eq_1 @appD.eq_1) (aa @appC.eq_1 (aa @mkC.eq_1 @alC.eq_1))) (aa (aa @stRowE.eq_1 @stRC.eq_1) (aa @stRB.eq_1 (aa @stRB.eq_2 @stRD.eq_1))))))):=(aa (aa (aa (aa (aa (aa @stepK_bs @stepK_mk) (aa @stepK_al @stepK_app)) (aa (aa @OpX_st @conc1_own) (aa @concB_own (aa @conc1_ptr @concB_ptr)))) (aa (aa (aa @conc1_tup @concB_tup) (aa @conc1_fn @concB_fn)) (aa (aa @conc1_ea @concB_ea) (aa @conc1_agg (aa @rowOf_own @rowOf_nil))))) (aa (aa (aa (aa @rowC_box @rowC_none) (aa @srcOf_own @srcOf_v)) (aa (aa @srcOf_str @appD_none) (aa @appD_some (aa @one_int @one_string)))) (aa (aa (aa @one_bool @one_slice) (aa @one_pointer @one_map)) (aa (aa @memN.eq_1 @memN.eq_2) (aa @sigDropA.eq_1 (aa (aa @sigDropA_ev (aa @sdC.eq_1 (aa @sdC.eq_2 @sdC.eq_3))) @sigDrop.eq_1)))))) (aa (aa (aa (aa (aa @hdel.eq_1 @hdel.eq_2) (aa @hdelk.eq_1 @hdelk.eq_2)) (aa (aa @hdelk?.eq_1 @hdelk?.eq_2) (aa @conc1.eq_1 (aa @conc1s.eq_1 @conc1s.eq_2)))) (aa (aa (aa @concB.eq_1 @concB.eq_2) (aa @concP.eq_1 @concP.eq_2)) (aa (aa @cell1.eq_1 @cells1.eq_1) (aa @cells1.eq_2 (aa @cellsV.eq_1 @cellsV.eq_2))))) (aa (aa (aa (aa @onesV.eq_1 @onesV.eq_2) (aa @rowP.eq_1 @rowP.eq_2)) (aa (aa @rowK.eq_1 @bsD.eq_1) (aa @bsD.eq_2 (aa @bsC.eq_1 @rowC.eq_1)))) (aa (aa (aa @srcC.eq_1 @appD.eq_1) (aa @appC.eq_1 (aa @mkC.eq_1 @alC.eq_1))) (aa (aa @stRowE.eq_1 @stRC.eq_1) (aa @stRB.eq_1 (aa @stRB.eq_2 @stRD.eq_1)))))))
theorem sx9:type_of%(aa (aa @bin_nil (aa @nilB.eq_1 @nilB.eq_2)) (aa @Shp.Qa.eq_1 (aa @isSl.eq_1 (aa @someV.eq_1 (aa @someV_none (aa @pickSV_f (aa @pickSV_t (aa @stRC.eq_2 (aa @gdC_false (aa (aa @unV_undef (aa @bin_ui @bin_iu)) (aa (aa @bin_us (aa @bin_su @bin_ub)) (aa @bin_bu (aa @bin_uu (aa @ext_undef (aa @pickC_undef (aa (aa @convH.eq_1 @convH.eq_2) (aa (aa @convRow.eq_1 @convRow_none) (aa @elShp.eq_1 (aa @u8s.eq_1 @u8s.eq_2))))))))))))))))))):=aa (aa @bin_nil (aa @nilB.eq_1 @nilB.eq_2)) (aa @Shp.Qa.eq_1 (aa @isSl.eq_1 (aa @someV.eq_1 (aa @someV_none (aa @pickSV_f (aa @pickSV_t (aa @stRC.eq_2 (aa @gdC_false (aa (aa @unV_undef (aa @bin_ui @bin_iu)) (aa (aa @bin_us (aa @bin_su @bin_ub)) (aa @bin_bu (aa @bin_uu (aa @ext_undef (aa @pickC_undef (aa (aa @convH.eq_1 @convH.eq_2) (aa (aa @convRow.eq_1 @convRow_none) (aa @elShp.eq_1 (aa @u8s.eq_1 @u8s.eq_2))))))))))))))))))
theorem sxo:type_of%(aa (aa (aa (aa @sx0 @sx1) (aa @sx2 @sx3)) (aa (aa @sx4 @sx5) (aa @sx6 @sx7))) @sx8):=aa (aa (aa (aa @sx0 @sx1) (aa @sx2 @sx3)) (aa (aa @sx4 @sx5) (aa @sx6 @sx7))) @sx8
theorem eqLs_nil:eqLs [] []=true:=rfl
theorem sxq:type_of%(aa (aa (aa @eqAgg.eq_1 (aa @eqAgg.eq_2 @eqLs.eq_1)) (aa @eqLs_nil (aa @okLs.eq_1 @okLs.eq_2))) (aa (aa @eqV.eq_1 (aa @eqV.eq_2 @eqV.eq_3)) (aa @kindP.eq_1 (aa @kindP.eq_2 @kindP.eq_3)))):=(aa (aa (aa @eqAgg.eq_1 (aa @eqAgg.eq_2 @eqLs.eq_1)) (aa @eqLs_nil (aa @okLs.eq_1 @okLs.eq_2))) (aa (aa @eqV.eq_1 (aa @eqV.eq_2 @eqV.eq_3)) (aa @kindP.eq_1 (aa @kindP.eq_2 @kindP.eq_3))))
section
variable{K:KP}{σ:dp}{H:HS}{M:Mem}
theorem lenC_tab(sz:Nat)(es:List (List SV)):lenC (some (.tab sz es))=(.v (.int .i64 es.length),True):=rfl
theorem ixC_tab(k sz:Nat)(i:Int)(a:Nat)(es:List (List SV)):ixC k sz i (some (.tab a es))=(.ptr k sz i.toNat 0,sz=a/\(0<=i/\i<es.length)):=rfl
theorem ldK_tab(sz i off:Nat)(L:Option (Nat×Bool))(a:Nat)(es:List (List SV)):ldK (some (.tab a es)) sz i off L=((ldTab es sz i off L).1,sz=a/\(ldTab es sz i off L).2):=rfl
theorem stC_tab(d:Option Nat)(L:Option (Nat×Bool))(k i off:Nat)(s:SV)(b:Prop)(a:Nat)(es:List (List SV)):stC K σ H M d L k i off s b (some (.tab a es))=b:=rfl
theorem rowC_tab(k a:Nat)(es:List (List SV)):rowC k (some (.tab a es))=none:=rfl
theorem srcC_tab(sz a:Nat)(es:List (List SV)):srcC sz (some (.tab a es))=none:=rfl
theorem stRC_tab(d:Option Nat)(L:Option (Nat×Bool))(k sz i off:Nat)(cs:List ay)(b:Prop)(a:Nat)(es:List (List SV)):stRC d L k sz i off cs b K σ H M (some (.tab a es))=b:=rfl
theorem poNoKey_mp(d:Nat)(es:List (ay×ay)):poNoKey d (.mp es)=true:=rfl
theorem poNoKey_tab(d sz:Nat)(es:List (List SV)):poNoKey d (.tab sz es)=noKeyss d es:=rfl
end
theorem sxt:type_of%(aa (aa (aa @lenC_tab @ixC_tab) (aa @ldK_tab @stC_tab)) (aa (aa (aa @rowC_tab @srcC_tab) (aa @stRC_tab @poNoKey_tab)) (aa (aa @noKeyss.eq_1 @noKeyss.eq_2) (aa (aa @ldTab.eq_1 @ldTab.eq_2) (aa @poNoKey_mp @convRow_tab))))):=aa (aa (aa @lenC_tab @ixC_tab) (aa @ldK_tab @stC_tab)) (aa (aa (aa @rowC_tab @srcC_tab) (aa @stRC_tab @poNoKey_tab)) (aa (aa @noKeyss.eq_1 @noKeyss.eq_2) (aa (aa @ldTab.eq_1 @ldTab.eq_2) (aa @poNoKey_mp @convRow_tab))))
theorem sx:type_of%(aa @sxo (aa @sx9 (aa @sxt @sxq))):=aa @sxo (aa @sx9 (aa @sxt @sxq))
theorem sb1:(∀p:Prop,(True/\p)=p)/\(∀p:Prop,(p/\True)=p)/\(∀p:Prop,(True->p)=p)/\(∀p:Prop,(p->True)=True)/\(∀p:Prop,(p->p)=True)/\(∀p:Prop,(False->p)=True)/\(∀p:Prop,(False/\p)=False)/\(∀p:Prop,(p/\False)=False)/\(∀p:Prop,(p/\p)=p)/\((true=true)=True)/\((false=false)=True)/\((true=false)=False)/\((false=true)=False)/\(∀b:Bool,(b==true)=b)/\(∀b:Bool,(b==false)=!b)/\(∀b:Bool,((!b)=true)=(b=false))/\(∀b:Bool,((!b)=false)=(b=true))/\(∀b:Bool,(true&&b)=b)/\(∀b:Bool,(b&&true)=b)/\(∀b:Bool,(false&&b)=false)/\(∀b:Bool,(b&&false)=false)/\(∀b:Bool,(true||b)=true)/\(∀b:Bool,(b||true)=true)/\(∀b:Bool,(false||b)=b)/\(∀b:Bool,(b||false)=b)/\((!true)=false)/\((!false)=true)/\(∀b:Bool,(!!b)=b):=by simp
theorem sb2:(∀b c:Bool,(bif b then c else false)=(b&&c))/\(∀b c:Bool,(bif b then true else c)=(b||c))/\(∀b c:Bool,(bif b then false else c)=(!b&&c))/\(∀b c:Bool,(bif b then c else true)=(!b||c))/\(∀b c:Bool,((b&&c)=true)=(b=true/\c=true))/\(∀b c:Bool,((b||c)=false)=(b=false/\c=false))/\(∀b c:Bool,((b||c)=true)=(b=true\/c=true))/\(∀b c:Bool,((b&&c)=false)=(b=true->c=false)):=by refine⟨?_,?_,?_,?_,?_,?_,?_,?_⟩<;>(intro b c;cases b<;>cases c<;>simp)
theorem sb3:(∀(p:Prop)[Decidable p],(aU p=true)=p)/\(∀(p:Prop)[Decidable p],(aU p=false)=¬p)/\(aU True=true)/\(aU False=false):=by simp
theorem sb4:(∀(α:Type)(x:α)(l:List α),(x::l)[0]?=some x)/\(∀(α:Type)(x:α)(l:List α)(n:Nat),(x::l)[n+1]?=l[n]?)/\(∀(α b:Type)(f:α->Option b)(x:α),(some x).bind f=f x)/\(∀(α:Type)(x:α)(l:List α),(x::l).length=l.length+1)/\(∀(α:Type),([]:List α).length=0)/\(∀(α b:Type)(f:α->b)(x:α)(l:List α),(x::l).map f=f x::l.map f)/\(∀(α b:Type)(f:α->b),([]:List α).map f=[])/\(∀(α:Type)(x:α)(l r:List α),(x::l)++r=x::(l++r))/\(∀(α:Type)(r:List α),[]++r=r)/\(∀(α:Type)(r:List α),r++[]=r)/\(∀(α:Type)(x y:α)(l:List α),(x::l).set 0 y=y::l)/\(∀(α:Type)(x y:α)(l:List α)(n:Nat),(x::l).set (n+1) y=x::l.set n y)/\(∀(α:Type)(x:α)(l:List α)(n:Nat),(x::l).take (n+1)=x::l.take n)/\(∀(α:Type)(l:List α),l.take 0=[])/\(∀(α:Type)(x:α)(l:List α)(n:Nat),(x::l).drop (n+1)=l.drop n)/\(∀(α:Type)(l:List α),l.drop 0=l)/\(∀(α:Type)(x y:α)(l:List α),(x::l).getD 0 y=x)/\(∀(α:Type)(x y:α)(l:List α)(n:Nat),(x::l).getD (n+1) y=l.getD n y)/\(∀n:Nat,0+n=n)/\(∀n:Nat,n+0=n):=by simp
theorem sb5:(∀(α:Type)(x:α),(x=x)=True)/\(∀(b:Prop),(¬¬b)=b)/\((¬True)=False)/\((¬False)=True)/\(∀p:Prop,(True\/p)=True)/\(∀p:Prop,(False\/p)=p)/\(∀p:Prop,(p\/False)=p)/\(∀(α B:Type)(x:α)(y:B),(x,y).1=x)/\(∀(α B:Type)(x:α)(y:B),(x,y).2=y)/\(∀p q:Prop,(¬(p\/q))=(¬p/\¬q))/\(∀α:Type,∀x y:α,(bif true then x else y)=x)/\(∀α:Type,∀x y:α,(bif false then x else y)=y)/\(∀a b:Int,(¬a<b)=(b<=a))/\(∀a b:Int,(¬a<=b)=(b<a)):=by refine⟨by simp,by simp,by simp,by simp,by simp,by simp,by simp,by simp,by simp,by simp,by simp,by simp,?_,?_⟩<;>(intros;simp)
end Go.X
namespace Go.X
open Go
theorem Qt{P:bZ}{t:bL}(h:(match lay (f_ P t)with|some (n,_)=>yO P t==n&&n !=0|none=>true)=true):D7 P t=True:=aK λn g e=>by rw[e]at h;simpa using h
abbrev zA(t:Nat)(s:Shp):=f_ ab t=s
theorem sh3:f_ ab 3=.int .i64:=by kernel_rfl
theorem WL:f_ ab 178=.struct [(0,1,false),(1,1,false),(2,1,false)] 3:=by kernel_rfl
theorem shs:((((((zA 2 (.int .i64)/\zA 3 (.int .i64))/\(zA 4 .bool/\(zA 5 (.int .u8)/\zA 6 (.int .u8))))/\((zA 7 (.struct [(0,1,false),(1,1,false),(2,1,false),(3,1,false)] 4)/\(zA 8 (.struct [(0,1,false),(1,1,false),(2,1,false),(3,1,false)] 4)/\zA 9 .str))/\(zA 10 .str/\(zA 11 .str/\zA 12 (.int .u64)))))/\(((zA 13 (.struct [(0,1,false),(1,1,false)] 2)/\(zA 14 (.struct [(0,1,false),(1,1,false)] 2)/\zA 18 (.struct [(0,1,false)] 1)))/\(zA 19 (.struct [(0,1,false)] 1)/\(zA 21 (.int .i32)/\zA 23 (.slice 36 1 false))))/\((zA 27 (.slice 181 4 true)/\(zA 28 (.slice 68 2 true)/\zA 29 (.struct [(0,1,false),(1,1,false)] 2)))/\(zA 30 (.struct [(0,1,false),(1,1,false)] 2)/\(zA 31 (.slice 185 2 true)/\zA 32 (.struct [(0,1,false),(1,1,false),(2,1,false),(3,1,false)] 4))))))/\((((zA 33 (.struct [(0,1,false),(1,1,false),(2,1,false),(3,1,false)] 4)/\zA 34 (.struct [(0,2,true),(2,4,true),(6,1,false),(7,1,false)] 8))/\(zA 35 (.struct [(0,2,true),(2,4,true),(6,1,false),(7,1,false)] 8)/\(zA 36 (.slice 9 1 false)/\zA 47 (.struct [(0,1,false)] 1))))/\((zA 48 (.struct [(0,1,false)] 1)/\(zA 50 (.slice 5 1 false)/\zA 51 (.struct [(0,1,false),(1,1,false)] 2)))/\(zA 52 (.struct [(0,1,false),(1,1,false)] 2)/\(zA 60 (.int .i64)/\zA 61 (.slice 3 1 false)))))/\(((zA 66 (.slice 178 3 true)/\(zA 67 (.struct [(0,1,false),(1,1,false)] 2)/\zA 68 (.struct [(0,1,false),(1,1,false)] 2)))/\(zA 75 (.struct [(0,2,true),(2,4,true),(6,1,false),(7,1,false)] 8)/\(zA 76 (.struct [(0,2,true),(2,4,true),(6,1,false),(7,1,false)] 8)/\zA 77 (.struct [(0,1,false)] 1))))/\((zA 78 (.struct [(0,1,false)] 1)/\(zA 81 (.struct [(0,1,false),(1,1,false)] 2)/\zA 82 (.struct [(0,1,false),(1,1,false)] 2)))/\(zA 95 (.struct [(0,1,false),(1,1,false),(2,1,false),(3,1,false),(4,1,false)] 5)/\(zA 96 (.struct [(0,1,false),(1,1,false),(2,1,false),(3,1,false),(4,1,false)] 5)/\zA 103 (.int .u64)))))))/\(((((zA 117 (.slice 4 1 false)/\zA 126 (.slice 167 3 true))/\(zA 134 (.struct [(0,1,false),(1,1,false)] 2)/\(zA 135 (.struct [(0,1,false),(1,1,false)] 2)/\zA 148 (.int .u64))))/\((zA 158 (.arr 4 1 4)/\(zA 166 (.struct [(0,1,false),(1,1,false),(2,1,false)] 3)/\zA 167 (.struct [(0,1,false),(1,1,false),(2,1,false)] 3)))/\(zA 177 (.struct [(0,1,false),(1,1,false),(2,1,false)] 3)/\(zA 178 (.struct [(0,1,false),(1,1,false),(2,1,false)] 3)/\zA 180 (.struct [(0,1,false),(1,1,false),(2,1,false),(3,1,false)] 4)))))/\(((zA 181 (.struct [(0,1,false),(1,1,false),(2,1,false),(3,1,false)] 4)/\(zA 184 (.struct [(0,1,false),(1,1,false)] 2)/\zA 185 (.struct [(0,1,false),(1,1,false)] 2)))/\(zA 189 (.int .u32)/\(zA 224 (.slice 28 1 false)/\zA 228 (.arr 3 1 3))))/\((zA 230 (.struct [(0,1,false),(1,1,false)] 2)/\(zA 231 (.struct [(0,1,false),(1,1,false)] 2)/\zA 236 (.int .i64)))/\(zA 273 (.int .u64)/\(zA 274 (.struct [(0,1,false),(1,1,false),(2,1,false)] 3)/\zA 275 (.struct [(0,1,false),(1,1,false),(2,1,false)] 3))))))/\((((zA 280 (.struct [(0,1,false),(1,1,false)] 2)/\zA 281 (.struct [(0,1,false),(1,1,false)] 2))/\(zA 286 (.struct [(0,1,false),(1,1,false),(2,1,false)] 3)/\(zA 287 (.struct [(0,1,false),(1,1,false),(2,1,false)] 3)/\zA 298 (.slice 297 1 false))))/\((zA 305 (.struct [(0,1,false)] 1)/\(zA 306 (.struct [(0,1,false)] 1)/\zA 309 (.int .i64)))/\(zA 320 (.struct [(0,1,false)] 1)/\(zA 321 (.struct [(0,1,false)] 1)/\zA 336 (.int .u64)))))/\(((zA 351 (.struct [(0,1,false),(1,1,false),(2,1,false),(3,1,false)] 4)/\(zA 352 (.struct [(0,1,false),(1,1,false),(2,1,false),(3,1,false)] 4)/\zA 354 (.struct [(0,0,true)] 0)))/\(zA 355 (.struct [(0,0,true)] 0)/\(zA 356 (.int .u8)/\zA 357 (.int .u8))))/\((zA 359 (.int .i32)/\(zA 360 (.int .i32)/\zA 361 (.struct [(0,1,false),(1,1,false),(2,1,false),(3,1,false),(4,1,false),(5,1,false),(6,1,false),(7,1,false),(8,1,false),(9,1,false),(10,1,false)] 11)))/\(zA 362 (.struct [(0,1,false),(1,1,false),(2,1,false),(3,1,false),(4,1,false),(5,1,false),(6,1,false),(7,1,false),(8,1,false),(9,1,false),(10,1,false)] 11)/\(zA 363 (.struct [(0,1,false),(1,1,false)] 2)/\zA 364 (.struct [(0,1,false),(1,1,false)] 2)))))))):=by
 repeat' apply aa
 all_goals
  try unfold zA
  kernel_rfl
abbrev zB(t:Nat)(s:List ay):=BL ab t=some s
theorem zts:(((((zB 7 [.int .i64 0,.int .i64 0,.bool false,.int .u8 0]/\(zB 8 [.int .i64 0,.int .i64 0,.bool false,.int .u8 0]/\zB 13 [.string ⟨#[]⟩,.int .u64 0]))/\((zB 14 [.string ⟨#[]⟩,.int .u64 0]/\zB 18 [.pointer none])/\(zB 19 [.pointer none]/\zB 29 [.slice none 0 0,.slice none 0 0])))/\((zB 30 [.slice none 0 0,.slice none 0 0]/\(zB 32 [.int .i64 0,.slice none 0 0,.int .i64 0,.int .i64 0]/\zB 33 [.int .i64 0,.slice none 0 0,.int .i64 0,.int .i64 0]))/\((zB 34 [.slice none 0 0,.slice none 0 0,.int .i64 0,.slice none 0 0,.int .i64 0,.int .i64 0,.string ⟨#[]⟩,.int .i64 0]/\zB 35 [.slice none 0 0,.slice none 0 0,.int .i64 0,.slice none 0 0,.int .i64 0,.int .i64 0,.string ⟨#[]⟩,.int .i64 0])/\(zB 47 [.pointer none]/\zB 48 [.pointer none]))))/\(((zB 51 [.pointer none,.slice none 0 0]/\(zB 52 [.pointer none,.slice none 0 0]/\zB 67 [.string ⟨#[]⟩,.slice none 0 0]))/\((zB 68 [.string ⟨#[]⟩,.slice none 0 0]/\zB 75 [.slice none 0 0,.slice none 0 0,.int .i64 0,.slice none 0 0,.int .i64 0,.int .i64 0,.string ⟨#[]⟩,.int .i64 0])/\(zB 76 [.slice none 0 0,.slice none 0 0,.int .i64 0,.slice none 0 0,.int .i64 0,.int .i64 0,.string ⟨#[]⟩,.int .i64 0]/\zB 77 [.int .i64 0])))/\((zB 78 [.int .i64 0]/\(zB 81 [.slice none 0 0,.int .i64 0]/\zB 82 [.slice none 0 0,.int .i64 0]))/\((zB 95 [.int .i64 0,.string ⟨#[]⟩,.string ⟨#[]⟩,.int .i64 0,.string ⟨#[]⟩]/\zB 96 [.int .i64 0,.string ⟨#[]⟩,.string ⟨#[]⟩,.int .i64 0,.string ⟨#[]⟩])/\(zB 134 [.int .i64 0,.string ⟨#[]⟩]/\zB 135 [.int .i64 0,.string ⟨#[]⟩])))))/\((((zB 166 [.int .i64 0,.int .i64 0,.int .i64 0]/\(zB 167 [.int .i64 0,.int .i64 0,.int .i64 0]/\zB 177 [.bool false,.int .i64 0,.int .i64 0]))/\((zB 178 [.bool false,.int .i64 0,.int .i64 0]/\zB 180 [.int .i64 0,.int .i64 0,.string ⟨#[]⟩,.int .i64 0])/\(zB 181 [.int .i64 0,.int .i64 0,.string ⟨#[]⟩,.int .i64 0]/\zB 184 [.int .i64 0,.int .i64 0])))/\((zB 185 [.int .i64 0,.int .i64 0]/\(zB 230 [.int .u8 0,.int .u8 0]/\zB 231 [.int .u8 0,.int .u8 0]))/\((zB 274 [.pointer none,.pointer none,.int .u64 0]/\zB 275 [.pointer none,.pointer none,.int .u64 0])/\(zB 280 [.nilFunc,.nilFunc]/\zB 281 [.nilFunc,.nilFunc]))))/\(((zB 286 [.string ⟨#[]⟩,.string ⟨#[]⟩,.nilIface]/\(zB 287 [.string ⟨#[]⟩,.string ⟨#[]⟩,.nilIface]/\zB 305 [.pointer none]))/\((zB 306 [.pointer none]/\zB 320 [.string ⟨#[]⟩])/\(zB 321 [.string ⟨#[]⟩]/\zB 351 [.pointer none,.pointer none,.pointer none,.string ⟨#[]⟩])))/\((zB 352 [.pointer none,.pointer none,.pointer none,.string ⟨#[]⟩]/\(zB 354 []/\zB 355 []))/\((zB 361 [.int .u64 0,.int .u64 0,.int .u32 0,.int .u8 0,.int .u8 0,.int .u8 0,.int .u8 0,.nilFunc,.pointer none,.int .i32 0,.int .i32 0]/\zB 362 [.int .u64 0,.int .u64 0,.int .u32 0,.int .u8 0,.int .u8 0,.int .u8 0,.int .u8 0,.nilFunc,.pointer none,.int .i32 0,.int .i32 0])/\(zB 363 [.string ⟨#[]⟩,.int .u8 0]/\zB 364 [.string ⟨#[]⟩,.int .u8 0])))))):=by
 repeat' apply aa
 all_goals
  try unfold zB
  kernel_rfl
abbrev zF(t:Nat):=D7 ab t=True
theorem so3:D7 ab 3=True:=Qt (by kernel_rfl)
theorem WM:D7 ab 178=True:=Qt (by kernel_rfl)
theorem sos:((((((zF 2/\zF 3)/\(zF 4/\(zF 5/\zF 6)))/\((zF 7/\(zF 8/\zF 9))/\(zF 10/\(zF 11/\zF 12))))/\(((zF 13/\zF 14)/\(zF 18/\(zF 19/\zF 21)))/\((zF 23/\(zF 27/\zF 28))/\(zF 29/\(zF 30/\zF 31)))))/\((((zF 32/\zF 33)/\(zF 34/\(zF 35/\zF 36)))/\((zF 47/\(zF 48/\zF 50))/\(zF 51/\(zF 52/\zF 60))))/\(((zF 61/\(zF 66/\zF 67))/\(zF 68/\(zF 75/\zF 76)))/\((zF 77/\(zF 78/\zF 81))/\(zF 82/\(zF 95/\zF 96))))))/\(((((zF 103/\zF 117)/\(zF 126/\(zF 134/\zF 135)))/\((zF 148/\(zF 158/\zF 166))/\(zF 167/\(zF 177/\zF 178))))/\(((zF 180/\zF 181)/\(zF 184/\(zF 185/\zF 189)))/\((zF 224/\(zF 228/\zF 230))/\(zF 231/\(zF 236/\zF 273)))))/\((((zF 274/\zF 275)/\(zF 280/\(zF 281/\zF 286)))/\((zF 287/\(zF 298/\zF 305))/\(zF 306/\(zF 309/\zF 320))))/\(((zF 321/\(zF 336/\zF 351))/\(zF 352/\(zF 356/\zF 357)))/\((zF 359/\(zF 360/\zF 361))/\(zF 362/\(zF 363/\zF 364))))))):=by
 repeat' apply aa
 all_goals
  try unfold zF
  exact Qt (by kernel_rfl)
abbrev zD(t:Nat)(s:Nat×Nat×Nat×List ay):=D8 ab t=some s
theorem HQ:D8 ab 27=some (181,4,40,[.int .i64 0,.int .i64 0,.string ⟨([]:List UInt8).toArray⟩,.int .i64 0]):=by kernel_rfl
theorem HR:D8 ab 28=some (68,2,40,[.string ⟨([]:List UInt8).toArray⟩,.slice none 0 0]):=by kernel_rfl
theorem OA:D8 ab 31=some (185,2,16,[.int .i64 0,.int .i64 0]):=by kernel_rfl
theorem ZO:D8 ab 298=some (297,1,8,[.pointer none]):=by kernel_rfl
theorem sls:(((zD 23 (36,1,24,[.slice none 0 0])/\(zD 27 (181,4,40,[.int .i64 0,.int .i64 0,.string ⟨#[]⟩,.int .i64 0])/\zD 28 (68,2,40,[.string ⟨#[]⟩,.slice none 0 0])))/\(zD 31 (185,2,16,[.int .i64 0,.int .i64 0])/\(zD 36 (9,1,16,[.string ⟨#[]⟩])/\zD 50 (5,1,1,[.int .u8 0]))))/\((zD 61 (3,1,8,[.int .i64 0])/\(zD 66 (178,3,24,[.bool false,.int .i64 0,.int .i64 0])/\zD 117 (4,1,1,[.bool false])))/\(zD 126 (167,3,24,[.int .i64 0,.int .i64 0,.int .i64 0])/\(zD 224 (28,1,24,[.slice none 0 0])/\zD 298 (297,1,8,[.pointer none]))))):=by
 repeat' apply aa
 all_goals
  try unfold zD
  kernel_rfl
abbrev zC(t:Nat)(s:List ay):=XA ab t=some s
theorem zss:((((((zC 2 [.int .i64 0]/\zC 3 [.int .i64 0])/\(zC 4 [.bool false]/\(zC 5 [.int .u8 0]/\zC 6 [.int .u8 0])))/\((zC 7 [.int .i64 0,.int .i64 0,.bool false,.int .u8 0]/\zC 8 [.int .i64 0,.int .i64 0,.bool false,.int .u8 0])/\(zC 9 [.string ⟨#[]⟩]/\(zC 10 [.string ⟨#[]⟩]/\zC 11 [.string ⟨#[]⟩]))))/\(((zC 12 [.int .u64 0]/\zC 13 [.string ⟨#[]⟩,.int .u64 0])/\(zC 14 [.string ⟨#[]⟩,.int .u64 0]/\(zC 18 [.pointer none]/\zC 19 [.pointer none])))/\((zC 21 [.int .i32 0]/\(zC 23 [.slice none 0 0]/\zC 27 [.slice none 0 0]))/\(zC 28 [.slice none 0 0]/\(zC 29 [.slice none 0 0,.slice none 0 0]/\zC 30 [.slice none 0 0,.slice none 0 0])))))/\((((zC 31 [.slice none 0 0]/\zC 32 [.int .i64 0,.slice none 0 0,.int .i64 0,.int .i64 0])/\(zC 33 [.int .i64 0,.slice none 0 0,.int .i64 0,.int .i64 0]/\(zC 34 [.slice none 0 0,.slice none 0 0,.int .i64 0,.slice none 0 0,.int .i64 0,.int .i64 0,.string ⟨#[]⟩,.int .i64 0]/\zC 35 [.slice none 0 0,.slice none 0 0,.int .i64 0,.slice none 0 0,.int .i64 0,.int .i64 0,.string ⟨#[]⟩,.int .i64 0])))/\((zC 36 [.slice none 0 0]/\(zC 47 [.pointer none]/\zC 48 [.pointer none]))/\(zC 50 [.slice none 0 0]/\(zC 51 [.pointer none,.slice none 0 0]/\XA ab 52=none))))/\(((zC 60 [.int .i64 0]/\zC 61 [.slice none 0 0])/\(zC 66 [.slice none 0 0]/\(zC 67 [.string ⟨#[]⟩,.slice none 0 0]/\zC 68 [.string ⟨#[]⟩,.slice none 0 0])))/\((zC 75 [.slice none 0 0,.slice none 0 0,.int .i64 0,.slice none 0 0,.int .i64 0,.int .i64 0,.string ⟨#[]⟩,.int .i64 0]/\(zC 76 [.slice none 0 0,.slice none 0 0,.int .i64 0,.slice none 0 0,.int .i64 0,.int .i64 0,.string ⟨#[]⟩,.int .i64 0]/\zC 77 [.int .i64 0]))/\(zC 78 [.int .i64 0]/\(zC 81 [.slice none 0 0,.int .i64 0]/\zC 82 [.slice none 0 0,.int .i64 0]))))))/\(((((zC 95 [.int .i64 0,.string ⟨#[]⟩,.string ⟨#[]⟩,.int .i64 0,.string ⟨#[]⟩]/\zC 96 [.int .i64 0,.string ⟨#[]⟩,.string ⟨#[]⟩,.int .i64 0,.string ⟨#[]⟩])/\(zC 103 [.int .u64 0]/\(zC 117 [.slice none 0 0]/\zC 126 [.slice none 0 0])))/\((zC 134 [.int .i64 0,.string ⟨#[]⟩]/\zC 135 [.int .i64 0,.string ⟨#[]⟩])/\(zC 148 [.int .u64 0]/\(zC 158 [.int .i64 0,.int .i64 0,.int .i64 0,.int .i64 0]/\zC 166 [.int .i64 0,.int .i64 0,.int .i64 0]))))/\(((zC 167 [.int .i64 0,.int .i64 0,.int .i64 0]/\zC 177 [.bool false,.int .i64 0,.int .i64 0])/\(zC 178 [.bool false,.int .i64 0,.int .i64 0]/\(zC 180 [.int .i64 0,.int .i64 0,.string ⟨#[]⟩,.int .i64 0]/\zC 181 [.int .i64 0,.int .i64 0,.string ⟨#[]⟩,.int .i64 0])))/\((zC 184 [.int .i64 0,.int .i64 0]/\(zC 185 [.int .i64 0,.int .i64 0]/\zC 189 [.int .u32 0]))/\(zC 224 [.slice none 0 0]/\(zC 228 [.string ⟨#[]⟩,.string ⟨#[]⟩,.string ⟨#[]⟩]/\zC 230 [.int .u8 0,.int .u8 0])))))/\((((zC 231 [.int .u8 0,.int .u8 0]/\zC 236 [.int .i64 0])/\(zC 273 [.int .u64 0]/\(zC 274 [.pointer none,.pointer none,.int .u64 0]/\zC 275 [.pointer none,.pointer none,.int .u64 0])))/\((zC 298 [.slice none 0 0]/\(zC 305 [.pointer none]/\zC 306 [.pointer none]))/\(zC 309 [.int .i64 0]/\(zC 320 [.string ⟨#[]⟩]/\zC 321 [.string ⟨#[]⟩]))))/\(((zC 336 [.int .u64 0]/\zC 351 [.pointer none,.pointer none,.pointer none,.string ⟨#[]⟩])/\(zC 352 [.pointer none,.pointer none,.pointer none,.string ⟨#[]⟩]/\(zC 354 []/\zC 355 [])))/\((zC 356 [.int .u8 0]/\(zC 357 [.int .u8 0]/\zC 359 [.int .i32 0]))/\(zC 360 [.int .i32 0]/\(zC 363 [.string ⟨#[]⟩,.int .u8 0]/\zC 364 [.string ⟨#[]⟩,.int .u8 0]))))))):=by
 repeat' apply aa
 all_goals
  try unfold zC
  kernel_rfl
abbrev zE(t:Nat)(s:List Shp):=Zo ab t=some s
theorem eqs:((zE 78 [.int .i64]/\(zE 96 [.int .i64,.str,.str,.int .i64,.str]/\zE 135 [.int .i64,.str]))/\((zE 167 [.int .i64,.int .i64,.int .i64]/\zE 178 [.bool,.int .i64,.int .i64])/\(zE 181 [.int .i64,.int .i64,.str,.int .i64]/\zE 185 [.int .i64,.int .i64]))):=by
 repeat' apply aa
 all_goals
  try unfold zE
  kernel_rfl
end Go.X
namespace Go.X
open Go Go.RowKit
def RowM(M:Mem)(v:ay)(sz:Nat)(es:List (List ay)):Prop:=(isSl v=true/\eB v=es.length/\eB v<=gh v/\gh v<=dB)/\(es≠[]->someV v=true)/\∀i e,es[i]?=some e->(e.length=sz/\∀j c,e[j]?=some c->mS M v (i*sz+j)=some c/\c.oneCell'=true)
theorem Qu{M N:Mem}(h:M.le N){v:ay}{j:Nat}{c:ay}(a:mS M v j=some c):mS N v j=some c:=by cases v with
                                                                                         |slice b n k=>cases b with|some b=>exact BJ h a|none=>simp[mS]at a
                                                                                         |_=>simp[mS]at a
theorem RowM.le{M N:Mem}{v:ay}{sz:Nat}{es:List (List ay)}(h:RowM M v sz es)(a:M.le N):RowM N v sz es:=⟨h.1,h.2.1,λi e b=>⟨(h.2.2 i e b).1,λj c d=>⟨Qu a ((h.2.2 i e b).2 j c d).1,((h.2.2 i e b).2 j c d).2⟩⟩⟩
theorem bY(M:Mem)(sz:Nat):RowM M (.slice none 0 0) sz []:=⟨⟨rfl,rfl,bc _,bJ _⟩,λh=>(h rfl).elim,λi e h=>by simp at h⟩
section
variable{M:Mem}{v:ay}{sz:Nat}{es:List (List ay)}
theorem RowM.gC(h:RowM M v sz es):eB v=es.length:=h.1.2.1
theorem RowM.eQ(h:RowM M v sz es):(es.length:Int)<=9223372036854775807:=by have a:=h.1.2.2.1;have b:=h.1.2.2.2;rw[h.gC]at a;simp only[dB]at b;omega
theorem RowM.sl(h:RowM M v sz es):isSl v=true:=h.1.1
theorem RowM.fG(h:RowM M v sz es){i:Nat}{e:List ay}(c:es[i]?=some e){off:Nat}(g:off<sz):xj M v sz i off=e.getD off dN/\yU M v sz i off/\(xj M v sz i off).oneCell'=true:=by
 obtain⟨j,d⟩:=h.2.2 i e c;have b:e[off]?=some (e[off]'(by omega)):=aP _;obtain⟨a,f⟩:=d off _ b;refine⟨?_,?_,?_⟩;·simp only[xj,a,dn,kJ,b]
 ·simp only[yU,a,nj]
 ·simp only[xj,a,dn,f]
theorem RowM.UH{α:Type}{enc:α->List ay}{l:List α}{c:ay}{x:α}{i:Nat}(h:RowM M v 1 (l.map enc))(a:l[i]?=some x)(b:enc x=[c]):xj M v 1 i 0=c/\yU M v 1 i 0:=by have :=h.fG (i:=i) (e:=[c]) (by rw[aN,a,cJ,b]) (off:=0) (by omega);exact⟨this.1,this.2.1⟩
theorem RowM.ix(h:RowM M v sz es){i:Int}(b:0<=i)(a:i<es.length):FC v i:=by refine⟨⟨b,by rw[h.gC];exact a⟩,h.2.1 λe=>?_⟩;subst e;simp at a;omega
theorem RowM.FL(h:RowM M v sz es)(f:0<sz):tK M v sz=es/\KH M v sz:=by
 have d:∀i,i<eB v->∃e,es[i]?=some e:=λi a=>⟨_,aP (by rw[<-h.gC];exact a)⟩;refine⟨?_,⟨⟨h.sl,f⟩,λi a j c=>?_⟩⟩
 ·apply gA;intro i;simp only[tK,aN];by_cases a:i<eB v
  ·obtain⟨e,b⟩:=d i a;rw[A4 a,b];simp only[cJ,aO];apply gA;intro j;simp only[aN];have g:=(h.2.2 i e b).1;by_cases c:j<sz;·rw[A4 c];simp only[cJ];rw[(h.fG b c).1,aP (by omega),kJ,aP (by omega)];rfl
   ·rw[dm (by simp;omega),dm (by omega)];rfl
  ·rw[dm (by simp;omega),dm (by rw[<-h.gC];omega)];rfl
 ·obtain⟨e,b⟩:=d i a;exact(h.fG b c).2
theorem RowM.XO(h:RowM M v sz es){lo hi:Nat}(z:lo<=hi)(A:hi<=es.length):RowM M (lC v sz lo hi) sz ((es.drop lo).take (hi-lo)):=by
 obtain⟨⟨o,p,q,b⟩,r,s⟩:=h;cases v with
  |slice a n c=>
   simp only[eB,gh]at p q b;refine⟨⟨rfl,?_,?_,?_⟩,λd=>?_,λi e f=>?_⟩;·simp only[lC,eB,a6,aT];omega
   ·simp only[lC,eB,gh];omega
   ·simp only[lC,gh];omega
   ·have g:es≠[]:=by rintro rfl;simp at d
    have :=r g;cases a with|none=>simp[someV]at this|some a=>simp only[lC,cJ];split<;>rfl
   ·have k:i<hi-lo:=by have :=(aI.1 f).1;simp only[a6]at this;omega
    rw[i_,aF k,fx]at f;obtain⟨t,u⟩:=s (lo+i) e f;refine⟨t,λj x w=>?_⟩;obtain⟨l,y⟩:=u j x w;refine⟨?_,y⟩;cases a with
     |none=>simp[mS]at l
     |some a=>
      have m:¬c=lo:=by omega
      simp only[lC,ai m,cJ,mS]at l⊢;rw[<-l,Addr.add_add];congr 2;rw[jH];omega
  |_=>simp[isSl]at o
end
/-!### Publishing -/
mutual
def SV.xN(k:Nat)(v:ay):SV->SV|.v x=>.v x|.own j=>if j=k then .v v else .own j|.ptr j a b c=>.ptr j a b c|.ea x a b c=>.ea x a b c|.agg l=>.agg (SV.nK k v l)|.tup l=>.tup (SV.nK k v l)|.fn f l=>.fn f (SV.nK k v l)
def SV.nK(k:Nat)(v:ay):List SV->List SV|[]=>[]|s::l=>SV.xN k v s::SV.nK k v l
end
mutual
theorem B3{ν:Nat->ay}{k:Nat}:∀s:SV,(s.xN k (ν k)).cL ν=s.cL ν
 |.v _=>rfl
 |.own j=>by
  simp only[SV.xN];split;·rename_i e;subst e;rfl
  ·rfl
 |.ptr _ _ _ _=>rfl
 |.ea _ _ _ _=>rfl
 |.agg l=>by simp only[SV.xN,SV.cL,fW l]
 |.tup l=>by simp only[SV.xN,SV.cL,fW l]
 |.fn f l=>by simp only[SV.xN,SV.cL,fW l]
theorem fW{ν:Nat->ay}{k:Nat}:∀l:List SV,aS ν (SV.nK k (ν k) l)=aS ν l|[]=>rfl|s::l=>by simp only[SV.nK,aS,B3 s,fW l]
end
def sigPub(k:Nat)(v:ay):dp->dp|[]=>[]|(j,g,s)::σ=>(j,g,s.xN k v)::sigPub k v σ
def pubss(k:Nat)(v:ay):List (List SV)->List (List SV)|[]=>[]|e::r=>SV.nK k v e::pubss k v r
theorem wH{ν:Nat->ay}{k:Nat}:∀es:List (List SV),(pubss k (ν k) es).map (aS ν)=es.map (aS ν)|[]=>rfl|e::r=>by simp only[pubss,ca,fW,wH r]
def poPub(k:Nat)(v:ay):PO->PO|.box a t=>.box (SV.nK k v a) t|.row sz es=>.row sz es|.tab sz es=>.tab sz (pubss k v es)|.mp es=>.mp es
def hpub(k:Nat)(v:ay):HS->HS|[]=>[]|(j,p)::H=>if j=k then hpub k v H else(j,poPub k v p)::hpub k v H
theorem Qv{k:Nat}{v:ay}:∀{σ:dp}{j:Nat}{g:Bool}{s:SV},lk (sigPub k v σ) j=some (g,s)->∃a,s=a.xN k v/\lk σ j=some (g,a)
 |[],j,g,s,h=>by simp[sigPub,lk]at h
 |(i,b,a)::σ,j,g,s,h=>by
  simp only[sigPub,lk]at h;simp only[lk];split at h;·rename_i e;simp only[aO,cD]at h;obtain⟨rfl,rfl⟩:=h;exact⟨a,rfl,by rw[aF e]⟩
  ·rename_i e;rw[ai e];exact Qv h
theorem wI(ν:Nat->ay)(k:Nat)(v:ay):∀H:HS,fp ν (hpub k v H)=fp ν (hdelk k H)
 |[]=>rfl
 |(j,p)::H=>by
  have a:=wI ν k v H;simp only[hpub,hdelk];split;·exact a
  ·simp only[fp,bK]at a⊢;rw[a]
theorem xO{k:Nat}{v:ay}:∀{H:HS}{q:Nat×PO},q∈hpub k v H->∃p,(q.1,p)∈H/\q.2=poPub k v p
 |[],q,h=>by simp[hpub]at h
 |(j,p)::H,q,h=>by
  simp only[hpub]at h;split at h;·obtain⟨a,b,c⟩:=xO h;exact⟨a,bm _ b,c⟩
  ·rcases aV.1 h with rfl|h;·exact⟨p,bn,rfl⟩
   ·obtain⟨a,b,c⟩:=xO h;exact⟨a,bm _ b,c⟩
theorem uE{sz:Nat}{sp:List ay}:∀{es:List (List ay)}{i:Nat}{e:List ay}{j:Nat},(∀e∈es,e.length=sz)->es[i]?=some e->j<sz->(es.flatten++sp)[i*sz+j]?=e[j]?|[],i,e,j,_,h,_=>by simp at h|b::es,0,e,j,a,h,c=>by simp only[dS,aO]at h;subst h;have :=a b bn;simp only[o7,b7,jF,bN];rw[cW (by omega)]|b::es,i+1,e,j,a,h,c=>by have d:=a b bn;simp only[Ae]at h;have f:=uE (sp:=sp) (λe g=>a e (bm _ g)) h c;simp only[jF,bN];rw[nF (by rw[d,jH];omega),<-f];congr 1;rw[d,jH];omega
section
variable{E:Env}{σ:dp}{H:HS}{M:Mem}{a:xp}{w:bQ}{ν:Nat->ay}{K:KP}{o:db}
theorem lL{k sz:Nat}{es:List (List ay)}(d:Heap E ν H M w)(x:hget H k=some (.row sz es)):∃N,M.le N/\RowM N (ν k) sz es/\Heap E ν (hpub k (ν k) H) N w:=by
 obtain⟨C,F⟩:=d.holds _ (bP x);have f:∀q∈hpub k (ν k) H,q.2.jJ ν w (ν q.1):=by intro q G;obtain⟨p,I,J⟩:=xO G;have :=d.holds _ I;rw[J];cases p with|box R t=>obtain⟨⟨b,T,e,h⟩,K⟩:=this;exact⟨⟨b,T,e,by rw[fW];exact h⟩,K⟩|row sz es=>exact this|tab sz es=>simp only[poPub];rw[sL]at this⊢;rw[wH];exact this|mp es=>exact this
 have g:(fp ν (hpub k (ν k) H)).Sublist (fp ν H):=by rw[wI];exact(fq k H).filterMap _
 rcases F with⟨l,rfl⟩|⟨b,L,T,D,l,O,P,S,y⟩;·simp only at l;refine⟨M,cg M,by rw[l];exact bY M sz,f,d.nodup.sublist g,λb y=>d.apart b (g.subset y),d.mem,d.below,d.le0,d.fresh,d.one⟩
 ·simp only at l;have n:ee (ν k)=some b:=by rw[l];rfl
  obtain⟨z,A⟩:=d.apart b (bH.2 ⟨(k,_),bP x,n⟩);let N:Mem:=λc=>if c=b then some (.cells (es.flatten++D).toArray T (0,0))else M c;have r:N b=some (.cells (es.flatten++D).toArray T (0,0)):=by simp[N]
  have s:M.le N:=λc o a=>by simp only[N];rw[ai (λe=>by rw[e,z]at a;cases a)];exact a
  refine⟨N,s,?_,f,d.nodup.sublist g,λc a=>?_,λc o a=>?_,d.below,d.le0.dC s,λc a=>?_,d.one⟩
  ·rw[l];refine⟨⟨rfl,rfl,O,P⟩,λ_=>rfl,λi e v=>?_⟩;have m:=C e (aL v);refine⟨m.1,λj c a=>?_⟩;have Q:j<sz:=by rw[<-m.1];exact(aI.1 a).1
   refine⟨?_,m.2 c (aL a)⟩;have u:(⟨b,0,none⟩:qz).add (i*sz+j)=⟨b,i*sz+j,none⟩:=by unfold Ac;split<;>simp_all
   simp only[mS,jT,u,r];simp only[nk,bp,cA,dH];rw[uE (λe v=>(C e v).1) v Q,a]
  ·have B:c≠b:=by rintro rfl;rw[wI]at a;exact kz d x n 0 _ (fq k H) (jo k H) a
   simp only[N,ai B];exact d.apart c (g.subset a)
  ·simp only[N]at a;split at a;·rename_i e;simp only[aO]at a;subst a e;exact y
   ·exact d.mem c o a
  ·simp only[N]at a;split at a;·rename_i e;subst e;exact .inr A
   ·exact d.fresh c a
theorem mX{N:Nat}{k:Nat}(b:Slots N ν σ a):Slots N ν (sigPub k (ν k) σ) a:=⟨b.1,b.2.1,λj g s h=>by obtain⟨c,rfl,d⟩:=Qv h;rw[B3];exact b.2.2 j g c d⟩
theorem iZ{f d k sz:Nat}{l:List SV}{es:List (List ay)}(b:hget H k=some (.row sz es))(h:∀v N,M.le N->RowM N v sz es->CallK E f (SV.nK k v l) d K (sigPub k v σ) (hpub k v H) N):CallK E f l d K σ H M:=by intro ν a w c e;obtain⟨N,g,i,j⟩:=lL e b;have :=h _ N g i ν a w (mX c) j;rw[fW]at this;exact this
theorem A9{k sz:Nat}{es:List (List ay)}(b:hget H k=some (.row sz es))(h:∀v N,M.le N->RowM N v sz es->OpK E o K (sigPub k v σ) (hpub k v H) N):OpK E o K σ H M:=by rintro a w⟨ν,c,d⟩;obtain⟨N,e,f,g⟩:=lL d b;exact h _ N e f a w ⟨ν,mX c,g⟩
theorem OB{live:List Nat}{b:lp}{Q:QP}{k sz:Nat}{es:List (List ay)}(c:hget H k=some (.row sz es))(h:∀v N,M.le N->RowM N v sz es->LoopK E live b Q (sigPub k v σ) (hpub k v H) N):LoopK E live b Q σ H M:=by rintro a w⟨ν,d,e⟩;obtain⟨N,f,g,i⟩:=lL e c;exact h _ N f g a w ⟨ν,mX d,i⟩
theorem EH{id:Nat}{ops:Array db}{k sz:Nat}{es:List (List ay)}(b:hget H k=some (.row sz es))(h:∀v N,M.le N->RowM N v sz es->DrawK E id ops K (sigPub k v σ) (hpub k v H) N):DrawK E id ops K σ H M:=by rintro a w⟨ν,c,d⟩;obtain⟨N,e,f,g⟩:=lL d b;exact h _ N e f a w ⟨ν,mX c,g⟩
theorem rV(h:stepK E o true K σ H M):OpK E o K σ H M:=by rintro a w⟨ν,b,c⟩;have :=lK (Nx:=λd u=>∃t G N,Rep E t G N d u/\K t G N) (Qx:=λ_ _ _=>False) (λσ H M a w e f=>⟨σ,H,M,e,f⟩) b c h;simpa using this
theorem dP{f d k sz:Nat}{l:List SV}{s:SV}{es:List (List ay)}(m:hget H k=some (.row sz es))(n:aU (d<E.N)=true)(b:s.conc=true)(o:∀v,SV.concs (SV.nK k v l)=true)(h:∀v L,M.le L->RowM L v sz es->Meets E.P f (SV.nK k v l) L (λc _ _=>c=s))(p:K ((d,true,s)::σ) H M):CallK E f l d K σ H M:=by intro ν a w q i;obtain⟨L,r,t,u⟩:=lL i m;have j:=h _ L r t;refine .inl ⟨j.1,?_⟩;rw[<-fW (k:=k),cl (ν:=vu) (ν':=ν) _ (o _)];refine(j.2 w u.mem).mono ?_;rintro e W⟨c,G,x,ν',rfl,g,rfl⟩;refine⟨_,rfl,_,_,_,⟨ν,?_,i.mE g.below⟩,p⟩;exact q.ml (aW n) (by rw[fz (ν:=ν) (ν':=ν') c b];rfl)
theorem OC{f d k sz n:Nat}{l:List SV}{es:List (List ay)}(x:hget H k=some (.row sz es))(S:aU (d<E.N)=true)(y:∀v,SV.concs (SV.nK k v l)=true)(z:n<=es.length)(h:∀v L,M.le L->RowM L v sz es->Meets E.P f (SV.nK k v l) L (λF _ _=>F=.v (lC v sz 0 n)))(B:hNoKey d (hdelk k (hdel d H))=true)(U:K ((d,true,.own (8*d))::sigDrop d σ) ((8*d,.row sz (es.take n))::hdelk k (hdel d H)) M):CallK E f l d K σ H M:=by
 intro ν a w V G;obtain⟨L,W,I,X⟩:=lL G x;have J:=h _ L W I;refine .inl ⟨J.1,?_⟩;rw[<-fW (k:=k),cl (ν:=vu) (ν':=ν) _ (y _)];refine(J.2 w X.mem).mono ?_;rintro e w'⟨F,H',Y,ν',rfl,C,rfl⟩;have p:=G.mE C.below;obtain⟨O,Q⟩:=p.holds _ (bP x);have D:SV.cL ν' (.v (lC (ν k) sz 0 n))=lC (ν k) sz 0 n:=rfl;let c:Nat->ay:=λj=>if j/8=d then lC (ν k) sz 0 n else ν j;have q:∀j,j/8≠d->c j=ν j:=λj A=>by simp[c,A]
 have g:c (8*d)=lC (ν k) sz 0 n:=by simp[c,show(8*d)/8=d by omega]
 have o:(hdelk k (hdel d H)).Sublist H:=(fq k _).trans (fR d H);have r:(lC (ν k) sz 0 n).oneCell'=true:=by have :=I.sl;revert this;cases ν k<;>simp only[isSl,reduceCtorEq,cZ,bp];intro _;rfl
 refine⟨_,rfl,_,_,_,⟨c,(V.wF q).ml (aW S) (by rw[dM];simp only[SV.cL,g]),?_⟩,U⟩;refine(p.gB o).HK B q (λj=>?_) ?_ (λb m=>?_)
 ·by_cases A:j/8=d;·simp only[c,A,cR];exact r
  ·simp only[c,A,cA];exact p.one j
 ·rw[g];refine⟨λe s=>O e (cq s),?_⟩;rcases Q with⟨i,rfl⟩|⟨b,t,T,R,i,g3,Z,g5,g6⟩;·simp only at i;left;rw[i];simp only[bM,Nat.le_zero_eq]at z;subst z;exact⟨rfl,rfl⟩
  ·simp only at i;right;rw[i];refine⟨b,t,T,(es.drop n).flatten++R,?_,?_,Z,?_,?_⟩
   ·simp only[lC,o7,iS,a6,cT z];split;·rfl
    ·rfl
   ·rw[a6];omega
   ·have :∀l:List (List ay),(∀e∈l,e.length=sz)->l.flatten.length=l.length*sz:=by intro l;induction l with|nil=>intro _;simp|cons e l ih=>intro y;simp only[jF,aG,aM,y e bn,ih (λe s=>y e (bm _ s))];rw[jH];omega
    rw[aG,this _ (λe s=>(O e (cG s)).1),g5,aT,a6,cT z,<-jH];congr 1;omega
   ·rw[g6];congr 3;conv=>lhs;rw[<-iT n es]
    rw[j4,bN]
 ·rw[g]at m;have u:ee (ν k)=some b:=by
   rcases Q with⟨i,rfl⟩|⟨b',t,T,R,i,_⟩;·simp only at i;rw[i]at m;simp only[lC,uo]at m;split at m<;>cases m
   ·simp only at i;rw[i]at m⊢;simp only[lC,o7,cJ]at m;split at m<;>exact m
  obtain⟨h4,h5⟩:=p.apart b (bH.2 ⟨(k,_),bP x,u⟩);exact⟨kz p x u d _ o (jo k _),h4,h5⟩
def IsRow(H:HS)(M:Mem)(s:SV)(sz:Nat)(es:List (List ay)):Prop:=match s with|.v v=>RowM M v sz es|.own k=>hget H k=some (.row sz es)|_=>False
def RowR(T:SV->SV)(sz:Nat)(es:List (List ay)):RP:=λr H M=>∃s,r=T s/\IsRow H M s sz es
def OwnR(T:SV->SV)(sz:Nat)(es:List (List ay)):RP:=λr H _=>∃k,r=T (.own k)/\hget H k=some (.row sz es)
def Ctx(T:SV->SV):Prop:=∀s a ν u,s.cL ν=a.cL u->(T s).cL ν=(T a).cL u
theorem gS{f d sz:Nat}{l:List SV}{T:SV->SV}{es:List (List ay)}(j:Ctx T)(q:SV.concs l=true)(m:aU (d<E.N)=true)(h:Meets E.P f l M (RowR T sz es))(n:∀v L,M.le L->RowM L v sz es->K ((d,true,T (.v v))::σ) H L):CallK E f l d K σ H M:=by intro ν a w o c;refine .inl ⟨h.1,?_⟩;rw[cl (ν:=vu) (ν':=ν) l q];refine(h.2 w c.mem).mono ?_;rintro e u⟨s,G,L,ν',rfl,b,r,rfl,g⟩;cases r with|v x=>exact⟨_,rfl,_,_,_,⟨ν,o.ml (aW m) (by rw[dM];exact j _ _ _ _ rfl),c.D_ b⟩,n x L b.le0 g⟩|own k=>obtain⟨i,y,t,p⟩:=lL b g;exact⟨_,rfl,_,_,_,⟨ν,o.ml (aW m) (by rw[dM];exact j _ (.v (ν' k)) _ _ rfl),c.D_ p⟩,n (ν' k) i p.le0 t⟩|_=>exact g.elim
theorem dE{f d sz:Nat}{l:List SV}{T:SV->SV}{es:List (List ay)}(u:Ctx T)(v:SV.concs l=true)(x:aU (d<E.N)=true)(h:Meets E.P f l M (OwnR T sz es))(y:hNoKey d (hdel d H)=true)(z:∀L,M.le L->K ((d,true,T (.own (8*d)))::sigDrop d σ) ((8*d,.row sz es)::hdel d H) L):CallK E f l d K σ H M:=by
 intro ν a w A m;refine .inl ⟨h.1,?_⟩;rw[cl (ν:=vu) (ν':=ν) l v];refine(h.2 w m.mem).mono ?_;rintro e W⟨s,G,L,ν',rfl,g,k,rfl,q⟩;let c:Nat->ay:=λj=>if j/8=d then ν' k else ν j;have n:∀j,j/8≠d->c j=ν j:=λj o=>by simp[c,o]
 have i:c (8*d)=ν' k:=by simp[c,show(8*d)/8=d by omega]
 refine⟨_,rfl,_,_,_,⟨c,(A.wF n).ml (aW x) (by rw[dM];exact u _ _ _ _ (by simp only[SV.cL,i])),?_⟩,z L g.le0⟩;refine((m.D_ g).gB (fR d H)).HK y n (λj=>?_) ?_ (λb r=>?_)
 ·by_cases o:j/8=d;·simp only[c,o,cR];exact g.one k
  ·simp only[c,o,cA];exact m.one j
 ·rw[i];exact g.holds _ (bP q)
 ·rw[i]at r;have p:b∈fp ν' G:=bH.2 ⟨(k,_),bP q,r⟩;obtain⟨B,t⟩:=g.apart b p;refine⟨λC=>?_,B,b6 m.below.size t⟩;have :=m.qL (((fR d H).filterMap _).subset C);simp only at t;omega
def WN(sz:Nat)(a b:List (List ay)):RP:=λr H M=>∃v s,r=.tup [.v v,s]/\RowM M v sz a/\IsRow H M s sz b
theorem B4{f d sz:Nat}{l:List SV}{c g:List (List ay)}(u:SV.concs l=true)(o:aU (d<E.N)=true)(h:Meets E.P f l M (WN sz c g))(p:∀v q L,M.le L->RowM L v sz c->RowM L q sz g->K ((d,true,.tup [.v v,.v q])::σ) H L):CallK E f l d K σ H M:=by intro ν a w r j;refine .inl ⟨h.1,?_⟩;rw[cl (ν:=vu) (ν':=ν) l u];refine(h.2 w j.mem).mono ?_;rintro e W⟨s,G,L,ν',rfl,b,v,y,rfl,i,m⟩;cases y with|v x=>exact⟨_,rfl,_,_,_,⟨ν,r.ml (aW o) rfl,j.D_ b⟩,p v x L b.le0 i m⟩|own k=>obtain⟨n,z,A,t⟩:=lL b m;exact⟨_,rfl,_,_,_,⟨ν,r.ml (aW o) rfl,j.D_ t⟩,p v (ν' k) n t.le0 (i.le z) A⟩|_=>exact m.elim
theorem KN{j d sz:Nat}(l:lk σ j=some (true,.v (.slice none 0 0)))(r:j<E.N)(t:hNoKey d (hdel d H)=true)(u:Rep E σ H M a w):Rep E ((j,true,.own (8*d))::sigDrop d σ) ((8*d,.row sz [])::hdel d H) M a w:=by
 obtain⟨ν,o,p⟩:=u;let c:Nat->ay:=λj=>if j/8=d then .slice none 0 0 else ν j;have m:∀j,j/8≠d->c j=ν j:=λj l=>by simp[c,l]
 have f:c (8*d)=.slice none 0 0:=by simp[c,show(8*d)/8=d by omega]
 have i:=o.wF m;refine⟨c,⟨i.1,i.2.1,λk g s n=>?_⟩,(p.gB (fR d H)).HK t m (λj=>?_) ?_ (λb q=>by rw[f]at q;simp[ee]at q)⟩
 ·simp only[lk]at n;split at n;·rename_i e;subst e;simp only[aO,cD]at n;obtain⟨rfl,rfl⟩:=n;have :=o.2.2 k true _ l;rw[this];simp only[dM,SV.cL,f]
  ·exact i.2.2 k g s n
 ·by_cases l:j/8=d;·simp[c,l,iR]
  ·simp only[c,l,cA];exact p.one j
 ·rw[f];exact⟨λe x=>by simp at x,.inl ⟨rfl,rfl⟩⟩
theorem eI{live:List Nat}{b:lp}{Q:QP}(j d sz:Nat)(e:lk σ j=some (true,.v (.slice none 0 0)))(c:aU (j<E.N)=true)(f:hNoKey d (hdel d H)=true)(h:LoopK E live b Q ((j,true,.own (8*d))::sigDrop d σ) ((8*d,.row sz [])::hdel d H) M):LoopK E live b Q σ H M:=λa w g=>h a w (KN e (aW c) f g)
theorem i6{S:dp×HS×Mem}(j d k sz:Nat)(es:List (List ay))(n:lk σ j=some (true,.own k))(v:aU (j<E.N)=true)(r:hget H k=some (.row sz es))(x:hNoKey d (hdelk k (hdel d H))=true)(h:Ent E ((j,true,.own (8*d))::sigDrop d σ) ((8*d,.row sz es)::hdelk k (hdel d H)) M S):Ent E σ H M S:=by
 rintro a w⟨ν,u,o⟩;refine h a w ?_;let c:Nat->ay:=λj=>if j/8=d then ν k else ν j;have p:∀j,j/8≠d->c j=ν j:=λj n=>by simp[c,n]
 have f:c (8*d)=ν k:=by simp[c,show(8*d)/8=d by omega]
 have m:=u.wF p;have l:(hdelk k (hdel d H)).Sublist H:=(fq k _).trans (fR d H);refine⟨c,⟨m.1,m.2.1,λi g s q=>?_⟩,(o.gB l).HK x p (λj=>?_) ?_ (λb t=>?_)⟩
 ·simp only[lk]at q;split at q;·rename_i e;subst e;simp only[aO,cD]at q;obtain⟨rfl,rfl⟩:=q;rw[u.2.2 i true _ n];simp only[dM,SV.cL,f]
  ·exact m.2.2 i g s q
 ·by_cases n:j/8=d;·simp only[c,n,cR];exact o.one k
  ·simp only[c,n,cA];exact o.one j
 ·rw[f];exact o.holds _ (bP r)
 ·rw[f]at t;obtain⟨y,z⟩:=o.apart b (bH.2 ⟨(k,_),bP r,t⟩);exact⟨kz o r t d _ l (jo k _),y,z⟩
end
def AN(n:Int):List ay:=[.int .i64 n]
def B5(s:List UInt8):List ay:=[.string ⟨s.toArray⟩]
def oM(b:Bool):List ay:=[.bool b]
theorem eh:Ctx (λs=>s):=λ_ _ _ _ h=>h
theorem ku(x:ay):Ctx (λs=>.tup [s,.v x]):=λs a ν u h=>by simp only[SV.cL,aS,h]
theorem im:type_of%(aa (aa (aa @SV.xN.eq_1 @SV.xN.eq_2) (aa @SV.xN.eq_3 @SV.xN.eq_4)) (aa (aa @SV.xN.eq_5 @SV.xN.eq_6) (aa @SV.xN.eq_7 @SV.nK.eq_1))):=aa (aa (aa @SV.xN.eq_1 @SV.xN.eq_2) (aa @SV.xN.eq_3 @SV.xN.eq_4)) (aa (aa @SV.xN.eq_5 @SV.xN.eq_6) (aa @SV.xN.eq_7 @SV.nK.eq_1))
theorem iq:type_of%(aa (aa (aa @SV.nK.eq_2 @sigPub.eq_1) (aa @sigPub.eq_2 @poPub.eq_1)) (aa (aa @poPub.eq_2 @hpub.eq_1) (aa @hpub.eq_2 @IsRow.eq_1))):=aa (aa (aa @SV.nK.eq_2 @sigPub.eq_1) (aa @sigPub.eq_2 @poPub.eq_1)) (aa (aa @poPub.eq_2 @hpub.eq_1) (aa @hpub.eq_2 @IsRow.eq_1))
theorem poPub_mp(k:Nat)(v:ay)(es:List (ay×ay)):poPub k v (.mp es)=.mp es:=rfl
theorem poPub_tab(k:Nat)(v:ay)(sz:Nat)(es:List (List SV)):poPub k v (.tab sz es)=.tab sz (pubss k v es):=rfl
theorem ir:type_of%(aa @IsRow.eq_2 (aa (aa (@RowR.eq_1) @OwnR.eq_1) (aa @poPub_tab (aa @pubss.eq_1 (aa @poPub_mp @pubss.eq_2))))):=aa @IsRow.eq_2 (aa (aa (@RowR.eq_1) @OwnR.eq_1) (aa @poPub_tab (aa @pubss.eq_1 (aa @poPub_mp @pubss.eq_2))))
end Go.X
namespace Go.X
open Go Go.RowKit
theorem OD{P:bZ}{f:kH}{args:List SV}{W:bQ}{v:ay}(h:Meets P f args (λb=>W.heap[b]?) (λr _ _=>r=.v v)):Calls P f (aS vu args).toArray W λe w'=>e=.returned v/\um W.heap.size W w':=by refine(h.2 W λ_ _ e=>e).mono λe w'⟨s,G,N,V,a,c,d⟩=>?_;subst d;exact⟨a,c.below⟩
end Go.X
namespace Go.X
open Go Go.RowKit Go.ChangeShapes Go.WideShapes
def ZP{H:Type}(P:bZ)(t:bL)(d:DataW H):Prop:=∀n∈d.weights P t,n<=reachBytes
structure Rd(P:bZ)(W:bQ)(t:bL)(w:Nat){α:Type}(E:α->List ay)(ok:α->Prop):Prop where
 size:P.cellsOf t=w
 len:∀a,(E a).length=w
 one:∀a,ok a->∀u∈E a,u.oneCell'=true
 rd:∀{H:Type}{enc:bL×ay->H}{spare:Nat->Bool}{held:Bool}{n:Nat}{cs:List ay}{y:DataW H×List MemPlace},DataW.trod enc P W 0 spare held n t cs=some y->ZP P t y.1->∃a,cs=E a/\ok a
structure RdF(P:bZ)(W:bQ)(fs:List Field)(off w:Nat){α:Type}(E:α->List ay)(ok:α->Prop):Prop where
 len:∀a,(E a).length=w
 one:∀a,ok a->∀u∈E a,u.oneCell'=true
 rd:∀{H:Type}{enc:bL×ay->H}{spare:Nat->Bool}{held:Bool}{n:Nat}{cs:List ay},cs.length=off+w->(∀f∈fs,∃y,DataW.trod enc P W 0 spare held n f.type ((cs.drop f.offset).take (P.cellsOf f.type))=some y/\ZP P f.type y.1)->∃a,cs.drop off=E a/\ok a
section
variable{P:bZ}{W:bQ}{t e w off w1 w2:Nat}{α β:Type}{E:α->List ay}{ok:α->Prop}{E2:β->List ay}{ok2:β->Prop}
end
end Go.X
namespace Go.Proofs.YthafjlokddpjfaaGreatDoor.Clo
open Go
theorem MH:laidOutB ab=true:=by kernel_rfl
end Go.Proofs.YthafjlokddpjfaaGreatDoor.Clo
namespace Go.X
open Go Go.RowKit
section
variable{P:bZ}{ops:Array db}{md:BC}{C:bQ->Prop}
def HT(P:bZ)(md:BC)(ops:Array db)(C:bQ->Prop)(n:Nat)(L:Array Bool->xp->Prop):Nat->Array Bool->xp->Prop|0,b,a=>L b a|f+1,b,a=>el md ops b≠[]/\∀i∈el md ops b,i<n/\qOp P ops C i (HT P md ops C n L f (b.setIfInBounds i true)) a
theorem EI{n g:Nat}{L:Array Bool->xp->Prop}{Q:Exit->xp->bQ->Prop}(e:∀b a w,C w->L b a->wpAny P md ops Q g b a w):∀(f:Nat)(b:Array Bool)(a:xp)(w:bQ),C w->HT P md ops C n L f b a->wpAny P md ops Q (f+g) b a w|0,b,a,w,c,h=>by rw[b7];exact e _ _ _ c h|f+1,b,a,w,c,h=>by rw[show f+1+g=(f+g)+1 by omega];exact⟨λj=>absurd j h.1,λi k=>wpOp_of_qOp c (λl u d m=>EI e f _ l u d m) (h.2 i k).2⟩
theorem HU{n i:Nat}{z:db}{v:ay}{L:Array Bool->xp->Prop}(hi:ops[i]?=some z)(r:∀(j:Nat)(o:db)cs b,ops[j]?=some o->o.op≠.select cs b)(N:mi md ops n=true)(O:lA md ops n=true)(Q:n<ops.size)(A:i<n)(u:∀c a,L c a->∀j∈el md ops c,n<=j):∀(f:Nat)(c:Array Bool)(a:xp),HeadInv md ops n c->(∀j w,ops[j]?=some w->j≠i->c.getD j true=false->(∀e∈w.after,ue md e=true->e.on≠i)->z.apart ops w=true)->i∈el md ops c->YieldsIn P ops C z v a->HT P md ops C n L f (c.setIfInBounds i true) (a.put z.dst v)->HT P md ops C n L (f+1) c a:=by
 intro f;induction f with
  |zero=>
   intro c a m _ s G K;have g:=(mem_ready.1 s).1;refine⟨λh=>(by rw[h]at s;cases s),λj x=>?_⟩;have p:j<n:=by
    rcases bR j n with h|h;·exact h
    ·exact absurd x (tail_waits N O Q m _ i rfl A g j h)
   refine⟨p,?_⟩;by_cases d:j=i;·subst d;exact G.qOp hi K
   ·have :=u _ _ K j (L9 x d);omega
  |succ f S=>
   intro c a m l s G K;have g:=(mem_ready.1 s).1;refine⟨λh=>(by rw[h]at s;cases s),λj x=>?_⟩;have p:j<n:=by
    rcases bR j n with h|h;·exact h
    ·exact absurd x (tail_waits N O Q m _ i rfl A g j h)
   refine⟨p,?_⟩;by_cases d:j=i;·subst d;exact G.qOp hi K
   ·have H:=(K.2 j (L9 x d)).2;obtain⟨t,w,y,B⟩:=mem_ready.1 x;have D:∀e∈w.after,ue md e=true->e.on≠i:=λe T U I=>by have H:=B e T U;rw[I,getD_both g]at H;cases H
    have V:=qOp_put y (l j w y d t D) (λcs b=>r i z cs b hi) (λcs b=>r j w cs b y) G H;have q:∀k E,ops[k]?=some E->k≠i->(c.setIfInBounds j true).getD k true=false->(∀e∈E.after,ue md e=true->e.on≠i)->z.apart ops E=true:=λk E W J g M=>by
     refine l k E W J ?_ M;by_cases F:j=k;·subst F;exact t
     ·rw[getD_set_ne true F]at g;exact g
    refine qOp_mono (λX R=>S (c.setIfInBounds j true) X (m.set x p) q (L9 s (wB d)) R.1 ?_) V;rw[Array.setIfInBounds_comm _ _ d];exact R.2
theorem EJ{n g:Nat}{r:xp->Prop}(d:iG ops=true)(u:mi md ops n=true)(w:lA md ops n=true)(x:n<ops.size):∀(l:List db)(k:Nat)(b:Array Bool)(a:xp),(∀j,j<l.length->l[j]?=ops[k+j]?)->k+l.length=n->HeadInv md ops n b->Ex md ops g l.length k b=true->wpQuiet P ops C r l a->HT P md ops C n (λc y=>BD md ops g n c=true/\r y) l.length b a
 |[],k,b,a,_,m,_,p,h=>by
  have :k=n:=by simpa using m
  subst this;exact⟨by simpa[Ex]using p,h⟩
 |o::l,k,b,a,z,m,e,p,h=>by
  have q:ops[k]?=some o:=by simpa using(z 0 (by simp)).symm
  simp only[aM,Ex,ba]at p;obtain⟨⟨A,B⟩,s⟩:=p;have f:k<n:=by simp only[aM]at m;omega
  have i:k∈el md ops b:=by simpa using A
  have t:qOp P ops C k (wpQuiet P ops C r l) a:=by unfold qOp;simp only[q];exact h
  obtain⟨v,D,E⟩:=yieldsIn_of_qOp q t;exact HU q (Region.noSelect_spec d) u w x f (λc y F=>seqB_ready F.1) l.length b a e (Region.free_spec q B) i D (EJ d u w x l (k+1) _ _ (λj G=>by have :=z (j+1) (by simp;omega);simpa[pd,Nat.add_comm 1 j]using this) (by simp only[aM]at m;omega) (e.set i f) s E)
theorem uF{id:Nat}{Q:Exit->xp->bQ->Prop}{a:xp}{w:bQ}(n:Nat)(u:P.follows .mixedOrders=true)(o:DK .any ops n=true)(v:C {w with drawn:=w.drawn+1})(h:wpQuiet P ops C (λk=>∀w',C w'->wpList P ops Q (ops.toList.drop n) k w') (ops.toList.take n) a):(Code.region id ops true).wp P Q a w:=by
 simp only[DK,ba,br]at o;obtain⟨⟨⟨⟨d,p⟩,x⟩,y⟩,e⟩:=o;have z:n<ops.toList.length:=by simpa using p
 have b:(ops.toList.take n).length=n:=by rw[a6];omega
 have f:(ops.toList.drop n).length=ops.size-n:=by simp
 have i:HeadInv .any ops n (nV ops.size false):=⟨by simp,λj B _ q=>(by rw[sG]at q;cases q),λt _ A=>getD_in (by simpa using A) (sG _ _)⟩;have K:=EJ (md:=.any) (C:=C) (g:=ops.size-n) d x y p (ops.toList.take n) 0 _ a (λj r=>by
  have l:j<n:=by rw[b]at r;exact r
  rw[i_,aF l,b7,cu]) (by simpa using b) i (by rw[b];exact e) h;refine wp_region_any u ?_;have :=EI (C:=C) (Q:=Q) (g:=ops.size-n) (λc k w' m s=>by have :=wpAny_of_seq (md:=.any) (Q':=Q) (ops.toList.drop n) n c k w' (λj=>by rw[fx,cu]) (by rw[f];exact s.1) (s.2 w' m);rwa[f]at this) _ _ _ _ v K;rw[b,show n+(ops.size-n)=ops.size by omega]at this;exact this
end
section
variable{E:Env}{σ:dp}{H:HS}{M:Mem}
theorem gE{id:Nat}{ops:Array db}{K:KP}(n:Nat)(g:E.P.follows .mixedOrders=true)(i:DK .any ops n=true)(h:PH E ops.toList (BV E ops.toList K (ops.toList.drop n)) (ops.toList.take n) σ H M):DrawK E id ops K σ H M:=by rintro a w⟨v,b,f⟩;refine uF (C:=λu=>Heap E v H M u) n g i (f.mE ((dQ _ _).drew)) ?_;have :=vx (E:=E) (ops:=ops.toList) (K:=BV E ops.toList K (ops.toList.drop n)) (Nx:=λj=>∀u,Heap E v H M u->wpList E.P ops (λe a w=>e=fF/\∃σ H M,Rep E σ H M a w/\K σ H M) (ops.toList.drop n) j u) (λσ a b c u d=>by have :=rU (E:=E) (ops:=ops.toList) (K:=K) (Q:=λe a w=>e=fF/\∃σ H M,Rep E σ H M a w/\K σ H M) (λσ H M a w k c=>⟨rfl,σ,H,M,k,c⟩) (ops.toList.drop n) σ H M a u ⟨v,b,d⟩ c;simpa using this) (λu=>Heap E v H M u) (λ_ h=>h) (λw u h l=>h.mE l) w f (ops.toList.take n) σ a b h;simpa using this
/-!### closures over boxes of the call's own -/
def tieH(a:Nat->ay):HS->HS|[]=>[]|(k,.box d _)::H=>(k,.box d (some (a k)))::tieH a H|(k,.row c b)::H=>(k,.row c b)::tieH a H|(k,.tab c b)::H=>(k,.tab c b)::tieH a H|(k,.mp b)::H=>(k,.mp b)::tieH a H
def untieH:HS->HS|[]=>[]|(k,.box c _)::H=>(k,.box c none)::untieH H|(k,.row b a)::H=>(k,.row b a)::untieH H|(k,.tab b a)::H=>(k,.tab b a)::untieH H|(k,.mp a)::H=>(k,.mp a)::untieH H
def allBox:HS->Bool|[]=>true|(_,.box _ _)::H=>allBox H|(_,.row _ _)::_=>false|(_,.tab _ _)::_=>false|(_,.mp _)::_=>false
def tiedH(a:Nat->ay):HS->Prop|[]=>True|(k,.box b t)::H=>(t=some (a k)/\SV.concs b=true)/\tiedH a H|(_,.row _ _)::_=>False|(_,.tab _ _)::_=>False|(_,.mp _)::_=>False
theorem HV{c:Nat->ay}:∀{H:HS}{q:Nat×PO},allBox H=true->q∈tieH c H->∃cs t,(q.1,PO.box cs t)∈H/\q.2=.box cs (some (c q.1))
 |[],q,_,h=>by simp[tieH]at h
 |(k,.box cs t)::H,q,a,h=>by
  simp only[tieH]at h;rcases aV.1 h with rfl|h;·exact⟨cs,t,bn,rfl⟩
  ·obtain⟨b,d,e,f⟩:=HV (H:=H) a h;exact⟨b,d,bm _ e,f⟩
 |(k,.row _ _)::H,q,a,h=>by cases a
 |(k,.tab _ _)::H,q,a,h=>by cases a
 |(k,.mp _)::H,q,a,h=>by cases a
theorem qO(ν:Nat->ay)(a:Nat->ay):∀H:HS,fp ν (tieH a H)=fp ν H|[]=>rfl|(k,.box b t)::H=>by have :=qO ν a H;simp only[tieH,fp,bK]at this⊢;rw[this]|(k,.row _ _)::H=>by have :=qO ν a H;simp only[tieH,fp,bK]at this⊢;rw[this]|(k,.tab _ _)::H=>by have :=qO ν a H;simp only[tieH,fp,bK]at this⊢;rw[this]|(k,.mp _)::H=>by have :=qO ν a H;simp only[tieH,fp,bK]at this⊢;rw[this]
theorem B6{c:Nat->ay}:∀{H:HS}{q:Nat×PO},tiedH c H->q∈untieH H->∃cs,(q.1,PO.box cs (some (c q.1)))∈H/\q.2=.box cs none/\SV.concs cs=true
 |[],q,_,h=>by simp[untieH]at h
 |(k,.box cs t)::H,q,a,h=>by
  simp only[untieH]at h;obtain⟨⟨rfl,d⟩,a⟩:=a;rcases aV.1 h with rfl|h;·exact⟨cs,bn,rfl,d⟩
  ·obtain⟨b,e,f⟩:=B6 (H:=H) a h;exact⟨b,bm _ e,f⟩
 |(k,.row _ _)::H,q,a,h=>a.elim
 |(k,.tab _ _)::H,q,a,h=>a.elim
 |(k,.mp _)::H,q,a,h=>a.elim
theorem pO{ν ν':Nat->ay}:∀{H:HS},(∀q∈H,ν q.1=ν' q.1)->fp ν (untieH H)=fp ν' H|[],_=>rfl|(k,.box c t)::H,h=>by have :=pO (H:=H) (λq b=>h q (bm _ b));have a:=h _ bn;simp only[untieH,fp,bK]at this a⊢;rw[this,a]|(k,.row _ _)::H,h=>by have :=pO (H:=H) (λq b=>h q (bm _ b));have a:=h _ bn;simp only[untieH,fp,bK]at this a⊢;rw[this,a]|(k,.tab _ _)::H,h=>by have :=pO (H:=H) (λq b=>h q (bm _ b));have a:=h _ bn;simp only[untieH,fp,bK]at this a⊢;rw[this,a]|(k,.mp _)::H,h=>by have :=pO (H:=H) (λq b=>h q (bm _ b));have a:=h _ bn;simp only[untieH,fp,bK]at this a⊢;rw[this,a]
theorem EK{b:Nat->ay}:∀{H:HS}{q:Nat×PO},tiedH b H->q∈H->∃cs,q.2=.box cs (some (b q.1))
 |(k,.box cs t)::H,q,a,h=>by
  obtain⟨⟨rfl,c⟩,a⟩:=a;rcases aV.1 h with rfl|h;·exact⟨cs,rfl⟩
  ·exact EK a h
 |(k,.row _ _)::H,q,a,h=>a.elim
 |(k,.tab _ _)::H,q,a,h=>a.elim
 |(k,.mp _)::H,q,a,h=>a.elim
 |[],q,_,h=>by simp at h
theorem HW{f d:Nat}{n:Func}{c:lp}{l:List SV}{K:KP}(live:List Nat)(S:E.P.funcs[f]?=some n)(hb:n.body=some c)(I:wG n l.length=true)(hd:aU (d<E.N)=true)(hH:allBox H=true)(h:∀U:Nat->ay,ui ⟨E.P,n.ntmps,E.w0,E.M0⟩ live c (yY E.P n.results.toList (λs H' L=>(s.conc=true/\tiedH U H')/\K ((d,true,s)::σ) (untieH H') L)) (params n.ntmps 0 l) (tieH U H) M):CallK E f l d K σ H M:=by
 intro ν a w hs o;simp only[wG,ba,np,br]at I;refine .inl ⟨⟨n,S,I.1.1,I.1.2⟩,?_⟩;refine calls_of_wp S hb ?_;have p:(aS ν l).length=l.length:=by rw[cC];simp
 have u:Heap ⟨E.P,n.ntmps,E.w0,E.M0⟩ ν (tieH ν H) M w:=by refine⟨λq m=>?_,by rw[qO];exact o.nodup,by rw[qO];exact o.apart,o.mem,o.below,o.le0,o.fresh,o.one⟩;obtain⟨J,t,G,z⟩:=HV hH m;have :=o.holds _ G;rw[z];obtain⟨y,_⟩:=this;exact⟨y,λv hv=>by cases hv;rfl⟩
 refine kq ?_ (iY c _ _ _ _ (h ν) _ w ⟨ν,⟨?_,rfl,?_⟩,u⟩)
 ·rintro e V W⟨O,H',L,⟨ν',A,j⟩,m⟩;have B:(match p4 E.P O H' L n.results.toList with|some (Q,C)=>C/\((one? Q).conc=true/\tiedH ν H')/\K ((d,true,one? Q)::σ) (untieH H') L|none=>False)->V.defers=[]/\∃v,(results n V.tmps).run E.P W=.ok v W/\∃X,uq v=.returned X/\∃r D F,Rep E r D F (a.put (some d) X) W/\K r D F:=by
   intro m;split at m
   ·rename_i Q C hr;obtain⟨hC,⟨hc,Y⟩,hK⟩:=m;refine⟨A.2.1,_,j9 A j hr hC,_,rfl,_,_,_,⟨ν,?_,?_⟩,hK⟩;·exact hs.ml (aW hd) (by rw[fz (ν:=ν') (ν':=ν) _ hc];rfl)
    ·have x:∀q∈H',ν q.1=ν' q.1:=λq m=>by obtain⟨J,z⟩:=EK Y m;have y:=j.holds q m;rw[z]at y;exact(y.2 _ rfl).symm
     refine⟨λq m=>?_,by rw[pO x];exact j.nodup,by rw[pO x];exact j.apart,j.mem,j.below,j.le0,j.fresh,o.one⟩;obtain⟨J,G,z,y⟩:=B6 Y m;obtain⟨⟨b,T,e1,e2⟩,e3⟩:=j.holds _ G;rw[z];refine⟨⟨b,T,?_,?_⟩,λ_ h=>by cases h⟩;·rw[x _ G];exact e1
     ·rw[cl (ν:=ν') (ν':=ν) J y];exact e2
   ·exact m.elim
  cases e with|normal=>exact B m|ret=>exact B m|_=>exact m.elim
 ·simp only[Ew,dh,Array.size_replicate,p];omega
 ·intro k g s hk;obtain⟨i,rfl,Z,R⟩:=mW hk;simp only at Z R;subst Z;have hlt:i<l.length:=(aI.1 R).1;rw[mO (by simp only[dh,p];omega),dH,cC,aN,b7,R];rfl
/-!### the same, the boxes under other keys: the callee may lay boxes and rows of its own -/
mutual
def SV.sh(B:Nat):SV->SV|.v x=>.v x|.own k=>.own (k+B)|.ptr k e i d=>.ptr (k+B) e i d|.ea x a b c=>.ea x a b c|.agg l=>.agg (SV.Hg B l)|.tup l=>.tup (SV.Hg B l)|.fn f l=>.fn f (SV.Hg B l)
def SV.Hg(B:Nat):List SV->List SV|[]=>[]|s::l=>SV.sh B s::SV.Hg B l
end
def KO(B:Nat)(ν:Nat->ay):Nat->ay:=λj=>if B<=j then ν (j-B)else ν j
theorem wJ(B:Nat)(ν:Nat->ay)(k:Nat):KO B ν (k+B)=ν k:=by unfold KO;rw[aF (by omega),Nat.add_sub_cancel]
mutual
theorem OE{B:Nat}{ν:Nat->ay}:∀s:SV,(s.sh B).cL (KO B ν)=s.cL ν|.v _=>rfl|.own k=>by simp only[SV.sh,SV.cL,wJ]|.ptr k b i a=>by simp only[SV.sh,SV.cL,wJ]|.ea _ _ _ _=>rfl|.agg l=>by simp only[SV.sh,SV.cL,mY l]|.tup l=>by simp only[SV.sh,SV.cL,mY l]|.fn f l=>by simp only[SV.sh,SV.cL,mY l]
theorem mY{B:Nat}{ν:Nat->ay}:∀l:List SV,aS (KO B ν) (SV.Hg B l)=aS ν l|[]=>rfl|s::l=>by simp only[SV.Hg,aS,OE s,mY l]
end
theorem p5(B:Nat):∀l:List SV,(SV.Hg B l).length=l.length|[]=>rfl|s::l=>by simp only[SV.Hg,aM,p5 B l]
def lentH(B:Nat)(a:Nat->ay):HS->HS|[]=>[]|(k,.box b _)::H=>(k+B,.box b (some (a k)))::lentH B a H|(_,.row _ _)::H=>lentH B a H|(_,.tab _ _)::H=>lentH B a H|(_,.mp _)::H=>lentH B a H
def lentB:HS->Bool|[]=>true|(_,.box a _)::H=>SV.concs a&&lentB H|(_,.row _ _)::_=>false|(_,.tab _ _)::_=>false|(_,.mp _)::_=>false
def backC(b:Nat->ay)(k:Nat)(t:Option ay)(r:HS×Prop):Option PO->HS×Prop|some (.box a c)=>((k,.box a t)::r.1,(c=some (b k)/\SV.concs a=true)/\r.2)|_=>([],False)
def backH(B:Nat)(a:Nat->ay)(H':HS):HS->HS×Prop|[]=>([],True)|(k,.box _ t)::H=>backC a k t (backH B a H' H) (hget H' (k+B))|(_,.row _ _)::_=>([],False)|(_,.tab _ _)::_=>([],False)|(_,.mp _)::_=>([],False)
theorem yZ{B:Nat}{c:Nat->ay}:∀{H:HS}{q:Nat×PO},lentB H=true->q∈lentH B c H->∃k cs t,(k,PO.box cs t)∈H/\q=(k+B,.box cs (some (c k)))/\SV.concs cs=true
 |[],q,_,h=>by simp[lentH]at h
 |(k,.box cs t)::H,q,a,h=>by
  simp only[lentB,ba]at a;simp only[lentH]at h;rcases aV.1 h with rfl|h;·exact⟨k,cs,t,bn,rfl,a.1⟩
  ·obtain⟨d,b,e,f,g⟩:=yZ (H:=H) a.2 h;exact⟨d,b,e,bm _ f,g⟩
 |(k,.row _ _)::H,q,a,h=>by cases a
 |(k,.tab _ _)::H,q,a,h=>by cases a
 |(k,.mp _)::H,q,a,h=>by cases a
theorem uG(B:Nat)(ν:Nat->ay)(b:Nat->ay):∀H:HS,lentB H=true->fp (KO B ν) (lentH B b H)=fp ν H|[],_=>rfl|(k,.box c t)::H,a=>by simp only[lentB,ba]at a;have :=uG B ν b H a.2;simp only[lentH,fp,bK,wJ]at this⊢;rw[this]|(k,.row _ _)::H,a=>by cases a|(k,.tab _ _)::H,a=>by cases a|(k,.mp _)::H,a=>by cases a
theorem rW{B:Nat}{c:Nat->ay}{H':HS}:∀{H:HS}{q:Nat×PO},(backH B c H' H).2->q∈(backH B c H' H).1->∃cs t,q.2=.box cs t/\(q.1+B,PO.box cs (some (c q.1)))∈H'/\SV.concs cs=true/\∃b,(q.1,PO.box b t)∈H
 |[],q,_,h=>by simp[backH]at h
 |(k,.box b t)::H,q,a,h=>by
  simp only[backH]at a h;cases d:hget H' (k+B)with
   |none=>rw[d]at a;exact a.elim
   |some p=>
    rw[d]at a h;cases p with
     |row _ _=>exact a.elim
     |tab _ _=>exact a.elim
     |mp _=>exact a.elim
     |box cs o=>
      simp only[backC]at a h;obtain⟨⟨rfl,g⟩,a⟩:=a;rcases aV.1 h with rfl|h;·exact⟨cs,t,rfl,bP d,g,b,bn⟩
      ·obtain⟨e,i,j,l,m,f,n⟩:=rW (H:=H) a h;exact⟨e,i,j,l,m,f,bm _ n⟩
 |(k,.row _ _)::H,q,a,h=>a.elim
 |(k,.tab _ _)::H,q,a,h=>a.elim
 |(k,.mp _)::H,q,a,h=>a.elim
theorem B7{B:Nat}{b:Nat->ay}{H':HS}(ν:Nat->ay):∀{H:HS},(backH B b H' H).2->fp ν (backH B b H' H).1=fp ν H
 |[],_=>rfl
 |(k,.box d t)::H,a=>by simp only[backH]at a⊢;cases c:hget H' (k+B)with|none=>rw[c]at a;exact a.elim|some p=>rw[c]at a;cases p with|row _ _=>exact a.elim|tab _ _=>exact a.elim|mp _=>exact a.elim|box e f=>simp only[backC]at a⊢;have :=B7 ν (H:=H) a.2;simp only[fp,bK]at this⊢;rw[this]
 |(k,.row _ _)::H,a=>a.elim
 |(k,.tab _ _)::H,a=>a.elim
 |(k,.mp _)::H,a=>a.elim
theorem dF(B:Nat){f d:Nat}{p:Func}{c:lp}{l:List SV}{K:KP}(live:List Nat)(hf:E.P.funcs[f]?=some p)(J:p.body=some c)(O:wG p l.length=true)(hd:aU (d<E.N)=true)(Q:lentB H=true)(h:∀R:Nat->ay,ui ⟨E.P,p.ntmps,E.w0,E.M0⟩ live c (yY E.P p.results.toList (λs H' L=>(s.conc=true/\(backH B R H' H).2)/\K ((d,true,s)::σ) (backH B R H' H).1 L)) (params p.ntmps 0 (SV.Hg B l)) (lentH B R H) M):CallK E f l d K σ H M:=by
 intro ν a w hs o;simp only[wG,ba,np,br]at O;refine .inl ⟨⟨p,hf,O.1.1,O.1.2⟩,?_⟩;refine calls_of_wp hf J ?_;rw[<-mY (B:=B) (ν:=ν) l];have r:(aS (KO B ν) (SV.Hg B l)).length=l.length:=by rw[cC,ae,p5]
 have x:Heap ⟨E.P,p.ntmps,E.w0,E.M0⟩ (KO B ν) (lentH B ν H) M w:=by
  refine⟨λq n=>?_,by rw[uG B ν ν H Q];exact o.nodup,by rw[uG B ν ν H Q];exact o.apart,o.mem,o.below,o.le0,o.fresh,λj=>?_⟩;·obtain⟨k,F,t,G,rfl,S⟩:=yZ Q n;obtain⟨⟨b,T,U,V⟩,_⟩:=o.holds _ G;refine⟨⟨b,T,by rw[wJ];exact U,by rw[cl (ν:=ν) (ν':=KO B ν) F S];exact V⟩,λv hv=>?_⟩;cases hv;exact wJ B ν k
  ·unfold KO;split;·exact o.one _
   ·exact o.one _
 refine kq ?_ (iY c _ _ _ _ (h ν) _ w ⟨KO B ν,⟨?_,rfl,?_⟩,x⟩)
 ·rintro e a' W⟨X,H',L,⟨ν',y,m⟩,n⟩;have z:(match p4 E.P X H' L p.results.toList with|some (Y,C)=>C/\((one? Y).conc=true/\(backH B ν H' H).2)/\K ((d,true,one? Y)::σ) (backH B ν H' H).1 L|none=>False)->a'.defers=[]/\∃v,(results p a'.tmps).run E.P W=.ok v W/\∃v',uq v=.returned v'/\∃u A D,Rep E u A D (a.put (some d) v') W/\K u A D:=by
   intro n;split at n
   ·rename_i Y C hr;obtain⟨hC,⟨S,Z⟩,hK⟩:=n;refine⟨y.2.1,_,j9 y m hr hC,_,rfl,_,_,_,⟨ν,?_,?_⟩,hK⟩;·exact hs.ml (aW hd) (by rw[fz (ν:=ν') (ν':=ν) _ S];rfl)
    ·refine⟨λq n=>?_,by rw[B7 ν Z];exact o.nodup,λb J=>?_,m.mem,m.below,m.le0,m.fresh,o.one⟩
     ·obtain⟨F,t,G,I,h3,cs0,h4⟩:=rW Z n;obtain⟨⟨b,T,U,V⟩,e3⟩:=m.holds _ I;have e4:=e3 _ rfl;rw[G];refine⟨⟨b,T,?_,?_⟩,(o.holds _ h4).2⟩;·rw[<-e4];exact U
      ·rw[cl (ν:=ν') (ν':=ν) F h3];exact V
     ·obtain⟨q,n,hqb⟩:=bH.1 J;obtain⟨F,t,G,I,h3,cs0,h4⟩:=rW Z n;obtain⟨_,e3⟩:=m.holds _ I;have e4:=e3 _ rfl;exact m.apart b (bH.2 ⟨_,I,by rw[e4];exact hqb⟩)
   ·exact n.elim
  cases e with|normal=>exact z n|ret=>exact z n|_=>exact n.elim
 ·simp only[Ew,dh,Array.size_replicate,r];omega
 ·intro k g s hk;obtain⟨i,rfl,hg,hi⟩:=mW hk;simp only at hg hi;subst hg;have hlt:i<(SV.Hg B l).length:=(aI.1 hi).1;rw[mO (by simp only[dh,r];rw[p5]at hlt;omega),dH,cC,aN,b7,hi];rfl
theorem mn{o:db}{K:KP}{f d:Nat}{b:Array bB}{l:List SV}(g:o.op=.makeFunc (.func f) #[] b)(h:o.dst=some d)(i:kj σ b.toList=some (true,l))(j:aU (d<E.N)=true)(k:K ((d,true,.fn f l)::σ) H M):OpK E o K σ H M:=by
 refine jq λv a w c m=>?_;have e:=mD c i rfl;have n:b.map a.eval=(aS v l).toArray:=by apply j6;simp[<-e]
 refine⟨.func (.func f) #[] (aS v l).toArray,w,?_,_,_,_,⟨v,?_,m⟩,k⟩;·simp[da,g,Instr.makeFunc,n]
 ·rw[h];exact c.ml (aW j) rfl
theorem j_{K:KP}{f d:Nat}{a:Array bB}{l:List SV}{e:bL}{b:String}{c:Array Edge}{g:Option (Nat×Bool)}(h:kj σ a.toList=some (true,l))(i:aU (d<E.N)=true)(j:K ((d,true,.fn f l)::σ) H M):stepK E ⟨some d,.makeFunc (.func f) #[] a,e,b,c,g⟩ true K σ H M:=by show true=true/\OpK E _ K σ H M;exact⟨rfl,mn rfl rfl h i j⟩
end
theorem ZB:type_of%(aa (aa (aa @tieH.eq_1 @tieH.eq_2) (aa @untieH.eq_1 @untieH.eq_2)) (aa @tiedH.eq_1 (aa @tiedH.eq_2 (aa @allBox.eq_1 @allBox.eq_2)))):=aa (aa (aa @tieH.eq_1 @tieH.eq_2) (aa @untieH.eq_1 @untieH.eq_2)) (aa @tiedH.eq_1 (aa @tiedH.eq_2 (aa @allBox.eq_1 @allBox.eq_2)))
theorem jO:type_of%(aa (aa (aa @lentH.eq_1 @lentH.eq_2) (aa @backH.eq_1 @backH.eq_2)) (aa (aa @backC.eq_1 @lentB.eq_1) (aa @lentB.eq_2 (aa @SV.Hg.eq_1 @SV.Hg.eq_2)))):=aa (aa (aa @lentH.eq_1 @lentH.eq_2) (aa @backH.eq_1 @backH.eq_2)) (aa (aa @backC.eq_1 @lentB.eq_1) (aa @lentB.eq_2 (aa @SV.Hg.eq_1 @SV.Hg.eq_2)))
theorem jP:type_of%(aa (aa (aa @SV.sh.eq_1 @SV.sh.eq_2) (aa @SV.sh.eq_3 @SV.sh.eq_4)) (aa @SV.sh.eq_5 (aa @SV.sh.eq_6 @SV.sh.eq_7))):=aa (aa (aa @SV.sh.eq_1 @SV.sh.eq_2) (aa @SV.sh.eq_3 @SV.sh.eq_4)) (aa @SV.sh.eq_5 (aa @SV.sh.eq_6 @SV.sh.eq_7))
end Go.X
namespace Go.X
open Go Go.RowKit
inductive Sch where|done|take(i:Nat)(n:Sch)|one(i:Nat)(n:Sch)|two(i:Nat)(n:Sch)(j:Nat)(m:Sch)
def wb(md:BC)(ops:Array db):Sch->Nat->Array Bool->Bool|.done,_,a=>(el md ops a).isEmpty|.take i n,f+1,a=>(Region.free md ops a i&&(el md ops a).contains i)&&wb md ops n f (a.setIfInBounds i true)|.one i n,f+1,a=>el md ops a==[i]&&wb md ops n f (a.setIfInBounds i true)|.two i n j m,f+1,a=>el md ops a==[i,j]&&(wb md ops n f (a.setIfInBounds i true)&&wb md ops m f (a.setIfInBounds j true))|_,0,_=>false
def pickH(a:List Nat):HS->HS|[]=>[]|(k,.box b t)::H=>bif memN k a&&(SV.concs b&&t.isSome)then(k,.box b t)::pickH a H else pickH a H|(_,.row _ _)::H=>pickH a H|(_,.tab _ _)::H=>pickH a H|(_,.mp _)::H=>pickH a H
def stayH:HS->HS->Prop|[],_=>True|(k,p)::r,H=>hget H k=some p/\stayH r H
def qtK(E:Env)(o:db)(Hs:HS)(Ms:Mem)(K:KP)(σ:dp)(H:HS)(M:Mem):Option Bool->Option Nat->Prop|some g,some d=>(d<E.N/\(g=true->(rL E.P Hs Ms σ o.op).1=true/\(rL E.P Hs Ms σ o.op).2.2))/\K ((d,g,(rL E.P Hs Ms σ o.op).2.1)::σ) H M|_,_=>False
def efC(Hs:HS)(Ms:Mem)(K:KP)(σ':dp)(H':HS)(N:Mem):Prop:=(stayH Hs H'/\Ms.le N)/\K σ' H' N
@[congr]theorem ZC{Hs a:HS}{Ms:Mem}{K:KP}{σ σ':dp}{H H':HS}{M:Mem}(b:Hs=a)(h:σ=σ')(c:H=H'):efC Hs Ms K σ H M=efC a Ms K σ' H' M:=by rw[b,h,c]
def efK(E:Env)(o:db)(Hs:HS)(Ms:Mem)(K:KP)(σ:dp)(H:HS)(M:Mem):Option Bool->Prop|some g=>stepK E o g (efC Hs Ms K) σ H M|none=>False
def opt1(f:db->Prop):Option db->Prop|some o=>f o|none=>False
def wpH(E:Env)(ops:List db)(Hs:HS)(Ms:Mem)(K:KP):Sch->dp->HS->Mem->Prop|.done,σ,H,M=>K σ H M|.take i n,σ,H,M=>opt1 (λo=>qtK E o Hs Ms (wpH E ops Hs Ms K n) σ H M (mc ops σ o.guard) o.dst) ops[i]?|.one i n,σ,H,M=>opt1 (λo=>efK E o Hs Ms (wpH E ops Hs Ms K n) σ H M (mc ops σ o.guard)) ops[i]?|.two i n j m,σ,H,M=>opt1 (λo=>efK E o Hs Ms (wpH E ops Hs Ms K n) σ H M (mc ops σ o.guard)) ops[i]?/\opt1 (λo=>efK E o Hs Ms (wpH E ops Hs Ms K m) σ H M (mc ops σ o.guard)) ops[j]?
@[congr]theorem ZD{E:Env}{o:db}{Hs a:HS}{Ms:Mem}{K:KP}{σ σ':dp}{H H':HS}{M:Mem}{g b:Option Bool}{d c:Option Nat}(e:Hs=a)(h:σ=σ')(f:H=H')(i:g=b)(j:d=c):qtK E o Hs Ms K σ H M g d=qtK E o a Ms K σ' H' M b c:=by rw[e,h,f,i,j]
@[congr]theorem ZE{E:Env}{o:db}{Hs a:HS}{Ms:Mem}{K:KP}{σ σ':dp}{H H':HS}{M:Mem}{g b:Option Bool}(c:Hs=a)(h:σ=σ')(d:H=H')(e:g=b):efK E o Hs Ms K σ H M g=efK E o a Ms K σ' H' M b:=by rw[c,h,d,e]
@[congr]theorem XQ{f:db->Prop}{x y:Option db}(h:x=y):opt1 f x=opt1 f y:=by rw[h]
@[congr]theorem ZF{E:Env}{ops:List db}{Hs a:HS}{Ms:Mem}{K:KP}{s:Sch}{σ σ':dp}{H H':HS}{M:Mem}(b:Hs=a)(h:σ=σ')(c:H=H'):wpH E ops Hs Ms K s σ H M=wpH E ops a Ms K s σ' H' M:=by rw[b,h,c]
section
variable{E:Env}{σ:dp}{H Hs:HS}{M Ms:Mem}{ν ν':Nat->ay}{a:xp}{w:bQ}
def uH(ν:Nat->ay):HS->Prop|[]=>True|(k,.box a t)::H=>(SV.concs a=true/\t=some (ν k))/\uH ν H|(_,.row _ _)::_=>False|(_,.tab _ _)::_=>False|(_,.mp _)::_=>False
theorem vy:∀{Hs:HS}{q:Nat×PO},uH ν Hs->q∈Hs->∃cs,q.2=.box cs (some (ν q.1))/\SV.concs cs=true
 |(k,.box cs t)::H,q,h,a=>by
  obtain⟨⟨b,rfl⟩,c⟩:=h;rcases aV.1 a with rfl|a;·exact⟨cs,rfl,b⟩
  ·exact vy c a
 |(k,.row _ _)::H,q,h,_=>h.elim
 |(k,.tab _ _)::H,q,h,_=>h.elim
 |(k,.mp _)::H,q,h,_=>h.elim
 |[],q,_,a=>by cases a
theorem y4:∀{Hs:HS}{q:Nat×PO},stayH Hs H->q∈Hs->q∈H
 |(k,p)::r,q,h,a=>by
  rcases aV.1 a with rfl|a;·exact bP h.1
  ·exact y4 h.2 a
 |[],q,_,a=>by cases a
theorem WO:∀{Hs:HS},(∀q∈Hs,ν' q.1=ν q.1)->fp ν' Hs=fp ν Hs|[],_=>rfl|q::H,h=>by have :=WO (Hs:=H) λq a=>h q (bm _ a);have b:=h q bn;simp only[fp,bK]at this⊢;rw[b,this]
theorem pP{k:bQ}(c:Heap E ν Hs Ms k)(h:uH ν Hs)(d:Heap E ν' H M w)(i:stayH Hs H)(g:Ms.le M):Heap E ν Hs Ms w/\∀q∈Hs,ν' q.1=ν q.1:=by
 have e:∀q∈Hs,ν' q.1=ν q.1:=λq a=>by obtain⟨j,f,_⟩:=vy h a;have :=d.holds q (y4 i a);rw[f]at this;exact this.2 _ rfl
 refine⟨⟨λq a=>?_,c.nodup,c.apart,λb o l=>d.mem b o (g b o l),d.below,c.le0,c.fresh,c.one⟩,e⟩;obtain⟨j,f,m⟩:=vy h a;have :=d.holds q (y4 i a);rw[f,e q a]at this;rw[f];obtain⟨⟨b,T,n,p⟩,r⟩:=this;exact⟨⟨b,T,n,by rw[cl (ν:=ν') (ν':=ν) j m];exact p⟩,r⟩
theorem wK(a:Heap E ν Hs Ms w)(g:uH ν Hs)(e:∀q∈Hs,ν' q.1=ν q.1)(c:∀k,(ν' k).oneCell'=true):Heap E ν' Hs Ms w:=by have f:=WO (ν:=ν) (ν':=ν') e;refine⟨λq d=>?_,by rw[f];exact a.nodup,by rw[f];exact a.apart,a.mem,a.below,a.le0,a.fresh,c⟩;obtain⟨h,c,i⟩:=vy g d;have :=a.holds q d;rw[c]at this;rw[c,e q d];obtain⟨⟨b,T,j,l⟩,m⟩:=this;exact⟨⟨b,T,j,by rw[cl (ν:=ν) (ν':=ν') h i];exact l⟩,m⟩
theorem wpH_sound {ops : Array db} {K : KP} {J : bQ} (k : iG ops = true) (u : Heap E ν Hs Ms J) (p : uH ν Hs) :
    ∀ (C : Sch) (f : Nat) (b : Array Bool) (σ : dp) (H : HS) (M : Mem) (a : xp) (w : bQ), wb .any ops C f b = true → Rep E σ H M a w → (stayH Hs H ∧ Ms.le M) → wpH E ops.toList Hs Ms K C σ H M →
      wpAnyH E.P .any ops (fun e a w => e = fF ∧ ∃ σ H M, Rep E σ H M a w ∧ K σ H M) (fun w => Heap E ν Hs Ms w) f b a w
  | .done, f, b, σ, H, M, a, w, l, x, _, h => by
    exact wpAnyH_done (by simpa [wb] using l) ⟨rfl, σ, H, M, x, h⟩ f
  | .take i n, f + 1, b, σ, H, M, a, w, l, ⟨ν', B, D⟩, ⟨y, F⟩, h => by
    simp only [wb, ba] at l
    obtain ⟨⟨hf, L⟩, l⟩ := l
    simp only [wpH] at h
    cases A : ops[i]? with
    | none => rw [show ops.toList[i]? = none by rw [cu]; exact A] at h; exact h.elim
    | some o =>
      rw [show ops.toList[i]? = some o by rw [cu]; exact A] at h
      simp only [opt1] at h
      cases z : mc ops.toList σ o.guard with
      | none => rw [z] at h; exact h.elim
      | some g =>
        cases N : o.dst with
        | none => rw [z, N] at h; exact h.elim
        | some d =>
          rw [z, N] at h
          obtain ⟨⟨hN, h1⟩, hK⟩ := h
          have q := oH B z o rfl
          obtain ⟨hS, O⟩ := pP u p D y F
          refine wpAnyH_take (v := bif g then (rL E.P Hs Ms σ o.op).2.1.cL ν' else dN) A k hf L (fun c a w h => by obtain ⟨h, _⟩ := h; cases h) ?_ hS ?_
          · cases g with
            | true =>
              obtain ⟨Q, hc⟩ := h1 rfl
              refine .inl ⟨by simpa using q, fun Z R => ?_⟩
              exact rS B (wK R p O D.one) o Q hc
            | false => exact .inr ⟨by simpa using q, rfl⟩
          · refine wpH_sound k u p n f _ _ H M _ w l ⟨ν', ?_, D⟩ ⟨y, F⟩ hK
            rw [N]
            exact B.ml hN rfl
  | .one i n, f + 1, b, σ, H, M, a, w, l, x, r, h => by
    simp only [wb, ba, pj] at l
    refine wpAnyH_all l.1 (by simp) fun j S => ?_
    obtain rfl : j = i := by simpa using S
    exact KQ k u p n f b σ H M a w l.2 x r h
  | .two i n i' m, f + 1, b, σ, H, M, a, w, l, x, r, h => by
    simp only [wb, ba, pj] at l
    refine wpAnyH_all l.1 (by simp) fun j S => ?_
    rcases (by simpa using S : j = i ∨ j = i') with rfl | rfl
    · exact KQ k u p n f b σ H M a w l.2.1 x r h.1
    · exact KQ k u p m f b σ H M a w l.2.2 x r h.2
  | .take _ _, 0, _, _, _, _, _, _, l, _, _, _ => by simp [wb] at l
  | .one _ _, 0, _, _, _, _, _, _, l, _, _, _ => by simp [wb] at l
  | .two _ _ _ _, 0, _, _, _, _, _, _, l, _, _, _ => by simp [wb] at l
where
  KQ {ops : Array db} {K : KP} {J : bQ} (k : iG ops = true) (u : Heap E ν Hs Ms J) (p : uH ν Hs) {i : Nat} (n : Sch) (f : Nat) (b : Array Bool) (σ : dp) (H : HS) (M : Mem) (a : xp) (w : bQ)
      (l : wb .any ops n f (b.setIfInBounds i true) = true) (x : Rep E σ H M a w) (_ : stayH Hs H ∧ Ms.le M)
      (h : opt1 (fun o => efK E o Hs Ms (wpH E ops.toList Hs Ms K n) σ H M (mc ops.toList σ o.guard)) ops.toList[i]?) :
      wpOp E.P ops (fun e a w => e = fF ∧ ∃ σ H M, Rep E σ H M a w ∧ K σ H M) i (fun T W => Heap E ν Hs Ms W ∧ wpAnyH E.P .any ops (fun e a w => e = fF ∧ ∃ σ H M, Rep E σ H M a w ∧ K σ H M) (fun w => Heap E ν Hs Ms w) f (b.setIfInBounds i true) T W) a w := by
    cases A : ops[i]? with
    | none => rw [show ops.toList[i]? = none by rw [cu]; exact A] at h; exact h.elim
    | some o =>
      rw [show ops.toList[i]? = some o by rw [cu]; exact A] at h
      simp only [opt1] at h
      obtain ⟨ν', B, D⟩ := x
      cases z : mc ops.toList σ o.guard with
      | none => rw [z] at h; exact h.elim
      | some g =>
        rw [z] at h
        simp only [efK] at h
        have q := oH B z o rfl
        have s := lK (Nx := fun T W => Heap E ν Hs Ms W ∧ wpAnyH E.P .any ops (fun e a w => e = fF ∧ ∃ σ H M, Rep E σ H M a w ∧ K σ H M) (fun w => Heap E ν Hs Ms w) f (b.setIfInBounds i true) T W)
          (Qx := fun e a w => e = fF ∧ ∃ σ H M, Rep E σ H M a w ∧ K σ H M)
          (fun U H1 M1 a1 Z V t => by
            obtain ⟨X, Y, G⟩ := V
            exact ⟨(pP u p G t.1.1 t.1.2).1, wpH_sound k u p n f _ U H1 M1 a1 Z l ⟨X, Y, G⟩ t.1 t.2⟩) B D h
        unfold wpOp
        simp only [A]
        have I : xr o (yielded ops a.tmps) = g := by simpa using q
        rw [I]
        cases g with
        | true => simp only [cR] at s ⊢; exact .inl s
        | false => simp only [bp, cA] at s ⊢; exact s
theorem rX(c:Heap E ν H M w):Heap E ν (tieH ν H) M w:=by
 refine⟨λq j=>?_,by rw[qO];exact c.nodup,by rw[qO];exact c.apart,c.mem,c.below,c.le0,c.fresh,c.one⟩;have :∀{H:HS}{q:Nat×PO},q∈tieH ν H->((∃f t,(q.1,PO.box f t)∈H/\q.2=.box f (some (ν q.1)))\/q∈H):=by
  intro H;induction H with
   |nil=>intro q h;simp[tieH]at h
   |cons p H g=>
    intro q h;obtain⟨k,p⟩:=p;cases p with
     |box f t=>
      simp only[tieH]at h;rcases aV.1 h with rfl|h;·exact .inl ⟨f,t,bn,rfl⟩
      ·rcases g h with⟨b,e,a,d⟩|a;·exact .inl ⟨b,e,bm _ a,d⟩
       ·exact .inr (bm _ a)
     |row l i=>
      simp only[tieH]at h;rcases aV.1 h with rfl|h;·exact .inr bn
      ·rcases g h with⟨b,e,a,d⟩|a;·exact .inl ⟨b,e,bm _ a,d⟩
       ·exact .inr (bm _ a)
     |tab l i=>
      simp only[tieH]at h;rcases aV.1 h with rfl|h;·exact .inr bn
      ·rcases g h with⟨b,e,a,d⟩|a;·exact .inl ⟨b,e,bm _ a,d⟩
       ·exact .inr (bm _ a)
     |mp i=>
      simp only[tieH]at h;rcases aV.1 h with rfl|h;·exact .inr bn
      ·rcases g h with⟨b,e,a,d⟩|a;·exact .inl ⟨b,e,bm _ a,d⟩
       ·exact .inr (bm _ a)
 rcases this j with⟨f,t,a,d⟩|a;·have :=c.holds _ a;rw[d];exact⟨this.1,λv m=>by cases m;rfl⟩
 ·exact c.holds _ a
theorem k8(a:List Nat):∀H:HS,(pickH a H).Sublist H
 |[]=>List.Sublist.slnil
 |(k,.box b t)::H=>by
  simp only[pickH];cases(memN k a&&(SV.concs b&&t.isSome));·exact(k8 a H).cons _
  ·exact(k8 a H).cons_cons _
 |(k,.row _ _)::H=>(k8 a H).cons _
 |(k,.tab _ _)::H=>(k8 a H).cons _
 |(k,.mp _)::H=>(k8 a H).cons _
theorem iX(a:List Nat):∀H:HS,uH ν (pickH a (tieH ν H))
 |[]=>trivial
 |(k,.box c t)::H=>by
  simp only[pickH,tieH];cases b:(memN k a&&(SV.concs c&&(some (ν k)).isSome));·exact iX a H
  ·simp only[ba]at b;exact⟨⟨b.2.1,rfl⟩,iX a H⟩
 |(k,.row _ _)::H=>iX a H
 |(k,.tab _ _)::H=>iX a H
 |(k,.mp _)::H=>iX a H
theorem dV{id:Nat}{ops:Array db}{K:KP}(b:List Nat)(c:Sch)(g:E.P.follows .mixedOrders=true)(e:(iG ops&&wb .any ops c ops.size (nV ops.size false))=true)(h:∀d:Nat->ay,stayH (pickH b (tieH d H)) (tieH d H)/\wpH E ops.toList (pickH b (tieH d H)) M K c σ (tieH d H) M):DrawK E id ops K σ H M:=by rintro a w⟨ν,i,j⟩;simp only[ba]at e;have f:=rX (j.mE ((dQ _ _).drew):Heap E ν H M {w with drawn:=w.drawn+1});exact wp_region_held g (wpH_sound e.1 (f.gB (k8 b _)) (iX b H) c _ _ σ _ M a _ e.2 ⟨ν,i,f⟩ ⟨(h ν).1,cg M⟩ (h ν).2)
theorem js{id:Nat}{ops:Array db}{K:KP}(b:Sch)(e:E.P.follows .mixedOrders=true)(c:(iG ops&&wb .any ops b ops.size (nV ops.size false))=true)(h:wpH E ops.toList [] M K b σ H M):DrawK E id ops K σ H M:=by rintro a w⟨ν,f,g⟩;simp only[ba]at c;have d:=(g.mE ((dQ _ _).drew):Heap E ν H M {w with drawn:=w.drawn+1});exact wp_region_held e (wpH_sound c.1 (d.gB (List.nil_sublist H)) trivial b _ _ σ _ M a _ c.2 ⟨ν,f,d⟩ ⟨trivial,cg M⟩ h)
end
theorem nzs:(((1:Nat)≠0)=True)/\(((2:Nat)≠0)=True)/\(((3:Nat)≠0)=True)/\(((4:Nat)≠0)=True)/\(∀k,(Shp.int k≠Shp.bad)=True)/\((Shp.str≠Shp.bad)=True)/\((Shp.bool≠Shp.bad)=True)/\((∀_:Nat,True)=True):=by simp
theorem Mem.MI(M:Mem):Mem.le M M=True:=aK (cg M)
theorem fl:type_of%(aa (aa (aa @wpH.eq_1 @wpH.eq_2) (aa @wpH.eq_3 @wpH.eq_4)) (aa (aa (aa @opt1.eq_1 @efC.eq_1) @efK.eq_1) (aa @qtK.eq_1 @Mem.MI))):=aa (aa (aa @wpH.eq_1 @wpH.eq_2) (aa @wpH.eq_3 @wpH.eq_4)) (aa (aa (aa @opt1.eq_1 @efC.eq_1) @efK.eq_1) (aa @qtK.eq_1 @Mem.MI))
theorem isS{α:Type}(x:α):(some x).isSome=true:=rfl
theorem fm:type_of%(aa (aa (aa @stayH.eq_1 @stayH.eq_2) (aa @pickH.eq_1 @pickH.eq_2)) (aa (aa @pickH.eq_3 @tieH.eq_1) (aa @tieH.eq_2 (aa @tieH.eq_3 @isS)))):=aa (aa (aa @stayH.eq_1 @stayH.eq_2) (aa @pickH.eq_1 @pickH.eq_2)) (aa (aa @pickH.eq_3 @tieH.eq_1) (aa @tieH.eq_2 (aa @tieH.eq_3 @isS)))
end Go.X
namespace Go.X
open Go Go.RowKit
section
variable{E:Env}{σ:dp}{H:HS}{M:Mem}{a:xp}{w:bQ}{ν:Nat->ay}{K:KP}
theorem RowM.dj{v:ay}{sz:Nat}{es:List (List ay)}(h:RowM M v sz es):v.oneCell'=true:=by have :=h.sl;cases v<;>first|rfl|cases this
theorem jQ{f d:Nat}{l:List SV}{R:SV->Mem->Prop}(i:SV.concs l=true)(j:aU (d<E.N)=true)(h:Meets E.P f l M (λr _ L=>R r L))(k:∀r L,R r L->r.conc=true)(m:∀r L,M.le L->R r L->K ((d,true,r)::σ) H L):CallK E f l d K σ H M:=by intro ν a w n c;refine .inl ⟨h.1,?_⟩;rw[cl (ν:=vu) (ν':=ν) l i];refine(h.2 w c.mem).mono ?_;rintro e u⟨s,G,L,ν',rfl,b,g⟩;refine⟨_,rfl,_,_,_,⟨ν,n.ml (aW j) (by rw[dM];exact fz s (k _ _ g)),c.D_ b⟩,m s L b.le0 g⟩
theorem vz{P:bZ}{f:kH}{args:List SV}{T:SV->SV}{sz:Nat}{Φ:List (List ay)->Mem->Prop}(i:Ctx T)(a:∀es M N,M.le N->Φ es M->Φ es N)(h:Meets P f args M (λr H N=>∃s es,r=T s/\IsRow H N s sz es/\Φ es N)):Meets P f args M (λr _ N=>∃v es,r=T (.v v)/\RowM N v sz es/\Φ es N):=by refine⟨h.1,λw j=>(h.2 w j).mono ?_⟩;rintro e u⟨s,G,N,ν,rfl,d,l,es,rfl,b,g⟩;cases l with|v x=>exact⟨_,G,N,ν,rfl,d,x,es,rfl,b,g⟩|own k=>obtain⟨c,m,n,o⟩:=lL d b;refine⟨T (.v (ν k)),_,c,ν,?_,o,ν k,es,rfl,n,a _ _ _ m g⟩;rw[i (.own k) (.v (ν k)) ν ν rfl]|_=>exact b.elim
theorem pD{P:bZ}{f:kH}{args:List SV}{sz:Nat}(h:Meets P f args M (λr _ _=>r=.v (.slice none 0 0))):Meets P f args M (OwnR (λs=>s) sz []):=by refine⟨h.1,λw d=>(h.2 w d).mono ?_⟩;rintro e u⟨s,G,N,ν,rfl,b,rfl⟩;refine⟨.own 0,[(0,.row sz [])],N,λ_=>.slice none 0 0,rfl,⟨λp c=>?_,by simp[fp,ee],by simp[fp,ee],b.mem,b.below,b.le0,b.fresh,λ_=>rfl⟩,0,rfl,rfl⟩;simp only[bD]at c;subst c;exact⟨λe g=>by simp at g,.inl ⟨rfl,rfl⟩⟩
end
def tk:List Nat->Sch->Sch|[],s=>s|i::l,s=>.take i (tk l s)
def ones':List Nat->Sch->Sch|[],s=>s|i::l,s=>.one i (ones' l s)
theorem fP:type_of%(aa (aa @tk.eq_1 @tk.eq_2) (aa @ones'.eq_1 @ones'.eq_2)):=aa (aa @tk.eq_1 @tk.eq_2) (aa @ones'.eq_1 @ones'.eq_2)
theorem cE{α:Type}{l:List α}{i:Nat}(h:i<l.length):∃x,l[i]?=some x/\l.drop i=x::l.drop (i+1):=⟨_,aP h,ft h⟩
def fg{α:Type}(p:α->Bool):List α->Nat->Int|[],_=>-1|x::l,i=>if p x=true then(i:Int)else fg p l (i+1)
theorem B9{α:Type}(p:α->Bool):∀(l:List α)(i:Nat),0<=fg p l i↔l.any p=true
 |[],i=>by simp[fg]
 |x::l,i=>by
  have :=B9 p l (i+1);by_cases a:p x=true;·simp[fg,a]
  ·simp[fg,a,this]
theorem HX{α:Type}(p:α->Bool)(l:List α)(i:Nat):aU (0<=fg p l i)=l.any p:=by have :=B9 p l i;cases h:l.any p with|true=>exact cy (this.2 h)|false=>exact bI (λa=>by rw[this.1 a]at h;cases h)
end Go.X
namespace Go.X
open Go Go.RowKit
def vv(es:List (List ay)):List (List SV):=es.map (·.map .v)
theorem Qw(ν:Nat->ay):∀l:List ay,aS ν (l.map .v)=l|[]=>rfl|x::l=>by simp only[ca,aS,SV.cL,Qw ν l]
def tabOf:Option PO->Option (Nat×List (List SV))|some (.row a b)=>some (a,vv b)|some (.tab a b)=>some (a,b)|_=>none
def tabP(sz:Nat):Nat->List (Nat×SV)->List (List SV)×Prop|_,[]=>([],True)|j,(i,s)::r=>(cellsSV s::(tabP sz (j+1) r).1,((i=j/\(cellsSV s).length=sz)/\oneS s=true/\ones (cellsSV s)=true)/\(tabP sz (j+1) r).2)
section
variable{E:Env}{σ:dp}{H:HS}{M:Mem}{a:xp}{w:bQ}{ν:Nat->ay}{K:KP}{o:db}
theorem EL{sz:Nat}{ν:Nat->ay}(d:∀k,(ν k).oneCell'=true):∀{ps:List (Nat×SV)}{j:Nat},(tabP sz j ps).2->(ps.map λp=>(p.2.cL ν).cells.toList)=(tabP sz j ps).1.map (aS ν)/\(∀i(p:Nat×SV),ps[i]?=some p->p.1=j+i)/\∀e∈(tabP sz j ps).1.map (aS ν),e.length=sz/\∀c∈e,c.oneCell'=true
 |[],j,_=>by simp[tabP]
 |(i,s)::r,j,h=>by
  simp only[tabP]at h⊢;obtain⟨⟨⟨rfl,f⟩,g,l⟩,m⟩:=h;obtain⟨n,o,q⟩:=EL d (ps:=r) (j:=i+1) m;have t:=pC g ν (λk=>rR (d k));refine⟨by simp only[ca,n,t,List.toList_toArray],λk p a=>?_,λe b=>?_⟩;·cases k with|zero=>simp only[dS,aO]at a;subst a;rfl|succ k=>simp only[Ae]at a;have :=o k p a;omega
  ·simp only[ca,aV]at b;rcases b with rfl|b;·exact⟨by rw[cC,ae];exact f,HH l d⟩
   ·exact q e b
theorem OG{t n d e sz bt:Nat}{W:List ay}{ps:Array (Nat×bB)}{l:List (Nat×SV)}(X:o.op=.buildSlice t n ps)(Y:o.dst=some d)(v:D8 E.P t=some (e,sz,bt,W))(Z:lJ σ ps.toList=some (true,l))(G:(aU (d<E.N)&&aU (l.length=n)&&aU (n*sz<=16777216)&&aU (n<=16777216))=true)(m:(tabP sz 0 l).2)(y:(hNoKey d (hdel d H)&&noKeyss d (tabP sz 0 l).1)=true)(hK:K ((d,true,.own (8*d))::sigDrop d σ) ((8*d,.tab sz (tabP sz 0 l).1)::hdel d H) M):OpK E o K σ H M:=by
 simp only[ba,br]at G y;obtain⟨⟨⟨hN,f⟩,hsm⟩,I⟩:=G;obtain⟨i,z,J,L,O,rfl,rfl,rfl⟩:=oL v;refine jq λν a w Q R=>?_;obtain⟨S,g2,A⟩:=EL R.one m;generalize htp:(tabP i.size 0 l).1=r at*;have T:=qJ Q Z rfl;have g:(r.map (aS ν)).length=n:=by rw[<-S,ae,f]
 have hfl:=cX (λe B=>(A e B).1);have c:∀u:Array ay,u.size=n*i.size->vZ (λj=>some (j*i.size,i.size)) u (l.map λp=>(p.1,p.2.cL ν))=some ((r.map (aS ν)).flatten).toArray:=by intro u C;have :=FI (sz:=i.size) (l.map λp=>(p.1,p.2.cL ν)) (r.map (aS ν)) 0 [] u.toList (by rw[jB];exact S) (λk p V=>by rw[aN,dy]at V;obtain⟨q,hq,rfl⟩:=V;exact g2 k q hq) (λe B=>(A e B).1) (by simp) (by simp[C,f]);simpa using this
 refine⟨.slice (some ⟨w.heap.size,0,none⟩) n n,w.alloc (.cells ((r.map (aS ν)).flatten).toArray e),?_,_,_,_,?_,hK⟩
 ·simp only[da,X,a7];have :(ph t n (ps.map λ(x:Nat×bB)=>match x with|(i,x)=>(i,a.eval x))).run E.P w=.ok (.slice (some ⟨w.heap.size,0,none⟩) n n) (w.alloc (.cells ((r.map (aS ν)).flatten).toArray e)):=by
   by_cases D:n*i.size=0;·have F:=c (Array.map (λx=>default) (PA 0)) (by simp[D]);simp[ph,a8 J,sizeOf,Ad,wA,L,O,D,newRow,T,F]
   ·have F:=c ((PA (n*i.size)).map (z.cells[·%z.cells.size]!)) (by simp);simp[ph,a8 J,sizeOf,Ad,wA,L,O,D,newRow,T,F,show¬16777216<n*i.size by omega]
  rw[this];rfl
 ·rw[Y];refine mU Q R hN (fR d H) y.1 (gm w _) rfl (λU s=>?_) (λb hb=>by simp only[ee,aO]at hb;omega) (λU h=>h);rw[sL,sR s y.2];refine⟨A,.inr ⟨w.heap.size,n,e,[],by rw[g],by omega,by simp only[dB];omega,by simp[g],?_⟩⟩;rw[cS];exact eP w _
/-!### other forms of the same memory -/
def HEnt(E:Env)(H:HS)(M:Mem)(H':HS):Prop:=∀ν w,Heap E ν H M w->Heap E ν H' M w
theorem dO{S:dp×HS×Mem}{H':HS}(h:HEnt E H M H')(b:Ent E σ H' M S):Ent E σ H M S:=by rintro a w⟨ν,c,d⟩;exact b a w ⟨ν,c,h ν w d⟩
theorem Qy{k:Nat}{p q:PO}(f:hget H k=some p)(h:∀ν w,p.jJ ν w (ν k)->q.jJ ν w (ν k)):HEnt E H M (hset k q H):=by
 intro ν w c;refine⟨λr d=>?_,by rw[qM];exact c.nodup,λb e=>c.apart b (by rw[qM]at e;exact e),c.mem,c.below,c.le0,c.fresh,c.one⟩;rcases BX d with rfl|d;·exact h ν w (c.holds _ (bP f))
 ·exact c.holds _ d
end
theorem MJ(e:List ay)(es:List (List ay)):vv (e::es)=e.map .v::vv es:=rfl
theorem vv_len(es:List (List ay)):(vv es).length=es.length:=ae _
theorem B_(d:Nat):∀l:List ay,SV.jn d (l.map .v)=true|[]=>rfl|x::l=>by simp only[ca,SV.jn,SV.noKey,B_ d l,cK]
theorem noKeyss_vv(d:Nat):∀es:List (List ay),noKeyss d (vv es)=true|[]=>rfl|e::r=>by rw[MJ,noKeyss,B_,noKeyss_vv d r];rfl
theorem noKeyss_app(d:Nat):∀es a:List (List SV),noKeyss d (es++a)=(noKeyss d es&&noKeyss d a)|[],a=>by simp[noKeyss]|e::r,a=>by rw[gW,noKeyss,noKeyss,noKeyss_app d r a,Bool.and_assoc]
theorem KR(k:Nat)(v:ay):∀l:List ay,SV.nK k v (l.map .v)=l.map .v|[]=>rfl|x::l=>by simp only[ca,SV.nK,SV.xN,KR k v l]
theorem pubss_vv(k:Nat)(v:ay):∀es:List (List ay),pubss k v (vv es)=vv es|[]=>rfl|e::r=>by rw[MJ,pubss,KR,pubss_vv k v r]
theorem pubss_app(k:Nat)(v:ay):∀es a:List (List SV),pubss k v (es++a)=pubss k v es++pubss k v a|[],_=>rfl|e::r,a=>by rw[gW,pubss,pubss,pubss_app k v r a,gW]
theorem tieH_mp(a:Nat->ay)(k:Nat)(es:List (ay×ay))(H:HS):tieH a ((k,.mp es)::H)=(k,.mp es)::tieH a H:=rfl
theorem pickH_mp(a:List Nat)(k:Nat)(es:List (ay×ay))(H:HS):pickH a ((k,.mp es)::H)=pickH a H:=rfl
theorem tieH_tab(a:Nat->ay)(k sz:Nat)(es:List (List SV))(H:HS):tieH a ((k,.tab sz es)::H)=(k,.tab sz es)::tieH a H:=rfl
theorem pickH_tab(a:List Nat)(k sz:Nat)(es:List (List SV))(H:HS):pickH a ((k,.tab sz es)::H)=pickH a H:=rfl
theorem Ca:type_of%(aa (aa (aa (aa @tieH_tab @tieH_mp) (aa @pickH_mp @pickH_tab)) (aa (aa @tabOf.eq_1 @tabOf.eq_2) (aa @tabP.eq_1 @tabP.eq_2))) (aa (aa (aa @vv_len @noKeyss_vv) (aa @noKeyss_app @pubss_vv)) @pubss_app)):=aa (aa (aa (aa @tieH_tab @tieH_mp) (aa @pickH_mp @pickH_tab)) (aa (aa @tabOf.eq_1 @tabOf.eq_2) (aa @tabP.eq_1 @tabP.eq_2))) (aa (aa (aa @vv_len @noKeyss_vv) (aa @noKeyss_app @pubss_vv)) @pubss_app)
end Go.X
