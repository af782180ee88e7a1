/- Contracts of functions, and the logic in which they are proved. Conditions: none. -/
import Derived.Test.YthafjlokddpjfaaGreatDoorMc
import Derived.Test.YthafjlokddpjfaaGreatDoorMb
import Derived.Test.YthafjlokddpjfaaGreatDoorMa
set_option linter.all false
set_option maxHeartbeats 4000000
set_option maxRecDepth 20000
open And renaming intro->aa
open Array renaming getElem?_append_left->mO,getElem?_toList->cu,replicate->nV,size_append->Ew
open BitVec renaming ofInt->dR
open Bool renaming and_eq_true->ba,and_self->cK,and_true->yI,false_and->jI,false_eq_true->bp,false_or->T0,not_eq_true'->np,not_false->nQ,not_true->yH,or_comm->Mt,or_eq_true->ug,true_and->fJ
open Classical renaming byContradiction->kx,not_not->kv
open Decidable renaming decide->aU,of_not_not->l9
open Go renaming Act->xp,Code->lp,FuncId->kH,Oper->db,Operand->bB,Program->bZ,Value->ay,World->bQ,execOp->da,getD_replicate_false->sG,maxLen->dB,run_underlying->a8,undef->dN,zeroValue->wA
open Go.Code renaming wp_mono->kq
open Go.Ending renaming returned->uq
open Go.Exit renaming normal->fF
open Go.Extern.SlicesOverlaps renaming overlaps->nP
open Go.IntKind renaming i64->bX,u8->ig,wrap->xq
open Go.Lib renaming decDigits->cF
open Go.MapKept renaming run_getObj_map->iU
open Go.Op renaming bytesLess->cd
open Go.Oper renaming wp->oC
open Go.Proofs.Tryz renaming f132->P7,f133->P9,f154->Kv,f175->Kt,f176->ra,f177->fZ,f184->Kw,f216->Kx,f222->xC,f234->re,f241->Ku,f281->Kz,f286->xD,f39->PX,f44->qw,f85->Mu,f86->Mn,f88->yS,f97->Mq,f98->Mo,func132->P6,func133->P8,func177->lT,func281->Ha,func39->PW,func44->oF,func85->Hp,func97->Ho,prog->ab
open Go.Region renaming Mode->BC,chainB->lA,noSelect->iG,ready->el,seqB->BD,sinkB->mi,wanted->xr
open Go.Result renaming andThen_ok->aQ
open Go.RowKit.Below renaming refl->dQ
open Go.Sem renaming run_bind->a7,run_pure->bC
open Go.Value renaming int->cz
open Int renaming add_zero->PY,le_refl->pk,natCast_add->aJ,natCast_one->cB,natCast_zero->aZ,not_lt->PZ,reduceAdd->aq,reduceEq->aB,reduceLE->aE,reduceLT->aD,reduceMul->au,reduceNe->aC,reduceNeg->av,reduceSub->ar,reduceToNat->ah,toNat_natCast->aX
open List renaming append_assoc->bN,append_nil->cS,cons_append->gW,drop->nc,drop_drop->l6,drop_eq_getElem_cons->ft,drop_eq_nil_of_le->bh,drop_succ_cons->cM,drop_zero->cQ,filterMap_cons->bK,filterMap_nil->eu,filter_append->G',filter_cons_of_neg->P5,filter_cons_of_pos->Uh,filter_eq_self->DS,foldl_cons->lf,getD_cons_succ->bA,getD_cons_zero->a_,getD_eq_getElem?_getD->cN,getElem?_append_left->cW,getElem?_append_right->nF,getElem?_cons_zero->dS,getElem?_drop->fx,getElem?_eq_getElem->aP,getElem?_eq_none->dm,getElem?_eq_some_iff->aI,getElem?_map->aN,getElem?_set_self->mz,getElem?_take->i_,getElem?_toArray->dH,getElem_map->iH,length->dU,length_append->aG,length_cons->aM,length_drop->aT,length_eq_zero_iff->e_,length_map->ae,length_nil->bM,length_replicate->dT,length_set->eg,length_take->a6,map_append->bq,map_cons->ca,map_drop->fI,map_nil->cr,map_set->oB,map_take->eH,mem_append->bU,mem_cons->aV,mem_cons_of_mem->bm,mem_cons_self->bn,mem_filter->BI,mem_filterMap->bH,mem_flatten->rH,mem_map->dq,mem_map_of_mem->du,mem_of_getElem?->aL,mem_of_mem_drop->cG,mem_of_mem_take->cq,mem_singleton->bD,nil_append->eX,nodup_cons->gK,nodup_nil->kM,not_mem_nil->cH,pairwise_iff_getElem->iI,pairwise_map->kO,replicate->bg,size_toArray->dh,take->fH,take_add_one->cm,take_append_of_le_length->jC,take_length->sH,take_of_length_le->bz,take_zero->fE
open Min renaming min->wg
open Nat renaming add_zero->eJ,le_refl->bc,le_trans->b6,lt_or_ge->bR,min->qC,min_eq_left->cT,reduceAdd->aj,reduceBEq->aw,reduceDiv->al,reduceEqDiff->af,reduceLT->aA,reduceLeDiff->ag,reduceMul->ak,reduceSubDiff->cI,sub_zero->iS,zero_add->b7,zero_le->bJ
open Option.some renaming inj->d_,injEq->aO
open Prod renaming fst->yF
open Prod.mk renaming injEq->cD
open UInt8 renaming ofNat->bo,ofNat_toNat->jm,toNat_inj->rJ,toNat_lt->gu,toNat_ofNat'->rP
namespace Go.X
open Go Go.RowKit
inductive Sch3 where|done|take(i:Nat)(n:Sch3)|one(i:Nat)(n:Sch3)|two(i:Nat)(n:Sch3)(j:Nat)(m:Sch3)|three(i:Nat)(n:Sch3)(j:Nat)(m:Sch3)(k:Nat)(q:Sch3)
def wpH3(E:Env)(ops:List db)(Hs:HS)(Ms:Mem)(K:KP):Sch3->dp->HS->Mem->Prop|.done,σ,H,M=>K σ H M|.take i n,σ,H,M=>opt1 (λo=>qtK E o Hs Ms (wpH3 E ops Hs Ms K n) σ H M (mc ops σ o.guard) o.dst) ops[i]?|.one i n,σ,H,M=>opt1 (λo=>efK E o Hs Ms (wpH3 E ops Hs Ms K n) σ H M (mc ops σ o.guard)) ops[i]?|.two i n j m,σ,H,M=>opt1 (λo=>efK E o Hs Ms (wpH3 E ops Hs Ms K n) σ H M (mc ops σ o.guard)) ops[i]?/\opt1 (λo=>efK E o Hs Ms (wpH3 E ops Hs Ms K m) σ H M (mc ops σ o.guard)) ops[j]?|.three i n j m k q,σ,H,M=>opt1 (λo=>efK E o Hs Ms (wpH3 E ops Hs Ms K n) σ H M (mc ops σ o.guard)) ops[i]?/\opt1 (λo=>efK E o Hs Ms (wpH3 E ops Hs Ms K m) σ H M (mc ops σ o.guard)) ops[j]?/\opt1 (λo=>efK E o Hs Ms (wpH3 E ops Hs Ms K q) σ H M (mc ops σ o.guard)) ops[k]?
@[congr]theorem Yv{E:Env}{ops:List db}{Hs a:HS}{Ms:Mem}{K:KP}{s:Sch3}{σ σ':dp}{H H':HS}{M:Mem}(b:Hs=a)(h:σ=σ')(c:H=H'):wpH3 E ops Hs Ms K s σ H M=wpH3 E ops a Ms K s σ' H' M:=by rw[b,h,c]
theorem se3:type_of%(aa (aa (aa @wpH3.eq_1 @wpH3.eq_2) (aa @wpH3.eq_3 @wpH3.eq_4)) @wpH3.eq_5):=aa (aa (aa @wpH3.eq_1 @wpH3.eq_2) (aa @wpH3.eq_3 @wpH3.eq_4)) @wpH3.eq_5
def tk3:List Nat->Sch3->Sch3|[],s=>s|i::l,s=>.take i (tk3 l s)
theorem RZ:type_of%(aa @tk3.eq_1 @tk3.eq_2):=aa @tk3.eq_1 @tk3.eq_2
def m_(md:BC)(ops:Array db)(n:Nat):Sch3->Nat->Array Bool->Bool|.done,f,a=>aU (f=ops.size-n)&&BD md ops (ops.size-n) n a|.take i s,f+1,a=>aU (i<n)&&((Region.free md ops a i&&(el md ops a).contains i)&&m_ md ops n s f (a.setIfInBounds i true))|.one i s,f+1,a=>aU (i<n)&&(el md ops a==[i]&&m_ md ops n s f (a.setIfInBounds i true))|.two i s j m,f+1,a=>(aU (i<n)&&aU (j<n))&&(el md ops a==[i,j]&&(m_ md ops n s f (a.setIfInBounds i true)&&m_ md ops n m f (a.setIfInBounds j true)))|.three i s j m k q,f+1,a=>(aU (i<n)&&(aU (j<n)&&aU (k<n)))&&(el md ops a==[i,j,k]&&(m_ md ops n s f (a.setIfInBounds i true)&&(m_ md ops n m f (a.setIfInBounds j true)&&m_ md ops n q f (a.setIfInBounds k true))))|_,0,_=>false
section
variable{E:Env}{σ:dp}{H Hs:HS}{M Ms:Mem}{ν ν':Nat->ay}{a:xp}{w:bQ}
theorem wpH3_sound {ops : Array db} {K : KP} {V : bQ} {n : Nat} (l : iG ops = true) (q : mi .any ops n = true) (r : lA .any ops n = true) (y : n < ops.size) (x : Heap E ν Hs Ms V) (u : uH ν Hs) :
    ∀ (I : Sch3) (f : Nat) (b : Array Bool) (σ : dp) (H : HS) (M : Mem) (a : xp) (w : bQ), m_ .any ops n I f b = true → HeadInv .any ops n b → Rep E σ H M a w → (stayH Hs H ∧ Ms.le M) → wpH3 E ops.toList Hs Ms (BV E ops.toList K (ops.toList.drop n)) I σ H M →
      mJ E.P .any ops (fun e a w => e = fF ∧ ∃ σ H M, Rep E σ H M a w ∧ K σ H M) (fun w => Heap E ν Hs Ms w) n f b a w
  | .done, f, b, σ, H, M, a, w, k, p, t, _, h => by
    simp only [m_, ba, br] at k
    simp only [wpH3] at h
    have h2 := rU (E := E) (ops := ops.toList) (K := K) (Q := fun e a w => e = fF ∧ ∃ σ H M, Rep E σ H M a w ∧ K σ H M) (fun σ H M a w t hk => ⟨rfl, σ, H, M, t, hk⟩) (ops.toList.drop n) σ H M a w t h
    have h3 : (ops.toList.drop n).length = ops.size - n := by simp
    have := rz (P := E.P) (md := .any) (ops := ops) (S := fun w => Heap E ν Hs Ms w) (n := n) (Q' := fun e a w => e = fF ∧ ∃ σ H M, Rep E σ H M a w ∧ K σ H M) (ops.toList.drop n) n b a w (fun j => by rw [fx, cu]) (by rw [h3]; exact k.2) (bc _) (by simpa using h2)
    rw [h3] at this
    rw [k.1]
    exact this
  | .take i m, f + 1, b, σ, H, M, a, w, k, p, ⟨ν', G, J⟩, ⟨C, L⟩, h => by
    simp only [m_, ba, br] at k
    obtain ⟨N, ⟨hf, O⟩, k⟩ := k
    simp only [wpH3] at h
    cases F : ops[i]? with
    | none => rw [show ops.toList[i]? = none by rw [cu]; exact F] at h; exact h.elim
    | some o =>
      rw [show ops.toList[i]? = some o by rw [cu]; exact F] at h
      simp only [opt1] at h
      cases D : mc ops.toList σ o.guard with
      | none => rw [D] at h; exact h.elim
      | some g =>
        cases X : o.dst with
        | none => rw [D, X] at h; exact h.elim
        | some d =>
          rw [D, X] at h
          obtain ⟨⟨hN, h1⟩, hK⟩ := h
          have z := oH G D o rfl
          obtain ⟨hS, Y⟩ := pP x u J C L
          refine Ax q r y N p (v := bif g then (rL E.P Hs Ms σ o.op).2.1.cL ν' else dN) F l hf O (fun c a w h => by obtain ⟨h, _⟩ := h; cases h) ?_ hS ?_
          · cases g with
            | true =>
              obtain ⟨Z, hc⟩ := h1 rfl
              refine .inl ⟨by simpa using z, fun w1 hw1 => ?_⟩
              exact rS G (wK hw1 u Y J.one) o Z hc
            | false => exact .inr ⟨by simpa using z, rfl⟩
          · refine wpH3_sound l q r y x u m f _ _ H M _ w k (p.set (by simpa using O) N) ⟨ν', ?_, J⟩ ⟨C, L⟩ hK
            rw [X]
            exact G.ml hN rfl
  | .one i m, f + 1, b, σ, H, M, a, w, k, p, t, s, h => by
    simp only [m_, ba, br, pj] at k
    refine qg k.2.1 (by simp) fun j R => ?_
    obtain rfl : j = i := by simpa using R
    exact vQ l q r y x u m f b σ H M a w k.2.2 (p.set (by rw [k.2.1]; simp) k.1) t s h
  | .two i m i' m2, f + 1, b, σ, H, M, a, w, k, p, t, s, h => by
    simp only [m_, ba, br, pj] at k
    refine qg k.2.1 (by simp) fun j R => ?_
    rcases (by simpa using R : j = i ∨ j = i') with rfl | rfl
    · exact vQ l q r y x u m f b σ H M a w k.2.2.1 (p.set (by rw [k.2.1]; simp) k.1.1) t s h.1
    · exact vQ l q r y x u m2 f b σ H M a w k.2.2.2 (p.set (by rw [k.2.1]; simp) k.1.2) t s h.2
  | .three i m i' m2 i'' m3, f + 1, b, σ, H, M, a, w, k, p, t, s, h => by
    simp only [m_, ba, br, pj] at k
    refine qg k.2.1 (by simp) fun j R => ?_
    rcases (by simpa using R : j = i ∨ j = i' ∨ j = i'') with rfl | rfl | rfl
    · exact vQ l q r y x u m f b σ H M a w k.2.2.1 (p.set (by rw [k.2.1]; simp) k.1.1) t s h.1
    · exact vQ l q r y x u m2 f b σ H M a w k.2.2.2.1 (p.set (by rw [k.2.1]; simp) k.1.2.1) t s h.2.1
    · exact vQ l q r y x u m3 f b σ H M a w k.2.2.2.2 (p.set (by rw [k.2.1]; simp) k.1.2.2) t s h.2.2
  | .take _ _, 0, _, _, _, _, _, _, k, _, _, _, _ => by simp [m_] at k
  | .one _ _, 0, _, _, _, _, _, _, k, _, _, _, _ => by simp [m_] at k
  | .two _ _ _ _, 0, _, _, _, _, _, _, k, _, _, _, _ => by simp [m_] at k
  | .three _ _ _ _ _ _, 0, _, _, _, _, _, _, k, _, _, _, _ => by simp [m_] at k
where
  vQ {ops : Array db} {K : KP} {V : bQ} {n : Nat} (l : iG ops = true) (q : mi .any ops n = true) (r : lA .any ops n = true) (y : n < ops.size) (x : Heap E ν Hs Ms V) (u : uH ν Hs) {i : Nat} (m : Sch3) (f : Nat) (b : Array Bool) (σ : dp) (H : HS) (M : Mem) (a : xp) (w : bQ)
      (k : m_ .any ops n m f (b.setIfInBounds i true) = true) (p : HeadInv .any ops n (b.setIfInBounds i true)) (t : Rep E σ H M a w) (_ : stayH Hs H ∧ Ms.le M)
      (h : opt1 (fun o => efK E o Hs Ms (wpH3 E ops.toList Hs Ms (BV E ops.toList K (ops.toList.drop n)) m) σ H M (mc ops.toList σ o.guard)) ops.toList[i]?) :
      wpOp E.P ops (fun e a w => e = fF ∧ ∃ σ H M, Rep E σ H M a w ∧ K σ H M) i (fun a' W => (i < n → Heap E ν Hs Ms W) ∧ mJ E.P .any ops (fun e a w => e = fF ∧ ∃ σ H M, Rep E σ H M a w ∧ K σ H M) (fun w => Heap E ν Hs Ms w) n f (b.setIfInBounds i true) a' W) a w := by
    cases F : ops[i]? with
    | none => rw [show ops.toList[i]? = none by rw [cu]; exact F] at h; exact h.elim
    | some o =>
      rw [show ops.toList[i]? = some o by rw [cu]; exact F] at h
      simp only [opt1] at h
      obtain ⟨ν', G, J⟩ := t
      cases D : mc ops.toList σ o.guard with
      | none => rw [D] at h; exact h.elim
      | some g =>
        rw [D] at h
        simp only [efK] at h
        have z := oH G D o rfl
        have A := lK (Nx := fun a' W => (i < n → Heap E ν Hs Ms W) ∧ mJ E.P .any ops (fun e a w => e = fF ∧ ∃ σ H M, Rep E σ H M a w ∧ K σ H M) (fun w => Heap E ν Hs Ms w) n f (b.setIfInBounds i true) a' W)
          (Qx := fun e a w => e = fF ∧ ∃ σ H M, Rep E σ H M a w ∧ K σ H M)
          (fun σ1 H1 M1 a1 w1 hr1 B => by
            obtain ⟨ν1, hs1, T⟩ := hr1
            exact ⟨fun _ => (pP x u T B.1.1 B.1.2).1, wpH3_sound l q r y x u m f _ σ1 H1 M1 a1 w1 k p ⟨ν1, hs1, T⟩ B.1 B.2⟩) G J h
        unfold wpOp
        simp only [F]
        have U : xr o (yielded ops a.tmps) = g := by simpa using z
        rw [U]
        cases g with
        | true => simp only [cR] at A ⊢; exact .inl A
        | false => simp only [bp, cA] at A ⊢; exact A
theorem Ja{id:Nat}{ops:Array db}{K:KP}(n:Nat)(b:List Nat)(c:Sch3)(p:E.P.follows .mixedOrders=true)(l:(iG ops&&(aU (n<ops.size)&&(mi .any ops n&&(lA .any ops n&&m_ .any ops n c ops.size (nV ops.size false)))))=true)(h:∀f:Nat->ay,stayH (pickH b (tieH f H)) (tieH f H)/\wpH3 E ops.toList (pickH b (tieH f H)) M (BV E ops.toList K (ops.toList.drop n)) c σ (tieH f H) M):DrawK E id ops K σ H M:=by rintro a w⟨ν,q,r⟩;simp only[ba,br]at l;obtain⟨d,s,g,i,k⟩:=l;have m:=rX (r.mE ((dQ _ _).drew):Heap E ν H M {w with drawn:=w.drawn+1});have e:HeadInv .any ops n (nV ops.size false):=⟨by simp,λj v _ o=>(by rw[sG]at o;cases o),λt _ u=>getD_in (by simpa using u) (sG _ _)⟩;exact wp_region_any p (tm _ _ _ _ (wpH3_sound d g i s (m.gB (k8 b _)) (iX b H) c _ _ σ _ M a _ k e ⟨ν,q,m⟩ ⟨(h ν).1,cg M⟩ (h ν).2))
end
end Go.X
namespace Go.X.Vo
open Go Go.X Go.RowKit Go.X.Bg Go.X.Nm Go.X.Bp Go.X.Sb
theorem R0(b v:ay)(ws:List WV)(x:WV)(M:Mem)(f:b.oneCell'=true)(m:isSl b=true)(n:VolsM M v ws)(l:x.1.oneCell'=true)(g:isSl x.1=true)(A:(ws.map (·.2)).Pairwise (λa b=>cd a.1 b.1=true))(B:∀y∈ws,y.2.1≠x.2.1)(I:ws.length<=1000):Meets ab 145 [fQ b v,Fb x] M (OwnR (λs=>.agg [.v b,s]) 2 ((qx ws x).map kL)):=by
 have C:∀w∈ws,w.1.oneCell'=true:=λw c=>(n.blk w c).dj;have p:∀w∈ws++[x],w.1.oneCell'=true:=λw c=>by
  rcases bU.1 c with c|c;·exact C w c
  ·rw[bD.1 c];exact l
 have q:∀w∈qx ws x,w.1.oneCell'=true:=λw c=>p w ((vM x ws).subset c);have D:Ctx (λs=>.agg [.v b,s]):=λs J V U h=>by simp only[SV.cL,aS,h]
 refine yh D (λe E=>?_) ?_;·obtain⟨y,F,rfl⟩:=dq.1 E;exact⟨rfl,CV (q y F)⟩
 refine aH [0,1,2,3,4,5] Proofs.Tryz.func145 rfl (by kernel_rfl) rfl λw=>?_;have i:ws.map kL++[[.string ⟨x.2.1.toArray⟩,x.1]]=(ws++[x]).map AU:=by rw[I' p,bq];rfl
 simp only[Proofs.Tryz.f145,fQ,Fb,zW,seval,f,l,n.row.dj];refine lU (X:=Mem) (λN=>M.le N) (λN=>([(2,true,.ptr 16 0 0 0),(3,true,.ptr 24 0 0 0),(4,true,.ptr 32 0 0 0),(5,true,.ptr 40 0 0 0)],[(104,.row 2 ((ws++[x]).map AU)),(40,.box [.v b,.own 104] none),(32,.box [.v (.slice none 0 0),.v (.slice none 0 0)] none),(24,.box [.v (.string ⟨x.2.1.toArray⟩),.v x.1] none),(16,.box [.v b,.v v] none)],N)) ?_ ?_
 ·refine Ja 10 [16,24] (tk3 [0,2,5,1,3] (.three 4 (.two 6 (.two 7 (tk3 [8] (.one 9 .done)) 9 (.one 7 (tk3 [8] .done))) 9 (.one 6 (.one 7 (tk3 [8] .done)))) 6 (.two 4 (.two 7 (tk3 [8] (.one 9 .done)) 9 (.one 7 (tk3 [8] .done))) 9 (.one 4 (.one 7 (tk3 [8] .done)))) 9 (.two 4 (.one 6 (.one 7 (tk3 [8] .done))) 6 (.one 4 (.one 7 (tk3 [8] .done)))))) (by kernel_rfl) (by kernel_rfl) λK=>?_;simp only[zW,seval,fl,fm,se3,RZ,l,mb g];refine⟨?_,⟨?_,?_⟩,?_,?_⟩;all_goals
   refine dE eh rfl rfl (Yq v ws M n.row (by omega)) rfl λG j=>?_;simp only[zW,seval,fl,fm,se3,RZ,l,mb g,mb m,f,ae,i];repeat' apply aa
   all_goals first|exact j|omega|exact⟨G,j,dO (df (k:=32) rfl) (dO (df (k:=24) rfl) (dO (df (k:=16) rfl) (aR (by simp only[zV,seval,hset]))))⟩
 ·intro N L;simp only[zW,seval];refine⟨rfl,oO (k:=104) 1002 rfl (λ_=>rfl) (λh=>by simp at h) λr cap sp u O=>?_⟩;refine Aw (t:=28) rfl rfl rfl rfl (by kernel_rfl) ⟨68,by kernel_rfl⟩ ?_;simp only[zV,seval,im,iq,ir,nzs,AO];refine j_ rfl rfl ?_;simp only[zW,seval,ae]at u⊢;refine CY 8016 40 1 AU 2 Nj (ws++[x]) (b:=r) (cap:=cap) (sp:=sp) (tb:=none) rfl rfl rfl rfl I9 rfl (by simp;omega) ⟨_,Proofs.Tryz.func195,by kernel_rfl,by kernel_rfl⟩ Yu (RX _ (by simp;omega)) λP z H=>?_;have d:=z.length_eq;have o:=RY (kO.1 A) B z H;subst o;rw[I' q,<-d];simp only[zV,seval,im,iq,ir,nzs,hset,f];refine .inr (.inr ⟨r,8016,cap,sp,?_,rfl,?_⟩);·rw[ae]
  ·rw[ae,d];exact u
end Go.X.Vo
namespace Go.X.Vo
open Go Go.X Go.RowKit Go.X.Bg Go.X.Nm Go.X.Bp Go.X.Sb
abbrev AV:=Int×List UInt8×List UInt8×Int×List UInt8
def Ns(o:AV):SV:=.agg [.v (.int .i64 o.1),.v (.string ⟨o.2.1.toArray⟩),.v (.string ⟨o.2.2.1.toArray⟩),.v (.int .i64 o.2.2.2.1),.v (.string ⟨o.2.2.2.2.toArray⟩)]
def tX(bag:List It)(l:List fy)(o:AV):St×Int:=if o.1=1 then sr bag l o.2.1 o.2.2.2.1 else if o.1=2 then qU bag l o.2.1 else if o.1=5 then nB bag l o.2.1 o.2.2.1 else if o.1=4 then pq bag l o.2.1 o.2.2.2.1 else mI bag l o.2.1 o.2.2.2.1 o.2.2.2.2
theorem Fc(bag:List It)(l:List fy)(o:AV):qp (tX bag l o).1.1 (tX bag l o).1.2=0:=by
 unfold tX;split;·exact IY _ _ _ _
 split;·exact IZ _ _ _
 split;·exact Gj _ _ _ _
 split;·exact I0 _ _ _ _
 ·exact Gk _ _ _ _ _
theorem Vu{bag:List It}{l:List fy}(o:AV)(h:qp bag l≠0):tX bag l o=(uk,qp bag l):=by unfold tX sr qU nB pq mI vH;simp only[h,ne_eq,gy,cR,ite_self]
theorem R1{bag:List It}{l:List fy}(o:AV)(h:qp bag l=0)(a:o.1≠1)(b:iD l o.2.1<0):tX bag l o=(uk,4):=by unfold tX qU nB pq mI vH;simp[h,a,b]
def mK(l:List fy)(i j:Nat):List fy:=l.set i ((wu l i).1,bg j jx++(wu l i).2.drop j)
theorem Jb{l:List fy}{i:Nat}{x:fy}(h:l[i]?=some x)(j:Nat):(mK l i j)[i]?=some (x.1,bg j jx++x.2.drop j):=by unfold mK;rw[ib h,mz (aI.1 h).1]
theorem Ls{l:List fy}{i:Nat}{x:fy}(h:l[i]?=some x):mK l i 0=l:=by unfold mK;rw[ib h];exact CX h
theorem O6{l:List fy}{i j:Nat}:(mK l i j).length=l.length:=by unfold mK;rw[eg]
theorem Lt{l:List fy}{i j:Nat}{x:fy}{y:gM}(h:l[i]?=some x)(a:x.2[j]?=some y)(bag:List It):kk ((x.2.take j).foldl fU bag) (mK l i j) i j=((x.2.take (j+1)).foldl fU bag,mK l i (j+1)):=by
 have c:=Jb h j;have b:=(aI.1 a).1;have d:(bg j jx++x.2.drop j)[j]?=some y:=by rw[nF (by simp),dT,Nat.sub_self,fx,eJ,a]
 unfold kk;rw[Gi c d,tq fU bag a,mB c];unfold mK;rw[ib h,List.set_set];have e:x.2.drop j=y::x.2.drop (j+1):=by rw[ft b,(aI.1 a).2]
 rw[e,List.set_append_right _ _ (by simp),dT,Nat.sub_self,List.set_cons_zero,List.replicate_succ',bN];rfl
theorem O7(l:List fy)(i j:Nat):(mK l i j).take i++(mK l i j).drop (i+1)=OY l i:=by unfold mK OY;rw[List.take_set_of_le (bc _),List.drop_set_of_lt (Nat.lt_succ_self _)]
theorem O8{l:List fy}{i j:Nat}{x:fy}(h:l[i]?=some x)(b:j<=x.2.length){y:fy}(a:y∈mK l i j):y∈l\/y.2.length=x.2.length:=by
 unfold mK at a;rw[ib h]at a;rcases List.mem_or_eq_of_mem_set a with a|rfl;·exact .inl a
 ·refine .inr ?_;simp only[aG,dT,aT];omega
theorem rdo(b v:ay)(bag:List It)(ws:List WV)(o:AV)(M:Mem)(J:RowM M b 4 (bag.map Bg.eG))(H:VolsM M v ws):Meets ab 87 [fQ b v,Ns o] M (No (λs=>.tup [s,.v (.int .i64 (tX bag (ws.map (·.2)) o).2)]) (tX bag (ws.map (·.2)) o).1):=by
 refine k_ (ku _) ?_;refine aH [0,1,2,3,4,5,6,7,8,9,10,11,13,17,26,30,37,49,52,53,61,62,63,84,91,115,116,117,118,122,148,152] Proofs.Tryz.func87 rfl (by kernel_rfl) rfl λw=>?_;obtain⟨k,n,Q,a,s⟩:=o;generalize f:tX bag (ws.map (·.2)) (k,n,Q,a,s)=c;have hC:=Yj b v bag ws M J H;have hF:=Yl b v ws n M H;simp only[fQ]at hC hF;simp only[Proofs.Tryz.f87,fQ,Ns,zW,seval];refine az ⟨rfl,rfl⟩ rfl hC ?_;by_cases K:qp bag (ws.map (·.2))=0;rotate_left;·have c1:=ax K;rw[Vu _ K]at f;subst f;simp only[zW,seval,c1];exact ic _ _ _
 obtain⟨hB,hV,_⟩:=lj K;have hVo:=gQ hV;have Z:=si hV;have hbl:=lr hB;rw[ae]at hVo;have R:∀w∈ws,w.2.2.length<=32:=λw D=>(hVo.2 w.2 (du D)).1;simp only[zW,seval,K];refine az ⟨rfl,rfl⟩ rfl hF ?_;by_cases hk1:k=1
 ·subst hk1;rw[show tX bag (ws.map (·.2)) (1,n,Q,a,s)=sr bag (ws.map (·.2)) n a from aF rfl]at f;unfold sr at f;rw[ai (λh=>h K)]at f;simp only[zW,seval];refine az ⟨rfl,rfl⟩ rfl (Bg.uW a 1 32 M) ?_;by_cases h3:1<=a/\a<=32;rotate_left;·have c3:=bI h3;rw[aF (by omega)]at f;subst f;simp only[zW,seval,c3];exact ic _ _ _
  have c3:=cy h3;rw[ai (by omega)]at f;have hFr:=RI b v ws n M H;simp only[fQ]at hFr;simp only[zW,seval,c3];refine az ⟨rfl,rfl⟩ rfl hFr ?_;by_cases h4:iO (ws.map (·.2)) n=0;rotate_left;·have c4:=ax h4;rw[aF h4]at f;subst f;simp only[zW,seval,c4];exact ic _ _ _
  rw[ai (λh=>h h4)]at f;subst f;obtain⟨f1,f2,f3⟩:=zo h4;obtain⟨m,rfl⟩:∃m:Nat,a=m:=⟨a.toNat,by omega⟩;simp only[zW,seval,h4];refine dV [16,24] (tk [0,1,3,2,4] (.one 5 (tk [6] (.one 7 (.one 8 (tk [9] .done)))))) (by kernel_rfl) (by kernel_rfl) λxs=>?_;simp only[zW,seval,fl,fm,fP,<-qh];refine⟨⟨⟨by omega,by omega⟩,by omega,by omega⟩,iZ (k:=360) rfl λu M3 q I=>?_⟩;simp only[zV,seval,im,iq,ir,nzs];refine dE (T:=λs=>.agg [.v b,s]) (zu b) rfl rfl (R0 b v ws (u,n,bg m jx) M3 J.dj J.sl (H.le q) I.dj I.sl Z (λy S=>f2 y.2 (du S)) (by omega)) rfl λU d=>?_;simp only[zV,seval,im,iq,ir,nzs,fl,fm,fP,J.dj];refine⟨q.dC d,q.dC d,.v b,.own 376,qx ws (u,n,bg m jx),rfl,?_,λk h=>(by cases h),⟨J.le (q.dC d),rfl⟩,λw D=>?_⟩;·rw[u6];rfl
  ·rcases CW D with D|rfl;·exact(H.blk w D).le (q.dC d)
   ·exact I.le d
 have ck1:=ax hk1;by_cases h2:iD (ws.map (·.2)) n<0;·have c2:=aK h2;rw[R1 (k,n,Q,a,s) K hk1 h2]at f;subst f;simp only[zW,seval,ck1,c2];exact ic _ _ _
 have c2:=ax h2;obtain⟨i,x,k1,L,k3,k4⟩:=oR h2;rw[k1]at c2⊢;by_cases hk2:k=2
 ·subst hk2;rw[show tX bag (ws.map (·.2)) (2,n,Q,a,s)=qU bag (ws.map (·.2)) n from rfl]at f;unfold qU at f;rw[ai (λh=>h K),ai h2,k1,aX]at f;subst f;obtain⟨_,V,W⟩:=iM H L;have g:=H.blk x (aL L);have hxl:=R x (aL L);simp only[zW,seval,ck1,c2,W,W.2,V.1,V.2,g.gC,g.sl,ae];refine bE (X:=Nat×ay×ay×List WV×Mem) (λz=>([(2,true,.ptr 16 0 0 0),(4,true,.ptr 32 0 0 0),(7,true,.v (.int .i64 i)),(61,true,.v (.int .i64 x.2.2.length)),(62,true,.v (.int .i64 z.1))],[(32,.box [.v (.slice none 0 0),.v (.slice none 0 0)] none),(16,.box [.v z.2.1,.v z.2.2.1] none)],z.2.2.2.2)) (λz=>(z.1<=x.2.2.length/\M.le z.2.2.2.2)/\(RowM z.2.2.2.2 z.2.1 4 (((x.2.2.take z.1).foldl fU bag).map Bg.eG)/\VolsM z.2.2.2.2 z.2.2.1 z.2.2.2.1)/\z.2.2.2.1.map (·.2)=mK (ws.map (·.2)) i z.1) (λz=>x.2.2.length-z.1) (0,b,v,ws,M) ⟨⟨bJ _,cg M⟩,⟨J,H⟩,(Ls k4).symm⟩ (aR ?_) ?_;·simp only[zV,seval,aZ]
  rintro⟨j,b3,v3,B,N⟩⟨⟨n1,nM⟩,⟨O,n3⟩,n4⟩;simp only at n1 nM O n3 n4;have hl3:B.length=ws.length:=by have :=aY dU n4;rwa[ae,O6,ae]at this
  have hli3:∀w∈B,w.2.2.length<=1000:=λw D=>by
   have K:w.2∈B.map (·.2):=du D;rw[n4]at K;rcases O8 k4 n1 K with K|K;·obtain⟨y,S,e⟩:=dq.1 K;rw[<-e];exact b6 (R y S) (by omega)
   ·omega
  by_cases hjl:j<x.2.2.length;·have d1:((j:Int)<(x.2.2.length:Int))=True:=aK (by omega);obtain⟨y,S,_⟩:=cE (l:=x.2.2) (i:=j) hjl;obtain⟨x3,hx3,e3⟩:=I4 n4 (Jb k4 j);have hT:=RO b3 v3 _ B i j N O n3 (pH _ hB) (by omega) hli3 hx3 (by rw[e3];simp only[aG,dT,aT];omega);rw[n4,Lt k4 S]at hT;simp only[fQ]at hT;simp only[zW,seval,d1];refine eZ (T:=λs=>s) (λ_ _=>rfl) rfl rfl hT λb4 v4 ws4 U d hw4 E F=>?_;simp only[zW,seval,fQ,cY,lo,hi,E.dj,F.row.dj];refine⟨by omega,(j+1,b4,v4,ws4,U),⟨⟨⟨by simp only;omega,nM.dC d⟩,⟨E,F⟩,hw4⟩,by simp only;omega⟩,aR ?_⟩;simp only[zV,seval,aJ]
  ·have d1:((j:Int)<(x.2.2.length:Int))=False:=ax (by omega);rw[bz (by omega)]at O;have hil:i<ws.length:=(aI.1 L).1;have hcap:=n3.row.1.2.2.1;rw[n3.row.gC,ae]at hcap;have s1:=n3.row.XO (lo:=0) (hi:=i) (by omega) (by rw[ae];omega);have s2:=n3.row.XO (lo:=i+1) (hi:=B.length) (by omega) (by rw[ae];omega);rw[cQ,iS,<-eH]at s1;rw[<-fI,<-eH,bz (by rw[aT];omega)]at s2;simp only[zW,seval,d1];refine dV [16] (tk [0,2,4,6,8,1,3,7,9,5,10] (.one 11 (.one 12 (tk [13] (.one 14 (tk [15] .done)))))) (by kernel_rfl) (by kernel_rfl) λxs=>?_;have ei:((i:Int)+1).toNat=i+1:=by omega
   simp only[zW,seval,fl,fm,fP,n3.row.gC,n3.row.sl,ae,cY,lo,hi,ei];refine⟨⟨by omega,by omega⟩,⟨by omega,by omega⟩,⟨⟨by omega,by omega⟩,by omega⟩,⟨s1.dj,s2.dj⟩,iZ (k:=648) rfl λv6 M6 h6 hv6=>?_⟩;simp only[zV,seval,im,iq,ir,nzs];refine dE eh rfl rfl (Vp kL v6 [(lC v3 2 0 i,B.take i),(lC v3 2 (i+1) B.length,B.drop (i+1))] M6 hv6 (λr hr=>?_) (by simp;omega)) rfl λM7 h7=>?_
   ·simp only[aV,cH,fK]at hr;rcases hr with rfl|rfl;·exact s1.le h6
    ·exact s2.le h6
   have h37:=h6.dC h7;simp only[zV,seval,im,iq,ir,nzs,fl,fm,fP,O.dj,h37];refine⟨mb O.sl,.v b3,.own 656,B.take i++B.drop (i+1),rfl,?_,λk h=>(by cases h),⟨?_,?_⟩,λw D=>?_⟩;·rw[bq,eH,fI,n4,O7];rfl
   ·simp only[wR,ib k4];exact O.le h37
   ·simp[IsRow,hget]
   ·have hw':w∈B:=by
     rcases bU.1 D with D|D;·exact cq D
     ·exact cG D
    exact(n3.blk w hw').le h37
 have ck2:=ax hk2;by_cases hk5:k=5
 ·subst hk5;rw[show tX bag (ws.map (·.2)) (5,n,Q,a,s)=nB bag (ws.map (·.2)) n Q from rfl]at f;unfold nB at f;rw[ai (λh=>h K),ai h2]at f;have hFr:=RI b v ws Q M H;simp only[fQ]at hFr;simp only[zW,seval,ck1,c2];refine az ⟨rfl,rfl⟩ rfl hFr ?_;by_cases h4:iO (ws.map (·.2)) Q=0;rotate_left;·have c4:=ax h4;rw[aF h4]at f;subst f;simp only[zW,seval,c4];exact ic _ _ _
  rw[ai (λh=>h h4),k1,aX]at f;subst f;obtain⟨f1,f2,f3⟩:=zo h4;obtain⟨_,V,W⟩:=iM H L;have g:=H.blk x (aL L);have hxl:=R x (aL L);simp only[zW,seval,h4];refine lU (X:=ay×Mem) (λz=>M.le z.2/\RowM z.2 z.1 3 (x.2.2.map gx)) (λz=>([(2,true,.ptr 16 0 0 0),(4,true,.ptr 32 0 0 0),(7,true,.v (.int .i64 i)),(11,true,.ptr 88 0 0 0)],[(840,.row 2 ((qx ws (z.1,Q,x.2.2)).map kL)),(88,.box [.v b,.own 840] none),(32,.box [.v (.slice none 0 0),.v (.slice none 0 0)] none),(16,.box [.v b,.v v] none)],z.2)) ?_ ?_
  ·refine dV [16,24] (tk [0,1,3,5,2,4,6,7,8] (.two 9 (tk [10] (.two 11 (.one 12 (.one 13 .done)) 12 (.one 11 (.one 13 .done)))) 12 (.one 9 (tk [10] (.one 11 (.one 13 .done)))))) (by kernel_rfl) (by kernel_rfl) λxs=>?_;simp only[zW,seval,fl,fm,fP,W,W.2,V.1,V.2,g.dj,g.sl];refine⟨?_,?_⟩
   ·refine dE eh rfl rfl (zj x.1 x.2.2 M g (by omega)) rfl λM1 G=>?_;simp only[zW,seval,fl,fm,fP];refine⟨G,?_,?_⟩;all_goals
     first|refine iZ (k:=824) rfl λu M3 q I=>?_|refine⟨G,iZ (k:=824) rfl λu M3 q I=>?_⟩
     simp only[zV,seval,im,iq,ir,nzs,fl,fm,fP];refine dE (T:=λs=>.agg [.v b,s]) (zu b) rfl rfl (R0 b v ws (u,Q,x.2.2) M3 J.dj J.sl (H.le (G.dC q)) I.dj I.sl Z (λy S=>f2 y.2 (du S)) (by omega)) rfl λU d=>?_;have P:=(G.dC q).dC d;simp only[zV,seval,im,iq,ir,nzs,fl,fm,fP,J.dj,P];first|exact⟨mb J.sl,(u,U),⟨P,I.le d⟩,Ent.heap (HEnt.untie (k:=32) rfl) (Ent.heap (HEnt.untie (k:=16) rfl) (Ent.of (by simp only[zV,seval,hset])))⟩|exact⟨(u,U),⟨P,I.le d⟩,dO (df (k:=32) rfl) (dO (df (k:=16) rfl) (aR (by simp only[zV,seval,hset])))⟩
   ·refine dE eh rfl rfl (zj x.1 x.2.2 M g (by omega)) rfl λM1 G=>?_;simp only[zW,seval,fl,fm,fP];refine⟨G,?_⟩;all_goals
     first|refine iZ (k:=824) rfl λu M3 q I=>?_|refine⟨G,CallK.pub (k:=824) rfl λu M3 q I=>?_⟩
     simp only[zV,seval,im,iq,ir,nzs,fl,fm,fP];refine dE (T:=λs=>.agg [.v b,s]) (zu b) rfl rfl (R0 b v ws (u,Q,x.2.2) M3 J.dj J.sl (H.le (G.dC q)) I.dj I.sl Z (λy S=>f2 y.2 (du S)) (by omega)) rfl λU d=>?_;have P:=(G.dC q).dC d;simp only[zV,seval,im,iq,ir,nzs,fl,fm,fP,J.dj,P];first|exact⟨mb J.sl,(u,U),⟨P,I.le d⟩,Ent.heap (HEnt.untie (k:=32) rfl) (Ent.heap (HEnt.untie (k:=16) rfl) (Ent.of (by simp only[zV,seval,hset])))⟩|exact⟨(u,U),⟨P,I.le d⟩,dO (df (k:=32) rfl) (dO (df (k:=16) rfl) (aR (by simp only[zV,seval,hset])))⟩
  rintro⟨u,N⟩⟨hN,I⟩;simp only at hN I;have hrf0:∀z∈bag,0<=z.2.2.2/\z.2.2.2<=1000000:=λz hz=>by have :=(jY (uZ hB z hz)).2.2;omega
  simp only[zW,seval];refine iZ (k:=840) rfl λv2 N1 hN1 hv2=>?_;have hNN:=hN.dC hN1;simp only[zV,seval,im,iq,ir,nzs];refine oo eh rfl rfl (zl b bag N1 (J.le hNN) (by omega)) λb2 N2 hN2 hb2 hbf=>?_;have hvN:=H.le hNN;obtain⟨_,V,W⟩:=iM (hvN.le hN2) L;have C:=(hvN.le hN2).blk x (aL L);simp only[zW,seval,W,W.2,V.1,V.2,C.gC,C.sl,ae,mb hb2.lS.sl,hb2.lS.dj,hv2.dj];refine bE (X:=Nat×Mem) (λz=>([(4,true,.ptr 32 0 0 0),(11,true,.ptr 88 0 0 0),(115,true,.v x.1),(116,true,.v (.int .i64 x.2.2.length)),(117,true,.v (.int .i64 z.1))],[(88,.box [.v b2,.v v2] none),(32,.box [.v (.slice none 0 0),.v (.slice none 0 0)] none)],z.2)) (λz=>(z.1<=x.2.2.length/\N1.le z.2)/\RowF z.2 b2 4 (((x.2.2.take z.1).foldl jy bag).map Bg.eG)) (λz=>x.2.2.length-z.1) (0,N2) ⟨⟨bJ _,hN2⟩,hb2⟩ (aR ?_) ?_;·simp only[zV,seval,aZ]
  rintro⟨j,N3⟩⟨⟨n1,nM⟩,O⟩;simp only at n1 nM O;clear W V C;obtain⟨_,V,W⟩:=iM (hvN.le nM) L;have C:=(hvN.le nM).blk x (aL L);by_cases hjl:j<x.2.2.length;rotate_left
  ·have d1:((j:Int)<(x.2.2.length:Int))=False:=ax (by omega);rw[bz (by omega)]at O;simp only[zW,seval,d1,O.lS.dj,hv2.dj];refine⟨.v b2,.v v2,qx ws (u,Q,x.2.2),rfl,?_,λk h=>(by cases h),⟨?_,hv2.le nM⟩,λw D=>?_⟩;·rw[u6];simp only[u7,ib k4]
   ·simp only[u7,ib k4];exact O.lS
   ·rcases CW D with D|rfl;·exact(hvN.le nM).blk w D
    ·exact I.le (hN1.dC nM)
  have d1:((j:Int)<(x.2.2.length:Int))=True:=aK (by omega);obtain⟨y,S,_⟩:=cE (l:=x.2.2) (i:=j) hjl;obtain⟨y0,y1,y2,yi⟩:=tO C S;have hst:=tq jy bag S;have hrf:=wS (x.2.2.take j) hrf0;have htl:(x.2.2.take j).length<=32:=by rw[a6];omega
  have hix:=E4 (x.2.2.take j) bag y;generalize(x.2.2.take j).foldl jy bag=Y at*;cases hq:y.1 with
   |false=>
    have e3:jy Y y=Y:=by
     unfold jy;rw[ai];rw[hix];unfold kp;rcases jV (ko y) bag 0 with⟨q1,_⟩|⟨k,z,q1,q2,q3,_⟩;·rw[q1];decide
     ·have :=(yf.1 q3).1;rw[hq]at this;cases this
    rw[e3]at hst;rw[hq]at y0;simp only[zW,seval,d1,yi,yi.2,y0.1,y0.2,y1.1,y1.2,y2.1,y2.2,cY,lo,hi];refine⟨by omega,(j+1,N3),⟨⟨⟨by simp only;omega,nM⟩,by simp only[hst];exact O⟩,by simp only;omega⟩,aR ?_⟩;simp only[zV,seval,aJ]
   |true=>
    rw[hq]at y0;have hF:=Bg.U9 b2 Y y N3 O.lS;simp only[Kc,hq]at hF;simp only[zW,seval,d1,yi,yi.2,y0.1,y0.2,y1.1,y1.2,y2.1,y2.2];refine oU 6 [88,104] (tk [0,2,4,1,3] (.one 5 .done)) (by kernel_rfl) (by kernel_rfl) λxs=>?_;simp only[zW,seval,fl,fm,fP];refine az ⟨rfl,rfl⟩ rfl hF ?_;have hgo:=zk ((gQ hV).2 x.2 (aL k4)).2.2 y (aL S);have hge:=Lh hgo hq;rcases jV (ko y) Y 0 with⟨q1,_⟩|⟨p,z,q1,q2,q3,_⟩;·rw[show fg (ko y) bag 0=kp Y y from hix.symm]at hge;exact absurd (by rw[show kp Y y=fg (ko y) Y 0 from rfl,q1];decide) hge
    rw[b7]at q1;have e3:jy Y y=nN Y p (z.2.2.2+1):=by unfold jy;rw[show kp Y y=(p:Int)from q1,aF (by omega),aX,lP q2]
    rw[e3]at hst;have hzr:=hrf z (aL q2);have hkl:=(aI.1 q2).1;obtain⟨_,⟨_,z3⟩,zi⟩:=tN O.lS q2;have hg:=pG q2;rw[q1];simp only[zW,seval,fl,fm,fP,zi,zi.2,z3.1,z3.2,Bl,cY,lo,hi];refine⟨⟨by omega,by omega⟩,?_⟩;refine vP (es:=Y.map Bg.eG) rfl rfl (of_eq_true so3) rfl rfl rfl rfl (by rw[sh3];rfl) O (hbf.CQ hNN) (by rw[ae];exact hkl) (bc 4) λU E hr4=>?_;have hr5:RowF U b2 4 ((nN Y p (z.2.2.2+1)).map Bg.eG):=by rw[hg]at hr4;rw[<-sk q2];exact hr4
    have d:=Gl nM hbf E;simp only[zW,seval,cY,lo,hi];refine⟨by omega,(j+1,U),⟨⟨⟨by simp only;omega,d⟩,by simp only[hst];exact hr5⟩,by simp only;omega⟩,dO (df (k:=88) rfl) (dO (df (k:=32) rfl) (aR ?_))⟩;simp only[zV,seval,aJ,hset]
 have ck5:=ax hk5;have hd:tX bag (ws.map (·.2)) (k,n,Q,a,s)=if k=4 then pq bag (ws.map (·.2)) n a else mI bag (ws.map (·.2)) n a s:=by unfold tX;simp only[hk1,hk2,hk5,cA]
 rw[hd]at f;obtain⟨_,V,W⟩:=iM H L;have g:=H.blk x (aL L);have hxl:=R x (aL L);have hbk:=s_ k1 k4;simp only[zW,seval,ck1,ck2,ck5,c2];refine dV [16,24] (tk [0,2,4,1,3,5,6,7,8,9] (.one 10 (tk [11] .done))) (by kernel_rfl) (by kernel_rfl) λxs=>?_;simp only[zW,seval,fl,fm,fP,W,W.2,V.1,V.2,g.gC,g.sl,ae,cY,lo,hi];refine⟨by omega,az ⟨rfl,rfl⟩ rfl (Bg.uW a 0 ((x.2.2.length:Int)-1) M) ?_⟩;by_cases h3:0<=a/\a<=(x.2.2.length:Int)-1;rotate_left
 ·have c3:=bI h3;have hne:(1:Int)≠0:=by decide
  have hp:vH bag (ws.map (·.2)) n a=1:=by unfold vH;rw[ai (λh=>h K),ai h2,hbk,aF (by omega)]
  unfold pq mI at f;rw[hp,aF hne,aF hne,ite_self]at f;subst f;simp only[zW,seval,fl,fm,fP,c3];exact ic _ _ _
 have c3:=cy h3;have hp:vH bag (ws.map (·.2)) n a=0:=by unfold vH;rw[ai (λh=>h K),ai h2,hbk,ai (by omega)]
 unfold pq mI at f;have hzz:¬((0:Int)≠0):=λh=>h rfl;rw[hp,ai hzz,ai hzz,k1,aX]at f;obtain⟨m,rfl⟩:∃m:Nat,a=m:=⟨a.toNat,by omega⟩;rw[aX]at f;have hT:=RO b v bag ws i m M J H hB (by omega) (λw D=>b6 (R w D) (by omega)) L (by omega);have hW:=Yt b v bag ws i m s M J H hB (by omega) (λw D=>b6 (R w D) (by omega)) L (by omega);simp only[fQ]at hT hW;by_cases hk4:k=4;·have ck4:=aK hk4;rw[aF hk4]at f;subst f;simp only[zW,seval,fl,fm,fP,c3,ck4];refine eZ (T:=λs=>s) (λ_ _=>rfl) rfl rfl hT λb4 v4 ws4 U d hw4 E F=>?_;simp only[zW,seval,fQ,E.dj,F.row.dj];exact⟨.v b4,.v v4,ws4,rfl,hw4,λk h=>(by cases h),⟨E,F.row⟩,F.blk⟩
 ·have ck4:=ax hk4;rw[ai hk4]at f;subst f;generalize tg bag (ws.map (·.2)) i m s=A at hW⊢;simp only[zW,seval,fl,fm,fP,c3,ck4];refine eZ (T:=λt=>.tup [t,.v (.int .i64 A.2)]) (λ_ _=>rfl) rfl rfl hW λb4 v4 ws4 U d hw4 E F=>?_;simp only[zW,seval,fQ,E.dj,F.row.dj];exact⟨.v b4,.v v4,ws4,rfl,hw4,λk h=>(by cases h),⟨E,F.row⟩,F.blk⟩
end Go.X.Vo
namespace Go.X.Vo
open Go Go.X Go.RowKit Go.X.Bg Go.X.Nm
theorem O9{ws:List WV}(h:(ws.map (·.2)).Pairwise (λa b=>cd a.1 b.1=true)){i j:Nat}{x y:WV}(hi:ws[i]?=some x)(f:ws[j]?=some y)(e:x.2.1=y.2.1):i=j:=by
 have l:=(aI.1 hi).1;have m:=(aI.1 f).1;have g:ws[i]=x:=(aI.1 hi).2;have k:ws[j]=y:=(aI.1 f).2;rcases Nat.lt_trichotomy i j with c|d|c;·have :=iI.1 h i j (by rw[ae];omega) (by rw[ae];omega) c;rw[iH,iH,g,k,e,sg]at this;cases this
 ·exact d
 ·have :=iI.1 h j i (by rw[ae];omega) (by rw[ae];omega) c;rw[iH,iH,g,k,e,sg]at this;cases this
theorem Vv{bag:List It}{ws:List WV}{es:List (List UInt8×ay)}{M:Mem}(h:TxtM bag ws es M)(m:(ws.map (·.2)).Pairwise (λa b=>cd a.1 b.1=true)){j:Nat}{x:WV}(g:ws[j]?=some x):∃u,((nJ x.2.1 es 0).map (·.2)).getD (.slice none 0 0)=u/\RowM M u 1 ((x.2.2.map (tE bag)).map B5):=by
 obtain⟨u,i,n⟩:=h.2 j x g;rcases lM x.2.1 es 0 with⟨_,c⟩|⟨k,v,o,c⟩;·exact absurd rfl (c _ (aL i))
 ·have d:k<ws.length:=by rw[<-h.1];exact(aI.1 c).1
  obtain⟨q,l,_⟩:=h.2 k ws[k] (aP d);rw[c]at l;have e:=d_ l;have f:=O9 m (aP d) g (aY yF e).symm;subst f;rw[i]at c;have p:=d_ c;refine⟨u,?_,n⟩;rw[o];exact(aY Prod.snd p).symm
theorem Vw(bag:List It)(id:gM):(tE bag id).drop 1=if id.1=true then wt bag id else[]:=by unfold tE;split<;>rfl
end Go.X.Vo
namespace Go.X.Tv
open Go Go.X Go.X.Pol Go.X.Pl Go.X.Rp Go.X.Md Go.X.Mv Go.X.Pt
def Yw(p:Nat):List UInt8:=[bo (p/16777216),bo (p/65536),bo (p/256),bo p]
theorem Fe(x:Nat):bo (x%256)=bo x:=by apply rJ.1;simp
theorem Ay(x:Nat):bo (ig.wrap (x:Int)).toNat=bo x:=by
 have h:(ig.wrap (x:Int)).toNat=x%256:=by rw[IntKind.wrap_u8];omega
 rw[h,Fe]
theorem yk(p:Nat):(Yw p).length=4:=rfl
theorem Jc(p:Nat)(M:Mem)(e:p<=2147483647):Meets ab 152 [.v (.int .i64 (p:Int))] M λr _ _=>r=.v (.string ⟨(Yw p).toArray⟩):=by refine aH [0,2] Proofs.Tryz.func152 rfl (by kernel_rfl) rfl λw=>?_;have a:(p:Int).tdiv 16777216=((p/16777216:Nat):Int):=(Int.ofNat_tdiv p 16777216).symm;have b:(p:Int).tdiv 65536=((p/65536:Nat):Int):=(Int.ofNat_tdiv p 65536).symm;have c:(p:Int).tdiv 256=((p/256:Nat):Int):=(Int.ofNat_tdiv p 256).symm;have d:∀x:Nat,(x:Int).tmod 256=((x%256:Nat):Int):=λx=>(Int.ofNat_tmod x 256).symm;simp only[Proofs.Tryz.f152,zV,seval,j8,a,b,c,d,Ay,Fe,cY,lo,hi];exact⟨by omega,(λh=>by cases h),by omega,(λh=>by cases h),by omega,(λh=>by cases h),(λh=>by cases h),rfl⟩
theorem R2(m:Nat)(a:m≠0)(c:m<=2147483647):∀(s:List UInt8)(p:Nat),p<=1073741824->xl m s p<=1073741824|[],p,h=>h|b::s,p,h=>by simp only[xl,lf];exact R2 m a c s _ (F8 a c)
/-!### verifying -/
def abn(s:Int):Prop:=0<=s/\s<=2147483647
instance(s:Int):Decidable (abn s):=inferInstanceAs(Decidable (_/\_))
/-!### the document's sides -/
end Go.X.Tv
namespace Go.X.Lg
open Go Go.X Go.RowKit Go.X.Pl Go.X.Nm Go.X.Tv
abbrev Op:=Int×List UInt8×List UInt8×Int×List UInt8
def tY(o:Op):SV:=.agg [.v (.int .i64 o.1),.v (.string ⟨o.2.1.toArray⟩),.v (.string ⟨o.2.2.1.toArray⟩),.v (.int .i64 o.2.2.2.1),.v (.string ⟨o.2.2.2.2.toArray⟩)]
def qu(o:Op):Int:=if o.1<1\/5<o.1 then 1 else if uX o.2.1=false\/(o.1=5/\uX o.2.2.1=false)then 3 else if o.2.2.2.1<0\/32<o.2.2.2.1 then 1 else if 64<o.2.2.2.2.length then 2 else if o.1≠5/\o.2.2.1≠[]then 3 else if o.1≠3/\o.2.2.2.2≠[]then 3 else if(o.1=2\/o.1=5)/\o.2.2.2.1≠0 then 3 else 0
theorem wX(x a b:Int)(M:Mem):Meets ab 39 [.v (.int .i64 x),.v (.int .i64 a),.v (.int .i64 b)] M λr _ _=>r=.v (.bool (aU (a<=x/\x<=b))):=by refine aH [0,1,2,6] PW rfl (by kernel_rfl) rfl λw=>?_;simp only[PX,zV,seval];by_cases c:a<=x<;>by_cases d:x<=b<;>simp[c,d]
theorem Lu(o:Op)(M:Mem):Meets ab 222 [tY o] M λr _ _=>r=.v (.int .i64 (qu o)):=by
 refine aH [0,1,2,10,25,33,37,70] Proofs.Tryz.func222 rfl (by kernel_rfl) rfl λw=>?_;generalize b:qu o=c;obtain⟨k,n,t,a,x⟩:=o;unfold qu at b;simp only at b;by_cases C:k<1;·have B:=aK C;rw[aF (.inl C)]at b;subst b;simp only[xC,tY,zW,seval,B]
 have B:=ax C;by_cases z:5<k;·have D:=aK z;rw[aF (.inr z)]at b;subst b;simp only[xC,tY,zW,seval,B,D]
 have D:=ax z;rw[ai (by omega)]at b;simp only[xC,tY,zW,seval,B,D];refine az ⟨rfl,rfl⟩ rfl (Iy n M) ?_;cases F:uX n with
  |false=>rw[F,aF (by simp)]at b;subst b;simp only[zW,seval]
  |true=>
   rw[F]at b;have E:k=1\/k=2\/k=3\/k=4\/k=5:=by omega
   rcases E with rfl|rfl|rfl|rfl|rfl
   ·simp only[zW,seval];rw[ai (by simp)]at b;by_cases j:a<0;·have d:=aK j;rw[aF (.inl j)]at b;subst b;simp only[zW,seval,d];intro s;omega
    have d:=ax j;by_cases l:32<a;·have g:=aK l;rw[aF (.inr l)]at b;subst b;simp only[zW,seval,d,g];intro s;omega
    have g:=ax l;rw[ai (by omega)]at b;by_cases u:64<x.length;·have i:((64:Int)<(x.length:Int))=True:=aK (by omega);rw[aF u]at b;subst b;simp only[zW,seval,d,g,i];intro s y;omega
    have i:((64:Int)<(x.length:Int))=False:=ax (by omega);rw[ai u]at b;by_cases e:t=[];rotate_left;·have m:=ax e;rw[aF ⟨by decide,e⟩]at b;subst b;simp only[zW,seval,d,g,i,m]
    have m:=aK e;rw[ai (λh=>h.2 e)]at b;by_cases f:x=[];rotate_left;·have q:=ax f;rw[aF ⟨by decide,f⟩]at b;subst b;simp only[zW,seval,d,g,i,m,q]
    have q:=aK f;rw[ai (λh=>h.2 f)]at b;rw[ai (λh=>absurd h.1 (by decide))]at b;subst b;simp only[zW,seval,d,g,i,m,q]
   ·simp only[zW,seval];rw[ai (by simp)]at b;by_cases j:a<0;·have d:=aK j;rw[aF (.inl j)]at b;subst b;simp only[zW,seval,d];intro s;omega
    have d:=ax j;by_cases l:32<a;·have g:=aK l;rw[aF (.inr l)]at b;subst b;simp only[zW,seval,d,g];intro s;omega
    have g:=ax l;rw[ai (by omega)]at b;by_cases u:64<x.length;·have i:((64:Int)<(x.length:Int))=True:=aK (by omega);rw[aF u]at b;subst b;simp only[zW,seval,d,g,i];intro s y;omega
    have i:((64:Int)<(x.length:Int))=False:=ax (by omega);rw[ai u]at b;by_cases e:t=[];rotate_left;·have m:=ax e;rw[aF ⟨by decide,e⟩]at b;subst b;simp only[zW,seval,d,g,i,m]
    have m:=aK e;rw[ai (λh=>h.2 e)]at b;by_cases f:x=[];rotate_left;·have q:=ax f;rw[aF ⟨by decide,f⟩]at b;subst b;simp only[zW,seval,d,g,i,m,q]
    have q:=aK f;rw[ai (λh=>h.2 f)]at b;by_cases p:a=0;rotate_left;·have A:=ax p;rw[aF ⟨by decide,p⟩]at b;subst b;simp only[zW,seval,d,g,i,m,q,A]
    have A:=aK p;rw[ai (λh=>h.2 p)]at b;subst b;simp only[zW,seval,d,g,i,m,q,A]
   ·simp only[zW,seval];rw[ai (by simp)]at b;by_cases j:a<0;·have d:=aK j;rw[aF (.inl j)]at b;subst b;simp only[zW,seval,d];intro s;omega
    have d:=ax j;by_cases l:32<a;·have g:=aK l;rw[aF (.inr l)]at b;subst b;simp only[zW,seval,d,g];intro s;omega
    have g:=ax l;rw[ai (by omega)]at b;by_cases u:64<x.length;·have i:((64:Int)<(x.length:Int))=True:=aK (by omega);rw[aF u]at b;subst b;simp only[zW,seval,d,g,i];intro s y;omega
    have i:((64:Int)<(x.length:Int))=False:=ax (by omega);rw[ai u]at b;by_cases e:t=[];rotate_left;·have m:=ax e;rw[aF ⟨by decide,e⟩]at b;subst b;simp only[zW,seval,d,g,i,m]
    have m:=aK e;rw[ai (λh=>h.2 e)]at b;rw[ai (λh=>h.1 rfl)]at b;rw[ai (λh=>absurd h.1 (by decide))]at b;subst b;simp only[zW,seval,d,g,i,m]
   ·simp only[zW,seval];rw[ai (by simp)]at b;by_cases j:a<0;·have d:=aK j;rw[aF (.inl j)]at b;subst b;simp only[zW,seval,d];intro s;omega
    have d:=ax j;by_cases l:32<a;·have g:=aK l;rw[aF (.inr l)]at b;subst b;simp only[zW,seval,d,g];intro s;omega
    have g:=ax l;rw[ai (by omega)]at b;by_cases u:64<x.length;·have i:((64:Int)<(x.length:Int))=True:=aK (by omega);rw[aF u]at b;subst b;simp only[zW,seval,d,g,i];intro s y;omega
    have i:((64:Int)<(x.length:Int))=False:=ax (by omega);rw[ai u]at b;by_cases e:t=[];rotate_left;·have m:=ax e;rw[aF ⟨by decide,e⟩]at b;subst b;simp only[zW,seval,d,g,i,m]
    have m:=aK e;rw[ai (λh=>h.2 e)]at b;by_cases f:x=[];rotate_left;·have q:=ax f;rw[aF ⟨by decide,f⟩]at b;subst b;simp only[zW,seval,d,g,i,m,q]
    have q:=aK f;rw[ai (λh=>h.2 f)]at b;rw[ai (λh=>absurd h.1 (by decide))]at b;subst b;simp only[zW,seval,d,g,i,m,q]
   ·simp only[zW,seval];refine az ⟨rfl,rfl⟩ rfl (Iy t M) ?_;cases G:uX t with
     |false=>rw[G,aF (by simp)]at b;subst b;simp only[zW,seval]
     |true=>
      rw[G,ai (by simp)]at b;simp only[zW,seval];by_cases j:a<0;·have d:=aK j;rw[aF (.inl j)]at b;subst b;simp only[zW,seval,d];intro s;omega
      have d:=ax j;by_cases l:32<a;·have g:=aK l;rw[aF (.inr l)]at b;subst b;simp only[zW,seval,d,g];intro s;omega
      have g:=ax l;rw[ai (by omega)]at b;by_cases u:64<x.length;·have i:((64:Int)<(x.length:Int))=True:=aK (by omega);rw[aF u]at b;subst b;simp only[zW,seval,d,g,i];intro s y;omega
      have i:((64:Int)<(x.length:Int))=False:=ax (by omega);rw[ai u]at b;rw[ai (λh=>h.1 rfl)]at b;by_cases f:x=[];rotate_left;·have q:=ax f;rw[aF ⟨by decide,f⟩]at b;subst b;simp only[zW,seval,d,g,i,q]
      have q:=aK f;rw[ai (λh=>h.2 f)]at b;by_cases p:a=0;rotate_left;·have A:=ax p;rw[aF ⟨by decide,p⟩]at b;subst b;simp only[zW,seval,d,g,i,q,A]
      have A:=aK p;rw[ai (λh=>h.2 p)]at b;subst b;simp only[zW,seval,d,g,i,q,A]
theorem Jd(o:Op)(M:Mem):Meets ab 86 [tY o] M λr _ _=>r=.v (.int .i64 (qu o)):=by
 refine aH [0,1,2,3,8,22,27,32] Proofs.Tryz.func86 rfl (by kernel_rfl) rfl λw=>?_;generalize b:qu o=c;obtain⟨k,n,t,a,x⟩:=o;unfold qu at b;simp only at b;by_cases C:1<=k/\k<=5;rotate_left;·have A:=ax C;rw[aF (by omega)]at b;subst b;simp only[Mn,tY,zW,seval];refine az ⟨rfl,rfl⟩ rfl (wX k 1 5 M) ?_;simp only[zW,seval,A]
 have A:=aK C;rw[ai (by omega)]at b;simp only[Mn,tY,zW,seval];refine az ⟨rfl,rfl⟩ rfl (wX k 1 5 M) ?_;simp only[zW,seval,A];refine az ⟨rfl,rfl⟩ rfl (F_ n M) ?_;cases D:uX n with
  |false=>rw[D,aF (by simp)]at b;subst b;simp only[zW,seval]
  |true=>
   rw[D]at b;have B:k=1\/k=2\/k=3\/k=4\/k=5:=by omega
   rcases B with rfl|rfl|rfl|rfl|rfl
   ·simp only[zW,seval];rw[ai (by simp)]at b;refine az ⟨rfl,rfl⟩ rfl (wX a 0 32 M) ?_;by_cases s:0<=a/\a<=32;rotate_left;·have f:=ax s;rw[aF (by omega)]at b;subst b;simp only[zW,seval,f]
    have f:=aK s;rw[ai (by omega)]at b;by_cases u:64<x.length;·have j:((64:Int)<(x.length:Int))=True:=aK (by omega);rw[aF u]at b;subst b;simp only[zW,seval,f,j]
    have j:((64:Int)<(x.length:Int))=False:=ax (by omega);rw[ai u]at b;by_cases g:t=[];rotate_left;·have m:=ax g;rw[aF ⟨by decide,g⟩]at b;subst b;simp only[zW,seval,f,j,m]
    have m:=aK g;rw[ai (λh=>h.2 g)]at b;by_cases d:x=[];rotate_left;·have l:=ax d;rw[aF ⟨by decide,d⟩]at b;subst b;simp only[zW,seval,f,j,m,l]
    have l:=aK d;rw[ai (λh=>h.2 d)]at b;rw[ai (λh=>absurd h.1 (by decide))]at b;subst b;by_cases i:a=0;·have q:=aK i;simp only[zW,seval,f,j,m,l,q]
    ·have q:=ax i;simp only[zW,seval,f,j,m,l,q]
   ·simp only[zW,seval];rw[ai (by simp)]at b;refine az ⟨rfl,rfl⟩ rfl (wX a 0 32 M) ?_;by_cases s:0<=a/\a<=32;rotate_left;·have f:=ax s;rw[aF (by omega)]at b;subst b;simp only[zW,seval,f]
    have f:=aK s;rw[ai (by omega)]at b;by_cases u:64<x.length;·have j:((64:Int)<(x.length:Int))=True:=aK (by omega);rw[aF u]at b;subst b;simp only[zW,seval,f,j]
    have j:((64:Int)<(x.length:Int))=False:=ax (by omega);rw[ai u]at b;by_cases g:t=[];rotate_left;·have m:=ax g;rw[aF ⟨by decide,g⟩]at b;subst b;simp only[zW,seval,f,j,m]
    have m:=aK g;rw[ai (λh=>h.2 g)]at b;by_cases d:x=[];rotate_left;·have l:=ax d;rw[aF ⟨by decide,d⟩]at b;subst b;simp only[zW,seval,f,j,m,l]
    have l:=aK d;rw[ai (λh=>h.2 d)]at b;by_cases i:a=0;rotate_left;·have q:=ax i;rw[aF ⟨by decide,i⟩]at b;subst b;simp only[zW,seval,f,j,m,l,q]
    have q:=aK i;rw[ai (λh=>h.2 i)]at b;subst b;simp only[zW,seval,f,j,m,l,q]
   ·simp only[zW,seval];rw[ai (by simp)]at b;refine az ⟨rfl,rfl⟩ rfl (wX a 0 32 M) ?_;by_cases s:0<=a/\a<=32;rotate_left;·have f:=ax s;rw[aF (by omega)]at b;subst b;simp only[zW,seval,f]
    have f:=aK s;rw[ai (by omega)]at b;by_cases u:64<x.length;·have j:((64:Int)<(x.length:Int))=True:=aK (by omega);rw[aF u]at b;subst b;simp only[zW,seval,f,j]
    have j:((64:Int)<(x.length:Int))=False:=ax (by omega);rw[ai u]at b;by_cases g:t=[];rotate_left;·have m:=ax g;rw[aF ⟨by decide,g⟩]at b;subst b;simp only[zW,seval,f,j,m]
    have m:=aK g;rw[ai (λh=>h.2 g)]at b;rw[ai (λh=>h.1 rfl)]at b;have E:∀p:Prop,(x=[]\/p)=(x=[]\/p):=λ_=>rfl;rw[ai (λh=>absurd h.1 (by decide))]at b;subst b;by_cases i:a=0
    ·have q:=aK i;by_cases d:x=[];·have l:=aK d;simp only[zW,seval,f,j,m,l,q]
     ·have l:=ax d;simp only[zW,seval,f,j,m,l,q]
    ·have q:=ax i;by_cases d:x=[];·have l:=aK d;simp only[zW,seval,f,j,m,l,q]
     ·have l:=ax d;simp only[zW,seval,f,j,m,l,q]
   ·simp only[zW,seval];rw[ai (by simp)]at b;refine az ⟨rfl,rfl⟩ rfl (wX a 0 32 M) ?_;by_cases s:0<=a/\a<=32;rotate_left;·have f:=ax s;rw[aF (by omega)]at b;subst b;simp only[zW,seval,f]
    have f:=aK s;rw[ai (by omega)]at b;by_cases u:64<x.length;·have j:((64:Int)<(x.length:Int))=True:=aK (by omega);rw[aF u]at b;subst b;simp only[zW,seval,f,j]
    have j:((64:Int)<(x.length:Int))=False:=ax (by omega);rw[ai u]at b;by_cases g:t=[];rotate_left;·have m:=ax g;rw[aF ⟨by decide,g⟩]at b;subst b;simp only[zW,seval,f,j,m]
    have m:=aK g;rw[ai (λh=>h.2 g)]at b;by_cases d:x=[];rotate_left;·have l:=ax d;rw[aF ⟨by decide,d⟩]at b;subst b;simp only[zW,seval,f,j,m,l]
    have l:=aK d;rw[ai (λh=>h.2 d)]at b;rw[ai (λh=>absurd h.1 (by decide))]at b;subst b;by_cases i:a=0;·have q:=aK i;simp only[zW,seval,f,j,m,l,q]
    ·have q:=ax i;simp only[zW,seval,f,j,m,l,q]
   ·simp only[zW,seval];refine az ⟨rfl,rfl⟩ rfl (F_ t M) ?_;cases z:uX t with
     |false=>rw[z,aF (by simp)]at b;subst b;simp only[zW,seval]
     |true=>
      rw[z,ai (by simp)]at b;simp only[zW,seval];refine az ⟨rfl,rfl⟩ rfl (wX a 0 32 M) ?_;by_cases s:0<=a/\a<=32;rotate_left;·have f:=ax s;rw[aF (by omega)]at b;subst b;simp only[zW,seval,f]
      have f:=aK s;rw[ai (by omega)]at b;by_cases u:64<x.length;·have j:((64:Int)<(x.length:Int))=True:=aK (by omega);rw[aF u]at b;subst b;simp only[zW,seval,f,j]
      have j:((64:Int)<(x.length:Int))=False:=ax (by omega);rw[ai u]at b;rw[ai (λh=>h.1 rfl)]at b;have y:(t=[])=False:=ax (λe=>by rw[e]at z;cases z);by_cases d:x=[];rotate_left;·have l:=ax d;rw[aF ⟨by decide,d⟩]at b;subst b;simp only[zW,seval,f,j,y,l]
      have l:=aK d;rw[ai (λh=>h.2 d)]at b;by_cases i:a=0;rotate_left;·have q:=ax i;rw[aF ⟨by decide,i⟩]at b;subst b;simp only[zW,seval,f,j,y,l,q]
      have q:=aK i;rw[ai (λh=>h.2 i)]at b;subst b;simp only[zW,seval,f,j,y,l,q]
end Go.X.Lg
namespace Go.X.Vo
open Go Go.X Go.RowKit Go.X.Bg Go.X.Nm Go.X.Bp Go.X.Sb
def Hi(bag:List It)(l:List fy)(o:AV):St×Int:=if Lg.qu o≠0 then(uk,Lg.qu o)else tX bag l o
theorem R3{o:AV}(h:Lg.qu o=0):1<=o.1/\o.1<=5:=by
 unfold Lg.qu at h;split at h;·cases h
 ·omega
theorem ldo(b v:ay)(bag:List It)(ws:List WV)(o:AV)(M:Mem)(x:RowM M b 4 (bag.map Bg.eG))(y:VolsM M v ws):Meets ab 174 [fQ b v,Ns o] M (No (λs=>.tup [s,.v (.int .i64 (Hi bag (ws.map (·.2)) o).2)]) (Hi bag (ws.map (·.2)) o).1):=by
 refine aH [0,1,2,3,4,5,6,10,14,15,25,33,45] Proofs.Tryz.func174 rfl (by kernel_rfl) rfl λw=>?_;have J:=Lg.Lu o M;simp only[Lg.tY]at J;generalize j:Hi bag (ws.map (·.2)) o=c;unfold Hi at j;simp only[Proofs.Tryz.f174,fQ,Ns,zW,seval,x.dj,y.row.dj];refine az ⟨rfl,rfl⟩ rfl J ?_;by_cases A:Lg.qu o=0;rotate_left;·have q:=ax A;rw[aF A]at j;subst j;simp only[zW,seval,q];exact⟨_,_,[],rfl,rfl,bY _ _,gi _|>.2⟩
 rw[ai (λh=>h A)]at j;obtain⟨E,F⟩:=R3 A;obtain⟨k,n,t,a,s⟩:=o;simp only at E F;simp only[zW,seval,A];by_cases u:k=1;·have q:=aK u;have f:=abk b v bag ws n a M x y;rw[show tX bag (ws.map (·.2)) (k,n,t,a,s)=sr bag (ws.map (·.2)) n a by unfold tX;rw[aF u]]at j;rw[j]at f;simp only[fQ]at f;simp only[zW,seval,q];refine eZ (T:=λs=>.tup [s,.v (.int .i64 c.2)]) (λ_ _=>rfl) rfl rfl f λl m g C p i d e=>?_;simp only[zW,seval,fQ,d.dj,e.row.dj];exact⟨l,m,g,rfl,i,d,e⟩
 have q:=ax u;by_cases z:k=2;·have B:=aK z;have f:=aaf b v bag ws n M x y;rw[show tX bag (ws.map (·.2)) (k,n,t,a,s)=qU bag (ws.map (·.2)) n by unfold tX;rw[ai u,aF z]]at j;rw[j]at f;simp only[fQ]at f;simp only[zW,seval,q,B];refine eZ (T:=λs=>.tup [s,.v (.int .i64 c.2)]) (λ_ _=>rfl) rfl rfl f λl m g C p i d e=>?_;simp only[zW,seval,fQ,d.dj,e.row.dj];exact⟨l,m,g,rfl,i,d,e⟩
 have B:=ax z;by_cases K:k=3;·have D:=aK K;have f:=Yr b v bag ws n a s M x y;rw[show tX bag (ws.map (·.2)) (k,n,t,a,s)=mI bag (ws.map (·.2)) n a s by unfold tX;rw[ai u,ai z,ai (by omega),ai (by omega)]]at j;rw[j]at f;simp only[fQ]at f;simp only[zW,seval,q,B,D];refine eZ (T:=λs=>.tup [s,.v (.int .i64 c.2)]) (λ_ _=>rfl) rfl rfl f λl m g C p i d e=>?_;simp only[zW,seval,fQ,d.dj,e.row.dj];exact⟨l,m,g,rfl,i,d,e⟩
 have D:=ax K;by_cases G:k=4;·have I:=aK G;have f:=(W8 b v bag ws n a M x y).sS (λr H N _ h=>h.Vl);rw[show tX bag (ws.map (·.2)) (k,n,t,a,s)=pq bag (ws.map (·.2)) n a by unfold tX;rw[ai u,ai z,ai (by omega),aF G]]at j;rw[j]at f;simp only[fQ]at f;simp only[zW,seval,q,B,D,I];refine eZ (T:=λs=>.tup [s,.v (.int .i64 c.2)]) (λ_ _=>rfl) rfl rfl f λl m g C p i d e=>?_;simp only[zW,seval,fQ,d.dj,e.row.dj];exact⟨l,m,g,rfl,i,d,e⟩
 have I:=ax G;have f:=Ys b v bag ws n t M x y;rw[show tX bag (ws.map (·.2)) (k,n,t,a,s)=nB bag (ws.map (·.2)) n t by unfold tX;rw[ai u,ai z,aF (by show k=5;omega)]]at j;rw[j]at f;simp only[fQ]at f;simp only[zW,seval,q,B,D,I];refine eZ (T:=λs=>.tup [s,.v (.int .i64 c.2)]) (λ_ _=>rfl) rfl rfl f λl m g C p i d e=>?_;simp only[zW,seval,fQ,d.dj,e.row.dj];exact⟨l,m,g,rfl,i,d,e⟩
end Go.X.Vo
namespace Go.X.Lg
open Go Go.X Go.RowKit Go.X.Pl Go.X.Nm Go.X.Tv
def rA(s:List UInt8):List UInt8:=bo s.length::s
def lu(o:Op):List UInt8:=bo o.1.toNat::bo o.2.2.2.1.toNat::(rA o.2.1++(rA o.2.2.1++rA o.2.2.2.2))
theorem yl{s:List UInt8}(h:uX s=true):0<s.length/\s.length<=12:=by unfold uX at h;rw[ba,br]at h;exact h.1
theorem CZ{o:Op}(h:qu o=0):(1<=o.1/\o.1<=5)/\(0<=o.2.2.2.1/\o.2.2.2.1<=32)/\o.2.1.length<=64/\o.2.2.1.length<=64/\o.2.2.2.2.length<=64:=by
 obtain⟨k,n,t,a,x⟩:=o;unfold qu at h;simp only at h⊢;split at h;·cases h
 rename_i g;split at h;·cases h
 rename_i b;split at h;·cases h
 rename_i i;split at h;·cases h
 rename_i j;split at h;·cases h
 rename_i d;rw[not_or,Bool.not_eq_false]at b;have l:=yl b.1;refine⟨by omega,by omega,by omega,?_,by omega⟩;by_cases c:k=5;·have :=yl (s:=t) (by cases f:uX t with|true=>rfl|false=>exact absurd ⟨c,f⟩ b.2);omega
 ·have :t=[]:=kx λe=>d ⟨c,e⟩;rw[this];exact bJ _
theorem aaj(s:List UInt8)(M:Mem)(h:s.length<=64):Meets ab 228 [.v (.string ⟨s.toArray⟩)] M λr _ _=>r=.v (.string ⟨(rA s).toArray⟩):=by refine aH [0,2] Proofs.Tryz.func228 rfl (by kernel_rfl) rfl λw=>?_;simp only[Proofs.Tryz.f228,zW,seval,j8,Ay];refine⟨by omega,rfl⟩
theorem Vx(o:Op)(M:Mem):Meets ab 175 [tY o] M λr _ _=>r=.tup [.v (.string ⟨(if qu o=0 then lu o else[]).toArray⟩),.v (.int .i64 (qu o))]:=by
 refine aH [0,1,2,3,4,8] Proofs.Tryz.func175 rfl (by kernel_rfl) rfl λw=>?_;have c:=Lu o M;by_cases b:qu o=0;rotate_left;·have d:=ax b;simp only[Kt,tY,zW,seval];refine az ⟨rfl,rfl⟩ rfl c ?_;simp only[zW,seval,d]
 obtain⟨e,f,g,h,i⟩:=CZ b;rw[b]at c;rw[aF b,b];obtain⟨k,n,t,a,x⟩:=o;simp only at e f g h i;obtain⟨k,rfl⟩:∃m:Nat,k=m:=⟨k.toNat,by omega⟩;obtain⟨a,rfl⟩:∃m:Nat,a=m:=⟨a.toNat,by omega⟩;simp only[Kt,tY,zW,seval];refine az ⟨rfl,rfl⟩ rfl c ?_;simp only[zW,seval];have j:lu ((k:Int),n,t,(a:Int),x)=[bo k,bo a]++rA n++rA t++rA x:=by simp[lu]
 have l:(rA n).length=n.length+1:=rfl;have p:(rA t).length=t.length+1:=rfl;have q:(rA x).length=x.length+1:=rfl;rw[j];refine dV [8] (tk [0,3,8,12,16,1,4,9,13,17,2,5] (.two 6 (.two 7 (.one 10 (tk [11] (.one 14 (tk [15] (.one 18 (tk [19,20,21] .done)))))) 10 (.two 7 (tk [11] (.one 14 (tk [15] (.one 18 (tk [19,20,21] .done))))) 14 (.two 7 (tk [11,15] (.one 18 (tk [19,20,21] .done))) 18 (.one 7 (tk [11,15,19,20,21] .done))))) 10 (.two 6 (.two 7 (tk [11] (.one 14 (tk [15] (.one 18 (tk [19,20,21] .done))))) 14 (.two 7 (tk [11,15] (.one 18 (tk [19,20,21] .done))) 18 (.one 7 (tk [11,15,19,20,21] .done)))) 14 (.two 6 (.two 7 (tk [11,15] (.one 18 (tk [19,20,21] .done))) 18 (.one 7 (tk [11,15,19,20,21] .done))) 18 (.one 6 (.one 7 (tk [11,15,19,20,21] .done))))))) (by kernel_rfl) (by kernel_rfl) λs=>?_;simp only[zW,seval,fl,fm,fP,j8,Ay];repeat'(first|(refine az ⟨rfl,rfl⟩ rfl (aaj _ M (by assumption)) ?_;simp only[zW,seval,fl,fm,fP,j8,Ay,aG,l,p,q,aM,bM])|refine⟨?_,?_⟩|rfl|omega)
theorem Gt(o:Op)(M:Mem)(c:qu o=0):Meets ab 89 [tY o] M λr _ _=>r=.v (.string ⟨(lu o).toArray⟩):=by
 refine aH [0,1,2,3,5,20,21,22,23] Proofs.Tryz.func89 rfl (by kernel_rfl) rfl λw=>?_;obtain⟨d,e,f,g,h⟩:=CZ c;obtain⟨k,n,t,a,x⟩:=o;simp only at d e f g h;obtain⟨k,rfl⟩:∃m:Nat,k=m:=⟨k.toNat,by omega⟩;obtain⟨a,rfl⟩:∃m:Nat,a=m:=⟨a.toNat,by omega⟩;have i:lu ((k:Int),n,t,(a:Int),x)=[bo k,bo a]++rA n++rA t++rA x:=by simp[lu]
 rw[i];have b:∀m:Nat,((Yw m).drop 3).take (4-3)=[bo m]:=λm=>rfl;have j:(rA n).length=n.length+1:=rfl;have l:(rA t).length=t.length+1:=rfl;have p:(rA x).length=x.length+1:=rfl;simp only[Proofs.Tryz.f89,tY,zW,seval,j8,Ay];refine sV 4 ?_;simp only[zW,seval,uD,a_,bA];refine az ⟨rfl,rfl⟩ rfl (Jc n.length M (by omega)) ?_;simp only[zW,seval,uD,yk,b,aG,aM,bM,cY,lo,hi,a_,bA];refine⟨by omega,by omega,az ⟨rfl,rfl⟩ rfl (Jc t.length M (by omega)) ?_⟩;simp only[zW,seval,uD,yk,b,aG,aM,bM,cY,lo,hi,a_,bA];refine⟨by omega,by omega,az ⟨rfl,rfl⟩ rfl (Jc x.length M (by omega)) ?_⟩;simp only[zW,seval,uD,yk,b,aG,aM,bM,cY,lo,hi];refine⟨by omega,by omega,?_⟩;simp[rA]
end Go.X.Lg
namespace Go.X.Lg
open Go Go.X Go.RowKit Go.X.Pl Go.X.Nm Go.X.Tv
def eb:List UInt8->List UInt8×List UInt8×Bool|[]=>([],[],false)|b::r=>if r.length<b.toNat then([],[],false)else(r.take b.toNat,r.drop b.toNat,true)
def z5:Op:=(0,[],[],0,[])
def oV:List UInt8->Op×Int|a::b::s=>if(eb s).2.2=false then(z5,3)else if(eb (eb s).2.1).2.2=false then(z5,3)else if(eb (eb (eb s).2.1).2.1).2.2=false then(z5,3)else if(eb (eb (eb s).2.1).2.1).2.1≠[]then(z5,3)else if qu ((a.toNat:Int),(eb s).1,(eb (eb s).2.1).1,(b.toNat:Int),(eb (eb (eb s).2.1).2.1).1)≠0 then(z5,3)else(((a.toNat:Int),(eb s).1,(eb (eb s).2.1).1,(b.toNat:Int),(eb (eb (eb s).2.1).2.1).1),0)|_=>(z5,3)
theorem R4(s:List UInt8)(M:Mem)(h:s.length<=9223372036854775807):Meets ab 286 [.v (.string ⟨s.toArray⟩)] M λr _ _=>r=.tup [.v (.string ⟨(eb s).1.toArray⟩),.v (.string ⟨(eb s).2.1.toArray⟩),.v (.bool (eb s).2.2)]:=by
 refine aH [0,2,3,4,14] Proofs.Tryz.func286 rfl (by kernel_rfl) rfl λw=>?_;cases s with
  |nil=>simp only[xD,zW,↓reduceIte,aj,ak,al,af,aA,ag,reduceCtorEq,aB,aC,aD,aE,aq,ar,au,av,ah,aw,eb]
  |cons b r=>
   have a:fc (b::r) 0=((b.toNat:Nat):Int):=rfl;have k:=gu b;have d:(b::r=[])=False:=ax (λe=>by cases e);rw[aM]at h;by_cases f:r.length<b.toNat;·rw[show eb (b::r)=([],[],false)from aF f];have c:(((r.length+1:Nat):Int)<=((b.toNat:Nat):Int))=True:=aK (by omega);simp only[xD,zW,↓reduceIte,aj,ak,al,af,aA,ag,reduceCtorEq,aB,aC,aD,aE,aq,ar,au,av,ah,aw,a,d,aM,c,iw (show b.toNat<9223372036854775808 by omega)];omega
   ·rw[show eb (b::r)=(r.take b.toNat,r.drop b.toNat,true)from ai f];have c:(((r.length+1:Nat):Int)<=((b.toNat:Nat):Int))=False:=ax (by omega);have g:(1:Int)+((b.toNat:Nat):Int)=((b.toNat+1:Nat):Int):=by omega
    simp only[xD,zW,↓reduceIte,aj,ak,al,af,aA,ag,reduceCtorEq,aB,aC,aD,aE,aq,ar,au,av,ah,aw,a,d,aM,c,iw (show b.toNat<9223372036854775808 by omega)];refine⟨by omega,dD (by kernel_rfl) (by kernel_rfl) ?_⟩;have i:fH (b.toNat+1-1) ((b::r).drop 1)=r.take b.toNat:=rfl;have j:fH (r.length+1-(b.toNat+1)) (r.drop b.toNat)=r.drop b.toNat:=by exact bz (by rw[aT];omega)
    simp only[zW,↓reduceIte,aj,ak,al,af,aA,ag,reduceCtorEq,aB,aC,aD,aE,aq,ar,au,av,ah,aw,a,aM,iw (show b.toNat<9223372036854775808 by omega),g,i,j,cY,lo,hi,Nat.add_sub_cancel,cM,cQ];omega
theorem Vy(s:List UInt8)(M:Mem)(h:s.length<=9223372036854775807):Meets ab 241 [.v (.string ⟨s.toArray⟩)] M λr _ _=>r=.tup [tY (oV s).1,.v (.int .i64 (oV s).2)]:=by
 refine aH [0,2,3,4,6,7,10,24,25,26,27,39,48] Proofs.Tryz.func241 rfl (by kernel_rfl) rfl λw=>?_;by_cases j:s.length<2
 ·have k:((s.length:Int)<2)=True:=aK (by omega);have g:oV s=(z5,3):=by cases s with|nil=>rfl|cons a s=>cases s with|nil=>rfl|cons b s=>simp at j;omega
  rw[g];simp only[Ku,zW,↓reduceIte,aj,ak,al,af,aA,ag,reduceCtorEq,aB,aC,aD,aE,aq,ar,au,av,ah,aw,k,tY,z5]
 have k:((s.length:Int)<2)=False:=ax (by omega);obtain⟨a,b,u,rfl⟩:∃a b u,s=a::b::u:=by cases s with|nil=>simp at j|cons a s=>cases s with|nil=>simp at j|cons b u=>exact⟨a,b,u,rfl⟩
 have D:fc (a::b::u) 0=((a.toNat:Nat):Int):=rfl;have E:fc (a::b::u) 1=((b.toNat:Nat):Int):=rfl;have K:=gu a;have L:=gu b;generalize d:oV (a::b::u)=c;unfold oV at d;simp only[aM]at k h j;simp only[Ku,zW,↓reduceIte,aj,ak,al,af,aA,ag,reduceCtorEq,aB,aC,aD,aE,aq,ar,au,av,ah,aw,k,aM];refine dV [] (tk [0,3,1,4,2,5,6] (ones' [7,8] .done)) (by kernel_rfl) (by kernel_rfl) λN=>?_;simp only[zW,↓reduceIte,aj,ak,al,af,aA,ag,reduceCtorEq,aB,aC,aD,aE,aq,ar,au,av,ah,aw,fl,fm,fP,aM,D,E,iw (show a.toNat<9223372036854775808 by omega),iw (show b.toNat<9223372036854775808 by omega),cM,cQ];have F:fH (u.length+1+1-2) u=u:=bz (by omega);refine⟨by omega,by omega,by omega,OG rfl rfl ZO rfl rfl ⟨⟨⟨rfl,rfl⟩,rfl,rfl⟩,⟨⟨rfl,rfl⟩,rfl,rfl⟩,⟨⟨rfl,rfl⟩,rfl,rfl⟩,trivial⟩ rfl ?_⟩;have f:f_ ab 297=.one:=by kernel_rfl
 simp only[zW,↓reduceIte,aj,ak,al,af,aA,ag,reduceCtorEq,aB,aC,aD,aE,aq,ar,au,av,ah,aw,F,Ca,f];refine sV 4 ?_;simp only[zW,↓reduceIte,aj,ak,al,af,aA,ag,reduceCtorEq,aB,aC,aD,aE,aq,ar,au,av,ah,aw,uD,Ca,f,a_,bA];refine az ⟨rfl,rfl⟩ rfl (R4 u M (by omega)) ?_;have m:∀q:List UInt8,(eb q).2.1.length<=q.length/\(eb q).1.length<=q.length:=λq=>by
  cases q with
   |nil=>exact⟨bc _,bc _⟩
   |cons c q=>
    rw[eb];split;·exact⟨bJ _,bJ _⟩
    ·simp only[aT,a6,aM];omega
 have G:=m u;obtain⟨⟨n,o,i⟩,p⟩:∃T,eb u=T:=⟨_,rfl⟩;simp only[p]at d G⊢;cases i with
  |false=>rw[aF (show false=false from rfl)]at d;subst d;simp only[zW,↓reduceIte,aj,ak,al,af,aA,ag,reduceCtorEq,aB,aC,aD,aE,aq,ar,au,av,ah,aw,uD,Ca,f,a_,bA,cY,lo,hi,tY,z5]
  |true=>
   rw[ai (show¬true=false fromλe=>by cases e)]at d;simp only[zW,↓reduceIte,aj,ak,al,af,aA,ag,reduceCtorEq,aB,aC,aD,aE,aq,ar,au,av,ah,aw,uD,Ca,f,a_,bA,cY,lo,hi];refine az ⟨rfl,rfl⟩ rfl (R4 o M (by omega)) ?_;have H:=m o;obtain⟨⟨t,y,i⟩,z⟩:∃T,eb o=T:=⟨_,rfl⟩;simp only[z]at d H⊢;cases i with
    |false=>rw[aF (show false=false from rfl)]at d;subst d;simp only[zW,↓reduceIte,aj,ak,al,af,aA,ag,reduceCtorEq,aB,aC,aD,aE,aq,ar,au,av,ah,aw,uD,Ca,f,a_,bA,cY,lo,hi,tY,z5]
    |true=>
     rw[ai (show¬true=false fromλe=>by cases e)]at d;simp only[zW,↓reduceIte,aj,ak,al,af,aA,ag,reduceCtorEq,aB,aC,aD,aE,aq,ar,au,av,ah,aw,uD,Ca,f,a_,bA,cY,lo,hi];refine az ⟨rfl,rfl⟩ rfl (R4 y M (by omega)) ?_;have I:=m y;obtain⟨⟨x,J,i⟩,A⟩:∃T,eb y=T:=⟨_,rfl⟩;simp only[A]at d I⊢;cases i with
      |false=>rw[aF (show false=false from rfl)]at d;subst d;simp only[zW,↓reduceIte,aj,ak,al,af,aA,ag,reduceCtorEq,aB,aC,aD,aE,aq,ar,au,av,ah,aw,uD,Ca,f,a_,bA,cY,lo,hi,tY,z5]
      |true=>
       rw[ai (show¬true=false fromλe=>by cases e)]at d;by_cases l:J=[];rotate_left;·have B:=ax l;rw[aF l]at d;subst d;simp only[zW,↓reduceIte,aj,ak,al,af,aA,ag,reduceCtorEq,aB,aC,aD,aE,aq,ar,au,av,ah,aw,uD,Ca,f,a_,bA,cY,lo,hi,tY,z5,B]
       have B:=aK l;rw[ai (λe=>e l)]at d;simp only[zW,↓reduceIte,aj,ak,al,af,aA,ag,reduceCtorEq,aB,aC,aD,aE,aq,ar,au,av,ah,aw,uD,Ca,f,a_,bA,cY,lo,hi,B];refine az ⟨rfl,rfl⟩ rfl (Lu ((a.toNat:Int),n,t,(b.toNat:Int),x) M) ?_;by_cases g:qu ((a.toNat:Int),n,t,(b.toNat:Int),x)=0;·have C:=aK g;rw[ai (λe=>e g)]at d;subst d;simp only[zW,↓reduceIte,aj,ak,al,af,aA,ag,reduceCtorEq,aB,aC,aD,aE,aq,ar,au,av,ah,aw,uD,Ca,f,a_,bA,cY,lo,hi,tY,g]
       ·have C:=ax g;rw[aF g]at d;subst d;simp only[zW,↓reduceIte,aj,ak,al,af,aA,ag,reduceCtorEq,aB,aC,aD,aE,aq,ar,au,av,ah,aw,uD,Ca,f,a_,bA,cY,lo,hi,tY,z5,C]
/-! the reference's: what is left out is taken as it comes -/
def xm:List UInt8->List UInt8×List UInt8|[]=>([],[])|b::r=>(r.take b.toNat,r.drop b.toNat)
def T9:List UInt8->Op|a::b::c::s=>((a.toNat:Int),(xm (c::s)).1,(xm (xm (c::s)).2).1,(b.toNat:Int),(xm (xm (xm (c::s)).2).2).1)|_=>z5
theorem C0(s r:List UInt8)(h:s.length<=64):eb (rA s++r)=(s,r,true):=by
 have e:(bo s.length).toNat=s.length:=by rw[rP];omega
 show(if(s++r).length<(bo s.length).toNat then _ else _)=_;rw[e,ai (by rw[aG];omega)];simp
theorem Lv(s r:List UInt8)(h:s.length<=64):xm (rA s++r)=(s,r):=by
 have e:(bo s.length).toNat=s.length:=by rw[rP];omega
 show(fH (bo s.length).toNat (s++r),nc (bo s.length).toNat (s++r))=_;rw[e];simp
theorem Gu{s n r:List UInt8}(h:eb s=(n,r,true))(d:n.length<=64):s=rA n++r:=by
 cases s with
  |nil=>cases h
  |cons b q=>
   rw[eb]at h;split at h;·cases h
   ·rename_i e;simp only[cD,fL]at h;have a:n.length=b.toNat:=by rw[<-h.1,a6];omega
    have c:bo n.length=b:=by rw[a];exact jm
    unfold rA;rw[c,<-h.1,<-h.2];simp
theorem Je(k a:Nat)(n t x:List UInt8):lu ((k:Int),n,t,(a:Int),x)=bo k::bo a::(rA n++(rA t++rA x)):=rfl
theorem Jf{o:Op}(h:qu o=0):oV (lu o)=(o,0)/\T9 (lu o)=o:=by
 obtain⟨l,p,b,c,d⟩:=CZ h;obtain⟨k,n,t,a,x⟩:=o;simp only at l p b c d;obtain⟨k,rfl⟩:∃m:Nat,k=m:=⟨k.toNat,by omega⟩;obtain⟨a,rfl⟩:∃m:Nat,a=m:=⟨a.toNat,by omega⟩;have f:(bo k).toNat=k:=by rw[rP];omega
 have g:(bo a).toNat=a:=by rw[rP];omega
 have q:=C0 n (rA t++rA x) b;have r:=C0 t (rA x) c;have i:=C0 x [] d;rw[cS]at i;have s:=Lv n (rA t++rA x) b;have u:=Lv t (rA x) c;have j:=Lv x [] d;rw[cS]at j;rw[Je];refine⟨?_,?_⟩;·unfold oV;simp only[q,r,i,f,g];rw[ai (λe=>by cases e),ai (λe=>by cases e),ai (λe=>by cases e),ai (λe=>e rfl),ai (λe=>e h)]
 ·have v:T9 (bo k::bo a::(rA n++(rA t++rA x)))=(((bo k).toNat:Int),(xm (rA n++(rA t++rA x))).1,(xm (xm (rA n++(rA t++rA x))).2).1,((bo a).toNat:Int),(xm (xm (xm (rA n++(rA t++rA x))).2).2).1):=rfl;rw[v];simp only[s,u,j,f,g]
theorem R5{s:List UInt8}(h:(oV s).2=0):∃o,oV s=(o,0)/\qu o=0/\s=lu o:=by
 match s,h with
  |[],h=>cases h
  |[_],h=>cases h
  |a::b::u,h=>
   unfold oV at h⊢;obtain⟨⟨n,m,i⟩,c⟩:∃T,eb u=T:=⟨_,rfl⟩;obtain⟨⟨t,p,j⟩,d⟩:∃T,eb m=T:=⟨_,rfl⟩;obtain⟨⟨x,q,k⟩,f⟩:∃T,eb p=T:=⟨_,rfl⟩;simp only[c,d,f]at h⊢;cases i with
    |false=>rw[aF rfl]at h;cases h
    |true=>
     cases j with
      |false=>rw[ai (λe=>by cases e),aF rfl]at h;cases h
      |true=>
       cases k with
        |false=>rw[ai (λe=>by cases e),ai (λe=>by cases e),aF rfl]at h;cases h
        |true=>
         rw[ai (λe=>by cases e),ai (λe=>by cases e),ai (λe=>by cases e)]at h⊢;by_cases l:q=[];rotate_left;·rw[aF l]at h;cases h
         rw[ai (λe=>e l)]at h⊢;by_cases g:qu ((a.toNat:Int),n,t,(b.toNat:Int),x)=0;rotate_left;·rw[aF g]at h;cases h
         rw[ai (λe=>e g)];refine⟨_,rfl,g,?_⟩;obtain⟨_,_,r,v,w⟩:=CZ g;rw[Je,jm,jm,Gu c r,Gu d v,Gu f w,l,cS]
theorem Yx(s:List UInt8):(if qu (T9 s)=0/\lu (T9 s)=s then(T9 s,(0:Int))else(z5,3))=if(oV s).2=0 then((oV s).1,0)else(z5,3):=by
 by_cases h:(oV s).2=0;·obtain⟨o,b,a,c⟩:=R5 h;rw[aF h,b];obtain⟨_,d⟩:=Jf a;rw[<-c]at d;rw[d,aF ⟨a,c.symm⟩]
 ·rw[ai h,ai];rintro⟨b,a⟩;have :=(Jf b).1;rw[a]at this;rw[this]at h;exact h rfl
theorem R6(a b:UInt8)(s:List UInt8):oV (a::b::s)=if(eb s).2.2=false then(z5,3)else if(eb (eb s).2.1).2.2=false then(z5,3)else if(eb (eb (eb s).2.1).2.1).2.2=false then(z5,3)else if(eb (eb (eb s).2.1).2.1).2.1≠[]then(z5,3)else if qu ((a.toNat:Int),(eb s).1,(eb (eb s).2.1).1,(b.toNat:Int),(eb (eb (eb s).2.1).2.1).1)≠0 then(z5,3)else(((a.toNat:Int),(eb s).1,(eb (eb s).2.1).1,(b.toNat:Int),(eb (eb (eb s).2.1).2.1).1),0):=rfl
theorem R7(s:List UInt8):oV s=if(oV s).2=0 then((oV s).1,0)else(z5,3):=by
 by_cases h:(oV s).2=0;·rw[aF h];exact Prod.ext rfl h
 ·rw[ai h];match s,h with
   |[],_=>rfl
   |[_],_=>rfl
   |a::b::u,h=>
    rw[R6]at h⊢;split;·rfl
    split;·rfl
    split;·rfl
    split;·rfl
    split;·rfl
    ·rename_i c d e f g;rw[ai c,ai d,ai e,ai f,ai g]at h;exact absurd rfl h
end Go.X.Lg
namespace Go.X.Lg
open Go Go.X Go.RowKit Go.X.Pl Go.X.Nm Go.X.Tv
def unS(s:List UInt8):Op×Int:=if qu (T9 s)=0/\lu (T9 s)=s then(T9 s,0)else(z5,3)
theorem rnd(b:UInt8)(u:List UInt8):u.take (wg b.toNat u.length)=(xm (b::u)).1/\u.drop (wg b.toNat u.length)=(xm (b::u)).2:=by
 show _=u.take b.toNat/\_=u.drop b.toNat;rcases bR b.toNat u.length with h|h;·rw[cT (by omega)];exact⟨rfl,rfl⟩
 ·rw[Nat.min_eq_right h,bz (bc _),bz h,bh (bc _),bh h];exact⟨rfl,rfl⟩
theorem Lw{s n r:List UInt8}(h:xm s=(n,r)):n.length<=s.length/\r.length<=s.length:=by cases s with|nil=>simp only[xm,cD]at h;rw[<-h.1,<-h.2];exact⟨bc _,bc _⟩|cons b q=>simp only[xm,cD]at h;rw[<-h.1,<-h.2];simp only[a6,aT,aM];omega
theorem sy:(0:Nat)+0=0:=rfl
theorem Vz(s:List UInt8)(M:Mem)(h:s.length<=9223372036854775807):Meets ab 154 [.v (.string ⟨s.toArray⟩)] M λr _ _=>r=.tup [tY (unS s).1,.v (.int .i64 (unS s).2)]:=by
 refine aH [0,2,3,4,5,6,7,8,11,22,23,26,62] Proofs.Tryz.func154 rfl (by kernel_rfl) rfl λw=>?_;generalize f:unS s=c;unfold unS at f;by_cases q:2<s.length;rotate_left
 ·have R:((2:Int)<(s.length:Int))=False:=ax (by omega);have hz:T9 s=z5:=by match s,q with|[],_=>rfl|[_],_=>rfl|[_,_],_=>rfl|_::_::_::_,q=>simp at q
  have j:qu z5=1:=rfl;rw[hz,ai (λe=>by rw[j]at e;cases e.1)]at f;subst f;simp only[Kv,zW,seval,-cI,R];refine az ⟨rfl,rfl⟩ rfl (Jd z5 M) ?_;rw[j];simp only[zW,seval,-cI,tY,z5]
 have R:((2:Int)<(s.length:Int))=True:=aK (by omega);obtain⟨a,b,g,u,rfl⟩:∃a b g u,s=a::b::g::u:=by match s,q with|[],q=>simp at q|[_],q=>simp at q|[_,_],q=>simp at q|a::b::g::u,_=>exact⟨a,b,g,u,rfl⟩
 have e0:fc (a::b::g::u) 0=((a.toNat:Nat):Int):=rfl;have e1:fc (a::b::g::u) 1=((b.toNat:Nat):Int):=rfl;have e2:fc (g::u) 0=((g.toNat:Nat):Int):=rfl;have ha:=gu a;have hb:=gu b;have hb0:=gu g;simp only[aM]at R h q;simp only[Kv,zW,seval,-cI,R,aM];refine dV [] (tk [0,3,1,4,2,5,6] (.one 7 (tk [8] (.one 9 .done)))) (by kernel_rfl) (by kernel_rfl) λD=>?_;simp only[zW,seval,-cI,fl,fm,fP,aM,e0,e1,iw (show a.toNat<9223372036854775808 by omega),iw (show b.toNat<9223372036854775808 by omega),cM,cQ];have et:fH (u.length+1+1+1-2) (g::u)=g::u:=bz (by simp only[aM];omega);have ed:(g::u=[])=False:=ax (λe=>by cases e);refine⟨by omega,by omega,by omega,sV 4 ?_⟩;have hl:T9 (a::b::g::u)=((a.toNat:Int),(xm (g::u)).1,(xm (xm (g::u)).2).1,(b.toNat:Int),(xm (xm (xm (g::u)).2).2).1):=rfl;rw[hl]at f;simp only[zW,seval,-cI,uD,et,ed,e2,aM,cY,lo,hi,iw (show g.toNat<9223372036854775808 by omega)];have S:wg (((g).toNat:Nat):Int) (((u.length+1:Nat):Int)-1)=((wg (g).toNat u.length:Nat):Int):=by omega
 have E:(1:Int)+((wg (g).toNat u.length:Nat):Int)=((wg (g).toNat u.length+1:Nat):Int):=by omega
 obtain⟨g0,z⟩:=rnd (g) u;obtain⟨⟨A,u0⟩,F⟩:∃T,xm (g::u)=T:=⟨_,rfl⟩;simp only[F]at f g0 z;have G:=Lw F;simp only[aM]at G;have H:fH (wg (g).toNat u.length+1-1) u=A:=g0;have I:fH (u.length+1-(wg (g).toNat u.length+1)) (nc (wg (g).toNat u.length) u)=u0:=by rw[z];exact bz (by rw[<-z,aT];omega)
 simp only[S];refine⟨by omega,by omega,dV [] (tk [0,1,2,5,6,3,7,4,8,9] (.one 10 (tk [11] .done))) (by kernel_rfl) (by kernel_rfl) λD=>?_⟩;cases u0 with
  |nil=>
   simp only[zW,seval,-cI,uD,fl,fm,fP,cM,cQ,aM,bM,cY,lo,hi,sy,E,H,I];refine⟨by omega,by omega,by omega,by omega,?_⟩;rw[show xm []=([],[])from rfl]at f;simp only[show xm []=([],[])from rfl]at f;generalize d:(((a.toNat:Int),A,[],(b.toNat:Int),[]):Op)=k at f;have t:=Jd k M;have x:=Gt k M;rw[<-d]at t x;simp only[tY]at t x;refine dV [48] (tk [0,2,4,1,3,5,6] (.one 7 (tk [8] (.one 9 (tk [10] (.one 11 .done)))))) (by kernel_rfl) (by kernel_rfl) λD=>?_;simp only[zW,seval,-cI,uD,fl,fm,fP,cM,cQ,aM,bM,cY,lo,hi,sy];refine az ⟨rfl,rfl⟩ rfl t ?_;by_cases j:qu k=0
   ·have i:qu ((a.toNat:Int),A,[],(b.toNat:Int),[])=0:=by rw[d];exact j
    simp only[zW,seval,-cI,uD,fl,fm,fP,cM,cQ,aM,bM,cY,lo,hi,sy,d,j];refine az ⟨rfl,rfl⟩ rfl (x i) ?_;by_cases l:lu k=a::b::g::u;·have y:=aK l;rw[aF ⟨j,l⟩]at f;subst f;simp only[zW,seval,-cI,uD,fl,fm,fP,cM,cQ,aM,bM,cY,lo,hi,sy,d,y];rw[<-d];rfl
    ·have y:=ax l;rw[ai (λe=>l e.2)]at f;subst f;simp only[zW,seval,-cI,uD,fl,fm,fP,cM,cQ,aM,bM,cY,lo,hi,sy,d,y,tY,z5]
   ·have i:=ax j;rw[ai (λe=>j e.1)]at f;subst f;simp only[zW,seval,-cI,uD,fl,fm,fP,cM,cQ,aM,bM,cY,lo,hi,sy,d,i,tY,z5]
  |cons m n=>
   have hb1:=gu m;have U:(m::n=[])=False:=ax (λe=>by cases e);have V:fc (m::n) 0=((m.toNat:Nat):Int):=rfl;simp only[aM]at G;simp only[zW,seval,-cI,uD,fl,fm,fP,cM,cQ,aM,bM,cY,lo,hi,sy,E,H,I,U,V,iw (show m.toNat<9223372036854775808 by omega)];refine⟨by omega,by omega,by omega,by omega,?_⟩;have W:wg (((m).toNat:Nat):Int) (((n.length+1:Nat):Int)-1)=((wg (m).toNat n.length:Nat):Int):=by omega
   have J:(1:Int)+((wg (m).toNat n.length:Nat):Int)=((wg (m).toNat n.length+1:Nat):Int):=by omega
   obtain⟨g1,B⟩:=rnd (m) n;obtain⟨⟨K,u1⟩,L⟩:∃T,xm (m::n)=T:=⟨_,rfl⟩;simp only[L]at f g1 B;have N:=Lw L;simp only[aM]at N;have O:fH (wg (m).toNat n.length+1-1) n=K:=g1;have P:fH (n.length+1-(wg (m).toNat n.length+1)) (nc (wg (m).toNat n.length) n)=u1:=by rw[B];exact bz (by rw[<-B,aT];omega)
   simp only[W];refine⟨by omega,by omega,dV [] (tk [0,1,2,5,6,3,7,4,8,9] (.one 10 (tk [11] .done))) (by kernel_rfl) (by kernel_rfl) λD=>?_⟩;cases u1 with
    |nil=>
     simp only[zW,seval,-cI,uD,fl,fm,fP,cM,cQ,aM,bM,cY,lo,hi,sy,J,O,P];refine⟨by omega,by omega,by omega,by omega,?_⟩;simp only[show xm []=([],[])from rfl]at f;generalize d:(((a.toNat:Int),A,K,(b.toNat:Int),[]):Op)=k at f;have t:=Jd k M;have x:=Gt k M;rw[<-d]at t x;simp only[tY]at t x;refine dV [48] (tk [0,2,4,1,3,5,6] (.one 7 (tk [8] (.one 9 (tk [10] (.one 11 .done)))))) (by kernel_rfl) (by kernel_rfl) λD=>?_;simp only[zW,seval,-cI,uD,fl,fm,fP,cM,cQ,aM,bM,cY,lo,hi,sy];refine az ⟨rfl,rfl⟩ rfl t ?_;by_cases j:qu k=0
     ·have i:qu ((a.toNat:Int),A,K,(b.toNat:Int),[])=0:=by rw[d];exact j
      simp only[zW,seval,-cI,uD,fl,fm,fP,cM,cQ,aM,bM,cY,lo,hi,sy,d,j];refine az ⟨rfl,rfl⟩ rfl (x i) ?_;by_cases l:lu k=a::b::g::u;·have y:=aK l;rw[aF ⟨j,l⟩]at f;subst f;simp only[zW,seval,-cI,uD,fl,fm,fP,cM,cQ,aM,bM,cY,lo,hi,sy,d,y];rw[<-d];rfl
      ·have y:=ax l;rw[ai (λe=>l e.2)]at f;subst f;simp only[zW,seval,-cI,uD,fl,fm,fP,cM,cQ,aM,bM,cY,lo,hi,sy,d,y,tY,z5]
     ·have i:=ax j;rw[ai (λe=>j e.1)]at f;subst f;simp only[zW,seval,-cI,uD,fl,fm,fP,cM,cQ,aM,bM,cY,lo,hi,sy,d,i,tY,z5]
    |cons o p=>
     have hb2:=gu o;have X:(o::p=[])=False:=ax (λe=>by cases e);have Y:fc (o::p) 0=((o.toNat:Nat):Int):=rfl;simp only[aM]at N;simp only[zW,seval,-cI,uD,fl,fm,fP,cM,cQ,aM,bM,cY,lo,hi,sy,J,O,P,X,Y,iw (show o.toNat<9223372036854775808 by omega)];refine⟨by omega,by omega,by omega,by omega,?_⟩;have Z:wg (((o).toNat:Nat):Int) (((p.length+1:Nat):Int)-1)=((wg (o).toNat p.length:Nat):Int):=by omega
     have ez2:(1:Int)+((wg (o).toNat p.length:Nat):Int)=((wg (o).toNat p.length+1:Nat):Int):=by omega
     obtain⟨g2,C⟩:=rnd (o) p;obtain⟨⟨n2,u2⟩,Q⟩:∃T,xm (o::p)=T:=⟨_,rfl⟩;simp only[Q]at f g2 C;have hn2:=Lw Q;simp only[aM]at hn2;have eq2:fH (wg (o).toNat p.length+1-1) p=n2:=g2;have er2:fH (p.length+1-(wg (o).toNat p.length+1)) (nc (wg (o).toNat p.length) p)=u2:=by rw[C];exact bz (by rw[<-C,aT];omega)
     simp only[Z];refine⟨by omega,by omega,dV [] (tk [0,1,2,5,6,3,7,4,8,9] (.one 10 (tk [11] .done))) (by kernel_rfl) (by kernel_rfl) λD=>?_⟩;simp only[zW,seval,-cI,uD,fl,fm,fP,cM,cQ,aM,bM,cY,lo,hi,sy,ez2,eq2,er2];refine⟨by omega,by omega,by omega,by omega,?_⟩;generalize d:(((a.toNat:Int),A,K,(b.toNat:Int),n2):Op)=k at f;have t:=Jd k M;have x:=Gt k M;rw[<-d]at t x;simp only[tY]at t x;refine dV [48] (tk [0,2,4,1,3,5,6] (.one 7 (tk [8] (.one 9 (tk [10] (.one 11 .done)))))) (by kernel_rfl) (by kernel_rfl) λD=>?_;simp only[zW,seval,-cI,uD,fl,fm,fP,cM,cQ,aM,bM,cY,lo,hi,sy];refine az ⟨rfl,rfl⟩ rfl t ?_;by_cases j:qu k=0
     ·have i:qu ((a.toNat:Int),A,K,(b.toNat:Int),n2)=0:=by rw[d];exact j
      simp only[zW,seval,-cI,uD,fl,fm,fP,cM,cQ,aM,bM,cY,lo,hi,sy,d,j];refine az ⟨rfl,rfl⟩ rfl (x i) ?_;by_cases l:lu k=a::b::g::u;·have y:=aK l;rw[aF ⟨j,l⟩]at f;subst f;simp only[zW,seval,-cI,uD,fl,fm,fP,cM,cQ,aM,bM,cY,lo,hi,sy,d,y];rw[<-d];rfl
      ·have y:=ax l;rw[ai (λe=>l e.2)]at f;subst f;simp only[zW,seval,-cI,uD,fl,fm,fP,cM,cQ,aM,bM,cY,lo,hi,sy,d,y,tY,z5]
     ·have i:=ax j;rw[ai (λe=>j e.1)]at f;subst f;simp only[zW,seval,-cI,uD,fl,fm,fP,cM,cQ,aM,bM,cY,lo,hi,sy,d,i,tY,z5]
end Go.X.Lg
namespace Go.X.Lg
open Go Go.X Go.RowKit Go.X.Pl Go.X.Nm Go.X.Tv
theorem Yy(s:List UInt8):unS s=oV s:=by rw[R7 s,<-Yx s];rfl
end Go.X.Lg
namespace Go.X.Fr
open Go Go.X Go.X.Pol Go.X.Pl Go.X.Rp Go.X.Md Go.X.Mv Go.X.Pt Go.X.Tv
theorem g0:(2:Nat)<=1073741907/\1073741907<=2147483647:=by decide
def tl(s:List UInt8):List UInt8:=Yw (xl 1073741907 s 1)
theorem R8(s:List UInt8):(tl s).length=4:=rfl
theorem W_(s:List UInt8):xl 1073741907 s 1<=2147483647:=by have :=R2 1073741907 (by decide) (by decide) s 1 (by decide);omega
theorem aak(s:List UInt8)(M:Mem)(a:s.length<=dB):Meets ab 229 [.v (.string ⟨s.toArray⟩)] M λr _ _=>r=.v (.string ⟨(tl s).toArray⟩):=by
 refine aH [0,2,3] Proofs.Tryz.func229 rfl (by kernel_rfl) rfl λw=>?_;simp only[Proofs.Tryz.f229,zV,↓reduceIte,aj,ak,al,af,aA,ag,reduceCtorEq,aB,aC,aD,aE,aq,ar,au,av,ah,aw];refine az ⟨rfl,rfl⟩ rfl (Nb 1073741907 s M g0.1 g0.2 a) ?_;have d:=W_ s;generalize b:xl 1073741907 s 1=p at*;have c:tl s=Yw p:=by unfold tl;rw[b]
 rw[c];simp only[zV,↓reduceIte,aj,ak,al,af,aA,ag,reduceCtorEq,aB,aC,aD,aE,aq,ar,au,av,ah,aw,dw,X9,j8,Ay];exact⟨(λh=>by cases h),(λh=>by cases h),(λh=>by cases h),(λh=>by cases h),rfl⟩
def hd(k:Nat)(b:List UInt8):List UInt8:=bo k::bo (b.length/256)::bo b.length::b
def fr(k:Nat)(b:List UInt8):List UInt8:=hd k b++tl (hd k b)
def tZ(k:Int)(b:List UInt8):Int:=if k<1\/255<k then 1 else if 700<(b.length:Int)then 2 else 0
def AW(k:Int)(b:List UInt8):List UInt8:=if tZ k b=0 then fr k.toNat b else[]
def wY(k:Int)(b:List UInt8):SV:=.agg [.v (.int .i64 k),.v (.string ⟨b.toArray⟩)]
theorem put(k:Int)(b:List UInt8)(M:Mem)(o:b.length<=dB):Meets ab 176 [wY k b] M λr _ _=>r=.tup [.v (.string ⟨(AW k b).toArray⟩),.v (.int .i64 (tZ k b))]:=by
 refine aH [0,1,2,3,4,12,16] Proofs.Tryz.func176 rfl (by kernel_rfl) rfl λw=>?_;have p:∀d:Nat,@IntKind.bits .i64=64:=λ_=>rfl;by_cases a:k<1\/255<k
 ·have c:tZ k b=1:=aF a;have f:AW k b=[]:=ai (by rw[c];decide);rw[c,f];rcases a with a|a;·have e:(k<1)=True:=aK a;simp only[ra,wY,zW,↓reduceIte,aj,ak,al,af,aA,ag,reduceCtorEq,aB,aC,aD,aE,aq,ar,au,av,ah,aw,e]
  ·have e:(k<1)=False:=ax (by omega);have g:(255<k)=True:=aK a;simp only[ra,wY,zW,↓reduceIte,aj,ak,al,af,aA,ag,reduceCtorEq,aB,aC,aD,aE,aq,ar,au,av,ah,aw,e,g]
 ·by_cases h:700<(b.length:Int)
  ·have c:tZ k b=2:=by unfold tZ;rw[ai a,aF h]
   have f:AW k b=[]:=ai (by rw[c];decide);rw[c,f];have e:(k<1)=False:=ax (by omega);have g:(255<k)=False:=ax (by omega);have i:(700<(b.length:Int))=True:=aK h;simp only[ra,wY,zW,↓reduceIte,aj,ak,al,af,aA,ag,reduceCtorEq,aB,aC,aD,aE,aq,ar,au,av,ah,aw,e,g,i]
  ·have c:tZ k b=0:=by unfold tZ;rw[ai a,ai h]
   have f:AW k b=fr k.toNat b:=aF c;rw[c,f];have e:(k<1)=False:=ax (by omega);have g:(255<k)=False:=ax (by omega);have i:(700<(b.length:Int))=False:=ax h;have j:(((3+b.length:Nat):Int)<=9223372036854775807)=True:=aK (by omega);have l:∀x:Nat,(x:Int)/2^8=((x/256:Nat):Int):=λx=>by omega
   obtain⟨n,rfl⟩:∃n:Nat,k=n:=⟨k.toNat,by omega⟩;simp only[ra,wY,zW,↓reduceIte,aj,ak,al,af,aA,ag,reduceCtorEq,aB,aC,aD,aE,aq,ar,au,av,ah,aw,e,g,i,j,j8,l,Ay,IntKind.bits];refine az ⟨rfl,rfl⟩ rfl (aak _ M (by simp only[aM,dB];omega)) ?_;have m:(((3+b.length+4:Nat):Int)<=9223372036854775807)=True:=aK (by omega);simp only[zW,↓reduceIte,aj,ak,al,af,aA,ag,reduceCtorEq,aB,aC,aD,aE,aq,ar,au,av,ah,aw,R8,m,aX];exact⟨by omega,rfl⟩
def seq:List Nat->Sch->Sch|[],s=>s|i::l,s=>.take i (seq l s)
theorem sq:type_of%(aa @seq.eq_1 @seq.eq_2):=aa @seq.eq_1 @seq.eq_2
theorem R9(k:Int)(b:List UInt8)(M:Mem)(q:b.length<=dB):Meets ab 88 [wY k b] M λr _ _=>r=.tup [.v (.string ⟨(AW k b).toArray⟩),.v (.int .i64 (tZ k b))]:=by
 refine aH [0,1,2,3,4,8,12] Proofs.Tryz.func88 rfl (by kernel_rfl) rfl λw=>?_;by_cases f:k<1\/255<k;·have a:tZ k b=1:=aF f;have c:AW k b=[]:=ai (by rw[a];decide);rw[a,c];have d:aU (1<=k/\k<=255)=false:=bI (by omega);simp only[yS,wY,zW,↓reduceIte,aj,ak,al,af,aA,ag,reduceCtorEq,aB,aC,aD,aE,aq,ar,au,av,ah,aw];refine az ⟨rfl,rfl⟩ rfl (pa k 1 255 M) ?_;simp only[zW,↓reduceIte,aj,ak,al,af,aA,ag,reduceCtorEq,aB,aC,aD,aE,aq,ar,au,av,ah,aw,d]
 ·have d:aU (1<=k/\k<=255)=true:=cy (by omega);by_cases e:700<(b.length:Int)
  ·have a:tZ k b=2:=by unfold tZ;rw[ai f,aF e]
   have c:AW k b=[]:=ai (by rw[a];decide);rw[a,c];have g:(700<(b.length:Int))=True:=aK e;simp only[yS,wY,zW,↓reduceIte,aj,ak,al,af,aA,ag,reduceCtorEq,aB,aC,aD,aE,aq,ar,au,av,ah,aw];refine az ⟨rfl,rfl⟩ rfl (pa k 1 255 M) ?_;simp only[zW,↓reduceIte,aj,ak,al,af,aA,ag,reduceCtorEq,aB,aC,aD,aE,aq,ar,au,av,ah,aw,g,d]
  ·have a:tZ k b=0:=by unfold tZ;rw[ai f,ai e]
   have c:AW k b=fr k.toNat b:=aF a;rw[a,c];have g:(700<(b.length:Int))=False:=ax e;obtain⟨n,rfl⟩:∃n:Nat,k=n:=⟨k.toNat,by omega⟩;simp only[yS,wY,zW,↓reduceIte,aj,ak,al,af,aA,ag,reduceCtorEq,aB,aC,aD,aE,aq,ar,au,av,ah,aw];refine az ⟨rfl,rfl⟩ rfl (pa n 1 255 M) ?_;simp only[zW,↓reduceIte,aj,ak,al,af,aA,ag,reduceCtorEq,aB,aC,aD,aE,aq,ar,au,av,ah,aw,g,d];refine dV [8] (seq [0,1,2,5,6,7,11,12] (.two 3 (.two 4 (.one 8 (seq [9,10,13,14] .done)) 8 (seq [9] (.one 4 (seq [10,13,14] .done)))) 8 (seq [9] (.one 3 (.one 4 (seq [10,13,14] .done)))))) (by kernel_rfl) (by kernel_rfl) λs=>?_;simp only[zW,↓reduceIte,aj,ak,al,af,aA,ag,reduceCtorEq,aB,aC,aD,aE,aq,ar,au,av,ah,aw,fl,fm,sq];have h:((Yw b.length).drop 2).take (4-2)=[bo (b.length/256),bo b.length]:=rfl;have i:(((1+2:Nat):Int)<=9223372036854775807)=True:=aK (by omega);have j:(((1+2+b.length:Nat):Int)<=9223372036854775807)=True:=aK (by omega);refine⟨⟨?_,?_⟩,?_⟩;all_goals refine az ⟨rfl,rfl⟩ rfl (Jc b.length M (by omega)) ?_;simp only[zW,↓reduceIte,aj,ak,al,af,aA,ag,reduceCtorEq,aB,aC,aD,aE,aq,ar,au,av,ah,aw,fl,fm,sq,yk,h,j8,Ay,aM,aG,i,j];refine az ⟨rfl,rfl⟩ rfl (CC 1073741907 (hd n b) M g0.1 g0.2 (by simp only[hd,aM,dB];omega)) ?_;have l:=W_ (hd n b);have m:tl (hd n b)=Yw (xl 1073741907 (hd n b) 1):=rfl;simp only[fr,m,aX];generalize xl 1073741907 (hd n b) 1=p at*;simp only[zW,↓reduceIte,aj,ak,al,af,aA,ag,reduceCtorEq,aB,aC,aD,aE,aq,ar,au,av,ah,aw,fl,fm,sq];refine az ⟨rfl,rfl⟩ rfl (Jc p M l) ?_;have o:(((b.length+1+1+1+4:Nat):Int)<=9223372036854775807)=True:=aK (by omega);simp only[zW,↓reduceIte,aj,ak,al,af,aA,ag,reduceCtorEq,aB,aC,aD,aE,aq,ar,au,av,ah,aw,fl,fm,sq,yk,o,hd,aM,gW]
theorem abo{x y:Nat}(a:x<9223372036854775808)(b:y<9223372036854775808):Zn .i64 (x:Int) (y:Int)=((x|||y:Nat):Int):=by unfold Zn;show bX.wrap ((dR 64 (x:Int)|||dR 64 (y:Int)).toNat:Int)=_;rw[BitVec.toNat_or,kP 64 (x:Int) (by omega) (by omega),kP 64 (y:Int) (by omega) (by omega),aX,aX];have h:=Nat.or_lt_two_pow (n:=63) (x:=x) (y:=y) (by omega) (by omega);exact iw (by omega)
def sb(s:List UInt8)(i:Nat):Nat:=(s.getD i 0).toNat
theorem Ff(s:List UInt8)(i:Nat):sb s i<256:=gu _
theorem C3(s:List UInt8)(i:Nat):fc s (i:Int)=((sb s i:Nat):Int):=by unfold fc sb;rw[aX]
theorem ix0(s:List UInt8):fc s 0=((sb s 0:Nat):Int):=C3 s 0
theorem ix1(s:List UInt8):fc s 1=((sb s 1:Nat):Int):=C3 s 1
theorem ix2(s:List UInt8):fc s 2=((sb s 2:Nat):Int):=C3 s 2
def gN(s:List UInt8):Nat:=sb s 1*256+sb s 2
def rB(s:List UInt8):Int:=if s.length<=2 then 7 else if sb s 0=0\/700<gN s then 3 else if s.length<gN s+7 then 7 else if tl (s.take (gN s+3))≠(s.drop (gN s+3)).take 4 then 6 else 0
def zx(s:List UInt8):SV:=if rB s=0 then wY (sb s 0:Nat) ((s.drop 3).take (gN s))else wY 0 []
def t_(s:List UInt8):Int:=if rB s=0 then((gN s+7:Nat):Int)else 0
theorem get(s:List UInt8)(M:Mem)(o:s.length<=dB):Meets ab 184 [.v (.string ⟨s.toArray⟩)] M λr _ _=>r=.tup [zx s,.v (.int .i64 (t_ s)),.v (.int .i64 (rB s))]:=by
 refine aH [0,2,3,4,5,8,24,30,43] Proofs.Tryz.func184 rfl (by kernel_rfl) rfl λw=>?_;simp only[dB]at o;unfold zx t_;generalize a:rB s=c;unfold rB at a;by_cases f:s.length<=2;·rw[aF f]at a;subst a;have b:((s.length:Int)<3)=True:=aK (by omega);simp only[Kw,wY,zW,↓reduceIte,aj,ak,al,af,aA,ag,reduceCtorEq,aB,aC,aD,aE,aq,ar,au,av,ah,aw,b]
 rw[ai f]at a;have b:((s.length:Int)<3)=False:=ax (by omega);have H:(1<(s.length:Int))=True:=aK (by omega);have I:(2<(s.length:Int))=True:=aK (by omega);have p:(0<(s.length:Int))=True:=aK (by omega);simp only[Kw,wY,zW,↓reduceIte,aj,ak,al,af,aA,ag,reduceCtorEq,aB,aC,aD,aE,aq,ar,au,av,ah,aw,b];refine dD (by kernel_rfl) (by kernel_rfl) ?_;have q:=Ff s 0;have t:=Ff s 1;have u:=Ff s 2;have x:((sb s 1:Nat):Int)*2^8=((sb s 1*2^8:Nat):Int):=mw _ 8;have y:sb s 1*2^8|||sb s 2=gN s:=Q4 (k:=8) (by omega);simp only[zW,↓reduceIte,aj,ak,al,af,aA,ag,reduceCtorEq,aB,aC,aD,aE,aq,ar,au,av,ah,aw,ix1,ix2,ix0,iw (show sb s 1<9223372036854775808 by omega),iw (show sb s 2<9223372036854775808 by omega),x,abo (show sb s 1*2^8<9223372036854775808 by omega) (show sb s 2<9223372036854775808 by omega),y,cY,lo,hi,X9];have z:gN s<=65535:=by unfold gN;omega
 generalize J:gN s=n at*;refine⟨by omega,by omega,by omega,by omega,λA=>?_,λA=>?_⟩;·rw[aF (by omega)]at a;subst a;rfl
 rw[ai (by omega)]at a;refine⟨by omega,λB=>?_,λB=>?_⟩;·rw[aF (by omega)]at a;subst a;rfl
 rw[ai (by omega)]at a;refine js (seq [0,1,2,3,5,6,7,8,9,10] (.one 4 (seq [11] .done))) (by kernel_rfl) (by kernel_rfl) ?_;have g:(n:Int)+3=((n+3:Nat):Int):=by omega
 have i:(n:Int)+7=((n+7:Nat):Int):=by omega
 have C:(((n+3:Nat):Int)<=((n+7:Nat):Int))=True:=aK (by omega);have D:(((n+7:Nat):Int)<=(s.length:Int))=True:=aK (by omega);have j:(((n+3:Nat):Int)<=(s.length:Int))=True:=aK (by omega);have E:(0<=((n+3:Nat):Int))=True:=aK (by omega);have F:((3:Int)<=((n+3:Nat):Int))=True:=aK (by omega);have l:cY .i64 ((n+3:Nat):Int):=CB (by omega);have m:cY .i64 ((n+7:Nat):Int):=CB (by omega);have G:n+7-(n+3)=4:=by omega
 have d:n+3-3=n:=by omega
 simp only[zW,↓reduceIte,aj,ak,al,af,aA,ag,reduceCtorEq,aB,aC,aD,aE,aq,ar,au,av,ah,aw,fl,fm,sq,g,i,C,D,j,E,l,m,cQ,iS,G];refine az ⟨rfl,rfl⟩ rfl (aak _ M (by simp only[a6,dB];omega)) ?_;simp only[zW,↓reduceIte,aj,ak,al,af,aA,ag,reduceCtorEq,aB,aC,aD,aE,aq,ar,au,av,ah,aw,fl,fm,sq];refine⟨λe=>?_,λe=>?_⟩;·rw[aF e]at a;subst a;rfl
 rw[ai (λh=>h e)]at a;subst a;refine js (seq [0,1,2,3,4,5,6,7,8,9] (.one 10 (seq [11,12] .done))) (by kernel_rfl) (by kernel_rfl) ?_;simp only[zW,↓reduceIte,aj,ak,al,af,aA,ag,reduceCtorEq,aB,aC,aD,aE,aq,ar,au,av,ah,aw,fl,fm,sq,g,i,F,j,l,m,ix0,iw (show sb s 0<9223372036854775808 by omega),p,d]
theorem Lx(s:List UInt8)(a b:Nat):s.take (a+b)=s.take a++(s.drop a).take b:=List.take_add
theorem VA(s:List UInt8)(h:¬s.length<=2)(f:gN s+3<=s.length):hd (sb s 0) ((s.drop 3).take (gN s))=s.take (gN s+3):=by
 match s,h with|a::b::c::r,_=>
                have d:r.length>=gN (a::b::c::r):=by simp only[aM]at f;omega
                have e:gN (a::b::c::r)=b.toNat*256+c.toNat:=rfl;rw[e]at d⊢;have j:=gu c;have g:(b.toNat*256+c.toNat)/256=b.toNat:=by omega
                have i:bo (b.toNat*256+c.toNat)=c:=by apply rJ.1;simp
                show bo a.toNat::bo ((r.take (b.toNat*256+c.toNat)).length/256)::bo (r.take (b.toNat*256+c.toNat)).length::_=_;rw[a6,cT d,g,i,jm,jm];rfl
theorem Gv(s:List UInt8)(M:Mem)(q:s.length<=dB):Meets ab 98 [.v (.string ⟨s.toArray⟩)] M λr _ _=>r=.tup [zx s,.v (.int .i64 (t_ s)),.v (.int .i64 (rB s))]:=by
 refine aH [0,2,3,4,5,6,7,11,27,33,53] Proofs.Tryz.func98 rfl (by kernel_rfl) rfl λw=>?_;simp only[dB]at q;unfold zx t_;generalize b:rB s=c;unfold rB at b;by_cases f:s.length<=2;·rw[aF f]at b;subst b;have g:((s.length:Int)<=2)=True:=aK (by omega);simp only[Mo,wY,zW,↓reduceIte,aj,ak,al,af,aA,ag,reduceCtorEq,aB,aC,aD,aE,aq,ar,au,av,ah,aw,g]
 rw[ai f]at b;have g:((s.length:Int)<=2)=False:=ax (by omega);have O:(1<(s.length:Int))=True:=aK (by omega);have P:(2<(s.length:Int))=True:=aK (by omega);have t:(0<(s.length:Int))=True:=aK (by omega);simp only[Mo,wY,zW,↓reduceIte,aj,ak,al,af,aA,ag,reduceCtorEq,aB,aC,aD,aE,aq,ar,au,av,ah,aw,g];refine dD (by kernel_rfl) (by kernel_rfl) ?_;have u:=Ff s 0;have x:=Ff s 1;have y:=Ff s 2;have z:(256:Int)*((sb s 1:Nat):Int)+((sb s 2:Nat):Int)=((gN s:Nat):Int):=by unfold gN;omega
 have A:(s.take 1=[0])=(sb s 0=0):=by
  match s,f with|a::r,_=>
                 apply propext;show[a]=[0]↔a.toNat=0;constructor;·intro h;injection h with h _;subst h;rfl
                 ·intro h;congr 1;exact rJ.1 h
 have B:(1<=(s.length:Int))=True:=aK (by omega);simp only[zW,↓reduceIte,aj,ak,al,af,aA,ag,reduceCtorEq,aB,aC,aD,aE,aq,ar,au,av,ah,aw,ix1,ix2,ix0,iw (show sb s 1<9223372036854775808 by omega),iw (show sb s 2<9223372036854775808 by omega),z,cY,lo,hi,X9,B,cQ,iS,A];have i:=VA s f;have C:gN s<=65535:=by unfold gN;omega
 generalize Q:gN s=n at*;refine⟨by omega,by omega,by omega,by omega,λD=>?_,λD=>?_⟩;·rw[aF (by omega)]at b;subst b;rfl
 rw[ai (by omega)]at b;refine⟨by omega,λE=>?_,λE=>?_⟩;·rw[aF (by omega)]at b;subst b;rfl
 rw[ai (by omega)]at b;replace i:=i (by omega);have j:=Lx s (n+3) 4;have F:(3:Int)+(n:Int)=((n+3:Nat):Int):=by omega
 have G:(n:Int)+7=((n+7:Nat):Int):=by omega
 have H:(((n+7:Nat):Int)<=(s.length:Int))=True:=aK (by omega);have I:(((n+3:Nat):Int)<=(s.length:Int))=True:=aK (by omega);have J:((3:Int)<=((n+3:Nat):Int))=True:=aK (by omega);have K:cY .i64 ((n+3:Nat):Int):=CB (by omega);have L:cY .i64 ((n+7:Nat):Int):=CB (by omega);have N:(0<=((n+7:Nat):Int))=True:=aK (by omega);have k:n+3-3=n:=by omega
 have d:((s.drop 3).take n).length=n:=by rw[a6,aT];omega
 have l:fr (sb s 0) ((s.drop 3).take n)=s.take (n+3)++tl (s.take (n+3)):=by unfold fr;rw[i]
 have e:tZ ((sb s 0:Nat):Int) ((s.drop 3).take n)=0:=by unfold tZ;rw[ai (by omega),ai (by rw[d];omega)]
 have m:AW ((sb s 0:Nat):Int) ((s.drop 3).take n)=s.take (n+3)++tl (s.take (n+3)):=by unfold AW;rw[aF e,aX,l]
 have p:=R9 ((sb s 0:Nat):Int) ((s.drop 3).take n) M (by rw[d];simp only[dB];omega);rw[e,m]at p;refine js (seq [0,1,2,3,4,5,6,7] (.one 8 (.one 9 .done))) (by kernel_rfl) (by kernel_rfl) ?_;simp only[zW,↓reduceIte,aj,ak,al,af,aA,ag,reduceCtorEq,aB,aC,aD,aE,aq,ar,au,av,ah,aw,fl,fm,sq,F,J,I,K,ix0,iw (show sb s 0<9223372036854775808 by omega),t,k];refine az ⟨rfl,rfl⟩ rfl p ?_;simp only[zW,↓reduceIte,aj,ak,al,af,aA,ag,reduceCtorEq,aB,aC,aD,aE,aq,ar,au,av,ah,aw,G,H,N,L,cQ,iS,j,List.append_cancel_left_eq];refine⟨λo=>?_,λo=>?_⟩;·rw[aF o]at b;subst b;rfl
 rw[ai (λh=>h o)]at b;subst b;rfl
end Go.X.Fr
namespace Go.X.Vo
open Go Go.X Go.RowKit Go.X.Bg Go.X.Nm Go.X.Bp Go.X.Sb
/-!### what is written of deeds -/
def frO(o:AV):List UInt8:=Fr.fr 1 (Lg.lu o)
theorem C4{o:AV}(h:Lg.qu o=0):(Lg.lu o).length<=700:=by obtain⟨_,_,a,b,c⟩:=Lg.CZ h;unfold Lg.lu Lg.rA;simp only[aM,aG];omega
theorem Jg{o:AV}(h:Lg.qu o=0):Fr.tZ 1 (Lg.lu o)=0/\Fr.AW 1 (Lg.lu o)=frO o:=by
 have b:=C4 h;have a:Fr.tZ 1 (Lg.lu o)=0:=by unfold Fr.tZ;rw[ai (by omega),ai (by omega)]
 exact⟨a,by unfold Fr.AW;rw[aF a];rfl⟩
theorem Gw{o:AV}(h:Lg.qu o=0):(frO o).length<=707:=by have a:=C4 h;unfold frO Fr.fr Fr.hd;simp only[aG,aM,Fr.R8];omega
theorem Jh{o:AV}(h:Lg.qu o=0):(Lg.lu o).length<=dB:=b6 (C4 h) (by decide)
/-!### what is played again -/
def kl:Nat->St->List UInt8->Nat->St×Int×Int|0,A,_,n=>(A,(n:Int),0)|f+1,A,s,n=>if Fr.rB s=7 then(A,(n:Int),0)else if Fr.rB s≠0 then(uk,0,Fr.rB s)else if n=200 then(uk,0,2)else if(Lg.oV ((s.drop 3).take (Fr.gN s))).2≠0\/Fr.sb s 0≠1 then(uk,0,3)else if(tX A.1 A.2 (Lg.oV ((s.drop 3).take (Fr.gN s))).1).2≠0 then(uk,0,3)else kl f (tX A.1 A.2 (Lg.oV ((s.drop 3).take (Fr.gN s))).1).1 (s.drop (Fr.gN s+7)) (n+1)
theorem Gx{s:List UInt8}(h:Fr.rB s=0):Fr.gN s+7<=s.length:=by
 unfold Fr.rB at h;split at h;·cases h
 split at h;·cases h
 split at h;·cases h
 omega
theorem Bm:Fr.rB []=7:=rfl
theorem sA:∀(f:Nat)(A:St)(n:Nat),kl f A [] n=(A,(n:Int),0)|0,_,_=>rfl|_+1,_,_=>by rw[kl,aF Bm]
theorem Fg:∀(f g:Nat)(A:St)(s:List UInt8)(n:Nat),s.length<=f->s.length<=g->kl f A s n=kl g A s n
 |0,g,A,s,n,a,_=>by have :s=[]:=e_.1 (by omega);subst this;rw[sA,sA]
 |f+1,0,A,s,n,_,b=>by have :s=[]:=e_.1 (by omega);subst this;rw[sA,sA]
 |f+1,g+1,A,s,n,a,b=>by
  rw[kl,kl];by_cases e:Fr.rB s=0;·have :=Gx e;rw[Fg f g _ (s.drop (Fr.gN s+7)) (n+1) (by rw[aT];omega) (by rw[aT];omega)]
  ·rw[aF e,aF e]
theorem VB{s:List UInt8}(h:(Lg.oV s).2=0):Lg.qu (Lg.oV s).1=0:=by obtain⟨o,a,b,_⟩:=Lg.R5 h;rw[a];exact b
def lQ(n e:Int)(s:SV):SV:=.tup [s,.v (.int .i64 n),.v (.int .i64 e)]
theorem VC(s:List UInt8)(M:Mem)(O:s.length<=dB):Meets ab 183 [.v (.string ⟨s.toArray⟩)] M (No (lQ (kl s.length uk s 0).2.1 (kl s.length uk s 0).2.2) (kl s.length uk s 0).1):=by
 refine aH [0,2,3,4,5,6,7,8,9,10,12,20,22,26,40,49] Proofs.Tryz.func183 rfl (by kernel_rfl) rfl λw=>?_;generalize U:kl s.length uk s 0=c;simp only[Proofs.Tryz.f183,zW,seval];refine bE (X:=List UInt8×Nat×ay×ay×List It×List WV×Mem) (λz=>([(0,true,.v (.string ⟨z.1.toArray⟩)),(2,true,.ptr 16 0 0 0),(5,true,.ptr 40 0 0 0),(6,true,.v (.int .i64 z.2.1))],[(40,.box [.v z.2.2.1,.v z.2.2.2.1] none),(16,.box [.v (.slice none 0 0),.v (.slice none 0 0)] none)],z.2.2.2.2.2.2)) (λz=>((z.1.length<=s.length/\z.2.1<=200)/\(RowM z.2.2.2.2.2.2 z.2.2.1 4 (z.2.2.2.2.1.map Bg.eG)/\VolsM z.2.2.2.2.2.2 z.2.2.2.1 z.2.2.2.2.2.1))/\kl s.length (z.2.2.2.2.1,z.2.2.2.2.2.1.map (·.2)) z.1 z.2.1=c) (λz=>z.1.length) (s,0,.slice none 0 0,.slice none 0 0,[],[],M) ⟨⟨⟨bc _,bJ _⟩,gi M⟩,U⟩ (aR ?_) ?_;·simp only[zV,seval,aZ]
 rintro⟨t,n,b,v,d,l,N⟩⟨⟨⟨P,V⟩,g,i⟩,a⟩;simp only at P V g i a;by_cases y:t=[];·subst y;rw[sA]at a;subst a;simp only[zW,seval,dr,yH,g.dj,i.row.dj,lQ];exact⟨b,v,l,rfl,rfl,g,i⟩
 have W:aU (t=[])=false:=bI y;have Y:0<t.length:=List.length_pos_iff.2 y;obtain⟨f,Q⟩:∃f,s.length=f+1:=⟨s.length-1,by omega⟩;rw[Q,kl]at a;have o:=Fr.get t N (b6 P O);simp only[zW,seval,W,nQ];by_cases e:Fr.rB t=0;rotate_left
 ·have B:Fr.zx t=Fr.wY 0 []:=ai e;have C:Fr.t_ t=0:=ai e;rw[B,C]at o;simp only[Fr.wY]at o;refine az ⟨rfl,rfl⟩ rfl o ?_;by_cases p:Fr.rB t=7;·rw[aF p]at a;subst a;have D:=aK p;simp only[zW,seval,D,g.dj,i.row.dj,lQ];exact⟨b,v,l,rfl,rfl,g,i⟩
  ·rw[ai p,aF e]at a;subst a;have D:=ax p;have Z:=ax e;simp only[zW,seval,D,Z,lQ];exact⟨_,_,[],rfl,rfl,bY _ _,gi _|>.2⟩
 have hU:=Gx e;have B:Fr.zx t=Fr.wY (Fr.sb t 0:Nat) ((t.drop 3).take (Fr.gN t)):=aF e;have C:Fr.t_ t=((Fr.gN t+7:Nat):Int):=aF e;have E:((t.drop 3).take (Fr.gN t)).length<=9223372036854775807:=by rw[a6,aT];unfold dB at O;omega
 have R:=Lg.Vy ((t.drop 3).take (Fr.gN t)) N E;rw[B,C,e]at o;rw[e,ai (by decide),ai (λh=>h rfl)]at a;have hO:=VB (s:=(t.drop 3).take (Fr.gN t));simp only[Fr.wY]at o;simp only[Lg.tY]at R;generalize hb:(t.drop 3).take (Fr.gN t)=q at*;generalize Lg.oV q=r at*;generalize hk:Fr.sb t 0=F at*;refine az ⟨rfl,rfl⟩ rfl o ?_;by_cases S:n=200;·rw[aF S]at a;subst a;have G:((n:Int)=200)=True:=aK (by omega);simp only[zW,seval,G,lQ];exact⟨_,_,[],rfl,rfl,bY _ _,gi _|>.2⟩
 have G:((n:Int)=200)=False:=ax (by omega);rw[ai S]at a;simp only[zW,seval,G];refine az ⟨rfl,rfl⟩ rfl R ?_;by_cases u:r.2=0;rotate_left;·have c3:=ax u;rw[aF (.inl u)]at a;subst a;simp only[zW,seval,c3,lQ];exact⟨_,_,[],rfl,rfl,bY _ _,gi _|>.2⟩
 by_cases h4:F=1;rotate_left;·have H:((F:Int)=1)=False:=ax (by omega);rw[aF (.inr h4)]at a;subst a;simp only[zW,seval,u,H,lQ];exact⟨_,_,[],rfl,rfl,bY _ _,gi _|>.2⟩
 have H:((F:Int)=1)=True:=aK (by omega);rw[ai (by rintro(h|h)<;>contradiction)]at a;have I:=ldo b v d l r.1 N g i;rw[show Hi d (l.map (·.2)) r.1=tX d (l.map (·.2)) r.1 from ai (λh=>h (hO u))]at I;simp only[fQ,Ns]at I;have J:=λA m h=>Fg f (f+1) A (t.drop (Fr.gN t+7)) m h;generalize tX d (l.map (·.2)) r.1=A at*;simp only[zW,seval,u,H,g.dj,i.row.dj];refine eZ (T:=λs=>.tup [s,.v (.int .i64 A.2)]) (λ_ _=>rfl) rfl rfl I λb2 v2 K M2 hM2 L j k=>?_;by_cases x:A.2=0;rotate_left;·have c5:=ax x;rw[aF x]at a;subst a;simp only[zW,seval,fQ,c5,j.dj,k.row.dj,lQ];exact⟨_,_,[],rfl,rfl,bY _ _,gi _|>.2⟩
 rw[ai (λh=>h x),J A.1 (n+1) (by rw[aT];omega) (by rw[aT];omega),<-Q]at a;have p:((Fr.gN t:Int)+7).toNat=Fr.gN t+7:=by omega
 have ed:fH (t.length-(Fr.gN t+7)) (t.drop (Fr.gN t+7))=t.drop (Fr.gN t+7):=bz (by rw[aT];exact bc _);simp only[zW,seval,fQ,x,j.dj,k.row.dj,cY,lo,hi];refine⟨by omega,⟨⟨by omega,by omega⟩,pk _⟩,(t.drop (Fr.gN t+7),n+1,b2,v2,A.1.1,K,M2),⟨⟨⟨⟨by simp only[aT];omega,by simp only;omega⟩,j,k⟩,?_⟩,by simp only[aT];omega⟩,aR ?_⟩;·simp only[L];exact a
 ·simp only[zV,seval,aJ,ed]
theorem VD:∀(f:Nat)(s:List UInt8)(b v:ay)(bag:List It)(ws:List WV)(n:Nat)(M:Mem),s.length<=f->f<=dB->n<=200->RowM M b 4 (bag.map Bg.eG)->VolsM M v ws->Meets ab 97 [fQ b v,.v (.string ⟨s.toArray⟩),.v (.int .i64 n)] M (No (lQ (kl f (bag,ws.map (·.2)) s n).2.1 (kl f (bag,ws.map (·.2)) s n).2.2) (kl f (bag,ws.map (·.2)) s n).1):=by
 intro f;induction f with
  |zero=>intro t b v bag ws n N S D E d e;have :t=[]:=e_.1 (by omega);subst this;rw[sA];refine aH [0,1,2,3,6,7,8,9,10,11,12,24,28,32,46,55] Ho rfl (by kernel_rfl) rfl λw=>?_;have i:=Fr.Gv [] N (bJ _);have l:Fr.zx []=Fr.wY 0 []:=rfl;have m:Fr.t_ []=0:=rfl;rw[l,m,Bm]at i;simp only[Fr.wY]at i;simp only[Mq,fQ,zW,seval,d.dj,e.row.dj];refine az ⟨rfl,rfl⟩ rfl i ?_;simp only[zW,seval,d.dj,e.row.dj,lQ,dr];exact⟨b,v,ws,rfl,rfl,d,e⟩
  |succ f X=>
   intro t b v bag ws n N S D E d e;refine aH [0,1,2,3,6,7,8,9,10,11,12,24,28,32,46,55] Ho rfl (by kernel_rfl) rfl λw=>?_;have i:=Fr.Gv t N (b6 S D);generalize a:kl (f+1) (bag,ws.map (·.2)) t n=c;rw[kl]at a;simp only[Mq,fQ,zW,seval,d.dj,e.row.dj];by_cases g:Fr.rB t=0;rotate_left
   ·have l:Fr.zx t=Fr.wY 0 []:=ai g;have m:Fr.t_ t=0:=ai g;rw[l,m]at i;simp only[Fr.wY]at i;refine az ⟨rfl,rfl⟩ rfl i ?_;by_cases o:Fr.rB t=7;·rw[aF o]at a;subst a;have y:=aK o;cases U:aU (t=[])with|true=>simp only[zW,seval,U,y,d.dj,e.row.dj,lQ];exact⟨b,v,ws,rfl,rfl,d,e⟩|false=>simp only[zW,seval,U,y,d.dj,e.row.dj,lQ];exact⟨b,v,ws,rfl,rfl,d,e⟩
    ·rw[ai o,aF g]at a;subst a;have z:aU (t=[])=false:=bI (λh=>o (by rw[h];exact Bm));have y:=ax o;have Y:=ax g;simp only[zW,seval,z,y,Y,lQ];exact⟨_,_,[],rfl,rfl,bY _ _,gi _|>.2⟩
   have z:aU (t=[])=false:=bI (λh=>by rw[h,Bm]at g;cases g);have hU:=Gx g;have l:Fr.zx t=Fr.wY (Fr.sb t 0:Nat) ((t.drop 3).take (Fr.gN t)):=aF g;have m:Fr.t_ t=((Fr.gN t+7:Nat):Int):=aF g;have F:((t.drop 3).take (Fr.gN t)).length<=9223372036854775807:=by rw[a6,aT];unfold dB at D;omega
   have G:=Lg.Vz ((t.drop 3).take (Fr.gN t)) N F;rw[Lg.Yy]at G;rw[l,m,g]at i;rw[g,ai (by decide),ai (λh=>h rfl)]at a;simp only[Fr.wY]at i;simp only[Lg.tY]at G;generalize hb:(t.drop 3).take (Fr.gN t)=p at*;generalize Lg.oV p=H at*;generalize hk:Fr.sb t 0=I at*;refine az ⟨rfl,rfl⟩ rfl i ?_;by_cases V:n=200;·rw[aF V]at a;subst a;have J:((n:Int)=200)=True:=aK (by omega);simp only[zW,seval,z,J,lQ];exact⟨_,_,[],rfl,rfl,bY _ _,gi _|>.2⟩
   have J:((n:Int)=200)=False:=ax (by omega);rw[ai V]at a;simp only[zW,seval,z,J];refine az ⟨rfl,rfl⟩ rfl G ?_;by_cases B:H.2=0;rotate_left;·have Z:=ax B;rw[aF (.inl B)]at a;subst a;simp only[zW,seval,Z,lQ];exact⟨_,_,[],rfl,rfl,bY _ _,gi _|>.2⟩
   by_cases h4:I=1;rotate_left;·have K:((I:Int)=1)=False:=ax (by omega);rw[aF (.inr h4)]at a;subst a;simp only[zW,seval,B,K,lQ];exact⟨_,_,[],rfl,rfl,bY _ _,gi _|>.2⟩
   have K:((I:Int)=1)=True:=aK (by omega);rw[ai (by rintro(h|h)<;>contradiction)]at a;have W:=rdo b v bag ws H.1 N d e;simp only[fQ,Ns]at W;generalize tX bag (ws.map (·.2)) H.1=A at*;simp only[zW,seval,B,K,d.dj,e.row.dj];refine eZ (T:=λs=>.tup [s,.v (.int .i64 A.2)]) (λ_ _=>rfl) rfl rfl W λb2 v2 q M2 hM2 L j k=>?_;by_cases C:A.2=0;rotate_left;·have c5:=ax C;rw[aF C]at a;subst a;simp only[zW,seval,fQ,c5,j.dj,k.row.dj,lQ];exact⟨_,_,[],rfl,rfl,bY _ _,gi _|>.2⟩
   rw[ai (λh=>h C)]at a;have ed:fH (t.length-(Fr.gN t+7)) (t.drop (Fr.gN t+7))=t.drop (Fr.gN t+7):=bz (by rw[aT];exact bc _);have O:=X (t.drop (Fr.gN t+7)) b2 v2 A.1.1 q (n+1) M2 (by rw[aT];omega) (by omega) (by omega) j k;have r:q.map (·.2)=A.1.2:=L;rw[r,a]at O;simp only[fQ,aJ,cB]at O;simp only[zW,seval,fQ,C,j.dj,k.row.dj,cY,lo,hi];refine dV [24] (tk [0,1,2,4,3,5] (.one 6 (tk [7,8,9] (.one 10 (tk [11,12] .done))))) (by kernel_rfl) (by kernel_rfl) λxs=>?_;simp only[zW,seval,fl,fm,fP,j.dj,k.row.dj,cY,lo,hi,ed];refine⟨⟨⟨by omega,by omega⟩,pk _⟩,by omega,eZ (T:=lQ c.2.1 c.2.2) (λ_ _=>rfl) rfl rfl O λb3 v3 P M3 Q R u x=>?_⟩;simp only[zW,seval,fl,fm,fP,fQ,lQ,u.dj,x.row.dj,Q];exact⟨b3,v3,P,rfl,R,u,x⟩
end Go.X.Vo
namespace Go.X.Rv
open Go Go.X Go.X.Rp
def iA(x:Int×Int):List ay:=[.int .i64 x.1,.int .i64 x.2]
def fi(w:Int):List (Int×Int)->Nat->Int|[],_=>-1|x::l,i=>if x.1=w then(i:Int)else fi w l (i+1)
def mu(g:Int)(y:ay)(k h:Int):SV:=.agg [.v (.int .i64 g),.v y,.v (.int .i64 k),.v (.int .i64 h)]
theorem nz:(((1:Nat)≠0)=True)/\(((2:Nat)≠0)=True)/\(((3:Nat)≠0)=True)/\(((4:Nat)≠0)=True):=by simp
theorem Ly(g:Int)(y:ay)(s t w:Int)(l:List (Int×Int))(M:Mem)(j:RowM M y 2 (l.map iA)):Meets ab 219 [mu g y s t,.v (.int .i64 w)] M λr _ _=>r=.v (.int .i64 (fi w l 0)):=by
 refine aH [0,1,2,3,4] Proofs.Tryz.func219 rfl (by kernel_rfl) rfl λD=>?_;generalize B:fi w l 0=c;have m:=j.eQ;rw[ae]at m;simp only[Proofs.Tryz.f219,mu,zV,seval,nz];refine j_ rfl rfl ?_;simp only[zV,seval];refine dF 8000 [0,1,4,5,7,8,9,16] Proofs.Tryz.func269 rfl (by kernel_rfl) rfl rfl λu=>?_;simp only[Proofs.Tryz.f269,jO,jP,zV,seval,j.gC,j.sl,ae];refine bE (X:=Nat×Nat) (λx=>([(0,true,.v y),(1,true,.fn 270 [.ptr 8024 0 0 0]),(7,true,.v (.int .i64 l.length)),(8,true,.v (.int .i64 x.2))],[(8024,.box [.v (.int .i64 w)] (some (u 24))),(8016,.box [.v (.int .i64 g),.v y,.v (.int .i64 s),.v (.int .i64 t)] (some (u 16)))],M)) (λx=>x.1+x.2=l.length/\fi w (l.drop x.2) x.2=c) (λx=>x.1) (l.length,0) ⟨rfl,B⟩ (aR ?_) ?_;·simp only[zV,seval]
 rintro⟨f,i⟩⟨C,d⟩;simp only at C d;by_cases n:i<l.length
 ·have o:((i:Int)<(l.length:Int))=True:=aK (by omega);obtain⟨⟨a,b⟩,z,k⟩:=jX (l:=l) (i:=i) n;rw[k]at d;simp only[fi]at d;have p:=j.fG (i:=i) (e:=[.int .i64 a,.int .i64 b]) (by rw[aN,z];rfl) (off:=0) (by omega);have q:=j.fG (i:=i) (e:=[.int .i64 a,.int .i64 b]) (by rw[aN,z];rfl) (off:=1) (by omega);have A:=j.ix (i:=(i:Int)) (by omega) (by rw[ae];omega);simp only[a_,bA]at p q;simp only[zV,seval,o,j.gC,j.sl,ae,A,p.1,q.1,p.2.1,q.2.1,A.2,nz];refine dF 8000 [0,1,2,3] Proofs.Tryz.func270 rfl (by kernel_rfl) rfl rfl λE=>?_;simp only[Proofs.Tryz.f270,jO,jP,zV,seval,nz,cY,lo,hi];refine⟨λh=>?_,λh=>?_⟩;·rw[aF h]at d;rw[d]
  ·rw[ai h]at d;refine⟨by omega,(f-1,i+1),⟨⟨by simp only;omega,d⟩,by simp only;omega⟩,aR ?_⟩;simp only[zV,seval,aJ]
 ·have o:((i:Int)<(l.length:Int))=False:=ax (by omega);have k:l.drop i=[]:=bh (by omega);rw[k]at d;simp only[fi]at d;subst d;simp only[jO,jP,zV,seval,o]
def nf(n:Int):Bool:=aU (0<=n)&&aU (n<=7)
def jG(k:Int):Bool:=aU (k=7)||aU (k=8)
def kS(k:Int):Bool:=aU (k=1)||aU (k=3)||(aU (5<=k)&&aU (k<=8))
theorem who(n:Int)(M:Mem):Meets ab 217 [.v (.int .i64 n)] M λr _ _=>r=.v (.bool (nf n)):=by refine aH [0,2] Proofs.Tryz.func217 rfl (by kernel_rfl) rfl λw=>?_;simp only[Proofs.Tryz.f217,zV,seval,nf]
theorem R_(k:Int)(M:Mem):Meets ab 237 [.v (.int .i64 k)] M λr _ _=>r=.v (.bool (jG k)):=by refine aH [0,2] Proofs.Tryz.func237 rfl (by kernel_rfl) rfl λw=>?_;simp only[Proofs.Tryz.f237,zV,seval,jG]
theorem zy(k:Int)(M:Mem):Meets ab 95 [.v (.int .i64 k)] M λr _ _=>r=.v (.bool (jG k)):=by refine aH [0,2] Proofs.Tryz.func95 rfl (by kernel_rfl) rfl λw=>?_;simp only[Proofs.Tryz.f95,zV,seval,jG]
theorem VE(k:Int)(M:Mem):Meets ab 236 [.v (.int .i64 k)] M λr _ _=>r=.v (.bool (kS k)):=by refine aH [0,2] Proofs.Tryz.func236 rfl (by kernel_rfl) rfl λw=>?_;simp only[Proofs.Tryz.f236,zV,seval,kS];exactλh=>⟨h,λa=>⟨h,a⟩⟩
def ix(k:Int):List Int->Nat->Int|[],_=>-1|x::l,i=>if k=x then(i:Int)else ix k l (i+1)
theorem aal(y:ay)(l:List Int)(k:Int)(M:Mem)(b:RowM M y 1 (l.map AN)):Meets ab 153 [.v y,.v (.int .i64 k)] M λr _ _=>r=.v (.int .i64 (ix k l 0)):=by
 refine aH [0,1,4,5,7,8,9,16] Proofs.Tryz.func153 rfl (by kernel_rfl) rfl λw=>?_;generalize j:ix k l 0=c;have d:=b.eQ;rw[ae]at d;simp only[Proofs.Tryz.f153,zV,seval,b.gC,b.sl,ae];refine bE (X:=Nat×Nat) (λx=>([(0,true,.v y),(1,true,.v (.int .i64 k)),(7,true,.v (.int .i64 l.length)),(8,true,.v (.int .i64 x.2))],[],M)) (λx=>x.1+x.2=l.length/\ix k (l.drop x.2) x.2=c) (λx=>x.1) (l.length,0) ⟨rfl,j⟩ (aR ?_) ?_;·simp only[zV,seval]
 rintro⟨f,i⟩⟨m,a⟩;simp only at m a;simp only[zV,seval];refine⟨λn=>?_,λn=>?_⟩
 ·obtain⟨x,o,e⟩:=jX (l:=l) (i:=i) (by omega);have h:=b.UH o rfl;have p:=b.ix (i:=(i:Int)) (by omega) (by rw[ae];omega);rw[e]at a;simp only[ix]at a;simp only[zV,seval,h.1,cY,lo,hi];refine⟨p,h.2,λg=>?_,λg=>⟨by omega,(f-1,i+1),⟨⟨by simp only;omega,by simp only;rw[ai g]at a;exact a⟩,by simp only;omega⟩,aR ?_⟩⟩;·rw[aF g]at a;rw[a]
  ·simp only[zV,seval,aJ]
 ·have e:l.drop i=[]:=bh (by omega);rw[e]at a;simp only[ix]at a;rw[a]
theorem Ji(y:ay)(l:List Int)(k:Int)(M:Mem)(a:RowM M y 1 (l.map AN)):Meets ab 96 [.v y,.v (.int .i64 k)] M λr _ _=>r=.v (.bool (aU (0<=ix k l 0))):=by refine aH [0,1,4] Proofs.Tryz.func96 rfl (by kernel_rfl) rfl λw=>?_;simp only[Proofs.Tryz.f96,zV,seval];refine az ⟨rfl,rfl⟩ rfl (aal y l k M a) ?_;simp only[zV,seval]
theorem VF(k:Int):aU (0<=ix k [1,3,5,6,7,8] 0)=kS k:=by
 by_cases a:k=1;·subst a;decide
 by_cases b:k=3;·subst b;decide
 by_cases c:k=5;·subst c;decide
 by_cases d:k=6;·subst d;decide
 by_cases f:k=7;·subst f;decide
 by_cases g:k=8;·subst g;decide
 have e:ix k [1,3,5,6,7,8] 0=-1:=by simp only[ix,ai a,ai b,ai c,ai d,ai f,ai g]
 rw[e];unfold kS;rw[bI a,bI b];by_cases h:5<=k;·rw[bI (show¬k<=8 by omega)];simp
 ·rw[bI h];simp
theorem Sa(k:Int)(M:Mem):Meets ab 92 [.v (.int .i64 k)] M λr _ _=>r=.v (.bool (kS k)):=by refine aH [0,2] Proofs.Tryz.func92 rfl (by kernel_rfl) rfl λw=>?_;simp only[Proofs.Tryz.f92,zV,seval];refine dP (k:=24) rfl rfl rfl (λ_=>rfl) (λb c _ a=>Ji b [1,3,5,6,7,8] k c a) ?_;simp only[zV,seval,VF]
def ky(w:Int):List (Int×Int)->Int|[]=>0|x::l=>if x.1=w then x.2 else ky w l
theorem Gy(g:Int)(y:ay)(u z w:Int)(l:List (Int×Int))(M:Mem)(j:RowM M y 2 (l.map iA)):Meets ab 90 [mu g y u z,.v (.int .i64 w)] M λr _ _=>r=.v (.int .i64 (ky w l)):=by
 refine aH [0,1,2,4,6,8,9,10,11,17] Proofs.Tryz.func90 rfl (by kernel_rfl) rfl λC=>?_;generalize A:ky w l=c;have m:=j.eQ;rw[ae]at m;simp only[Proofs.Tryz.f90,mu,zV,seval,nz,j.gC,j.sl,ae];refine bE (X:=Nat×Nat) (λx=>([(1,true,.v (.int .i64 w)),(8,true,.v y),(9,true,.v (.int .i64 l.length)),(10,true,.v (.int .i64 x.2))],[],M)) (λx=>x.1+x.2=l.length/\ky w (l.drop x.2)=c) (λx=>x.1) (l.length,0) ⟨rfl,A⟩ (aR ?_) ?_;·simp only[zV,seval]
 rintro⟨f,i⟩⟨B,d⟩;simp only at B d;by_cases n:i<l.length
 ·have o:((i:Int)<(l.length:Int))=True:=aK (by omega);obtain⟨⟨a,b⟩,s,k⟩:=jX (l:=l) (i:=i) n;rw[k]at d;simp only[ky]at d;have p:=j.fG (i:=i) (e:=[.int .i64 a,.int .i64 b]) (by rw[aN,s];rfl) (off:=0) (by omega);have q:=j.fG (i:=i) (e:=[.int .i64 a,.int .i64 b]) (by rw[aN,s];rfl) (off:=1) (by omega);have t:=j.ix (i:=(i:Int)) (by omega) (by rw[ae];omega);simp only[a_,bA]at p q;simp only[zV,seval,o,j.gC,j.sl,ae,t,p.1,q.1,p.2.1,q.2.1,t.2,nz,cY,lo,hi];refine⟨λ_=>trivial,λh=>?_,λh=>⟨by omega,(f-1,i+1),⟨⟨by simp only;omega,by simp only;rw[ai h]at d;exact d⟩,by simp only;omega⟩,aR ?_⟩⟩;·rw[aF h]at d;rw[d]
  ·simp only[zV,seval,aJ]
 ·have o:((i:Int)<(l.length:Int))=False:=ax (by omega);have k:l.drop i=[]:=bh (by omega);rw[k]at d;simp only[ky]at d;simp only[zV,seval,o];rw[d]
def ck:List (Int×Int)->Int->Int|[],_=>0|x::l,a=>if¬(0<=x.1/\x.1<=7)\/(x.2<1\/1000<x.2)then 1 else if x.1<=a then 3 else ck l x.1
def kE(l:List (Int×Int))(k h:Int):Int:=if k=0\/jG k=true then(if h≠0\/(jG k=true/\l=[])then 3 else 0)else if kS k=false then 1 else if fi h l 0<0 then 3 else 0
def fY(g:Int)(l:List (Int×Int))(k h:Int):Int:=if g<0\/2147483647<g then 1 else if ck l (-1)≠0 then ck l (-1)else kE l k h
theorem Sc:jG 0=false:=rfl
theorem Sd(g:Int)(y:ay)(m n:Int)(l:List (Int×Int))(M:Mem)(j:RowM M y 2 (l.map iA)):Meets ab 216 [mu g y m n] M λr _ _=>r=.v (.int .i64 (fY g l m n)):=by
 refine aH [0,1,2,3,4,12,14,15,16,17,34,48,50,72,73,78] Proofs.Tryz.func216 rfl (by kernel_rfl) rfl λw0=>?_;generalize d:fY g l m n=c;have A:=j.eQ;rw[ae]at A;by_cases J:g<0\/2147483647<g;·rw[fY,aF J]at d;subst d;simp only[Kx,mu,zV,seval,nz,j.gC,j.sl,ae];exactλh=>by omega
 rw[fY,ai J]at d;have P:(g<0)=False:=ax (by omega);have Q:(2147483647<g)=False:=ax (by omega);simp only[Kx,mu,zV,seval,nz,j.gC,j.sl,ae,P,Q];generalize B:ck l (-1)=R at d;refine bE (X:=Nat×Nat×Int) (λx=>([(1,true,.ptr 8 0 0 0),(14,true,.v y),(15,true,.v (.int .i64 l.length)),(16,true,.v (.int .i64 x.2.1))],[(8,.box [.v (.int .i64 g),.v y,.v (.int .i64 m),.v (.int .i64 n)] none)],M)) (λx=>(x.1+x.2.1=l.length/\((x.2.1=0/\x.2.2=-1)\/(0<x.2.1/\∃b,l[x.2.1-1]?=some (x.2.2,b))))/\ck (l.drop x.2.1) x.2.2=R) (λx=>x.1) (l.length,0,-1) ⟨⟨rfl,.inl ⟨rfl,rfl⟩⟩,B⟩ (aR ?_) ?_;·simp only[zV,seval]
 rintro⟨f,i,t⟩⟨⟨S,C⟩,k⟩;simp only at S k C;by_cases D:i<l.length
 ·have u:((i:Int)<(l.length:Int))=True:=aK (by omega);obtain⟨⟨a,b⟩,w,q⟩:=jX (l:=l) (i:=i) D;rw[q]at k;simp only[ck]at k;have E:=j.fG (i:=i) (e:=[.int .i64 a,.int .i64 b]) (by rw[aN,w];rfl) (off:=0) (by omega);have F:=j.fG (i:=i) (e:=[.int .i64 a,.int .i64 b]) (by rw[aN,w];rfl) (off:=1) (by omega);have K:=j.ix (i:=(i:Int)) (by omega) (by rw[ae];omega);simp only[a_,bA]at E F;simp only[zV,seval,u,j.gC,j.sl,ae,K,E.1,F.1,E.2.1,F.2.1,K.2,nz,cY,lo,hi];refine⟨λ_=>trivial,az ⟨rfl,rfl⟩ rfl (who a M) ?_⟩;by_cases L:¬(0<=a/\a<=7)\/(b<1\/1000<b);·rw[aF L]at k;subst k;rw[aF (by decide)]at d;subst d;simp only[zV,seval,nz,nf];exactλh=>by omega
  ·rw[ai L]at k;have G:nf a=true:=by unfold nf;rw[cy (by omega),cy (by omega)];rfl
   have o:(b<1)=False:=ax (by omega);have T:(1000<b)=False:=ax (by omega);simp only[zV,seval,nz,G,o,T];refine dD (by kernel_rfl) (by kernel_rfl) ?_;rcases C with⟨rfl,rfl⟩|⟨C,U,V⟩;·rw[ai (by omega)]at k;simp only[zV,seval,nz,j.gC,j.sl,ae,cY,lo,hi];refine⟨(f-1,1,a),⟨⟨⟨by simp only;omega,.inr ⟨by simp,b,by simpa using w⟩⟩,k⟩,by simp only;omega⟩,aR ?_⟩;simp only[zV,seval]
   ·have W:(0<(i:Int))=True:=aK (by omega);have Y:(i:Int)-1=((i-1:Nat):Int):=by omega
    have H:=j.fG (i:=i-1) (e:=[.int .i64 t,.int .i64 U]) (by rw[aN,V];rfl) (off:=0) (by omega);have N:=j.ix (i:=((i-1:Nat):Int)) (by omega) (by rw[ae];omega);simp only[a_,bA]at H;simp only[zV,seval,nz,W,Y,j.gC,j.sl,ae,H.1,H.2.1,N,N.2,cY,lo,hi];refine⟨by omega,λh=>?_,λh=>⟨by omega,(f-1,i+1,a),⟨⟨⟨by simp only;omega,.inr ⟨by simp,b,by simpa using w⟩⟩,by simp only;rw[ai (by omega)]at k;exact k⟩,by simp only;omega⟩,aR ?_⟩⟩;·rw[aF h]at k;subst k;rw[aF (by decide)]at d;rw[d]
    ·simp only[zV,seval,aJ]
 ·have u:((i:Int)<(l.length:Int))=False:=ax (by omega);have q:l.drop i=[]:=bh (by omega);rw[q]at k;simp only[ck]at k;subst k;rw[ai (by decide)]at d;have I:((l.length:Int)=0)=(l=[]):=by apply propext;rw[<-e_];omega
  unfold kE at d;by_cases s:m=0
  ·subst s;rw[aF (.inl rfl)]at d;by_cases p:n=0;·have o:(n=0)=True:=aK p;rw[ai (by simp[p,Sc])]at d;subst d;simp only[zV,seval,nz,u,o];refine az ⟨rfl,rfl⟩ rfl (R_ 0 M) ?_;simp only[zV,seval,nz,Sc]
   ·have o:(n=0)=False:=ax p;rw[aF (.inl p)]at d;subst d;simp only[zV,seval,nz,u,o]
  ·have Z:(m=0)=False:=ax s;simp only[zV,seval,nz,u,Z];refine az ⟨rfl,rfl⟩ rfl (R_ m M) ?_;cases z:jG m with
    |true=>
     rw[aF (.inr z)]at d;by_cases p:n=0;·have o:(n=0)=True:=aK p;simp only[zV,seval,nz,o];refine az ⟨rfl,rfl⟩ rfl (R_ m M) ?_;simp only[zV,seval,nz,z,j.gC,j.sl,ae,I];exact⟨λh=>by rw[aF (.inr ⟨z,h⟩)]at d;rw[d],λh=>by rw[ai (by simp[p,h])]at d;rw[d]⟩
     ·have o:(n=0)=False:=ax p;rw[aF (.inl p)]at d;subst d;simp only[zV,seval,nz,o]
    |false=>
     rw[ai (by simp[s,z])]at d;simp only[zV,seval,nz];refine az ⟨rfl,rfl⟩ rfl (VE m M) ?_;cases O:kS m with
      |false=>rw[aF O]at d;subst d;simp only[zV,seval,nz]
      |true=>
       rw[ai (by simp[O])]at d;simp only[zV,seval,nz];refine az ⟨rfl,rfl⟩ rfl (Ly g y m n n l M j) ?_;simp only[zV,seval,nz];refine⟨λh=>?_,λh=>?_⟩;·rw[aF h]at d;rw[d]
       ·rw[ai (by omega)]at d;rw[d]
end Go.X.Rv
namespace Go.X.Rv
open Go Go.X Go.X.Rp
theorem Jj(w:Int):∀(l:List (Int×Int))(i:Nat),(∀x∈l,1<=x.2)->((0<ky w l)↔0<=fi w l i)
 |[],i,_=>by simp[ky,fi]
 |x::l,i,h=>by
  simp only[ky,fi];split;·have :=h x bn;constructor<;>intro _<;>omega
  ·exact Jj w l (i+1) (λy a=>h y (bm _ a))
theorem Xa(w:Int):∀(l:List (Int×Int)),(∀x∈l,1<=x.2)->0<=ky w l
 |[],_=>pk _
 |x::l,h=>by
  simp only[ky];split;·have :=h x bn;omega
  ·exact Xa w l (λy a=>h y (bm _ a))
def ll(l:List (Int×Int))(k h w:Int):Bool:=if jG k=true then aU (0<=fi w l 0)else(aU (k≠0)&&aU (h=w))
theorem ZI(g:Int)(y:ay)(a d w:Int)(l:List (Int×Int))(M:Mem)(i:RowM M y 2 (l.map iA)):Meets ab 218 [mu g y a d,.v (.int .i64 w)] M λr _ _=>r=.v (.bool (ll l a d w)):=by
 refine aH [0,1,2,4] Proofs.Tryz.func218 rfl (by kernel_rfl) rfl λm=>?_;simp only[Proofs.Tryz.f218,mu,zV,seval,nz];by_cases b:a=0;·subst b;simp only[zV,seval,nz,ll,Sc]
 ·have j:(a=0)=False:=ax b;simp only[zV,seval,nz,j];refine az ⟨rfl,rfl⟩ rfl (R_ a M) ?_;cases c:jG a with
   |true=>
    simp only[zV,seval,nz];refine az ⟨rfl,rfl⟩ rfl (Ly g y a d w l M i) ?_;by_cases h:0<=fi w l 0;·have e:(0<=fi w l 0)=True:=aK h;have f:(fi w l 0<0)=False:=ax (by omega);simp only[zV,seval,nz,e,f,ll,c]
    ·have e:(0<=fi w l 0)=False:=ax h;have f:(fi w l 0<0)=True:=aK (by omega);simp only[zV,seval,nz,e,f,ll,c];refine az ⟨rfl,rfl⟩ rfl (R_ a M) ?_;simp only[zV,seval,nz,c]
   |false=>simp only[zV,seval,nz];refine az ⟨rfl,rfl⟩ rfl (R_ a M) ?_;have k:aU (a≠0)=true:=cy b;simp only[zV,seval,nz,c,ll,k]
theorem Se(g:Int)(y:ay)(a b w:Int)(l:List (Int×Int))(M:Mem)(e:RowM M y 2 (l.map iA))(f:∀x∈l,1<=x.2)(i:0<=a):Meets ab 93 [mu g y a b,.v (.int .i64 w)] M λr _ _=>r=.v (.bool (ll l a b w)):=by
 refine aH [0,1,2,4,7] Proofs.Tryz.func93 rfl (by kernel_rfl) rfl λj=>?_;have c:=Jj w l 0 f;simp only[Proofs.Tryz.f93,mu,zV,seval,nz];refine az ⟨rfl,rfl⟩ rfl (zy a M) ?_;cases d:jG a with
  |true=>simp only[zV,seval,nz];refine az ⟨rfl,rfl⟩ rfl (Gy g y a b w l M e) ?_;simp only[zV,seval,nz,ll,d,c]
  |false=>
   have h:(0<a)=(¬a=0):=by apply propext;omega
   simp only[zV,seval,nz,ll,d,h,ne_eq]
def oW(l:List (Int×Int))(k h w:Int)(a:Bool):Bool:=if k=0 then true else if k=1 then(!a||ll l k h w)else if k=3 then ll l k h w else if k=5\/k=7 then(!a||aU (0<=fi w l 0))else aU (0<=fi w l 0)
def Sf(g:Int)(l:List (Int×Int))(k h w:Int):Int:=if fY g l k h≠0 then fY g l k h else if nf w=true then 0 else 1
theorem may(g:Int)(y:ay)(a b w:Int)(c:Bool)(l:List (Int×Int))(M:Mem)(d:RowM M y 2 (l.map iA)):Meets ab 172 [mu g y a b,.v (.int .i64 w),.v (.bool c)] M λr _ _=>r=.tup [.v (.bool (aU (Sf g l a b w=0)&&oW l a b w c)),.v (.int .i64 (Sf g l a b w))]:=by
 refine aH [0,1,2,3,6,7,8,12,16,18,19,21,30,35] Proofs.Tryz.func172 rfl (by kernel_rfl) rfl λx=>?_;simp only[Proofs.Tryz.f172,mu,zV,seval,nz];refine az ⟨rfl,rfl⟩ rfl (Sd g y a b l M d) ?_;unfold Sf;generalize fY g l a b=e;by_cases m:e=0
 ·subst m;rw[ai (by simp)];simp only[zV,seval,nz];refine az ⟨rfl,rfl⟩ rfl (who w M) ?_;cases z:nf w with
   |false=>simp only[zV,seval,nz]
   |true=>
    rw[aF rfl];by_cases i:a=0;·subst i;simp only[zV,seval,nz,oW]
    have o:(a=0)=False:=ax i;by_cases j:a=1;·subst j;cases c with|false=>simp only[zV,seval,nz,oW]|true=>simp only[zV,seval,nz];refine az ⟨rfl,rfl⟩ rfl (ZI g y 1 b w l M d) ?_;simp only[zV,seval,nz,oW]
    have p:(a=1)=False:=ax j;by_cases k:a=3;·subst k;simp only[zV,seval,nz];refine az ⟨rfl,rfl⟩ rfl (ZI g y 3 b w l M d) ?_;simp only[zV,seval,nz,oW]
    have q:(a=3)=False:=ax k;by_cases f:a=5\/a=7
    ·have n:oW l a b w c=(!c||aU (0<=fi w l 0)):=by unfold oW;rw[ai i,ai j,ai k,aF f]
     rw[n];rcases f with rfl|rfl;·cases c with|false=>simp only[zV,seval,nz]|true=>simp only[zV,seval,nz];refine az ⟨rfl,rfl⟩ rfl (Ly g y 5 b w l M d) ?_;simp only[zV,seval,nz]
     ·cases c with|false=>simp only[zV,seval,nz]|true=>simp only[zV,seval,nz];refine az ⟨rfl,rfl⟩ rfl (Ly g y 7 b w l M d) ?_;simp only[zV,seval,nz]
    ·have s:(a=5)=False:=ax (λh=>f (.inl h));have t:(a=7)=False:=ax (λh=>f (.inr h));have n:oW l a b w c=aU (0<=fi w l 0):=by unfold oW;rw[ai i,ai j,ai k,ai f]
     rw[n];simp only[zV,seval,nz,o,p,q,s,t];refine az ⟨rfl,rfl⟩ rfl (Ly g y a b w l M d) ?_;simp only[zV,seval,nz]
 ·have u:(e=0)=False:=ax m;rw[aF m];simp only[zV,seval,nz,u]
theorem aam(g:Int)(y:ay)(a b w:Int)(d:Bool)(l:List (Int×Int))(M:Mem)(k:RowM M y 2 (l.map iA))(m:∀x∈l,1<=x.2)(o:0<=a):Meets ab 141 [mu g y a b,.v (.int .i64 w),.v (.bool d)] M λr _ _=>r=.v (.bool (oW l a b w d)):=by
 refine aH [0,1,2,3,6,7,12,16,27,34] Proofs.Tryz.func141 rfl (by kernel_rfl) rfl λz=>?_;have c:=Jj w l 0 m;simp only[Proofs.Tryz.f141,mu,zV,seval,nz];refine az ⟨rfl,rfl⟩ rfl (Gy g y a b w l M k) ?_;by_cases f:a=0;·subst f;simp only[zV,seval,nz,oW]
 have p:(a=0)=False:=ax f;by_cases i:a=1;·subst i;simp only[zV,seval,nz];refine az ⟨rfl,rfl⟩ rfl (Se g y 1 b w l M k m o) ?_;simp only[zV,seval,nz,oW];rw[Mt]
 have q:(a=1)=False:=ax i;by_cases j:a=3;·subst j;simp only[zV,seval,nz];refine az ⟨rfl,rfl⟩ rfl (Se g y 3 b w l M k m o) ?_;simp only[zV,seval,nz,oW]
 have s:(a=3)=False:=ax j;by_cases e:a=5\/a=7
 ·have n:oW l a b w d=(!d||aU (0<=fi w l 0)):=by unfold oW;rw[ai f,ai i,ai j,aF e]
  rw[n];rcases e with rfl|rfl;·simp only[zV,seval,nz,c];rw[Mt]
  ·simp only[zV,seval,nz,c];rw[Mt]
 ·have t:(a=5)=False:=ax (λh=>e (.inl h));have u:(a=7)=False:=ax (λh=>e (.inr h));have n:oW l a b w d=aU (0<=fi w l 0):=by unfold oW;rw[ai f,ai i,ai j,ai e]
  rw[n];simp only[zV,seval,nz,p,q,s,t,u,c]
end Go.X.Rv
namespace Go.X.Sl
open Go Go.X Go.RowKit
theorem VG(es:List (List ay))(x:List ay)(i:Nat)(M:Mem)(B:i<=es.length)(hb:es.length<=1000000)(t:∀e∈es,e.length=2/\∀c∈e,c.oneCell'=true)(p:x.length=2/\∀c∈x,c.oneCell'=true):MeetsH ab 234 [.own 8000,.v (.int .i64 i),.own 8008] [(8000,.row 2 es),(8008,.row 2 [x])] M (OwnR (λs=>s) 2 (es.take i++x::es.drop i)):=by
 refine gz eh (λe d=>?_) ?_
 ·rcases bU.1 d with d|d;·exact t e (cq d)
  ·rcases aV.1 d with rfl|d;·exact p
   ·exact t e (cG d)
 refine o9 Proofs.Tryz.func234 rfl (by kernel_rfl) λw M0=>?_;refine mr (k:=8000) 1002 rfl (λ_=>rfl) (λd=>?_) (λb cap sp K Y=>?_)
 ·subst d;have Z:i=0:=by simpa using B
  subst Z;refine k9 (live:=[0,1,2,6,7,8,9,16,22,31,68]) ?_;simp only[re,zV,↓reduceIte,aj,ak,al,af,aA,ag,reduceCtorEq,aB,aC,aD,aE,aq,ar,au,av,ah,aw,im,iq,ir,nzs,eB,gh,isSl];exact .inr ⟨200,rfl,rfl⟩
 refine k9 (live:=[0,1,2,6,7,8,9,16,22,31,68]) ?_;have hm:(cap:Int)<=9223372036854775807:=by have :=K.2.1;simp only[dB]at this;omega
 by_cases hn:i=es.length;·have A:((i:Int)=(es.length:Int))=True:=aK (by omega);simp only[re,zV,↓reduceIte,aj,ak,al,af,aA,ag,reduceCtorEq,aB,aC,aD,aE,aq,ar,au,av,ah,aw,im,iq,ir,nzs,eB,gh,isSl,A];refine⟨⟨⟨by omega,by omega⟩,by omega⟩,show OpK _ _ _ _ _ _ from y' (es:=es) (sp:=sp) (cap:=cap) (b:=b) 23 8016 1003 rfl rfl rfl K Y rfl (rV ?_)⟩;simp only[zV,↓reduceIte,aj,ak,al,af,aA,ag,reduceCtorEq,aB,aC,aD,aE,aq,ar,au,av,ah,aw,im,iq,ir,nzs];refine⟨⟨by omega,by omega⟩,.inr ⟨200,rfl,?_⟩⟩;simp[hn]
 have A:((i:Int)=(es.length:Int))=False:=ax (by omega);have f:∀e∈es,e.length=2:=λe d=>(t e d).1;have l:=cX f;have o:=cX (λe d=>f e (cq (i:=i) d));have g:=cX (λe d=>f e (cG (i:=i) d));rw[a6,cT B]at o;rw[aT]at g;have C:∀u∈(es.drop i).flatten,u.oneCell'=true:=λu P=>by obtain⟨e,d,P⟩:=rH.1 P;exact(t e (cG d)).2 u P
 have D:es.flatten.take (i*2)=(es.take i).flatten:=n7 f i;have E:es.flatten.drop (i*2)=(es.drop i).flatten:=rY f i;by_cases hr:es.length+1>cap
 ·have Q:((cap:Int)<(es.length:Int)+1)=True:=aK (by omega);simp only[re,zV,↓reduceIte,aj,ak,al,af,aA,ag,reduceCtorEq,aB,aC,aD,aE,aq,ar,au,av,ah,aw,im,iq,ir,nzs,eB,gh,isSl,A,cY,lo,hi];refine⟨⟨⟨by omega,by omega⟩,by omega⟩,⟨by omega,by omega⟩,⟨rfl,qQ (e:=185) rfl rfl rfl (by kernel_rfl) rfl rfl ?_⟩⟩;simp only[zV,↓reduceIte,aj,ak,al,af,aA,ag,reduceCtorEq,aB,aC,aD,aE,aq,ar,au,av,ah,aw,im,iq,ir,nzs,eB,gh,isSl,A,Q,cY,lo,hi,kc];have em:(es.length:Int)+1-(i:Int)=((es.length+1-i:Nat):Int):=by omega
  simp only[em];refine⟨⟨by omega,by omega⟩,⟨by omega,by omega⟩,⟨by omega,by omega⟩,show OpK _ _ _ _ _ _ from qS (base:=some ⟨b,0,none⟩) (n:=i) (m:=es.length+1-i) (c:=cap) (olds:=(es.take i).flatten) rfl rfl rfl OA (kn:=.i64) (by kernel_rfl) rfl rfl (.inr ⟨⟨b,0,none⟩,rfl,o,gp (k:=8016) (cs:=es.flatten++sp) rfl λj u q=>uN D.symm q⟩) (by omega) (by decide) rfl (by omega) (by omega) (by simp[hdel,hNoKey,poNoKey,opn_noKeys]) λS a F q1 q2 W=>?_⟩;have G:i+(es.length+1-i)=es.length+1:=by omega
  rw[G]at q1 W;have X:(bg (es.length+1-i) [cz bX 0,cz bX 0]).flatten.length=(es.length+1-i)*2:=by simp
  have L:(a=i)=False:=ax (by omega);simp only[zV,↓reduceIte,aj,ak,al,af,aA,ag,reduceCtorEq,aB,aC,aD,aE,aq,ar,au,av,ah,aw,im,iq,ir,nzs,eB,gh,isSl,cY,lo,hi,dK S (es.length+1) a 2 i,G,L];refine⟨⟨by omega,by omega⟩,⟨rfl,oO (k:=8008) 1003 rfl (λ_=>by simp[hpub,poPub,hNoKey,poNoKey,opn_noKeys,opn_pubs]) (λh=>by cases h) λT H z r1 r2=>?_⟩⟩;simp only[zV,↓reduceIte,aj,ak,al,af,aA,ag,reduceCtorEq,aB,aC,aD,aE,aq,ar,au,av,ah,aw,im,iq,ir,nzs,AO];refine iz (k:=320) (cs:=(es.take i).flatten++(bg (es.length+1-i) [cz bX 0,cz bX 0]).flatten++F) (news:=x) (m:=1) (ad:=⟨T,0,none⟩) rfl rfl OA rfl rfl rfl ?_ (gp (k:=8024) (cs:=[x].flatten++z) rfl λj u q=>?_) p.2 ?_ ?_;·rw[p.1];have :qC 1 (es.length+1-i)=1:=cT (by omega);rw[this]
  ·rw[b7,cW (by have :=(aI.1 q).1;simpa using this)];simpa using q
  ·rw[aG,aG,o,X,p.1];omega
  rw[<-o,bN,mZ];generalize hR:((bg (es.length+1-i) [cz bX 0,cz bX 0]).flatten++F).drop x.length=R;have I:R.length=(a-i-1)*2:=by rw[<-hR,aT,aG,X,p.1,W];omega
  simp only[xQ,zV,↓reduceIte,aj,ak,al,af,aA,ag,reduceCtorEq,aB,aC,aD,aE,aq,ar,au,av,ah,aw,im,iq,ir,nzs,AO];refine gE 8 (by kernel_rfl) (by kernel_rfl) ?_;have d2:(a=i+1)=False:=ax (by omega);have N:(cap=i)=False:=ax (by omega);have O:((i:Int)+1).toNat=i+1:=by omega
  simp only[zV,↓reduceIte,aj,ak,al,af,aA,ag,reduceCtorEq,aB,aC,aD,aE,aq,ar,au,av,ah,aw,im,iq,ir,nzs,eB,gh,isSl,cY,lo,hi,O,dK S (es.length+1) a 2 (i+1),dK b es.length cap 2 i,d2,N];refine⟨⟨by omega,by omega⟩,⟨⟨by omega,by omega⟩,by omega⟩,⟨⟨by omega,by omega⟩,by omega⟩,⟨rfl,iz (k:=320) (cs:=(es.take i).flatten++(x++R)) (news:=(es.drop i).flatten) (m:=es.length-i) (ad:=⟨b,i*2,none⟩) rfl rfl OA rfl rfl rfl ?_ (gp (k:=8016) (cs:=es.flatten++sp) rfl λj u q=>kQ E.symm q) C ?_ ?_⟩⟩;·have :qC (es.length-i) (es.length+1-(i+1))=es.length-i:=cT (by omega);rw[this,g]
  ·rw[aG,aG,o,g,I,p.1];omega
  have eo:(i+1)*2=((es.take i).flatten++x).length:=by rw[aG,o,p.1];omega
  rw[eo,<-bN,mZ];have U:(es.take i).flatten++x++((es.drop i).flatten++R.drop (es.drop i).flatten.length)=(es.take i++x::es.drop i).flatten++R.drop (es.drop i).flatten.length:=by simp
  rw[U];have r:(es.take i++x::es.drop i).length=es.length+1:=by simp;omega
  simp only[xQ,zV,↓reduceIte,aj,ak,al,af,aA,ag,reduceCtorEq,aB,aC,aD,aE,aq,ar,au,av,ah,aw,im,iq,ir,nzs,AO];refine .inl ⟨S,320,a,R.drop (es.drop i).flatten.length,by rw[r],rfl,by omega,q2,?_⟩;rw[aT,I,g,r];omega
 ·have Q:((cap:Int)<(es.length:Int)+1)=False:=ax (by omega);have e3:((es.length:Int)+1).toNat=es.length+1:=by omega
  have O:((i:Int)+1).toNat=i+1:=by omega
  have L:(cap=i+1)=False:=ax (by omega);simp only[re,zV,↓reduceIte,aj,ak,al,af,aA,ag,reduceCtorEq,aB,aC,aD,aE,aq,ar,au,av,ah,aw,im,iq,ir,nzs,eB,gh,isSl,A,cY,lo,hi];refine⟨⟨⟨by omega,by omega⟩,by omega⟩,⟨by omega,by omega⟩,⟨rfl,qQ (e:=185) rfl rfl rfl (by kernel_rfl) rfl rfl ?_⟩⟩;simp only[zV,↓reduceIte,aj,ak,al,af,aA,ag,reduceCtorEq,aB,aC,aD,aE,aq,ar,au,av,ah,aw,im,iq,ir,nzs,eB,gh,isSl,A,Q,cY,lo,hi,kc,e3,O,dK b (es.length+1) cap 2 (i+1),L];refine⟨⟨by omega,by omega⟩,⟨by omega,by omega⟩,⟨by omega,by omega⟩,⟨⟨by omega,by omega⟩,by omega⟩,rj (k:=8008) 1003 rfl (λ_=>by simp[hpub,poPub,hNoKey,poNoKey,opn_noKeys,opn_pubs]) (λh=>by cases h) (λT H z r1 r2=>?_) (λ_=>rfl)⟩;simp only[zV,↓reduceIte,aj,ak,al,af,aA,ag,reduceCtorEq,aB,aC,aD,aE,aq,ar,au,av,ah,aw,im,iq,ir,nzs,AO];refine p7 (k:=8024) (k2:=8016) (cs:=[x].flatten++z) (cs2:=es.flatten++sp) (tS:=31) (tR:=4) (e:=185) (sz:=2) rfl (by kernel_rfl) Proofs.Tryz.sizeOf185 (λw x y v h=>by rw[run_callFunc_extern Proofs.Tryz.func284 (by kernel_rfl) (by kernel_rfl) (by kernel_rfl) (e:=nP #[31,31] #[4]) (by kernel_rfl),h];rfl) rfl rfl rfl ?_ ?_;·rw[aG,l];omega
  simp only[zV,↓reduceIte,aj,ak,al,af,aA,ag,reduceCtorEq,aB,aC,aD,aE,aq,ar,au,av,ah,aw,im,iq,ir,nzs,AO];refine gE 8 (by kernel_rfl) (by kernel_rfl) ?_;have N:(cap=i)=False:=ax (by omega);simp only[zV,↓reduceIte,aj,ak,al,af,aA,ag,reduceCtorEq,aB,aC,aD,aE,aq,ar,au,av,ah,aw,im,iq,ir,nzs,eB,gh,isSl,cY,lo,hi,O,dK b (es.length+1) cap 2 (i+1),dK b (es.length+1) cap 2 i,L,N];refine⟨⟨by omega,by omega⟩,⟨⟨by omega,by omega⟩,by omega⟩,⟨⟨by omega,by omega⟩,by omega⟩,⟨rfl,iz (k:=8016) (cs:=es.flatten++sp) (news:=(es.drop i).flatten) (m:=es.length+1-i) (ad:=⟨b,i*2,none⟩) rfl rfl OA rfl rfl rfl ?_ (gp (k:=8016) (cs:=es.flatten++sp) rfl λj u q=>kQ E.symm q) C ?_ ?_⟩⟩
  ·have :qC (es.length+1-i) (es.length+1-(i+1))=es.length-i:=by rw[show es.length+1-(i+1)=es.length-i by omega];exact Nat.min_eq_right (by omega)
   rw[this,g]
  ·rw[aG,l,g];omega
  simp only[xQ,zV,↓reduceIte,aj,ak,al,af,aA,ag,reduceCtorEq,aB,aC,aD,aE,aq,ar,au,av,ah,aw,im,iq,ir,nzs,AO,eB,gh,isSl,dK b (es.length+1) cap 2 i,N];have V:(km (es.flatten++sp) ((i+1)*2) (es.drop i).flatten).length=(es.flatten++sp).length:=by unfold km;rw[aG,aG,a6,aT,aG,l,g];omega
  refine⟨⟨by omega,by omega⟩,⟨rfl,iz (k:=8016) (cs:=km (es.flatten++sp) ((i+1)*2) (es.drop i).flatten) (news:=x) (m:=1) (ad:=⟨T,0,none⟩) rfl rfl OA rfl rfl rfl ?_ (gp (k:=8024) (cs:=[x].flatten++z) rfl λj u q=>?_) p.2 ?_ ?_⟩⟩;·rw[p.1];have :qC 1 (es.length+1-i)=1:=cT (by omega);rw[this]
  ·rw[b7,cW (by have :=(aI.1 q).1;simpa using this)];simpa using q
  ·rw[V,aG,l,p.1];omega
  have J:=wL (es.flatten++sp) (es.drop i).flatten x (i*2) (by rw[aG,l,p.1];omega);rw[p.1,show i*2+2=(i+1)*2 by omega,jC (by omega),D]at J;rw[J];have U:(es.take i).flatten++x++((es.drop i).flatten++(es.flatten++sp).drop ((i+1)*2+(es.drop i).flatten.length))=(es.take i++x::es.drop i).flatten++(es.flatten++sp).drop ((i+1)*2+(es.drop i).flatten.length):=by simp
  rw[U];have r:(es.take i++x::es.drop i).length=es.length+1:=by simp;omega
  simp only[xQ,zV,↓reduceIte,aj,ak,al,af,aA,ag,reduceCtorEq,aB,aC,aD,aE,aq,ar,au,av,ah,aw,im,iq,ir,nzs,AO];refine .inl ⟨b,8016,cap,_,by rw[r],rfl,by omega,K.2.1,?_⟩;rw[aT,aG,l,g,r,K.2.2];omega
def bk{α:Type}(a:α->Int):List α->Nat|[]=>0|x::l=>if a x<0 then bk a l+1 else 0
def bf{α:Type}(a:α->Int)(l:List α):Bool:=match l[bk a l]? with|some x=>aU (a x=0)|none=>false
theorem Xb{α:Type}(b:α->Int):∀(l:List α)(i:Nat),i<=l.length->(∀q x,q<i->l[q]?=some x->b x<0)->(∀x,l[i]?=some x->¬b x<0)->bk b l=i|[],i,h,_,_=>by simp at h;subst h;rfl|a::l,0,_,_,c=>by have :=c a rfl;rw[bk,ai this]|a::l,i+1,h,e,c=>by have :=e 0 a (by omega) rfl;rw[bk,aF this,Xb b l i (by simpa using h) (λq x f d=>e (q+1) x (by omega) (by simpa using d)) (λx d=>c x (by simpa using d))]
theorem Fh{α:Type}(p:α->Bool):∀(l:List α)(i:Nat),(fg p l i=-1/\∀x∈l,p x=false)\/∃j x,fg p l i=((i+j:Nat):Int)/\l[j]?=some x/\p x=true/\∀q y,q<j->l[q]?=some y->p y=false
 |[],i=>.inl ⟨rfl,λx c=>by cases c⟩
 |a::l,i=>by
  cases b:p a with
   |true=>exact .inr ⟨0,a,by simp[fg,b],rfl,b,λq y g=>by omega⟩
   |false=>
    rcases Fh p l (i+1)with⟨d,e⟩|⟨j,x,d,e,h,k⟩
    ·refine .inl ⟨by simp[fg,b,d],λx c=>?_⟩;rcases aV.1 c with rfl|c;·exact b
     ·exact e x c
    ·refine .inr ⟨j+1,x,by simp only[fg,b];simp;rw[d];omega,e,h,λq y g f=>?_⟩;cases q with|zero=>simp at f;subst f;exact b|succ q=>exact k q y (by omega) f
theorem bsR{α:Type}(u z:α->ay)(a:α->Int)(f:Nat)(C y:ay)(l:List α)(M:Mem)(k:RowM M y 2 (l.map λx=>[u x,z x]))(S:l.length<=1000000)(J:∀x∈l,Meets ab f [.agg [.v (u x),.v (z x)],.v C] M λr _ _=>r=.v (.int .i64 (a x)))(c:∀(i j:Nat)(x y:α),i<=j->l[i]?=some x->l[j]?=some y->a y<0->a x<0):Meets ab 232 [.v y,.v C,.fn f []] M λr _ _=>r=.tup [.v (.int .i64 (bk a l)),.v (.bool (bf a l))]:=by
 refine aH [0,1,2,6,7,8,9,10,11,17,31] Proofs.Tryz.func232 rfl (by kernel_rfl) rfl λw=>?_;simp only[Proofs.Tryz.f232,zW,↓reduceIte,aj,ak,al,af,aA,ag,reduceCtorEq,aB,aC,aD,aE,aq,ar,au,av,ah,aw,k.gC,k.sl,ae];refine bE (X:=Nat×Nat) (λx=>([(0,true,.v y),(1,true,.v C),(2,true,.fn f []),(8,true,.v (.int .i64 l.length)),(9,true,.v (.int .i64 x.1)),(10,true,.v (.int .i64 x.2))],[],M)) (λx=>(x.1<=x.2/\x.2<=l.length)/\(∀q d,q<x.1->l[q]?=some d->a d<0)/\∀q d,x.2<=q->l[q]?=some d->0<=a d) (λx=>x.2-x.1) (0,l.length) ⟨⟨by simp,by simp⟩,λq d m=>by simp at m,λq d m b=>by rw[dm (by simpa using m)]at b;cases b⟩ (aR ?_) ?_;·simp only[zV,↓reduceIte,aj,ak,al,af,aA,ag,reduceCtorEq,aB,aC,aD,aE,aq,ar,au,av,ah,aw]
 rintro⟨i,j⟩⟨⟨K,D⟩,E,F⟩;simp only at K D E F;by_cases L:i<j
 ·have G:((i:Int)<(j:Int))=True:=aK (by omega);have N:xq .u64 ((i:Int)+(j:Int))=(i:Int)+(j:Int):=fO ⟨by simp only[lo];omega,by simp only[hi];omega⟩;have O:xq .i64 (((i:Int)+(j:Int))/2^1)=(((i+j)/2:Nat):Int):=by
   rw[show(2:Int)^1=2 from rfl,fO];·omega
   ·exact⟨by simp only[lo];omega,by simp only[hi];omega⟩
  have P:(i+j)/2<l.length:=by omega
  obtain⟨x,b,_⟩:=cE (l:=l) P;have n:=k.fG (i:=(i+j)/2) (e:=[u x,z x]) (by rw[aN,b];rfl) (off:=0) (by omega);have o:=k.fG (i:=(i+j)/2) (e:=[u x,z x]) (by rw[aN,b];rfl) (off:=1) (by omega);have A:=k.ix (i:=(((i+j)/2:Nat):Int)) (by omega) (by rw[ae];omega);simp only[a_,bA]at n o;generalize Q:(i+j)/2=h at*;simp only[zW,↓reduceIte,aj,ak,al,af,aA,ag,reduceCtorEq,aB,aC,aD,aE,aq,ar,au,av,ah,aw,G,N,O,cY,lo,hi,A,A.2,n.1,n.2.1,o.1,o.2.1];refine⟨by omega,by decide,az ⟨rfl,rfl⟩ rfl (J x (aL b)) ?_⟩;by_cases B:a x<0;·have p:(a x<0)=True:=aK B;simp only[zW,↓reduceIte,aj,ak,al,af,aA,ag,reduceCtorEq,aB,aC,aD,aE,aq,ar,au,av,ah,aw,p,cY,lo,hi];refine⟨by omega,(h+1,j),⟨⟨⟨by simp only;omega,D⟩,λq d m s=>c q h d x (by simp only at m;omega) s b B,F⟩,by simp only;omega⟩,aR ?_⟩;simp only[zV,↓reduceIte,aj,ak,al,af,aA,ag,reduceCtorEq,aB,aC,aD,aE,aq,ar,au,av,ah,aw,aJ]
  ·have p:(a x<0)=False:=ax B;simp only[zW,↓reduceIte,aj,ak,al,af,aA,ag,reduceCtorEq,aB,aC,aD,aE,aq,ar,au,av,ah,aw,p,cY,lo,hi];refine⟨(i,h),⟨⟨⟨by simp only;omega,by simp only;omega⟩,E,λq d m s=>PZ.1 λH=>B (c h q x d m b s H)⟩,by simp only;omega⟩,aR ?_⟩;simp only[zV,↓reduceIte,aj,ak,al,af,aA,ag,reduceCtorEq,aB,aC,aD,aE,aq,ar,au,av,ah,aw]
 ·have G:((i:Int)<(j:Int))=False:=ax (by omega);have R:i=j:=by omega
  subst R;have g:bk a l=i:=Xb a l i D E (λx b=>PZ.2 (F i x (bc _) b));simp only[zW,↓reduceIte,aj,ak,al,af,aA,ag,reduceCtorEq,aB,aC,aD,aE,aq,ar,au,av,ah,aw,G];by_cases I:i<l.length
  ·have p:((i:Int)<(l.length:Int))=True:=aK (by omega);obtain⟨x,b,_⟩:=cE (l:=l) I;have n:=k.fG (i:=i) (e:=[u x,z x]) (by rw[aN,b];rfl) (off:=0) (by omega);have o:=k.fG (i:=i) (e:=[u x,z x]) (by rw[aN,b];rfl) (off:=1) (by omega);have A:=k.ix (i:=(i:Int)) (by omega) (by rw[ae];omega);simp only[a_,bA]at n o;have t:bf a l=aU (a x=0):=by simp only[bf,g,b]
   simp only[zW,↓reduceIte,aj,ak,al,af,aA,ag,reduceCtorEq,aB,aC,aD,aE,aq,ar,au,av,ah,aw,p,A,A.2,n.1,n.2.1,o.1,o.2.1];refine⟨az ⟨rfl,rfl⟩ rfl (J x (aL b)) ?_,λh=>by omega⟩;simp only[zW,↓reduceIte,aj,ak,al,af,aA,ag,reduceCtorEq,aB,aC,aD,aE,aq,ar,au,av,ah,aw,g,t]
  ·have p:((i:Int)<(l.length:Int))=False:=ax (by omega);have t:bf a l=false:=by simp only[bf,g,dm (show l.length<=i by omega)]
   simp only[zW,↓reduceIte,aj,ak,al,af,aA,ag,reduceCtorEq,aB,aC,aD,aE,aq,ar,au,av,ah,aw,p,g,t]
theorem aan{α:Type}(j k:α->ay)(p:α->Bool)(f:Nat)(b:List SV)(d:SV.concs b=true)(y:ay)(l:List α)(M:Mem)(h:RowM M y 2 (l.map (λx=>[j x,k x])))(B:∀x∈l,Meets ab f (.agg [.v (j x),.v (k x)]::b) M λr _ _=>r=.v (.bool (p x))):Meets ab 269 [.v y,.fn f b] M λr _ _=>r=.v (.int .i64 (fg p l 0)):=by
 refine aH [0,1,4,5,7,8,9,16] Proofs.Tryz.func269 rfl (by kernel_rfl) (by simp only[SV.concs,SV.conc,d,cK]) λw=>?_;generalize C:fg p l 0=c;have m:=h.eQ;rw[ae]at m;simp only[Proofs.Tryz.f269,zV,↓reduceIte,aj,ak,al,af,aA,ag,reduceCtorEq,aB,aC,aD,aE,aq,ar,au,av,ah,aw,h.gC,h.sl,ae];refine bE (X:=Nat×Nat) (λx=>([(0,true,.v y),(1,true,.fn f b),(7,true,.v (.int .i64 l.length)),(8,true,.v (.int .i64 x.2))],[],M)) (λx=>x.1+x.2=l.length/\fg p (l.drop x.2) x.2=c) (λx=>x.1) (l.length,0) ⟨rfl,C⟩ (aR ?_) ?_;·simp only[zV,↓reduceIte,aj,ak,al,af,aA,ag,reduceCtorEq,aB,aC,aD,aE,aq,ar,au,av,ah,aw]
 rintro⟨D,i⟩⟨E,g⟩;simp only at E g;by_cases n:i<l.length;·have o:((i:Int)<(l.length:Int))=True:=aK (by omega);obtain⟨a,q,s⟩:=cE (l:=l) (i:=i) n;rw[s]at g;simp only[fg]at g;have t:=h.fG (i:=i) (e:=[j a,k a]) (by rw[aN,q];rfl) (off:=0) (by omega);have u:=h.fG (i:=i) (e:=[j a,k a]) (by rw[aN,q];rfl) (off:=1) (by omega);have z:=h.ix (i:=(i:Int)) (by omega) (by rw[ae];omega);simp only[a_,bA]at t u;simp only[zW,↓reduceIte,aj,ak,al,af,aA,ag,reduceCtorEq,aB,aC,aD,aE,aq,ar,au,av,ah,aw,o,h.gC,h.sl,ae,z,z.2,t.1,t.2.1,u.1,u.2.1];refine az ⟨by simp only[SV.concs,SV.conc,d,cK],rfl⟩ rfl (B a (aL q)) ?_;cases A:p a with|true=>rw[A,aF rfl]at g;subst g;simp only[zW,↓reduceIte,aj,ak,al,af,aA,ag,reduceCtorEq,aB,aC,aD,aE,aq,ar,au,av,ah,aw]|false=>rw[A,ai (by simp)]at g;simp only[zW,↓reduceIte,aj,ak,al,af,aA,ag,reduceCtorEq,aB,aC,aD,aE,aq,ar,au,av,ah,aw,cY,lo,hi];refine⟨by omega,(D-1,i+1),⟨⟨by simp only;omega,g⟩,by simp only;omega⟩,aR ?_⟩;simp only[zV,↓reduceIte,aj,ak,al,af,aA,ag,reduceCtorEq,aB,aC,aD,aE,aq,ar,au,av,ah,aw,aJ]
 ·have o:((i:Int)<(l.length:Int))=False:=ax (by omega);have s:l.drop i=[]:=bh (by omega);rw[s]at g;simp only[fg]at g;subst g;simp only[zV,↓reduceIte,aj,ak,al,af,aA,ag,reduceCtorEq,aB,aC,aD,aE,aq,ar,au,av,ah,aw,o]
theorem abp{α:Type}(d g:α->ay)(p:α->Bool)(f:Nat)(K:ay)(l:List α)(M:Mem)(hb:l.length<=1000000)(L:∀x∈l,(d x).oneCell'=true/\(g x).oneCell'=true)(hf:∀M',M.le M'->∀x∈l,Meets ab f [.agg [.v (d x),.v (g x)],.v K] M' λr _ _=>r=.v (.bool (p x))):MeetsH ab 282 [.own 8000,.fn f [.v K]] [(8000,.row 2 (l.map λx=>[d x,g x]))] M (OwnR (λs=>s) 2 ((l.filter λx=>!p x).map λx=>[d x,g x])):=by
 have N:∀x∈l,([d x,g x]:List ay).length=2/\∀c∈[d x,g x],c.oneCell'=true:=λx m=>⟨rfl,λc hc=>by
  simp only[aV,cH,fK]at hc;rcases hc with rfl|rfl;·exact(L x m).1
  ·exact(L x m).2⟩;refine gz eh (λe B=>?_) ?_;·obtain⟨x,m,rfl⟩:=dq.1 B;exact N x (BI.1 m).1
 refine fS [0,1,4,5,6,7,12,19,29] Proofs.Tryz.func282 rfl (by kernel_rfl) λw M0=>?_;simp only[Proofs.Tryz.f282,zW,↓reduceIte,aj,ak,al,af,aA,ag,reduceCtorEq,aB,aC,aD,aE,aq,ar,au,av,ah,aw];refine dP (k:=8000) rfl rfl rfl (λ_=>rfl) (λv2 M2 O P=>aan d g p f [.v K] rfl v2 l M2 P (λx m=>hf M2 O x m)) ?_;rcases Fh p l 0 with⟨o,Q⟩|⟨t,x0,o,G,R,S⟩;·rw[o];have ef:(l.filter λx=>!p x)=l:=DS.2 (λx m=>by rw[Q x m];rfl);rw[ef];simp only[zV,↓reduceIte,aj,ak,al,af,aA,ag,reduceCtorEq,aB,aC,aD,aE,aq,ar,au,av,ah,aw,im,iq,ir,nzs];exact .inr ⟨8000,rfl,rfl⟩
 rw[b7]at o;rw[o];have hjl:t<l.length:=(aI.1 G).1;have c0:((t:Int)=-1)=False:=ax (by omega);simp only[zW,↓reduceIte,aj,ak,al,af,aA,ag,reduceCtorEq,aB,aC,aD,aE,aq,ar,au,av,ah,aw,c0,cY,lo,hi];refine⟨by omega,?_⟩;have C:((l.take (t+1)).filter λx=>!p x)=l.take t:=by
  rw[cm,G,G'];have e1:((l.take t).filter λx=>!p x)=l.take t:=DS.2 (λx m=>by
   obtain⟨q,u⟩:=List.mem_iff_getElem?.1 m;rw[i_]at u;split at u;·rw[S q x (by assumption) u];rfl
   ·cases u);rw[e1];simp[R]
 refine ER (X:=Nat×Nat×Nat×List (List ay)) (λx=>([(0,true,.own 8000),(1,true,.fn f [.v K]),(5,true,.v (.int .i64 x.2.1)),(6,true,.v (.int .i64 x.2.2.1))],[(8000,.row 2 x.2.2.2)],M)) (λx=>((x.1+x.2.2.1=l.length/\x.2.1<x.2.2.1)/\x.2.2.2.length=l.length)/\x.2.2.2.take x.2.1=((l.take x.2.2.1).filter λx=>!p x).map (λx=>[d x,g x])/\x.2.2.2.drop x.2.2.1=(l.drop x.2.2.1).map (λx=>[d x,g x])) (λx=>x.1) (l.length-(t+1),t,t+1,l.map λx=>[d x,g x]) ⟨⟨⟨by simp only;omega,by simp⟩,by simp⟩,by simp only;rw[C,eH],by simp only;rw[fI]⟩ (aR ?_) ?_;·simp only[zV,↓reduceIte,aj,ak,al,af,aA,ag,reduceCtorEq,aB,aC,aD,aE,aq,ar,au,av,ah,aw,aJ]
 rintro⟨fu,i,j,a⟩⟨⟨⟨g1,g2⟩,n⟩,F,T⟩;simp only at g1 g2 n F T;by_cases hj:j<l.length
 ·refine k9 (live:=[0,1,4,5,6,7,12,19,29]) ?_;have U:((j:Int)<(l.length:Int))=True:=aK (by omega);obtain⟨x,m,hd⟩:=cE (l:=l) hj;have V:a[j]?=some [d x,g x]:=by have :=aY (λl=>l[0]?) T;simp only[fx,eJ]at this;rw[this,aN,fx,eJ,m];rfl
  have W:a.getD j []=[d x,g x]:=by rw[cN,V];rfl
  simp only[zW,↓reduceIte,aj,ak,al,af,aA,ag,reduceCtorEq,aB,aC,aD,aE,aq,ar,au,av,ah,aw,n,U,W,cY,lo,hi,a_,bA,cQ,List.take_succ_cons,fE,ca,cr];have ho:=L x (aL m);refine⟨by omega,hj,ho,az ⟨rfl,rfl⟩ rfl (hf M (cg M) x (aL m)) ?_⟩;have y:(l.take (j+1)).filter (λx=>!p x)=(l.take j).filter (λx=>!p x)++(if p x=true then[]else[x]):=by rw[cm,m,G'];congr 1;cases z:p x<;>simp[z]
  have H:a.drop (j+1)=(l.drop (j+1)).map (λx=>[d x,g x]):=by have :=aY (nc 1) T;rwa[l6,<-fI,l6]at this
  cases z:p x with
   |true=>rw[z,aF rfl,cS]at y;simp only[zW,↓reduceIte,aj,ak,al,af,aA,ag,reduceCtorEq,aB,aC,aD,aE,aq,ar,au,av,ah,aw,cY,lo,hi];refine⟨by omega,(fu-1,i,j+1,a),⟨⟨⟨⟨by simp only;omega,by simp only;omega⟩,n⟩,by simp only;rw[y];exact F,H⟩,by simp only;omega⟩,aR ?_⟩;simp only[zV,↓reduceIte,aj,ak,al,af,aA,ag,reduceCtorEq,aB,aC,aD,aE,aq,ar,au,av,ah,aw,aJ]
   |false=>
    rw[z,ai (by simp)]at y;simp only[zW,↓reduceIte,aj,ak,al,af,aA,ag,reduceCtorEq,aB,aC,aD,aE,aq,ar,au,av,ah,aw,n,cY,lo,hi];refine⟨⟨by omega,by omega⟩,⟨ho,by omega⟩,by omega,by omega,(fu-1,i+1,j+1,a.set i [d x,g x]),⟨⟨⟨⟨by simp only;omega,by simp only;omega⟩,by simp only;rw[eg];exact n⟩,?_,?_⟩,by simp only;omega⟩,aR ?_⟩;·simp only;rw[y,bq,<-F,cm,List.take_set_of_le (by omega),mz (by omega)];rfl
    ·simp only;rw[List.drop_set_of_lt (by omega)];exact H
    ·simp only[zV,↓reduceIte,aj,ak,al,af,aA,ag,reduceCtorEq,aB,aC,aD,aE,aq,ar,au,av,ah,aw,aJ]
 ·have U:((j:Int)<(l.length:Int))=False:=ax (by omega);have ej:j=l.length:=by omega
  refine Ch (σ':=[(0,true,.own 8000),(5,true,.v (.int .i64 i)),(6,true,.v (.int .i64 j))]) ?_ (by simp only[zV,↓reduceIte,aj,ak,al,af,aA,ag,reduceCtorEq,aB,aC,aD,aE,aq,ar,au,av,ah,aw]);refine mr (k:=8000) 1002 rfl (λ_=>rfl) (λh=>by simp only at h;rw[h]at n;simp at n;omega) λb D Y Z E=>?_;refine k9 (live:=[0,1,4,5,6,7,12,19,29]) ?_;simp only[zV,↓reduceIte,aj,ak,al,af,aA,ag,reduceCtorEq,aB,aC,aD,aE,aq,ar,au,av,ah,aw,im,iq,ir,nzs,n,U,eB,gh,isSl,cY,lo,hi];have u:=n▸Z;have d1:(D=i)=False:=ax (by omega);have A:=cX (λe B=>(E e B).1);have I:=cX (λe B=>(E e (cq (i:=i) B)).1);rw[a6,cT (by omega)]at I;simp only at A I u;simp only[dK b l.length D 2 i,d1,cA];refine⟨⟨⟨by omega,by omega⟩,by omega⟩,⟨rfl,qR (k:=8016) (cs:=a.flatten++Y) rfl rfl OA rfl rfl rfl rfl (by rw[aG,A,n,u.2.2];omega) ?_⟩⟩;have ep:km (a.flatten++Y) (i*2) (bg (l.length-i) [cz bX 0,cz bX 0]).flatten=(a.take i).flatten++((bg (l.length-i) [cz bX 0,cz bX 0]).flatten++(a.flatten++Y).drop (i*2+(bg (l.length-i) [cz bX 0,cz bX 0]).flatten.length)):=by unfold km;rw[jC (by rw[A,n];omega),n7 (λe B=>(E e B).1),bN]
  rw[ep];have hzl:(bg (l.length-i) [cz bX 0,cz bX 0]).flatten.length=(l.length-i)*2:=by simp
  simp only[zV,↓reduceIte,aj,ak,al,af,aA,ag,reduceCtorEq,aB,aC,aD,aE,aq,ar,au,av,ah,aw,im,iq,ir,nzs,AO,eB,gh,isSl,kc];rw[ej,sH]at F;have J:((l.filter λx=>!p x).map λx=>[d x,g x]).length=i:=by rw[<-F,a6];omega
  rw[F];refine⟨by omega,.inl ⟨b,8016,D,_,by rw[J],rfl,by omega,u.2.1,?_⟩⟩;rw[aG,aT,aG,hzl,A,n,u.2.2,J];omega
end Go.X.Sl
namespace Go.X.Rv
open Go Go.X Go.X.Rp Go.X.Sl
def qy:Int->List (Int×Int)->Prop|_,[]=>True|a,x::l=>(a<=x.1/\x.1<=7)/\(1<=x.2/\x.2<=1000)/\qy (x.1+1) l
theorem C5{a b:Int}:∀{l:List (Int×Int)},a<=b->qy b l->qy a l|[],_,_=>trivial|x::l,h,⟨c,d,e⟩=>⟨⟨by omega,c.2⟩,d,e⟩
theorem Sg:∀{l:List (Int×Int)}{last:Int},-1<=last->ck l last=0->qy (last+1) l
 |[],_,_,_=>trivial
 |x::l,last,a,h=>by
  simp only[ck]at h;split at h;·cases h
  ·split at h;·cases h
   ·exact⟨by omega,by omega,Sg (by omega) h⟩
theorem Sh{w:Int}:∀{l:List (Int×Int)}{a:Int},qy a l->w<a->ky w l=0|[],_,_,_=>rfl|x::l,a,⟨c,d,b⟩,h=>by rw[ky,ai (by omega)];exact Sh b (by omega)
theorem LA{w:Int}:∀{l:List (Int×Int)}{a:Int},qy a l->0<=ky w l/\ky w l<=1000
 |[],_,_=>⟨by simp[ky],by simp[ky]⟩
 |x::l,a,⟨c,d,b⟩=>by
  rw[ky];split;·omega
  ·exact LA b
def Az(f:Int->Int):Nat->Int->List (Int×Int)|0,_=>[]|n+1,a=>if 0<f a then(a,f a)::Az f n (a+1)else Az f n (a+1)
theorem zz{f g:Int->Int}:∀{n:Nat}{a:Int},(∀h,a<=h->h<a+n->f h=g h)->Az f n a=Az g n a|0,_,_=>rfl|n+1,a,h=>by rw[Az,Az,h a (by omega) (by omega),zz (n:=n) (a:=a+1) (λq b c=>h q (by omega) (by omega))]
theorem ym:∀{n:Nat}{a:Int}{l:List (Int×Int)},a+n=8->qy a l->Az (λh=>ky h l) n a=l
 |0,a,[],_,_=>rfl
 |0,a,x::l,h,⟨b,_,_⟩=>by omega
 |n+1,a,[],h,_=>by rw[Az,ai (by simp[ky])];exact ym (by omega) trivial
 |n+1,a,x::l,h,⟨b,e,c⟩=>by
  by_cases f:x.1=a
  ·rw[Az];have d:ky a (x::l)=x.2:=by rw[ky,aF f]
   rw[d,aF (by omega),zz (g:=λh=>ky h l) (λq i j=>by simp only[ky];rw[ai (by omega)]),ym (by omega) (C5 (by omega) c)];rw[<-f]
  ·rw[Az];have d:ky a (x::l)=0:=Sh (a:=a+1) ⟨⟨by omega,b.2⟩,e,c⟩ (by omega);rw[d,ai (by omega)];exact ym (by omega) ⟨⟨by omega,b.2⟩,e,c⟩
def kr(l:List (Int×Int))(w key:Int):List (Int×Int):=Az (λh=>if h=w then key else ky h l) 8 0
theorem Nt{l a:List (Int×Int)}{w key:Int}(b:qy 0 a)(h:∀q,0<=q->q<=7->ky q a=if q=w then key else ky q l):kr l w key=a:=by unfold kr;rw[zz (g:=λq=>ky q a) (λq c d=>(h q c (by omega)).symm)];exact ym rfl b
theorem Bn{l:List (Int×Int)}(a:qy 0 l):kr l (-1) 0=l:=Nt a (λq b c=>by rw[ai (by omega)])
theorem qi{w:Int}:∀{l:List (Int×Int)}{a:Int},qy a l->qy a (l.filter λx=>!aU (x.1=w))
 |[],_,_=>trivial
 |x::l,a,⟨d,e,b⟩=>by
  by_cases c:x.1=w;·rw[P5 (by simp[c])];exact C5 (by omega) (qi b)
  ·rw[Uh (by simp[c])];exact⟨d,e,qi b⟩
theorem zG{w q:Int}:∀{l:List (Int×Int)}{a:Int},qy a l->ky q (l.filter λx=>!aU (x.1=w))=if q=w then 0 else ky q l
 |[],_,_=>by simp[ky]
 |x::l,a,⟨g,h,f⟩=>by
  have d:=zG (w:=w) (q:=q) f;by_cases e:x.1=w
  ·rw[P5 (by simp[e]),d];by_cases b:q=w;·rw[aF b,aF b]
   ·rw[ai b,ai b,ky,ai (by omega)]
  ·rw[Uh (by simp[e]),ky];by_cases c:x.1=q;·rw[aF c,ai (by omega),ky,aF c]
   ·rw[ai c,d];by_cases b:q=w;·rw[aF b,aF b]
    ·rw[ai b,ai b,ky,ai c]
theorem C6{l:List (Int×Int)}(w:Int)(a:qy 0 l):kr l w 0=l.filter λx=>!aU (x.1=w):=Nt (qi a) (λ_ _ _=>zG a)
theorem tu{w:Int}:∀{l:List (Int×Int)}{i:Nat},(fi w l i=-1/\∀x∈l,x.1≠w)\/∃j x,fi w l i=((i+j:Nat):Int)/\l[j]?=some x/\x.1=w/\ky w l=x.2
 |[],i=>.inl ⟨rfl,λx b=>by cases b⟩
 |y::l,i=>by
  by_cases a:y.1=w;·exact .inr ⟨0,y,by simp[fi,a],rfl,a,by simp[ky,a]⟩
  ·rcases tu (w:=w) (l:=l) (i:=i+1)with⟨c,d⟩|⟨j,x,c,d,e,f⟩
   ·refine .inl ⟨by rw[fi,ai a];exact c,λx b=>?_⟩;rcases aV.1 b with rfl|b;·exact a
    ·exact d x b
   ·exact .inr ⟨j+1,x,by rw[fi,ai a,c];omega,d,e,by rw[ky,ai a];exact f⟩
theorem Nu{w key k0:Int}(i:1<=key/\key<=1000):∀{l:List (Int×Int)}{a:Int}{j:Nat},qy a l->l[j]?=some (w,k0)->qy a (l.set j (w,key))/\∀q,ky q (l.set j (w,key))=if q=w then key else ky q l
 |[],_,_,_,h=>by simp at h
 |x::l,a,0,⟨g,k,f⟩,h=>by
  simp only[dS,aO]at h;subst h;refine⟨⟨g,i,f⟩,λq=>?_⟩;rw[List.set_cons_zero,ky,ky];by_cases c:w=q;·simp only[c,cR]
  ·simp only[c,cA];rw[ai (λe=>c e.symm)]
 |x::l,a,j+1,⟨g,k,f⟩,h=>by
  obtain⟨n,o⟩:=Nu (w:=w) (k0:=k0) (j:=j) i f (by simpa using h);refine⟨⟨g,k,n⟩,λq=>?_⟩;rw[List.set_cons_succ,ky,ky,o q];by_cases c:x.1=q
  ·rw[aF c,aF c];have p:x.1<w:=by
    have r:∀{m:List (Int×Int)}{b:Int},qy b m->∀y∈m,b<=y.1:=by
     intro m;induction m with
      |nil=>intro b _ y d;cases d
      |cons z m s=>
       intro b⟨t,_,u⟩y d;rcases aV.1 d with rfl|d;·exact t.1
       ·have :=s u y d;omega
    have :=r f (w,k0) (aL (by simpa using h));simp only at this;omega
   rw[ai (by omega)]
  ·rw[ai c,ai c]
theorem Nv{w key:Int}(f:1<=key/\key<=1000):∀{l:List (Int×Int)}{a:Int},qy a l->a<=w->w<=7->(∀x∈l,x.1≠w)->qy a (l.take (bk (λx=>x.1-w) l)++(w,key)::l.drop (bk (λx=>x.1-w) l))/\∀q,ky q (l.take (bk (λx=>x.1-w) l)++(w,key)::l.drop (bk (λx=>x.1-w) l))=if q=w then key else ky q l
 |[],a,_,g,d,_=>by
  refine⟨⟨⟨g,d⟩,f,trivial⟩,λq=>?_⟩;simp only[bk,List.take_nil,List.drop_nil,eX,ky];by_cases b:w=q;·simp[b]
  ·rw[ai b,ai (λe=>b e.symm)]
 |x::l,a,⟨h,i,j⟩,g,d,k=>by
  have m:=k x bn;by_cases c:x.1-w<0
  ·have⟨i1,i2⟩:=Nv f j (a:=x.1+1) (by omega) d (λy n=>k y (bm _ n));rw[bk,aF c];refine⟨⟨h,i,i1⟩,λq=>?_⟩;have :=i2 q;simp only[List.take_succ_cons,cM,gW,ky];rw[this];by_cases b:x.1=q;·rw[aF b,ai (λe=>m (by omega)),aF b]
   ·rw[ai b,ai b]
  ·rw[bk,ai c];simp only[fE,cQ,eX];refine⟨⟨⟨g,d⟩,f,⟨⟨by simp only;omega,h.2⟩,i,j⟩⟩,λq=>?_⟩;rw[ky];simp only;by_cases b:w=q;·simp[b]
   ·rw[ai b,ai (λe=>b e.symm)]
theorem Nw{w:Int}:∀{l:List (Int×Int)}{a:Int},qy a l->∀(i j:Nat)(x y:Int×Int),i<=j->l[i]?=some x->l[j]?=some y->x.1<=y.1
 |[],_,_,_,_,_,_,_,h,_=>by simp at h
 |z::l,a,⟨f,g,d⟩,0,0,x,y,_,e,c=>by rw[e]at c;cases c;exact pk _
 |z::l,a,⟨f,g,d⟩,0,j+1,x,y,_,e,c=>by
  simp only[dS,aO]at e;subst e;have k:∀{m:List (Int×Int)}{b:Int},qy b m->∀y∈m,b<=y.1:=by
   intro m;induction m with
    |nil=>intro b _ y c;cases c
    |cons z m n=>
     intro b⟨d,_,o⟩y c;rcases aV.1 c with rfl|c;·exact d.1
     ·have :=n o y c;omega
  have :=k d y (aL (by simpa using c));omega
 |z::l,a,_,i+1,0,_,_,h,_,_=>by omega
 |z::l,a,⟨_,_,d⟩,i+1,j+1,x,y,h,e,c=>Nw (w:=w) d i j x y (by omega) (by simpa using e) (by simpa using c)
theorem Ny:∀{l:List (Int×Int)}{a:Int},0<=a->qy a l->(l.length:Int)+a<=8\/l=[]
 |[],_,_,_=>.inr rfl
 |x::l,a,c,⟨d,e,b⟩=>by
  rcases Ny (a:=x.1+1) (by omega) b with h|rfl;·exact .inl (by simp only[aM];omega)
  ·exact .inl (by simp;omega)
end Go.X.Rv
namespace Go.X.Rv
open Go Go.X Go.X.Rp Go.X.Sl
def kW(g:Int)(s:SV)(k h:Int):SV:=.agg [.v (.int .i64 g),s,.v (.int .i64 k),.v (.int .i64 h)]
theorem pJ(g k h:Int):Ctx (λs=>kW g s k h):=λs a v u e=>by simp only[Rv.kW,SV.cL,aS,e]
theorem abq(g k h e:Int):Ctx (λs=>.tup [kW g s k h,.v (.int .i64 e)]):=λs a V u e=>by simp only[Rv.kW,SV.cL,aS,e]
theorem Yz(u:ay)(l:List (Int×Int))(M:Mem)(b:RowM M u 2 (l.map iA))(g:l.length<=1000000):Meets ab 281 [.v u] M (OwnR (λs=>s) 2 (l.map iA)):=by
 obtain⟨d,e⟩:=b.FL (by omega);cases c:someV u with
  |true=>refine aH [0,2,4] Ha rfl (by kernel_rfl) rfl λw=>?_;simp only[Kz,zV,seval,b.sl,c,d,ae];exact⟨⟨by omega,e⟩,56,rfl,rfl⟩
  |false=>
   have f:l=[]:=by cases l with|nil=>rfl|cons a r=>have :=b.2.1 (by simp);rw[c]at this;cases this
   subst f;refine pD ?_;refine aH [0,2,4] Ha rfl (by kernel_rfl) rfl λw=>?_;simp only[Kz,zV,seval,b.sl,c]
theorem O'(g:Int)(y:ay)(b c a:Int)(l:List (Int×Int))(M:Mem)(d:RowM M y 2 (l.map iA))(e:l.length<=1000000)(f:cY .i64 (g+a)):Meets ab 230 [mu g y b c,.v (.int .i64 a)] M (OwnR (λs=>kW (g+a) s b c) 2 (l.map iA)):=by refine aH [0,1,2,4] Proofs.Tryz.func230 rfl (by kernel_rfl) rfl λw=>?_;simp only[Proofs.Tryz.f230,mu,zW,seval];refine dE eh rfl rfl (Yz y l M d e) rfl λi h=>?_;simp only[zW,seval];exact⟨f,56,rfl,rfl⟩
theorem VH(g a b:Int)(es:List (List ay))(M:Mem):MeetsH ab 238 [kW g (.own 8000) a b] [(8000,.row 2 es)] M (OwnR (λs=>kW g s 0 0) 2 es):=by refine fS [0,1,2] Proofs.Tryz.func238 rfl (by kernel_rfl) λw c=>?_;simp only[Proofs.Tryz.f238,kW,zW,seval];exact⟨8000,rfl,rfl⟩
theorem abr(b:Nat)(t:Int)(x:Int×Int)(M:Mem)(c:BoxM M b [.int .i64 t]):Meets ab 283 [.agg [.v (.int .i64 x.1),.v (.int .i64 x.2)],.v (bT b)] M λr _ _=>r=.v (.bool (aU (x.1=t))):=by refine aH [0,1,2,3] Proofs.Tryz.func283 rfl (by kernel_rfl) rfl λw=>?_;have a:=c.at (j:=0) rfl;simp only[Proofs.Tryz.f283,zV,seval,nz,a.1,a.2]
theorem abt(b:Nat)(t:Int)(x:Int×Int)(M:Mem)(c:BoxM M b [.int .i64 t]):Meets ab 240 [.agg [.v (.int .i64 x.1),.v (.int .i64 x.2)],.v (bT b)] M λr _ _=>r=.v (.bool (aU (x.2=t))):=by refine aH [0,1,2,3] Proofs.Tryz.func240 rfl (by kernel_rfl) rfl λw=>?_;have a:=c.at (j:=0) rfl;simp only[Proofs.Tryz.f240,zV,seval,nz,a.1,a.2]
def zH(l:List (Int×Int))(w:Int):List (Int×Int):=l.filter λx=>!aU (x.1=w)
def yn(l:List (Int×Int))(k h w:Int):Bool:=ll l k h w&&(!jG k||aU (zH l w=[]))
theorem ZJ(g b c a:Int)(l:List (Int×Int))(M:Mem)(B:l.length<=1000000):MeetsH ab 231 [kW g (.own 8000) b c,.v (.int .i64 a)] [(8000,.row 2 (l.map iA))] M (OwnR (λs=>kW g s (if yn l b c a=true then 0 else b) (if yn l b c a=true then 0 else c)) 2 ((zH l a).map iA)):=by
 refine fS [0,1,2,3,4,5,26] Proofs.Tryz.func231 rfl (by kernel_rfl) λw G=>?_;simp only[Proofs.Tryz.f231,kW,zW,seval];refine dP (k:=8000) rfl rfl rfl (λ_=>rfl) (λC j m n=>ZI g C b c a l j n) ?_;simp only[zW,seval];refine j_ rfl rfl ?_;simp only[zW,seval];refine nY (k:=24) rfl rfl λt j m o=>?_;simp only[uJ,uK,zV,seval];refine eR (A:=λs=>[s,.fn 283 [.v (bT t)]]) 8000 (lN _ rfl) eh rfl rfl rfl (λh p=>abp (α:=Int×Int) (λx=>.int .i64 x.1) (λx=>.int .i64 x.2) (λx=>aU (x.1=a)) _ _ l h B (λ_ _=>⟨rfl,rfl⟩) (λD E x _=>abr t a x D ((o.le p).le E))) rfl ?_;simp only[zW,seval];have f:((((l.filter λx=>!aU (x.1=a)).map λx=>[cz .i64 x.1,cz .i64 x.2]).length:Int)=0)=(zH l a=[]):=by apply propext;rw[ae,zH,<-e_];omega
 have y:((l.filter λx=>!aU (x.1=a)).map λx=>[cz .i64 x.1,cz .i64 x.2])=(zH l a).map iA:=rfl;have d:yn l b c a=(ll l b c a&&(!jG b||aU (zH l a=[]))):=rfl;cases q:ll l b c a with
  |false=>rw[q,jI]at d;rw[d];simp only[zW,seval];exact⟨96,rfl,rfl⟩
  |true=>
   simp only[zW,seval];refine az ⟨rfl,rfl⟩ rfl (R_ b j) ?_;cases z:jG b with
    |false=>rw[q,z]at d;simp only[nQ,Bool.true_or,cK]at d;rw[d];simp only[zW,seval];refine eR (A:=λs=>[.agg [.v (.int .i64 g),s,.v (.int .i64 b),.v (.int .i64 c)]]) 96 (λs F V u e=>by simp only[aS,SV.cL,e]) (pJ g 0 0) rfl rfl rfl (λh p=>VH g b c _ h) rfl ?_;simp only[kW,zW,seval];exact⟨224,rfl,rfl⟩
    |true=>
     rw[q,z]at d;simp only[yH,T0,fJ]at d;by_cases i:zH l a=[];·rw[d,cy i];have r:=f.trans (aK i);simp only[zW,seval,r];refine eR (A:=λs=>[.agg [.v (.int .i64 g),s,.v (.int .i64 b),.v (.int .i64 c)]]) 96 (λs F V u e=>by simp only[aS,SV.cL,e]) (pJ g 0 0) rfl rfl rfl (λh p=>VH g b c _ h) rfl ?_;simp only[kW,zW,seval];exact⟨224,rfl,rfl⟩
     ·rw[d,bI i];have r:=f.trans (ax i);simp only[zW,seval,r];exact⟨96,rfl,rfl⟩
def jz(g:Int)(l:List (Int×Int))(k h w key:Int):Int:=if fY g l k h≠0 then fY g l k h else if nf w=false then 1 else if fi w l 0<0\/ky w l≠key then 9 else 0
theorem Nz(g:Int)(y:ay)(f h k m:Int)(l:List (Int×Int))(M:Mem)(n:RowM M y 2 (l.map iA)):Meets ab 235 [kW g (.v y) f h,.v (.int .i64 k),.v (.int .i64 m)] M λr _ _=>r=.v (.int .i64 (jz g l f h k m)):=by
 refine aH [0,1,2,3,6,7,8,12,16,31] Proofs.Tryz.func235 rfl (by kernel_rfl) rfl λw=>?_;have u:=n.eQ;rw[ae]at u;simp only[Proofs.Tryz.f235,kW,zW,seval];refine az ⟨rfl,rfl⟩ rfl (Sd g y f h l M n) ?_;generalize d:jz g l f h k m=c;unfold jz at d;by_cases s:fY g l f h=0;rotate_left;·have o:(fY g l f h=0)=False:=ax s;rw[aF s]at d;subst d;simp only[zW,seval,o]
 rw[ai (by simp[s])]at d;simp only[zW,seval,s];refine az ⟨rfl,rfl⟩ rfl (who k M) ?_;cases z:nf k with
  |false=>rw[aF z]at d;subst d;simp only[zW,seval]
  |true=>
   rw[ai (by simp[z])]at d;simp only[zW,seval];refine az ⟨rfl,rfl⟩ rfl (Ly g y f h k l M n) ?_;rcases tu (w:=k) (l:=l) (i:=0)with⟨p,E⟩|⟨j,⟨a,b⟩,p,A,F,C⟩;·rw[p]at d⊢;rw[aF (.inl (by decide))]at d;subst d;simp only[zW,seval]
   ·rw[b7]at p;rw[p,C]at d;rw[p];have D:j<l.length:=(aI.1 A).1;have B:((j:Int)<0)=False:=ax (by omega);have q:=n.fG (i:=j) (e:=[.int .i64 a,.int .i64 b]) (by rw[aN,A];rfl) (off:=1) (by omega);have t:=n.ix (i:=(j:Int)) (by omega) (by rw[ae];omega);simp only[a_,bA]at q;by_cases x:b=m;·have o:(b=m)=True:=aK x;rw[ai (by omega)]at d;subst d;simp only[zW,seval,B,o,t,t.2,q.1,q.2.1]
    ·have o:(b=m)=False:=ax x;rw[aF (.inr x)]at d;subst d;simp only[zW,seval,B,o,t,t.2,q.1,q.2.1]
theorem Jk(f:Int->Int):∀(n:Nat)(a:Int),Az f (n+1) a=Az f n a++if 0<f (a+n)then[(a+n,f (a+n))]else[]
 |0,a=>by simp only[Az,eX,aZ,PY]
 |n+1,a=>by
  rw[Az,Jk f n (a+1),Az];have e:a+1+(n:Int)=a+((n+1:Nat):Int):=by omega
  rw[e];split<;>rfl
theorem NA(f:Int->Int):∀(n:Nat)(a:Int),(Az f n a).length<=n
 |0,_=>bc _
 |n+1,a=>by
  have :=NA f n (a+1);rw[Az];split;·simp;omega
  ·omega
def kF(l:List (Int×Int))(k h w key:Int):Bool:=(jG k&&aU (kr l w key=[]))||(!jG k&&(ll l k h w&&aU (key=0)))
theorem C7(g:Int)(y:ay)(d k b a:Int)(l:List (Int×Int))(M:Mem)(C:RowM M y 2 (l.map iA))(F:∀x∈l,1<=x.2)(G:0<=d):Meets ab 91 [kW g (.v y) d k,.v (.int .i64 b),.v (.int .i64 a)] M (OwnR (λs=>kW g s (if kF l d k b a=true then 0 else d) (if kF l d k b a=true then 0 else k)) 2 ((kr l b a).map iA)):=by
 refine aH [0,1,2,3,6,7,8,9,17,18,25,28,61] Proofs.Tryz.func91 rfl (by kernel_rfl) rfl λw=>?_;simp only[Proofs.Tryz.f91,kW,zW,seval];refine sX 56 1 70 2 rfl rfl rfl rfl rfl ?_;generalize q:(λh:Int=>if h=b then a else ky h l)=r;have A:kr l b a=Az r 8 0:=by rw[<-q];rfl
 refine bE (X:=Nat×Nat) (λx=>([(1,true,.v (.int .i64 b)),(2,true,.v (.int .i64 a)),(3,true,.ptr 24 0 0 0),(6,true,.ptr 48 0 0 0),(7,true,.ptr 56 0 0 0),(17,true,.v (.int .i64 x.2))],[(560,.row 2 ((Az r x.2 0).map iA)),(24,.box [.v (.int .i64 g),.v y,.v (.int .i64 d),.v (.int .i64 k)] none),(48,.box [.v (.int .i64 0),.v (.slice none 0 0),.v (.int .i64 0),.v (.int .i64 0)] none),(56,.box [.v (.int .i64 g),.own 560,.v (.int .i64 d),.v (.int .i64 k)] none)],M)) (λx=>x.1+x.2=8) (λx=>x.1) (8,0) rfl (aR ?_) ?_;·simp only[zV,seval,Az,cr]
 rintro⟨f,j⟩H;simp only at H;by_cases K:j<8
 ·have B:((j:Int)<8)=True:=aK (by omega);have c:=Jk r j 0;have I:=NA r j 0;rw[Int.zero_add]at c;simp only[zW,seval,B];refine az ⟨rfl,rfl⟩ rfl (Gy g y d k j l M C) ?_;have e:r (j:Int)=if(j:Int)=b then a else ky (j:Int) l:=by rw[<-q]
  by_cases t:(j:Int)=b
  ·have i:((j:Int)=b)=True:=aK t;rw[aF t]at e;by_cases n:0<a;·have p:(0<a)=True:=aK n;rw[e,aF n]at c;simp only[zW,seval,i,p,cY,lo,hi,ae];refine⟨⟨by omega,by omega⟩,by omega,(f-1,j+1),⟨by simp only;omega,by simp only;omega⟩,gT 56 1 280 70 2 _ rfl rfl rfl rfl rfl (aR ?_)⟩;simp only[zW,seval,c,bq,ca,cr,iA,aJ]
   ·have p:(0<a)=False:=ax n;rw[e,ai n,cS]at c;simp only[zW,seval,i,p,cY,lo,hi,ae];refine⟨by omega,(f-1,j+1),⟨by simp only;omega,by simp only;omega⟩,aR ?_⟩;simp only[zV,seval,c,aJ]
  ·have i:((j:Int)=b)=False:=ax t;rw[ai t]at e;by_cases n:0<ky j l;·have p:(0<ky j l)=True:=aK n;rw[e,aF n]at c;simp only[zW,seval,i,p,cY,lo,hi,ae];refine⟨⟨by omega,by omega⟩,by omega,(f-1,j+1),⟨by simp only;omega,by simp only;omega⟩,gT 56 1 280 70 2 _ rfl rfl rfl rfl rfl (aR ?_)⟩;simp only[zW,seval,c,bq,ca,cr,iA,aJ]
   ·have p:(0<ky j l)=False:=ax n;rw[e,ai n,cS]at c;simp only[zW,seval,i,p,cY,lo,hi,ae];refine⟨by omega,(f-1,j+1),⟨by simp only;omega,by simp only;omega⟩,aR ?_⟩;simp only[zV,seval,c,aJ]
 ·have B:((j:Int)<8)=False:=ax (by omega);have J:j=8:=by omega
  subst J;rw[<-A];have o:(((kr l b a).length:Int)=0)=(kr l b a=[]):=by apply propext;rw[<-e_];omega
  have m:kF l d k b a=((jG d&&aU (kr l b a=[]))||(!jG d&&(ll l d k b&&aU (a=0)))):=rfl;simp only[zW,seval,B];refine az ⟨rfl,rfl⟩ rfl (zy d M) ?_;cases u:jG d with
   |true=>
    rw[u]at m;simp only[fJ,yH,jI,Bool.or_false]at m;by_cases z:kr l b a=[];·rw[m,cy z];have i:=o.trans (aK z);simp only[zW,seval,ae,i];exact⟨560,rfl,rfl⟩
    ·rw[m,bI z];have i:=o.trans (ax z);simp only[zW,seval,ae,i];refine az ⟨rfl,rfl⟩ rfl (zy d M) ?_;simp only[zW,seval,u];exact⟨560,rfl,rfl⟩
   |false=>
    rw[u]at m;simp only[jI,nQ,fJ,T0]at m;simp only[zW,seval];refine az ⟨rfl,rfl⟩ rfl (zy d M) ?_;simp only[zW,seval,u];refine az ⟨rfl,rfl⟩ rfl (Se g y d k b l M C F G) ?_;cases D:ll l d k b with
     |false=>rw[D,jI]at m;rw[m];simp only[zW,seval];exact⟨560,rfl,rfl⟩
     |true=>
      rw[D,fJ]at m;rw[m];by_cases E:a=0;·have i:(a=0)=True:=aK E;simp only[zW,seval,i,dr];exact⟨560,rfl,rfl⟩
      ·have i:(a=0)=False:=ax E;simp only[zW,seval,i,dW];exact⟨560,rfl,rfl⟩
end Go.X.Rv
namespace Go.X.Rv
open Go Go.X Go.X.Rp Go.X.Sl
abbrev RS:=Int×Int×List (Int×Int)×Int×Int
def VI(x:RS)(s:SV):SV:=.tup [kW x.2.1 s x.2.2.2.1 x.2.2.2.2,.v (.int .i64 x.1)]
theorem O_(x:RS):Ctx (VI x):=abq _ _ _ _
def zr(e:Int):RS:=(e,0,[],0,0)
def we(x:RS):RP:=RowR (VI x) 2 (x.2.2.1.map iA)
theorem gq{g:Int}{l:List (Int×Int)}{k h:Int}(a:fY g l k h=0):(0<=g/\g<=2147483647)/\qy 0 l/\(0<=k/\k<=8)/\(jG k=true->h=0/\l≠[])/\(k=0->h=0)/\0<=h:=by
 unfold fY at a;split at a;·cases a
 ·rename_i D;split at a;·rename_i e;exact(e a).elim
  ·rename_i e;have o:=Sg (l:=l) (last:=-1) (by omega) (kv.1 e);refine⟨by omega,o,?_⟩;unfold kE at a;split at a
   ·rename_i c;split at a;·cases a
    ·rename_i f;refine⟨?_,λn=>⟨by omega,λr=>f (.inr ⟨n,r⟩)⟩,λ_=>by omega,by omega⟩;rcases c with c|c;·omega
     ·unfold jG at c;simp only[ug,br]at c;omega
   ·rename_i c;split at a;·cases a
    ·rename_i f;have p:kS k=true:=by simpa using f
     split at a;·cases a
     ·rename_i s;refine⟨?_,λn=>(c (.inr n)).elim,λt=>(c (.inl t)).elim,?_⟩;·unfold kS at p;simp only[ug,ba,br]at p;omega
      ·have u:∀{m:List (Int×Int)}{b:Int},qy b m->∀y∈m,b<=y.1:=by
        intro m;induction m with
         |nil=>intro b _ y d;cases d
         |cons z m v=>
          intro b⟨A,_,B⟩y d;rcases aV.1 d with rfl|d;·exact A.1
          ·have :=v B y d;omega
       rcases tu (w:=h) (l:=l) (i:=0)with⟨q,_⟩|⟨j,x,q,C,E,_⟩;·rw[q]at s;omega
       ·have :=u o x (aL C);omega
theorem k6{l:List (Int×Int)}(c:qy 0 l):∀x∈l,1<=x.2:=by
 have d:∀{m:List (Int×Int)}{b:Int},qy b m->∀y∈m,1<=y.2:=by
  intro m;induction m with
   |nil=>intro b _ y a;cases a
   |cons z m e=>
    intro b⟨_,f,g⟩y a;rcases aV.1 a with rfl|a;·exact f.1
    ·exact e g y a
 exact d c
theorem C8{l:List (Int×Int)}(b:qy 0 l):l.length<=8:=by
 rcases Ny (a:=0) (by omega) b with h|rfl;·omega
 ·simp
theorem Bo{l:List (Int×Int)}{k h:Int}(w:Int)(d:qy 0 l)(e:jG k=true->l≠[]):kF l k h w 0=yn l k h w:=by
 unfold kF yn;rw[C6 w d];cases c:jG k with
  |false=>simp
  |true=>
   simp only[fJ,yH,jI,Bool.or_false,T0];show aU (zH l w=[])=_;by_cases b:zH l w=[]
   ·rw[cy b,yI];unfold ll;rw[aF c];rcases tu (w:=w) (l:=l) (i:=0)with⟨_,f⟩|⟨j,x,g,_⟩;·exfalso;have :zH l w=l:=DS.2 (λx m=>by simp[f x m]);rw[this]at b;exact e c b
    ·rw[g,cy (by omega)]
   ·rw[bI b,Bool.and_false]
def oq(g:Int)(l:List (Int×Int))(k h w a key:Int):RS:=if fY g l k h≠0 then zr (fY g l k h)else if nf w=false\/(key<0\/1000<key)then zr 1 else if ky w l≠a then zr 9 else if g=2147483647 then zr 8 else(0,g+1,kr l w key,if kF l k h w key=true then 0 else k,if kF l k h w key=true then 0 else h)
theorem abu(t:Int)(x:Int×Int)(M:Mem)(h:cY .i64 (x.1-t)):Meets ab 233 [.agg [.v (.int .i64 x.1),.v (.int .i64 x.2)],.v (.int .i64 t)] M λr _ _=>r=.v (.int .i64 (x.1-t)):=by refine aH [0,1,2,4] Proofs.Tryz.func233 rfl (by kernel_rfl) rfl λw=>?_;simp only[Proofs.Tryz.f233,zW,seval];exact h
theorem Sj{l:List (Int×Int)}{k h w key:Int}(a:key≠0)(b:kr l w key≠[]):kF l k h w key=false:=by unfold kF;rw[bI a,bI b];cases jG k<;>cases ll l k h w<;>rfl
theorem Sk{m:List (Int×Int)}:∀{b:Int},qy b m->∀y∈m,b<=y.1/\y.1<=7:=by
 induction m with
  |nil=>intro b _ y a;cases a
  |cons z m c=>
   intro b⟨d,_,e⟩y a;rcases aV.1 a with rfl|a;·exact d
   ·have :=c e y a;omega
theorem Sm(g:Int)(y:ay)(n o d r p:Int)(l:List (Int×Int))(M:Mem)(C:RowM M y 2 (l.map iA)):Meets ab 178 [kW g (.v y) n o,.v (.int .i64 d),.v (.int .i64 r),.v (.int .i64 p)] M (we (oq g l n o d r p)):=by
 refine aH [0,1,2,3,4,8,9,10,11,12,13,18,31,55,59,63,69] Proofs.Tryz.func178 rfl (by kernel_rfl) rfl λw=>?_;have hyl:=C.eQ;rw[ae]at hyl;simp only[Proofs.Tryz.f178,kW,zW,seval];refine az ⟨rfl,rfl⟩ rfl (Sd g y n o l M C) ?_;generalize f:oq g l n o d r p=c;unfold oq at f;by_cases H:fY g l n o=0;rotate_left;·have c1:(fY g l n o=0)=False:=ax H;rw[aF H]at f;subst f;simp only[zW,seval,c1];exact⟨_,rfl,bY _ _⟩
 rw[ai (by simp[H])]at f;obtain⟨hg,D,hkk,O,hk0,hh0⟩:=gq H;have hl8:=C8 D;simp only[zW,seval,H];refine az ⟨rfl,rfl⟩ rfl (who d M) ?_;cases Y:nf d with
  |false=>rw[aF (.inl Y)]at f;subst f;simp only[zW,seval];exact⟨_,rfl,bY _ _⟩
  |true=>
   by_cases hkr:p<0\/1000<p
   ·rw[aF (.inr hkr)]at f;subst f;by_cases P:p<0;·have Q:(p<0)=True:=aK P;simp only[zW,seval,Q];exact⟨_,rfl,bY _ _⟩
    ·have Q:(p<0)=False:=ax P;have c3:(1000<p)=True:=aK (by omega);simp only[zW,seval,Q,c3];exact⟨_,rfl,bY _ _⟩
   rw[ai (by simp[Y];omega)]at f;have Q:(p<0)=False:=ax (by omega);have c3:(1000<p)=False:=ax (by omega);simp only[zW,seval,Q,c3];refine az ⟨rfl,rfl⟩ rfl (Ly g y n o d l M C) ?_;have R:0<=d/\d<=7:=by unfold nf at Y;simpa using Y
   rcases tu (w:=d) (l:=l) (i:=0)with⟨Z,f2⟩|⟨j,⟨a,b⟩,Z,B,f3,f4⟩
   ·rw[Z];have hky:ky d l=0:=by
     have :∀m:List (Int×Int),(∀x∈m,x.1≠d)->ky d m=0:=λm=>by induction m with|nil=>intro _;rfl|cons z m ih=>intro h;rw[ky,ai (h z bn)];exact ih λx B=>h x (bm _ B)
     exact this l f2
    rw[hky]at f;by_cases E:r=0;rotate_left;·rw[aF (λe=>E e.symm)]at f;subst f;have I:(r=0)=False:=ax E;simp only[zW,seval,I];exact⟨_,rfl,bY _ _⟩
    rw[ai (λe=>e E.symm)]at f;have I:(r=0)=True:=aK E;simp only[zW,seval,I];refine⟨λJ=>?_,λJ=>?_⟩;·rw[aF J]at f;subst f;exact⟨_,rfl,bY _ _⟩
    rw[ai J]at f;subst f;refine dE (pJ (g+1) n o) rfl rfl (O' g y n o 1 l M C (by omega) ⟨by simp only[lo];omega,by simp only[hi];omega⟩) rfl λM2 hM2=>?_;simp only[kW,zW,seval];by_cases K:p=0;·subst K;have hF:=Bo (k:=n) (h:=o) d D (λhA=>(O hA).2);rw[hF,C6 d D];have S:((0:Int)=0)=True:=aK rfl;simp only[zW,seval];refine eR (A:=λs=>[.agg [.v (.int .i64 (g+1)),s,.v (.int .i64 n),.v (.int .i64 o)],.v (.int .i64 d)]) 496 (λs s' ν U e=>by simp only[aS,SV.cL,e]) (pJ (g+1) (if yn l n o d=true then 0 else n) (if yn l n o d=true then 0 else o)) rfl rfl rfl (λT h6=>ZJ (g+1) n o d l T (by omega)) rfl ?_;simp only[kW,zW,seval];exact⟨.own 544,rfl,rfl⟩
    have S:(p=0)=False:=ax K;simp only[zW,seval,S];have F:=Nv (w:=d) (key:=p) (by omega) D R.1 R.2 f2;have u:=Nt F.1 (λq _ _=>F.2 q);refine dP (k:=496) rfl rfl rfl (λ_=>rfl) (λv2 M3 hM3 hv3=>bsR (α:=Int×Int) (λx=>.int .i64 x.1) (λx=>.int .i64 x.2) (λx=>x.1-d) 233 (.int .i64 d) v2 l M3 hv3 (by omega) (λx B=>abu d x M3 (by have :=Sk D x B;exact⟨by simp only[lo];omega,by simp only[hi];omega⟩)) (λi j x y hij B C h=>by have :=Nw (w:=d) D i j x y hij B C;omega)) ?_;simp only[zW,seval];generalize hbk:bk (λx:Int×Int=>x.1-d) l=b at*;have V:b<=l.length:=by
     rw[<-hbk];have :∀m:List (Int×Int),bk (λx:Int×Int=>x.1-d) m<=m.length:=λm=>by induction m with|nil=>exact bc _|cons z m ih=>rw[bk];split<;>simp[ih]
     exact this l
    refine sW (A:=λs t=>[s,.v (.int .i64 b),t]) 496 736 (λs t s' t' ν U e1 e2=>by simp only[aS,SV.cL,e1,e2]) eh rfl rfl rfl rfl rfl (λT h6=>VG (l.map iA) [.int .i64 d,.int .i64 p] b T (by rw[ae];exact V) (by rw[ae];omega) (λe H=>by obtain⟨x,_,rfl⟩:=dq.1 H;exact⟨rfl,λc f=>by simp only[iA,aV,cH,fK]at f;rcases f with rfl|rfl<;>rfl⟩) ⟨rfl,λc f=>by simp only[aV,cH,fK]at f;rcases f with rfl|rfl<;>rfl⟩) rfl ?_;have L:kF l n o d p=false:=Sj K (by rw[u];simp);rw[L,u];simp only[kW,zW,seval];refine⟨.own 744,rfl,?_⟩;simp[IsRow,hget,iA,eH,fI]
   ·rw[b7]at Z;simp only at f3 f4;rw[Z];rw[f4]at f;have W:j<l.length:=(aI.1 B).1;have c0:((j:Int)<0)=False:=ax (by omega);have N:(0<=(j:Int))=True:=aK (by omega);have X:=C.fG (i:=j) (e:=[.int .i64 a,.int .i64 b]) (by rw[aN,B];rfl) (off:=1) (by omega);have i0:=C.ix (i:=(j:Int)) (by omega) (by rw[ae];omega);simp only[a_,bA]at X;by_cases E:b=r;rotate_left;·rw[aF E]at f;subst f;have I:(b=r)=False:=ax E;simp only[zW,seval,c0,N,I,i0,i0.2,X.1,X.2.1];exact⟨_,rfl,bY _ _⟩
    rw[ai (λe=>e E)]at f;have I:(b=r)=True:=aK E;simp only[zW,seval,c0,N,I,i0,i0.2,X.1,X.2.1];refine⟨λJ=>?_,λJ=>?_⟩;·rw[aF J]at f;subst f;exact⟨_,rfl,bY _ _⟩
    rw[ai J]at f;subst f;refine dE (pJ (g+1) n o) rfl rfl (O' g y n o 1 l M C (by omega) ⟨by simp only[lo];omega,by simp only[hi];omega⟩) rfl λM2 hM2=>?_;simp only[kW,zW,seval];by_cases K:p=0;·subst K;have hF:=Bo (k:=n) (h:=o) d D (λhA=>(O hA).2);rw[hF,C6 d D];have S:((0:Int)=0)=True:=aK rfl;simp only[zW,seval];refine eR (A:=λs=>[.agg [.v (.int .i64 (g+1)),s,.v (.int .i64 n),.v (.int .i64 o)],.v (.int .i64 d)]) 496 (λs s' ν U e=>by simp only[aS,SV.cL,e]) (pJ (g+1) (if yn l n o d=true then 0 else n) (if yn l n o d=true then 0 else o)) rfl rfl rfl (λT h6=>ZJ (g+1) n o d l T (by omega)) rfl ?_;simp only[kW,zW,seval];exact⟨.own 544,rfl,rfl⟩
    have S:(p=0)=False:=ax K;have hgj:(l.map iA).getD j []=[.int .i64 a,.int .i64 b]:=by rw[cN,aN,B];rfl
    simp only[zW,seval,N,S,hgj,ae];have G:=Nu (w:=d) (key:=p) (k0:=b) (j:=j) (by omega) D (by rw[<-f3];exact B);have u:=Nt G.1 (λq _ _=>G.2 q);have L:kF l n o d p=false:=Sj K (by rw[u];intro e;have :=aY dU e;simp at this;subst this;simp at W);rw[L,u];refine⟨⟨by omega,W,.own 496,rfl,?_⟩,λh=>by omega⟩;have e1:(l.map iA).set j (km [cz .i64 a,cz .i64 b] 1 [cz .i64 p])=(l.set j (d,p)).map iA:=by rw[oB];congr 1;simp only[km,iA,<-f3];rfl
    rw[e1];simp[IsRow,hget]
def ot(g:Int)(l:List (Int×Int))(k h w key k2:Int):RS:=if jz g l k h w key≠0 then zr (jz g l k h w key)else if kS k2=false then zr 1 else if k≠0/\(ll l k h w=false\/k≠k2)then zr 9 else(0,g,l,k2,if jG k2=true then 0 else w)
theorem yo{g:Int}{l:List (Int×Int)}{k h w key:Int}(a:jz g l k h w key=0):fY g l k h=0/\nf w=true/\0<=fi w l 0/\ky w l=key:=by
 unfold jz at a;split at a;·rename_i b;exact(b a).elim
 ·rename_i b;split at a;·cases a
  ·rename_i c;split at a;·cases a
   ·rename_i d;exact⟨kv.1 b,by simpa using c,by omega,by omega⟩
theorem VJ(g:Int)(y:ay)(a d i n k2:Int)(l:List (Int×Int))(M:Mem)(r:RowM M y 2 (l.map iA)):Meets ab 179 [kW g (.v y) a d,.v (.int .i64 i),.v (.int .i64 n),.v (.int .i64 k2)] M (we (ot g l a d i n k2)):=by
 refine aH [0,1,2,3,4,8,9,10,11,17,22,38,46] Proofs.Tryz.func179 rfl (by kernel_rfl) rfl λw=>?_;simp only[Proofs.Tryz.f179,kW,zW,seval];refine az ⟨rfl,rfl⟩ rfl (Nz g y a d i n l M r) ?_;generalize f:ot g l a d i n k2=c;unfold ot at f;by_cases o:jz g l a d i n=0;rotate_left;·have p:(jz g l a d i n=0)=False:=ax o;rw[aF o]at f;subst f;simp only[zW,seval,p];exact⟨_,rfl,bY _ _⟩
 rw[ai (by simp[o])]at f;obtain⟨s,L,F,G⟩:=yo o;obtain⟨N,H,I,t,u,J⟩:=gq s;have K:=C8 H;simp only[zW,seval,o];refine az ⟨rfl,rfl⟩ rfl (VE k2 M) ?_;cases C:kS k2 with
  |false=>rw[aF C]at f;subst f;simp only[zW,seval];exact⟨_,rfl,bY _ _⟩
  |true=>
   rw[ai (by simp[C])]at f;have q:(a≠0/\(ll l a d i=false\/a≠k2)->False)->c=(0,g,l,k2,if jG k2=true then 0 else i)/\(jG k2=true->d=0):=λD=>by
    rw[ai D]at f;refine⟨f.symm,λj=>?_⟩;by_cases b:a=0;·exact u b
    ·have :a=k2:=kx λe=>D ⟨b,.inr e⟩;exact(t (by rw[this];exact j)).1
   by_cases b:a=0;·have p:(a=0)=True:=aK b;obtain⟨rfl,m⟩:=q (λh=>h.1 b);simp only[zW,seval,p];refine dE (pJ (g+0) a d) rfl rfl (O' g y a d 0 l M r (by omega) ⟨by simp only[lo];omega,by simp only[hi];omega⟩) rfl λx z=>?_;simp only[kW,PY,zW,seval];refine az ⟨rfl,rfl⟩ rfl (R_ k2 x) ?_;cases j:jG k2 with|true=>have A:=m j;subst A;simp only[zW,seval,j];exact⟨.own 328,rfl,rfl⟩|false=>simp only[zW,seval,j];exact⟨.own 328,rfl,rfl⟩
   ·have p:(a=0)=False:=ax b;simp only[zW,seval,p];refine az ⟨rfl,rfl⟩ rfl (ZI g y a d i l M r) ?_;cases E:ll l a d i with
     |false=>rw[aF ⟨b,.inl E⟩]at f;subst f;simp only[zW,seval];exact⟨_,rfl,bY _ _⟩
     |true=>
      by_cases k:a=k2;·have B:(a=k2)=True:=aK k;obtain⟨rfl,m⟩:=q (λh=>by rcases h.2 with h|h;exact absurd h (by simp[E]);exact h k);simp only[zW,seval,B];refine dE (pJ (g+0) a d) rfl rfl (O' g y a d 0 l M r (by omega) ⟨by simp only[lo];omega,by simp only[hi];omega⟩) rfl λx z=>?_;simp only[kW,PY,zW,seval];refine az ⟨rfl,rfl⟩ rfl (R_ k2 x) ?_;cases j:jG k2 with|true=>have A:=m j;subst A;simp only[zW,seval,j];exact⟨.own 328,rfl,rfl⟩|false=>simp only[zW,seval,j];exact⟨.own 328,rfl,rfl⟩
      ·have B:(a=k2)=False:=ax k;rw[aF ⟨b,.inr k⟩]at f;subst f;simp only[zW,seval,B];exact⟨_,rfl,bY _ _⟩
def ou(g:Int)(l:List (Int×Int))(k h w key k2:Int):RS:=if jz g l k h w key≠0 then zr (jz g l k h w key)else if kS k2=false then zr 1 else if ll l k h w=false then(0,g,l,k,h)else if k≠k2 then zr 3 else(0,g,l,0,0)
theorem VK(g:Int)(y:ay)(a d i j k2:Int)(l:List (Int×Int))(M:Mem)(m:RowM M y 2 (l.map iA)):Meets ab 180 [kW g (.v y) a d,.v (.int .i64 i),.v (.int .i64 j),.v (.int .i64 k2)] M (we (ou g l a d i j k2)):=by
 refine aH [0,1,2,3,4,8,9,10,11,17,22,29,34] Proofs.Tryz.func180 rfl (by kernel_rfl) rfl λw=>?_;simp only[Proofs.Tryz.f180,kW,zW,seval];refine az ⟨rfl,rfl⟩ rfl (Nz g y a d i j l M m) ?_;generalize b:ou g l a d i j k2=c;unfold ou at b;by_cases k:jz g l a d i j=0;rotate_left;·have t:(jz g l a d i j=0)=False:=ax k;rw[aF k]at b;subst b;simp only[zW,seval,t];exact⟨_,rfl,bY _ _⟩
 rw[ai (by simp[k])]at b;obtain⟨n,I,u,x⟩:=yo k;obtain⟨J,z,B,C,D,E⟩:=gq n;have F:=C8 z;simp only[zW,seval,k];refine az ⟨rfl,rfl⟩ rfl (VE k2 M) ?_;cases q:kS k2 with
  |false=>rw[aF q]at b;subst b;simp only[zW,seval];exact⟨_,rfl,bY _ _⟩
  |true=>
   rw[ai (by simp[q])]at b;simp only[zW,seval];refine dE (pJ (g+0) a d) rfl rfl (O' g y a d 0 l M m (by omega) ⟨by simp only[lo];omega,by simp only[hi];omega⟩) rfl λG o=>?_;simp only[kW,PY,zW,seval];refine az ⟨rfl,rfl⟩ rfl (ZI g y a d i l G (m.le o)) ?_;cases r:ll l a d i with
    |false=>rw[aF r]at b;subst b;simp only[zW,seval];exact⟨.own 200,rfl,rfl⟩
    |true=>
     rw[ai (by simp[r])]at b;by_cases f:a=k2;·have p:(a=k2)=True:=aK f;rw[ai (λh=>h f)]at b;subst b;simp only[zW,seval,p];refine eR (A:=λs=>[.agg [.v (.int .i64 g),s,.v (.int .i64 a),.v (.int .i64 d)]]) 200 (λs K V U e=>by simp only[aS,SV.cL,e]) (pJ g 0 0) rfl rfl rfl (λH L=>VH g a d _ H) rfl ?_;simp only[kW,zW,seval];exact⟨.own 296,rfl,rfl⟩
     ·have p:(a=k2)=False:=ax f;rw[aF f]at b;subst b;simp only[zW,seval,p];exact⟨_,rfl,bY _ _⟩
def ov(g:Int)(l:List (Int×Int))(k h w key:Int):RS:=if jz g l k h w key≠0 then zr (jz g l k h w key)else if g=2147483647 then zr 8 else(0,g+1,[],0,0)
theorem aao(g:Int)(y:ay)(b d e f:Int)(l:List (Int×Int))(M:Mem)(m:RowM M y 2 (l.map iA)):Meets ab 181 [kW g (.v y) b d,.v (.int .i64 e),.v (.int .i64 f)] M (we (ov g l b d e f)):=by
 refine aH [0,1,2,3,6,7,8,14,19] Proofs.Tryz.func181 rfl (by kernel_rfl) rfl λw=>?_;simp only[Proofs.Tryz.f181,kW,zW,seval];refine az ⟨rfl,rfl⟩ rfl (Nz g y b d e f l M m) ?_;generalize a:ov g l b d e f=c;unfold ov at a;by_cases h:jz g l b d e f=0;rotate_left;·have n:(jz g l b d e f=0)=False:=ax h;rw[aF h]at a;subst a;simp only[zW,seval,n];exact⟨_,rfl,bY _ _⟩
 rw[ai (by simp[h])]at a;obtain⟨j,u,o,p⟩:=yo h;obtain⟨x,z,q,r,s,t⟩:=gq j;by_cases i:g=2147483647;·have k:(g=2147483647)=True:=aK i;rw[aF i]at a;subst a;simp only[zW,seval,h,k];exact⟨_,rfl,bY _ _⟩
 ·have k:(g=2147483647)=False:=ax i;rw[ai i]at a;subst a;simp only[zW,seval,h,k,cY,lo,hi];exact⟨by omega,_,rfl,bY _ _⟩
end Go.X.Rv
namespace Go.X.Rv
open Go Go.X Go.X.Rp Go.X.Sl
theorem abv{α:Type}(c d:α->ay)(p:α->Bool)(f:Nat)(b:List SV)(a:SV.concs b=true)(y:ay)(l:List α)(M:Mem)(e:RowM M y 2 (l.map (λx=>[c x,d x])))(g:∀x∈l,Meets ab f (.agg [.v (c x),.v (d x)]::b) M λr _ _=>r=.v (.bool (p x))):Meets ab 239 [.v y,.fn f b] M λr _ _=>r=.v (.bool (l.any p)):=by refine aH [0,1,4] Proofs.Tryz.func239 rfl (by kernel_rfl) (by simp only[SV.concs,SV.conc,a,cK]) λw=>?_;simp only[Proofs.Tryz.f239,zV,seval];refine az ⟨by simp only[SV.concs,SV.conc,a,cK],rfl⟩ rfl (aan c d p f b a y l M e g) ?_;rw[<-HX p l 0];simp only[zV,seval]
abbrev ST:=List (Int×Int)×Int×Int
def ng(s:ST)(q:Int):ST:=(zH s.1 q,if yn s.1 s.2.1 s.2.2 q=true then 0 else s.2.1,if yn s.1 s.2.1 s.2.2 q=true then 0 else s.2.2)
def vc(w:Int)(s:ST):List Int->ST|[]=>s|q::r=>vc w (if q=w then s else ng s q) r
def fM(l:List (Int×Int))(b:Int):List Int:=(l.filter λx=>aU (x.2=b)).map (·.1)
def qY(k h:Int)(a:List Int):Bool:=!jG k&&(aU (k≠0)&&a.any λq=>aU (h=q))
def ox(g:Int)(l:List (Int×Int))(k h w key b c:Int):RS:=if jz g l k h w key≠0 then zr (jz g l k h w key)else if kS c=false\/(b<1\/1000<b)then zr 1 else if fM l b=[]then zr 4 else if g=2147483647 then zr 8 else if qY k h (fM l b)=true then(0,g+1,(vc w (l,k,h) (fM l b)).1,c,if jG c=true then 0 else w)else(0,g+1,vc w (l,k,h) (fM l b))
theorem yp(s:ST)(q:Int):(ng s q).1.length<=s.1.length:=List.length_filter_le _ _
theorem VL(g:Int)(y:ay)(h n o O b c:Int)(l:List (Int×Int))(M:Mem)(hy:RowM M y 2 (l.map iA)):Meets ab 182 [kW g (.v y) h n,.v (.int .i64 o),.v (.int .i64 O),.v (.int .i64 b),.v (.int .i64 c)] M (we (ox g l h n o O b c)):=by
 refine aH [0,1,2,3,4,5,8,10,11,12,13,14,16,22,35,41,45,50,51,52,53,59,76,82,89] Proofs.Tryz.func182 rfl (by kernel_rfl) rfl λw=>?_;simp only[Proofs.Tryz.f182,kW,zW,seval];refine az ⟨rfl,rfl⟩ rfl (Nz g y h n o O l M hy) ?_;generalize p:ox g l h n o O b c=r;unfold ox at p;by_cases R:jz g l h n o O=0;rotate_left;·have c1:(jz g l h n o O=0)=False:=ax R;rw[aF R]at p;subst p;simp only[zW,seval,c1];exact⟨_,rfl,bY _ _⟩
 rw[ai (by simp[R])]at p;obtain⟨he1,hw,hfi,hky⟩:=yo R;obtain⟨hg,hs,hkk,hAl,hk0,hh0⟩:=gq he1;have hl8:=C8 hs;simp only[zW,seval,R];refine az ⟨rfl,rfl⟩ rfl (VE c M) ?_;cases hK:kS c with
  |false=>rw[aF (.inl hK)]at p;subst p;simp only[zW,seval];exact⟨_,rfl,bY _ _⟩
  |true=>
   by_cases hbr:b<1\/1000<b
   ·rw[aF (.inr hbr)]at p;subst p;by_cases S:b<1;·have T:(b<1)=True:=aK S;simp only[zW,seval,T];exact⟨_,rfl,bY _ _⟩
    ·have T:(b<1)=False:=ax S;have c3:(1000<b)=True:=aK (by omega);simp only[zW,seval,T,c3];exact⟨_,rfl,bY _ _⟩
   rw[ai (by simp[hK];omega)]at p;have T:(b<1)=False:=ax (by omega);have c3:(1000<b)=False:=ax (by omega);simp only[zW,seval,T,c3];refine j_ rfl rfl ?_;simp only[zW,seval];refine nY (k:=64) rfl rfl λbb M2 hM2 V=>?_;have G:=hy.le hM2;simp only[uJ,uK,zV,seval];refine az ⟨rfl,rfl⟩ rfl (abv (α:=Int×Int) (λx=>.int .i64 x.1) (λx=>.int .i64 x.2) (λu=>aU (u.2=b)) _ _ rfl y l M2 G (λx _=>abt bb b x M2 V)) ?_;have W:(l.any λu=>aU (u.2=b))=!aU (fM l b=[]):=by unfold fM;rw[Bool.eq_iff_iff];simp[List.filter_eq_nil_iff]
   rw[W];by_cases hh:fM l b=[];·rw[aF hh]at p;subst p;rw[cy hh];simp only[zW,seval];exact⟨_,rfl,bY _ _⟩
   rw[ai hh]at p;rw[bI hh];by_cases hm:g=2147483647;·have c4:(g=2147483647)=True:=aK hm;rw[aF hm]at p;subst p;simp only[zW,seval,c4];exact⟨_,rfl,bY _ _⟩
   have c4:(g=2147483647)=False:=ax hm;rw[ai hm]at p;simp only[zW,seval,c4];refine dE (pJ (g+1) h n) rfl rfl (O' g y h n 1 l M2 G (by omega) ⟨by simp only[lo];omega,by simp only[hi];omega⟩) rfl λM3 Y=>?_;have B:=G.le Y;have H:=(V.le Y).at (j:=0) rfl;simp only[SV.cL]at H;simp only[kW,zW,seval,B.gC,B.sl,ae];generalize Z:vc o (l,h,n) (fM l b)=fin at p;generalize htk:qY h n (fM l b)=tk at p;refine bE (X:=Nat×Nat×Bool×ST) (λx=>([(1,true,.v (.int .i64 o)),(4,true,.v (.int .i64 c)),(5,true,.ptr 40 0 0 0),(8,true,.v (bT bb)),(10,true,.ptr 80 0 0 0),(11,true,.v (.int .i64 0)),(13,true,.ptr 104 0 0 0),(14,true,.v (.bool x.2.2.1)),(50,true,.v y),(51,true,.v (.int .i64 l.length)),(52,true,.v (.int .i64 x.2.1))],[(40,.box [.v (.int .i64 g),.v y,.v (.int .i64 h),.v (.int .i64 n)] none),(80,.box [.v (.int .i64 0),.v (.slice none 0 0),.v (.int .i64 0),.v (.int .i64 0)] none),(104,.box [.v (.int .i64 (g+1)),.own 800,.v (.int .i64 x.2.2.2.2.1),.v (.int .i64 x.2.2.2.2.2)] none),(800,.row 2 (x.2.2.2.1.map iA))],M3)) (λx=>(x.1+x.2.1=l.length/\x.2.2.2.1.length<=8)/\vc o x.2.2.2 (fM (l.drop x.2.1) b)=fin/\(x.2.2.1||qY h n (fM (l.drop x.2.1) b))=tk) (λx=>x.1) (l.length,0,false,l,h,n) ⟨⟨rfl,by simp only;omega⟩,Z,by simpa using htk⟩ (gT 104 1 384 100 2 _ rfl rfl rfl rfl rfl (aR ?_)) ?_;·simp only[zW,seval]
   rintro⟨f,i,I,s⟩⟨⟨h1,D⟩,m,z⟩;simp only at h1 m z D;by_cases hil:i<l.length
   ·have P:((i:Int)<(l.length:Int))=True:=aK (by omega);obtain⟨⟨a,q⟩,hx,hd'⟩:=cE (l:=l) (i:=i) hil;have J:=B.fG (i:=i) (e:=[.int .i64 a,.int .i64 q]) (by rw[aN,hx];rfl) (off:=0) (by omega);have K:=B.fG (i:=i) (e:=[.int .i64 a,.int .i64 q]) (by rw[aN,hx];rfl) (off:=1) (by omega);have Q:=B.ix (i:=(i:Int)) (by omega) (by rw[ae];omega);simp only[a_,bA]at J K;by_cases E:q=b;rotate_left
    ·have c5:(q=b)=False:=ax E;have L:fM (l.drop i) b=fM (l.drop (i+1)) b:=by rw[hd'];unfold fM;rw[P5 (by simp[E])]
     rw[L]at m z;simp only[zW,seval,P,Q,Q.2,J.1,J.2.1,K.1,K.2.1,H.1,H.2,c5,cY,lo,hi];refine⟨by omega,(f-1,i+1,I,s),⟨⟨⟨by simp only;omega,D⟩,m,z⟩,by simp only;omega⟩,aR ?_⟩;simp only[zV,seval,aJ]
    ·have c5:(q=b)=True:=aK E;have L:fM (l.drop i) b=a::fM (l.drop (i+1)) b:=by rw[hd'];unfold fM;rw[Uh (by simp[E])];rfl
     rw[L]at m z;rw[vc]at m;have N:qY h n (a::fM (l.drop (i+1)) b)=((!jG h&&(aU (h≠0)&&aU (n=a)))||qY h n (fM (l.drop (i+1)) b)):=by unfold qY;rw[List.any_cons];cases jG h<;>cases aU (h≠0)<;>cases aU (n=a)<;>rfl
     rw[N]at z;have hy3':=B;cases I with
      |true=>
       simp only[zW,seval,P,Q,Q.2,J.1,J.2.1,K.1,K.2.1,H.1,H.2,c5,cY,lo,hi];by_cases d:a=o;·have C:(a=o)=True:=aK d;rw[aF d]at m;simp only[zW,seval,C,cY,lo,hi];refine⟨by omega,(f-1,i+1,true,s),⟨⟨⟨by simp only;omega,D⟩,m,(by simpa using z)⟩,by simp only;omega⟩,aR ?_⟩;simp only[zV,seval,aJ]
       ·have C:(a=o)=False:=ax d;rw[ai d]at m;simp only[zW,seval,C,cY,lo,hi];refine eR (A:=λt=>[.agg [.v (.int .i64 (g+1)),t,.v (.int .i64 s.2.1),.v (.int .i64 s.2.2)],.v (.int .i64 a)]) 800 (λt t' ν U e=>by simp only[aS,SV.cL,e]) (pJ (g+1) (ng s a).2.1 (ng s a).2.2) rfl rfl rfl (λF h6=>ZJ (g+1) s.2.1 s.2.2 a s.1 F (by omega)) rfl ?_;simp only[kW,zW,seval,cY,lo,hi];refine⟨by omega,(f-1,i+1,true,ng s a),⟨⟨⟨by simp only;omega,by have :=yp s a;simp only;omega⟩,m,(by simpa using z)⟩,by simp only;omega⟩,gT 104 1 640 100 2 _ rfl rfl rfl rfl rfl (aR ?_)⟩;simp only[zW,seval,ng,aJ]
      |false=>
       simp only[zW,seval,P,Q,Q.2,J.1,J.2.1,K.1,K.2.1,H.1,H.2,c5,cY,lo,hi];refine az ⟨rfl,rfl⟩ rfl (R_ h M3) ?_;cases hA:jG h with
        |true=>
         rw[hA]at z;simp only[zW,seval];by_cases d:a=o;·have C:(a=o)=True:=aK d;rw[aF d]at m;simp only[zW,seval,C,cY,lo,hi];refine⟨by omega,(f-1,i+1,false,s),⟨⟨⟨by simp only;omega,D⟩,m,(by simpa using z)⟩,by simp only;omega⟩,aR ?_⟩;simp only[zV,seval,aJ]
         ·have C:(a=o)=False:=ax d;rw[ai d]at m;simp only[zW,seval,C,cY,lo,hi];refine eR (A:=λt=>[.agg [.v (.int .i64 (g+1)),t,.v (.int .i64 s.2.1),.v (.int .i64 s.2.2)],.v (.int .i64 a)]) 800 (λt t' ν U e=>by simp only[aS,SV.cL,e]) (pJ (g+1) (ng s a).2.1 (ng s a).2.2) rfl rfl rfl (λF h6=>ZJ (g+1) s.2.1 s.2.2 a s.1 F (by omega)) rfl ?_;simp only[kW,zW,seval,cY,lo,hi];refine⟨by omega,(f-1,i+1,false,ng s a),⟨⟨⟨by simp only;omega,by have :=yp s a;simp only;omega⟩,m,(by simpa using z)⟩,by simp only;omega⟩,gT 104 1 640 100 2 _ rfl rfl rfl rfl rfl (aR ?_)⟩;simp only[zW,seval,ng,aJ]
        |false=>
         rw[hA]at z;simp only[zW,seval];refine az ⟨rfl,rfl⟩ rfl (ZI g y h n a l M3 B) ?_;have hHe:ll l h n a=(aU (h≠0)&&aU (n=a)):=by unfold ll;rw[ai (by simp[hA])]
         rw[<-hHe]at z;cases hH:ll l h n a with
          |true=>
           rw[hH]at z;simp only[zW,seval];by_cases d:a=o;·have C:(a=o)=True:=aK d;rw[aF d]at m;simp only[zW,seval,C,cY,lo,hi];refine⟨by omega,(f-1,i+1,true,s),⟨⟨⟨by simp only;omega,D⟩,m,(by simpa using z)⟩,by simp only;omega⟩,aR ?_⟩;simp only[zV,seval,aJ]
           ·have C:(a=o)=False:=ax d;rw[ai d]at m;simp only[zW,seval,C,cY,lo,hi];refine eR (A:=λt=>[.agg [.v (.int .i64 (g+1)),t,.v (.int .i64 s.2.1),.v (.int .i64 s.2.2)],.v (.int .i64 a)]) 800 (λt t' ν U e=>by simp only[aS,SV.cL,e]) (pJ (g+1) (ng s a).2.1 (ng s a).2.2) rfl rfl rfl (λF h6=>ZJ (g+1) s.2.1 s.2.2 a s.1 F (by omega)) rfl ?_;simp only[kW,zW,seval,cY,lo,hi];refine⟨by omega,(f-1,i+1,true,ng s a),⟨⟨⟨by simp only;omega,by have :=yp s a;simp only;omega⟩,m,(by simpa using z)⟩,by simp only;omega⟩,gT 104 1 640 100 2 _ rfl rfl rfl rfl rfl (aR ?_)⟩;simp only[zW,seval,ng,aJ]
          |false=>
           rw[hH]at z;simp only[zW,seval];by_cases d:a=o;·have C:(a=o)=True:=aK d;rw[aF d]at m;simp only[zW,seval,C,cY,lo,hi];refine⟨by omega,(f-1,i+1,false,s),⟨⟨⟨by simp only;omega,D⟩,m,(by simpa using z)⟩,by simp only;omega⟩,aR ?_⟩;simp only[zV,seval,aJ]
           ·have C:(a=o)=False:=ax d;rw[ai d]at m;simp only[zW,seval,C,cY,lo,hi];refine eR (A:=λt=>[.agg [.v (.int .i64 (g+1)),t,.v (.int .i64 s.2.1),.v (.int .i64 s.2.2)],.v (.int .i64 a)]) 800 (λt t' ν U e=>by simp only[aS,SV.cL,e]) (pJ (g+1) (ng s a).2.1 (ng s a).2.2) rfl rfl rfl (λF h6=>ZJ (g+1) s.2.1 s.2.2 a s.1 F (by omega)) rfl ?_;simp only[kW,zW,seval,cY,lo,hi];refine⟨by omega,(f-1,i+1,false,ng s a),⟨⟨⟨by simp only;omega,by have :=yp s a;simp only;omega⟩,m,(by simpa using z)⟩,by simp only;omega⟩,gT 104 1 640 100 2 _ rfl rfl rfl rfl rfl (aR ?_)⟩;simp only[zW,seval,ng,aJ]
   ·have P:((i:Int)<(l.length:Int))=False:=ax (by omega);rw[bh (by omega)]at m z;simp only[fM,List.filter_nil,cr,vc,qY,List.any_nil,Bool.and_false,Bool.or_false]at m z;subst m z;cases I with|false=>rw[ai (by decide)]at p;subst p;simp only[zW,seval,P];exact⟨.own 800,rfl,rfl⟩|true=>rw[aF rfl]at p;subst p;simp only[zW,seval,P];refine eR (A:=λt=>[.agg [.v (.int .i64 (g+1)),t,.v (.int .i64 s.2.1),.v (.int .i64 s.2.2)]]) 800 (λt t' ν U e=>by simp only[aS,SV.cL,e]) (pJ (g+1) 0 0) rfl rfl rfl (λF h6=>VH (g+1) s.2.1 s.2.2 _ F) rfl ?_;simp only[kW,zW,seval];refine az ⟨rfl,rfl⟩ rfl (R_ c M3) ?_;cases hA:jG c with|true=>simp only[zW,seval];exact⟨.own 672,rfl,rfl⟩|false=>simp only[zW,seval];exact⟨.own 672,rfl,rfl⟩
end Go.X.Rv
namespace Go.X.Rv
open Go Go.X Go.X.Rp Go.X.Sl
theorem Xc{l:List (Int×Int)}{k h:Int}(b:qy 0 l)(c:jG k=true->l≠[])(d:0<=h):kF l k h (-1) 0=false:=by unfold kF;rw[Bn b];cases a:jG k with|true=>rw[bI (c a)];rfl|false=>unfold ll;rw[ai (by simp[a]),bI (show¬h=-1 by omega),Bool.and_false];rfl
theorem Sn(g:Int)(y:ay)(a b c k2:Int)(l:List (Int×Int))(M:Mem)(e:RowM M y 2 (l.map iA))(d:qy 0 l)(f:0<=a):Meets ab 94 [kW g (.v y) a b,.v (.int .i64 c),.v (.int .i64 k2)] M (OwnR (λs=>kW g s k2 (if jG k2=true then 0 else c)) 2 (l.map iA)):=by refine aH [0,1,2,3,6,7,15] Proofs.Tryz.func94 rfl (by kernel_rfl) rfl λw=>?_;simp only[Proofs.Tryz.f94,kW,zW,seval];refine dE (pJ g _ _) rfl rfl (C7 g y a b (-1) 0 l M e (k6 d) f) rfl λh i=>?_;rw[Bn d];simp only[kW,zW,seval];refine az ⟨rfl,rfl⟩ rfl (zy k2 h) ?_;cases j:jG k2 with|true=>simp only[zW,seval];exact⟨72,rfl,rfl⟩|false=>simp only[zW,seval];exact⟨72,rfl,rfl⟩
theorem iE{g:Int}{l:List (Int×Int)}{k h w key:Int}(d:fY g l k h=0):jz g l k h w key=if nf w=false then 1 else if ky w l=0\/ky w l≠key then 9 else 0:=by
 obtain⟨_,e,_⟩:=gq d;have f:=Jj w l 0 (k6 e);have i:=Xa w l (k6 e);unfold jz;rw[ai (by simp[d])];by_cases b:nf w=false;·rw[aF b,aF b]
 ·rw[ai b,ai b];by_cases a:ky w l=0\/ky w l≠key
  ·rw[aF a,aF];rcases a with a|a;·exact .inl (by omega)
   ·exact .inr a
  ·rw[ai a,ai];intro c;rcases c with c|c;·exact a (.inl (by omega))
   ·exact a (.inr c)
theorem nD(w:Int):aU (0<=w/\w<=7)=nf w:=by unfold nf;by_cases a:0<=w<;>by_cases b:w<=7<;>simp[a,b]
theorem YA(g:Int)(y:ay)(h i f b d c:Int)(l:List (Int×Int))(M:Mem)(q:RowM M y 2 (l.map iA))(s:fY g l h i=0):Meets ab 44 [kW g (.v y) h i,.v (.int .i64 1),.v (.int .i64 f),.v (.int .i64 b),.v (.int .i64 d),.v (.int .i64 c)] M (we (oq g l h i f b d)):=by
 refine aH [0,1,2,3,4,5,6,12,13,14,15,16,17,18,19,21,24,30,33,37,41,58,60,61,65,81,87,91,97,101,106,110,123,125,126,132,140,144,148,149,150,151,156,175] oF rfl (by kernel_rfl) rfl λw=>?_;obtain⟨C,u,n,x,z,A⟩:=gq s;generalize a:oq g l h i f b d=r;unfold oq at a;rw[ai (by simp[s])]at a;simp only[qw,kW,zW,seval];refine az ⟨rfl,rfl⟩ rfl (pa f 0 7 M) ?_;rw[nD];cases t:nf f with
  |false=>rw[aF (.inl t)]at a;subst a;simp only[zW,seval];exact⟨_,rfl,bY _ _⟩
  |true=>
   simp only[zW,seval];refine az ⟨rfl,rfl⟩ rfl (Gy g y h i f l M q) ?_;simp only[zW,seval];refine az ⟨rfl,rfl⟩ rfl (pa d 0 1000 M) ?_;by_cases o:d<0\/1000<d;·rw[aF (.inr o)]at a;subst a;rw[bI (show¬(0<=d/\d<=1000)by omega)];simp only[zW,seval];exact⟨_,rfl,bY _ _⟩
   rw[ai (by simp[t];omega)]at a;rw[cy (show(0<=d/\d<=1000)by omega)];by_cases j:ky f l=b;rotate_left;·rw[aF j]at a;subst a;have k:(ky f l=b)=False:=ax j;simp only[zW,seval,k];exact⟨_,rfl,bY _ _⟩
   rw[ai (λe=>e j)]at a;have k:(ky f l=b)=True:=aK j;by_cases m:g=2147483647;·have p:(g=2147483647)=True:=aK m;rw[aF m]at a;subst a;simp only[zW,seval,k,p];exact⟨_,rfl,bY _ _⟩
   have p:(g=2147483647)=False:=ax m;rw[ai m]at a;subst a;simp only[zW,seval,k,p];refine dE (pJ g _ _) rfl rfl (C7 g y h i f d l M q (k6 u) n.1) rfl λD B=>?_;simp only[kW,zW,seval,cY,lo,hi];exact⟨by omega,.own 368,rfl,rfl⟩
theorem YB(g:Int)(y:ay)(b f a i k2 c:Int)(l:List (Int×Int))(M:Mem)(o:RowM M y 2 (l.map iA))(n:fY g l b f=0):Meets ab 44 [kW g (.v y) b f,.v (.int .i64 2),.v (.int .i64 a),.v (.int .i64 i),.v (.int .i64 k2),.v (.int .i64 c)] M (we (ot g l b f a i k2)):=by
 refine aH [0,1,2,3,4,5,6,12,13,14,15,16,17,18,19,21,24,30,33,37,41,58,60,61,65,81,87,91,97,101,106,110,123,125,126,132,140,144,148,149,150,151,156,175] oF rfl (by kernel_rfl) rfl λw=>?_;obtain⟨J,p,k,E,F,G⟩:=gq n;have H:=C8 p;generalize d:ot g l b f a i k2=r;unfold ot at d;simp only[qw,kW,zW,seval];refine az ⟨rfl,rfl⟩ rfl (pa a 0 7 M) ?_;rw[nD];cases q:nf a with
  |false=>
   have e:jz g l b f a i=1:=by rw[iE n,aF q]
   rw[e,aF (by decide)]at d;subst d;simp only[zW,seval];exact⟨_,rfl,bY _ _⟩
  |true=>
   simp only[zW,seval];refine az ⟨rfl,rfl⟩ rfl (Gy g y b f a l M o) ?_;by_cases s:ky a l=0
   ·have t:(ky a l=0)=True:=aK s;have e:jz g l b f a i=9:=by rw[iE n,ai (by simp[q]),aF (.inl s)]
    rw[e,aF (by decide)]at d;subst d;simp only[zW,seval,t];exact⟨_,rfl,bY _ _⟩
   have t:(ky a l=0)=False:=ax s;by_cases u:ky a l=i;rotate_left
   ·have x:(ky a l=i)=False:=ax u;have e:jz g l b f a i=9:=by rw[iE n,ai (by simp[q]),aF (.inr u)]
    rw[e,aF (by decide)]at d;subst d;simp only[zW,seval,t,x];exact⟨_,rfl,bY _ _⟩
   have x:(ky a l=i)=True:=aK u;have e:jz g l b f a i=0:=by rw[iE n,ai (by simp[q]),ai (by rintro(h|h);exact s h;exact h u)]
   rw[e,ai (by decide)]at d;simp only[zW,seval,t,x];refine az ⟨rfl,rfl⟩ rfl (Sa k2 M) ?_;cases C:kS k2 with
    |false=>rw[aF C]at d;subst d;simp only[zW,seval];exact⟨_,rfl,bY _ _⟩
    |true=>
     rw[ai (by simp[C])]at d;by_cases m:b=0;·have z:(0<b)=False:=ax (by omega);rw[ai (λh=>h.1 m)]at d;subst d;simp only[zW,seval,z];refine dE (pJ g _ _) rfl rfl (Sn g y b f a k2 l M o p k.1) rfl λI A=>?_;simp only[kW,zW,seval];exact⟨.own 688,rfl,rfl⟩
     ·have z:(0<b)=True:=aK (by omega);simp only[zW,seval,z];refine az ⟨rfl,rfl⟩ rfl (Se g y b f a l M o (k6 p) k.1) ?_;cases D:ll l b f a with
       |false=>rw[aF ⟨m,.inl D⟩]at d;subst d;simp only[zW,seval];exact⟨_,rfl,bY _ _⟩
       |true=>
        by_cases j:b=k2;·have B:(b=k2)=True:=aK j;rw[ai (λh=>by rcases h.2 with h|h;exact absurd h (by simp[D]);exact h j)]at d;subst d;simp only[zW,seval,B];refine dE (pJ g _ _) rfl rfl (Sn g y b f a k2 l M o p k.1) rfl λI A=>?_;simp only[kW,zW,seval];exact⟨.own 688,rfl,rfl⟩
        ·have B:(b=k2)=False:=ax j;rw[aF ⟨m,.inr j⟩]at d;subst d;simp only[zW,seval,B];exact⟨_,rfl,bY _ _⟩
theorem YC(g:Int)(y:ay)(d f a i k2 c:Int)(l:List (Int×Int))(M:Mem)(t:RowM M y 2 (l.map iA))(k:fY g l d f=0):Meets ab 44 [kW g (.v y) d f,.v (.int .i64 3),.v (.int .i64 a),.v (.int .i64 i),.v (.int .i64 k2),.v (.int .i64 c)] M (we (ou g l d f a i k2)):=by
 refine aH [0,1,2,3,4,5,6,12,13,14,15,16,17,18,19,21,24,30,33,37,41,58,60,61,65,81,87,91,97,101,106,110,123,125,126,132,140,144,148,149,150,151,156,175] oF rfl (by kernel_rfl) rfl λw=>?_;obtain⟨I,m,n,u,E,x⟩:=gq k;have F:=C8 m;generalize b:ou g l d f a i k2=r;unfold ou at b;simp only[qw,kW,zW,seval];refine az ⟨rfl,rfl⟩ rfl (pa a 0 7 M) ?_;rw[nD];cases o:nf a with
  |false=>
   have e:jz g l d f a i=1:=by rw[iE k,aF o]
   rw[e,aF (by decide)]at b;subst b;simp only[zW,seval];exact⟨_,rfl,bY _ _⟩
  |true=>
   simp only[zW,seval];refine az ⟨rfl,rfl⟩ rfl (Gy g y d f a l M t) ?_;by_cases p:ky a l=0
   ·have q:(ky a l=0)=True:=aK p;have e:jz g l d f a i=9:=by rw[iE k,ai (by simp[o]),aF (.inl p)]
    rw[e,aF (by decide)]at b;subst b;simp only[zW,seval,q];exact⟨_,rfl,bY _ _⟩
   have q:(ky a l=0)=False:=ax p;by_cases s:ky a l=i;rotate_left
   ·have z:(ky a l=i)=False:=ax s;have e:jz g l d f a i=9:=by rw[iE k,ai (by simp[o]),aF (.inr s)]
    rw[e,aF (by decide)]at b;subst b;simp only[zW,seval,q,z];exact⟨_,rfl,bY _ _⟩
   have z:(ky a l=i)=True:=aK s;have e:jz g l d f a i=0:=by rw[iE k,ai (by simp[o]),ai (by rintro(h|h);exact p h;exact h s)]
   rw[e,ai (by decide)]at b;simp only[zW,seval,q,z];refine az ⟨rfl,rfl⟩ rfl (Sa k2 M) ?_;cases C:kS k2 with
    |false=>rw[aF C]at b;subst b;simp only[zW,seval];exact⟨_,rfl,bY _ _⟩
    |true=>
     rw[ai (by simp[C])]at b;simp only[zW,seval];refine dE (pJ g _ _) rfl rfl (C7 g y d f (-1) 0 l M t (k6 m) n.1) rfl λG A=>?_;rw[Bn m,Xc m (λH=>(u H).2) x];simp only[kW,zW,seval,bp,cA];refine az ⟨rfl,rfl⟩ rfl (Se g y d f a l G (t.le A) (k6 m) n.1) ?_;cases D:ll l d f a with
      |false=>rw[aF D]at b;subst b;simp only[zW,seval];exact⟨.own 752,rfl,rfl⟩
      |true=>
       rw[ai (by simp[D])]at b;by_cases j:d=k2;·have B:(d=k2)=True:=aK j;rw[ai (λh=>h j)]at b;subst b;simp only[zW,seval,B];exact⟨.own 752,rfl,rfl⟩
       ·have B:(d=k2)=False:=ax j;rw[aF j]at b;subst b;simp only[zW,seval,B];exact⟨_,rfl,bY _ _⟩
theorem YD(g:Int)(y:ay)(i j a f b c:Int)(l:List (Int×Int))(M:Mem)(u:RowM M y 2 (l.map iA))(k:fY g l i j=0):Meets ab 44 [kW g (.v y) i j,.v (.int .i64 4),.v (.int .i64 a),.v (.int .i64 f),.v (.int .i64 b),.v (.int .i64 c)] M (we (ov g l i j a f)):=by
 refine aH [0,1,2,3,4,5,6,12,13,14,15,16,17,18,19,21,24,30,33,37,41,58,60,61,65,81,87,91,97,101,106,110,123,125,126,132,140,144,148,149,150,151,156,175] oF rfl (by kernel_rfl) rfl λw=>?_;obtain⟨E,x,z,A,B,C⟩:=gq k;have D:=C8 x;generalize e:ov g l i j a f=r;unfold ov at e;simp only[qw,kW,zW,seval];refine az ⟨rfl,rfl⟩ rfl (pa a 0 7 M) ?_;rw[nD];cases m:nf a with
  |false=>
   have d:jz g l i j a f=1:=by rw[iE k,aF m]
   rw[d,aF (by decide)]at e;subst e;simp only[zW,seval];exact⟨_,rfl,bY _ _⟩
  |true=>
   simp only[zW,seval];refine az ⟨rfl,rfl⟩ rfl (Gy g y i j a l M u) ?_;by_cases n:ky a l=0
   ·have o:(ky a l=0)=True:=aK n;have d:jz g l i j a f=9:=by rw[iE k,ai (by simp[m]),aF (.inl n)]
    rw[d,aF (by decide)]at e;subst e;simp only[zW,seval,o];exact⟨_,rfl,bY _ _⟩
   have o:(ky a l=0)=False:=ax n;by_cases p:ky a l=f;rotate_left
   ·have s:(ky a l=f)=False:=ax p;have d:jz g l i j a f=9:=by rw[iE k,ai (by simp[m]),aF (.inr p)]
    rw[d,aF (by decide)]at e;subst e;simp only[zW,seval,o,s];exact⟨_,rfl,bY _ _⟩
   have s:(ky a l=f)=True:=aK p;have d:jz g l i j a f=0:=by rw[iE k,ai (by simp[m]),ai (by rintro(h|h);exact n h;exact h p)]
   rw[d,ai (by decide)]at e;simp only[zW,seval,o,s];by_cases q:g=2147483647;·have t:(g=2147483647)=True:=aK q;rw[aF q]at e;subst e;simp only[zW,seval,t];exact⟨_,rfl,bY _ _⟩
   have t:(g=2147483647)=False:=ax q;rw[ai q]at e;subst e;simp only[zW,seval,t,cY,lo,hi];exact⟨by omega,_,rfl,bY _ _⟩
end Go.X.Rv
namespace Go.X.Rv
open Go Go.X Go.X.Rp Go.X.Sl
def hl(f:Int->Int)(b:Int):Nat->Int->List Int|0,_=>[]|n+1,a=>if f a=b then a::hl f b n (a+1)else hl f b n (a+1)
theorem NB(f:Int->Int)(b:Int):∀(n:Nat)(a:Int),hl f b (n+1) a=hl f b n a++if f (a+n)=b then[a+n]else[]
 |0,a=>by simp only[hl,eX,aZ,PY]
 |n+1,a=>by
  rw[hl,NB f b n (a+1),hl];have e:a+1+(n:Int)=a+((n+1:Nat):Int):=by omega
  rw[e];split<;>rfl
theorem LB(f:Int->Int)(b:Int):∀(n:Nat)(a:Int),(hl f b n a).length<=n
 |0,_=>bc _
 |n+1,a=>by
  have :=LB f b n (a+1);rw[hl];split;·simp;omega
  ·omega
theorem Sp(f:Int->Int)(b:Int)(c:1<=b):∀(n:Nat)(a:Int),hl f b n a=((Az f n a).filter λx=>aU (x.2=b)).map (·.1)
 |0,_=>rfl
 |n+1,a=>by
  rw[hl,Az,Sp f b c n (a+1)];by_cases h:f a=b;·rw[aF h,aF (by omega),Uh (by simp[h])];rfl
  ·rw[ai h];split;·rw[P5 (by simp[h])]
   ·rfl
theorem Sq{l:List (Int×Int)}(b:Int)(a:1<=b)(c:qy 0 l):hl (λh=>ky h l) b 8 0=fM l b:=by rw[Sp _ b a,ym rfl c];rfl
theorem Sr(k:Int):∀(l:List Int)(i:Nat),aU (0<=ix k l i)=l.any λq=>aU (k=q)
 |[],i=>by simp[ix]
 |x::l,i=>by
  rw[ix,List.any_cons];by_cases h:k=x;·simp[h]
  ·rw[ai h,Sr k l (i+1)];simp[h]
def okS(s:ST):Prop:=qy 0 s.1/\(jG s.2.1=true->s.1≠[])/\0<=s.2.1
theorem VM{s:ST}(h:okS s)(q:Int):okS (ng s q):=by
 obtain⟨a,d,e⟩:=h;refine⟨qi a,?_,?_⟩
 ·unfold ng;simp only;by_cases b:yn s.1 s.2.1 s.2.2 q=true;·rw[aF b];intro c;exact absurd c (by decide)
  ·rw[ai b];intro c f;have :=Bo (h:=s.2.2) q a d;apply b;rw[<-this];unfold kF;rw[c,C6 q a];have :(s.1.filter λx=>!aU (x.1=q))=[]:=f;rw[this];simp
 ·unfold ng;simp only;split;·omega
  ·exact e
theorem Ss{s:ST}(h:okS s)(q:Int):ng s q=(kr s.1 q 0,if kF s.1 s.2.1 s.2.2 q 0=true then 0 else s.2.1,if kF s.1 s.2.1 s.2.2 q 0=true then 0 else s.2.2):=by rw[C6 q h.1,Bo q h.1 h.2.1];rfl
theorem YE(g:Int)(y:ay)(e m d t b c:Int)(l:List (Int×Int))(M:Mem)(V:RowM M y 2 (l.map iA))(G:fY g l e m=0):Meets ab 44 [kW g (.v y) e m,.v (.int .i64 5),.v (.int .i64 d),.v (.int .i64 t),.v (.int .i64 b),.v (.int .i64 c)] M (we (ox g l e m d t b c)):=by
 refine aH [0,1,2,3,4,5,6,12,13,14,15,16,17,18,19,21,24,30,33,37,41,58,60,61,65,81,87,91,97,101,106,110,123,125,126,132,140,144,148,149,150,151,156,175] oF rfl (by kernel_rfl) rfl λw=>?_;obtain⟨hg,E,H,I,hk0,hh0⟩:=gq G;have hl8:=C8 E;generalize a:ox g l e m d t b c=r;unfold ox at a;simp only[qw,kW,zW,seval];refine az ⟨rfl,rfl⟩ rfl (pa d 0 7 M) ?_;rw[nD];cases W:nf d with
  |false=>
   have o:jz g l e m d t=1:=by rw[iE G,aF W]
   rw[o,aF (by decide)]at a;subst a;simp only[zW,seval];exact⟨_,rfl,bY _ _⟩
  |true=>
   simp only[zW,seval];refine az ⟨rfl,rfl⟩ rfl (Gy g y e m d l M V) ?_;by_cases Y:ky d l=0
   ·have Z:(ky d l=0)=True:=aK Y;have o:jz g l e m d t=9:=by rw[iE G,ai (by simp[W]),aF (.inl Y)]
    rw[o,aF (by decide)]at a;subst a;simp only[zW,seval,Z];exact⟨_,rfl,bY _ _⟩
   have Z:(ky d l=0)=False:=ax Y;by_cases ho:ky d l=t;rotate_left
   ·have c2:(ky d l=t)=False:=ax ho;have o:jz g l e m d t=9:=by rw[iE G,ai (by simp[W]),aF (.inr ho)]
    rw[o,aF (by decide)]at a;subst a;simp only[zW,seval,Z,c2];exact⟨_,rfl,bY _ _⟩
   have c2:(ky d l=t)=True:=aK ho;have o:jz g l e m d t=0:=by rw[iE G,ai (by simp[W]),ai (by rintro(h|h);exact Y h;exact h ho)]
   rw[o,ai (by decide)]at a;simp only[zW,seval,Z,c2];refine az ⟨rfl,rfl⟩ rfl (Sa c M) ?_;cases hK:kS c with
    |false=>rw[aF (.inl hK)]at a;subst a;simp only[zW,seval];exact⟨_,rfl,bY _ _⟩
    |true=>
     simp only[zW,seval];refine az ⟨rfl,rfl⟩ rfl (pa b 1 1000 M) ?_;by_cases hbr:b<1\/1000<b;·rw[aF (.inr hbr)]at a;subst a;rw[bI (show¬(1<=b/\b<=1000)by omega)];simp only[zW,seval];exact⟨_,rfl,bY _ _⟩
     rw[ai (by simp[hK];omega)]at a;rw[cy (show(1<=b/\b<=1000)by omega)];simp only[zW,seval];refine eI 17 136 1 rfl rfl rfl ?_;have J:=Sq b (by omega) E;refine bE (X:=Nat×Nat) (λx=>([(2,true,.v (.int .i64 d)),(4,true,.v (.int .i64 b)),(5,true,.v (.int .i64 c)),(6,true,.ptr 48 0 0 0),(12,true,.ptr 96 0 0 0),(13,true,.v (.int .i64 0)),(17,true,.own 1088),(125,true,.v (.int .i64 x.2))],[(1088,.row 1 ((hl (λh=>ky h l) b x.2 0).map AN)),(48,.box [.v (.int .i64 g),.v y,.v (.int .i64 e),.v (.int .i64 m)] none),(96,.box [.v (.int .i64 0),.v (.slice none 0 0),.v (.int .i64 0),.v (.int .i64 0)] none)],M)) (λx=>x.1+x.2=8) (λx=>x.1) (8,0) rfl (aR ?_) ?_;·simp only[zV,seval,hl,cr]
     rintro⟨f,j⟩h1;simp only at h1;by_cases hj:j<8
     ·have K:((j:Int)<8)=True:=aK (by omega);have p:=NB (λh=>ky h l) b j 0;have hgl:=LB (λh=>ky h l) b j 0;simp only[Int.zero_add]at p;simp only[zW,seval,K];refine az ⟨rfl,rfl⟩ rfl (Gy g y e m j l M V) ?_;by_cases u:ky (j:Int) l=b;·have A:(ky (j:Int) l=b)=True:=aK u;rw[aF u]at p;simp only[zW,seval,A,cY,lo,hi,ae];refine⟨⟨by omega,by omega⟩,by omega,(f-1,j+1),⟨by simp only;omega,by simp only;omega⟩,aR ?_⟩;simp only[zV,seval,p,bq,ca,cr,AN,aJ]
      ·have A:(ky (j:Int) l=b)=False:=ax u;rw[ai u,cS]at p;simp only[zW,seval,A,cY,lo,hi];refine⟨by omega,(f-1,j+1),⟨by simp only;omega,by simp only;omega⟩,aR ?_⟩;simp only[zV,seval,p,aJ]
     have K:((j:Int)<8)=False:=ax (by omega);have ej:j=8:=by omega
     subst ej;rw[J];have hln:(fM l b).length<=8:=by rw[<-J];exact LB _ _ 8 0
     have B:(((fM l b).length:Int)=0)=(fM l b=[]):=by apply propext;rw[<-e_];omega
     by_cases hh:fM l b=[];·have A:=B.trans (aK hh);rw[aF hh]at a;subst a;simp only[zW,seval,K,A,ae];exact⟨_,rfl,bY _ _⟩
     have A:=B.trans (ax hh);rw[ai hh]at a;by_cases hm:g=2147483647;·have c5:(g=2147483647)=True:=aK hm;rw[aF hm]at a;subst a;simp only[zW,seval,K,A,c5,ae];exact⟨_,rfl,bY _ _⟩
     have c5:(g=2147483647)=False:=ax hm;rw[ai hm]at a;simp only[zW,seval,K,A,c5,ae];refine dE (pJ g _ _) rfl rfl (C7 g y e m (-1) 0 l M V (k6 E) H.1) rfl λM2 hM2=>?_;rw[Bn E,Xc E (λF=>(I F).2) hh0];simp only[kW,zW,seval,bp,cA,ae];generalize L:vc d (l,e,m) (fM l b)=fin at a;refine bE (X:=Nat×Nat×ST×Mem) (λx=>([(2,true,.v (.int .i64 d)),(4,true,.v (.int .i64 b)),(5,true,.v (.int .i64 c)),(6,true,.ptr 48 0 0 0),(12,true,.ptr 96 0 0 0),(13,true,.v (.int .i64 0)),(17,true,.own 1088),(19,true,.ptr 152 0 0 0),(148,true,.own 1088),(149,true,.v (.int .i64 (fM l b).length)),(150,true,.v (.int .i64 x.2.1))],[(1088,.row 1 ((fM l b).map AN)),(48,.box [.v (.int .i64 g),.v y,.v (.int .i64 e),.v (.int .i64 m)] none),(96,.box [.v (.int .i64 0),.v (.slice none 0 0),.v (.int .i64 0),.v (.int .i64 0)] none),(152,.box [.v (.int .i64 g),.own 1600,.v (.int .i64 x.2.2.1.2.1),.v (.int .i64 x.2.2.1.2.2)] none),(1600,.row 2 (x.2.2.1.1.map iA))],x.2.2.2)) (λx=>(x.1+x.2.1=(fM l b).length/\M2.le x.2.2.2)/\okS x.2.2.1/\vc d x.2.2.1 ((fM l b).drop x.2.1)=fin) (λx=>x.1) ((fM l b).length,0,(l,e,m),M2) ⟨⟨rfl,cg M2⟩,⟨E,λF=>(I F).2,H.1⟩,L⟩ (gT 152 1 1176 200 2 _ rfl rfl rfl rfl rfl (aR ?_)) ?_;·simp only[zW,seval]
     rintro⟨f,i,s,N⟩⟨⟨h1,hN⟩,n,C⟩;simp only at h1 C hN n;have hyN:=(V.le hM2).le hN;by_cases D:i<(fM l b).length
     ·have O:((i:Int)<((fM l b).length:Int))=True:=aK (by omega);obtain⟨q,hx,hd'⟩:=cE (l:=fM l b) (i:=i) D;rw[hd',vc]at C;have P:((fM l b).map AN).getD i []=[.int .i64 q]:=by rw[cN,aN,hx];rfl
      by_cases z:q=d;·have e2:(q=d)=True:=aK z;rw[aF z]at C;simp only[zW,seval,O,e2,P,ae,a_,cY,lo,hi];refine⟨by omega,D,by omega,(f-1,i+1,s,N),⟨⟨⟨by simp only;omega,hN⟩,n,C⟩,by simp only;omega⟩,aR ?_⟩;simp only[zV,seval,aJ]
      ·have e2:(q=d)=False:=ax z;rw[ai z]at C;simp only[zW,seval,O,e2,P,ae,a_,cY,lo,hi];refine⟨by omega,D,iZ (k:=1600) rfl λv N3 Q hv=>?_⟩;simp only[zV,seval,im,iq,ir,nzs];refine dE (pJ g _ _) rfl rfl (C7 g v s.2.1 s.2.2 q 0 s.1 N3 hv (k6 n.1) n.2.2) rfl λN4 R=>?_;simp only[kW,zV,seval,im,iq,ir,nzs,cY,lo,hi];have hk:=Ss n q;refine⟨by omega,(f-1,i+1,ng s q,N4),⟨⟨⟨by simp only;omega,(hN.dC Q).dC R⟩,VM n q,C⟩,by simp only;omega⟩,gT 152 1 1272 200 2 _ rfl rfl rfl rfl rfl (aR ?_)⟩;simp only[zW,seval,hk,aJ]
     have O:((i:Int)<((fM l b).length:Int))=False:=ax (by omega);rw[bh (by omega),vc]at C;subst C;by_cases S:e=0
     ·have c3:(0<e)=False:=ax (by omega);have T:qY e m (fM l b)=false:=by unfold qY;rw[S];simp
      rw[T,ai (by decide)]at a;subst a;simp only[zW,seval,O,c3,cY,lo,hi];exact⟨by omega,.own 1600,rfl,rfl⟩
     have c3:(0<e)=True:=aK (by omega);simp only[zW,seval,O,c3];refine az ⟨rfl,rfl⟩ rfl (zy e N) ?_;cases F:jG e with
      |true=>
       have T:qY e m (fM l b)=false:=by unfold qY;rw[F];rfl
       rw[T,ai (by decide)]at a;subst a;simp only[zW,seval,cY,lo,hi];exact⟨by omega,.own 1600,rfl,rfl⟩
      |false=>
       simp only[zW,seval];refine dP (k:=1088) rfl rfl rfl (λ_=>rfl) (λv2 N2 hN2 hv2=>Ji v2 (fM l b) m N2 hv2) ?_;rw[Sr];have T:qY e m (fM l b)=(fM l b).any λq=>aU (m=q):=by unfold qY;rw[F,cy S];rfl
       rw[T]at a;cases U:(fM l b).any λq=>aU (m=q)with|false=>rw[U,ai (by decide)]at a;subst a;simp only[zW,seval,cY,lo,hi];exact⟨by omega,.own 1600,rfl,rfl⟩|true=>rw[U,aF rfl]at a;subst a;simp only[zW,seval];refine iZ (k:=1600) rfl λv N3 Q hv=>?_;simp only[zV,seval,im,iq,ir,nzs];refine dE (pJ g _ _) rfl rfl (Sn g v s.2.1 s.2.2 d c s.1 N3 hv n.1 n.2.2) rfl λN4 R=>?_;simp only[kW,zV,seval,im,iq,ir,nzs,cY,lo,hi];exact⟨by omega,.own 1432,rfl,rfl⟩
end Go.X.Rv
namespace Go.X
open Go Go.RowKit
section
variable{E:Env}{σ:dp}{H:HS}{M:Mem}{a:xp}{w:bQ}{ν:Nat->ay}{K:KP}{o:db}
def aap(cs:List SV):RP:=λr H _=>∃k,r=.ptr k 0 0 0/\hget H k=some (.box cs none)
theorem Gz{f d:Nat}{l cs:List SV}(u:SV.concs l=true)(v:aU (d<E.N)=true)(h:Meets E.P f l M (aap cs))(x:SV.concs cs=true)(y:hNoKey d (hdel d H)=true)(z:∀L,M.le L->K ((d,true,.ptr (8*d) 0 0 0)::sigDrop d σ) ((8*d,.box cs none)::hdel d H) L):CallK E f l d K σ H M:=by
 intro ν a w A m;refine .inl ⟨h.1,?_⟩;rw[cl (ν:=vu) (ν':=ν) l u];refine(h.2 w m.mem).mono ?_;rintro e W⟨s,G,L,ν',rfl,g,k,rfl,q⟩;let c:Nat->ay:=λj=>if j/8=d then ν' k else ν j;have n:∀j,j/8≠d->c j=ν j:=λj o=>by simp[c,o]
 have i:c (8*d)=ν' k:=by simp[c,show(8*d)/8=d by omega]
 refine⟨_,rfl,_,_,_,⟨c,(A.wF n).ml (aW v) (by simp only[dM,SV.cL,i]),?_⟩,z L g.le0⟩;refine((m.D_ g).gB (fR d H)).HK y n (λj=>?_) ?_ (λb r=>?_)
 ·by_cases o:j/8=d;·simp only[c,o,cR];exact g.one k
  ·simp only[c,o,cA];exact m.one j
 ·rw[i];obtain⟨⟨b,T,B,C⟩,_⟩:=g.holds _ (bP q);exact⟨⟨b,T,B,by rw[cl (ν:=ν') (ν':=c) cs x];exact C⟩,λ_ h=>by cases h⟩
 ·rw[i]at r;have p:b∈fp ν' G:=bH.2 ⟨(k,_),bP q,r⟩;obtain⟨D,t⟩:=g.apart b p;refine⟨λF=>?_,D,b6 m.below.size t⟩;have :=m.qL (((fR d H).filterMap _).subset F);simp only at t;omega
def na(a:Nat->ay):HS->Prop|[]=>True|(k,.box _ (some t))::H=>a k=t/\na a H|(_,.box _ none)::H=>na a H|(_,.row _ _)::H=>na a H|(_,.tab _ _)::H=>na a H|(_,.mp _)::H=>na a H
theorem qj:∀{H:HS},(∀p∈H,p.2.jJ ν w (ν p.1))->na ν H|[],_=>trivial|(k,.box b (some t))::H,h=>⟨(h (k,.box b (some t)) (by simp)).2 t rfl,qj λp a=>h p (by simp[a])⟩|(k,.box b none)::H,h=>qj (H:=H) λp a=>h p (by simp[a])|(k,.row _ _)::H,h=>qj (H:=H) λp a=>h p (by simp[a])|(k,.tab _ _)::H,h=>qj (H:=H) λp a=>h p (by simp[a])|(k,.mp _)::H,h=>qj (H:=H) λp a=>h p (by simp[a])
theorem ie{id:Nat}{ops:Array db}(b:List Nat)(c:Sch)(j:E.P.follows .mixedOrders=true)(e:(iG ops&&wb .any ops c ops.size (nV ops.size false))=true)(h:∀d:Nat->ay,na d H->stayH (pickH b (tieH d H)) (tieH d H)/\wpH E ops.toList (pickH b (tieH d H)) M K c σ (tieH d H) M):DrawK E id ops K σ H M:=by rintro a w⟨ν,k,f⟩;simp only[ba]at e;have g:=qj f.holds;have i:=rX (f.mE ((dQ _ _).drew):Heap E ν H M {w with drawn:=w.drawn+1});exact wp_region_held j (wpH_sound e.1 (i.gB (k8 b _)) (iX b H) c _ _ σ _ M a _ e.2 ⟨ν,k,i⟩ ⟨(h ν g).1,cg M⟩ (h ν g).2)
theorem tw(B:Nat){f d:Nat}{p:Func}{c:lp}{l:List SV}(T:SV->SV)(hT:Ctx T)(live:List Nat)(hf:E.P.funcs[f]?=some p)(O:p.body=some c)(Q:wG p l.length=true)(hd:aU (d<E.N)=true)(R:lentB H=true)(h:∀S:Nat->ay,ui ⟨E.P,p.ntmps,E.w0,E.M0⟩ live c (yY E.P p.results.toList (λs H' L=>∃k sz es,s=T (.own k)/\hget H' k=some (.row sz es)/\∀v m,L.le m->RowM m v sz es->((T (.v v)).conc=true/\(backH B S (hpub k v H') H).2)/\K ((d,true,T (.v v))::σ) (backH B S (hpub k v H') H).1 m)) (params p.ntmps 0 (SV.Hg B l)) (lentH B S H) M):CallK E f l d K σ H M:=by
 intro ν a w hs o;simp only[wG,ba,np,br]at Q;refine .inl ⟨⟨p,hf,Q.1.1,Q.1.2⟩,?_⟩;refine calls_of_wp hf O ?_;rw[<-mY (B:=B) (ν:=ν) l];have r:(aS (KO B ν) (SV.Hg B l)).length=l.length:=by rw[cC,ae,p5]
 have x:Heap ⟨E.P,p.ntmps,E.w0,E.M0⟩ (KO B ν) (lentH B ν H) M w:=by
  refine⟨λq n=>?_,by rw[uG B ν ν H R];exact o.nodup,by rw[uG B ν ν H R];exact o.apart,o.mem,o.below,o.le0,o.fresh,λj=>?_⟩;·obtain⟨k,G,t,I,rfl,U⟩:=yZ R n;obtain⟨⟨b,T,V,W⟩,_⟩:=o.holds _ I;refine⟨⟨b,T,by rw[wJ];exact V,by rw[cl (ν:=ν) (ν':=KO B ν) G U];exact W⟩,λv hv=>?_⟩;cases hv;exact wJ B ν k
  ·unfold KO;split;·exact o.one _
   ·exact o.one _
 refine kq ?_ (iY c _ _ _ _ (h ν) _ w ⟨KO B ν,⟨?_,rfl,?_⟩,x⟩)
 ·rintro e a' X⟨Y,H',L,⟨ν',z,A⟩,n⟩;have D:(match p4 E.P Y H' L p.results.toList with|some (ss,C)=>C/\(λs H' L=>∃k sz es,s=T (.own k)/\hget H' k=some (.row sz es)/\∀v m,L.le m->RowM m v sz es->((T (.v v)).conc=true/\(backH B ν (hpub k v H') H).2)/\K ((d,true,T (.v v))::σ) (backH B ν (hpub k v H') H).1 m) (one? ss) H' L|none=>False)->a'.defers=[]/\∃v,(results p a'.tmps).run E.P X=.ok v X/\∃v',uq v=.returned v'/\∃u F m,Rep E u F m (a.put (some d) v') X/\K u F m:=by
   intro n;split at n
   ·rename_i ss C hr;obtain⟨hC,k,sz,es,Z,hk2,hk3⟩:=n;obtain⟨m,p1,p2,y⟩:=lL A hk2;obtain⟨⟨U,ht⟩,hK⟩:=hk3 (ν' k) m p1 p2;refine⟨z.2.1,_,j9 z A hr hC,_,rfl,_,_,_,⟨ν,?_,?_⟩,hK⟩;·refine hs.ml (aW hd) ?_;rw[dM,Z,hT (.own k) (.v (ν' k)) ν' ν' rfl];exact fz (ν:=ν) (ν':=ν') _ U
    ·refine⟨λq n=>?_,by rw[B7 ν ht];exact o.nodup,λb O=>?_,y.mem,y.below,y.le0,y.fresh,o.one⟩
     ·obtain⟨G,t,I,J,h3,cs0,h4⟩:=rW ht n;obtain⟨⟨b,T,V,W⟩,e3⟩:=y.holds _ J;have e4:=e3 _ rfl;rw[I];refine⟨⟨b,T,?_,?_⟩,(o.holds _ h4).2⟩;·rw[<-e4];exact V
      ·rw[cl (ν:=ν') (ν':=ν) G h3];exact W
     ·obtain⟨q,n,hqb⟩:=bH.1 O;obtain⟨G,t,I,J,h3,cs0,h4⟩:=rW ht n;obtain⟨_,e3⟩:=y.holds _ J;have e4:=e3 _ rfl;exact y.apart b (bH.2 ⟨_,J,by rw[e4];exact hqb⟩)
   ·exact n.elim
  cases e with|normal=>exact D n|ret=>exact D n|_=>exact n.elim
 ·simp only[Ew,dh,Array.size_replicate,r];omega
 ·intro k g s hk;obtain⟨i,rfl,hg,hi⟩:=mW hk;simp only at hg hi;subst hg;have hlt:i<(SV.Hg B l).length:=(aI.1 hi).1;rw[mO (by simp only[dh,r];rw[p5]at hlt;omega),dH,cC,aN,b7,hi];rfl
end
end Go.X
namespace Go.X.Vo
open Go Go.X Go.RowKit Go.X.Bg Go.X.Nm Go.X.Bp Go.X.Sb
abbrev T_:=List UInt8
/-!### volumes by names -/
/-!### the answers -/
end Go.X.Vo
namespace Go.X.Tg
open Go Go.X Go.RowKit Go.X.Bg Go.X.Nm Go.X.Bp Go.X.Sb Go.X.Vo
mutual
theorem LC(d:Nat):∀s:SV,s.conc=true->s.noKey d=true|.v _,_=>rfl|.own _,h=>by simp[SV.conc]at h|.ptr _ _ _ _,h=>by simp[SV.conc]at h|.ea _ _ _ _,_=>rfl|.agg l,h=>by simp only[SV.conc]at h;simp only[SV.noKey];exact gZ d l h|.tup l,h=>by simp only[SV.conc]at h;simp only[SV.noKey];exact gZ d l h|.fn _ l,h=>by simp only[SV.conc]at h;simp only[SV.noKey];exact gZ d l h
theorem gZ(d:Nat):∀l:List SV,SV.concs l=true->SV.jn d l=true|[],_=>rfl|s::l,h=>by simp only[SV.concs,ba]at h;simp only[SV.jn,LC d s h.1,gZ d l h.2,cK]
end
abbrev RQ:=Int×List (Int×Int)×Int×Int
abbrev TG:=St×RQ×T_×Nat
structure TgM(M:Mem)(T:TG)(b v rg:ay)(ws:List WV):Prop where
 bag:RowM M b 4 (T.1.1.map Bg.eG)
 vols:VolsM M v ws
 vw:ws.map (·.2)=T.1.2
 regs:RowM M rg 2 (T.2.1.2.1.map Rv.iA)
theorem TgM.le{M N:Mem}{T:TG}{b v rg:ay}{ws:List WV}(h:TgM M T b v rg ws)(a:M.le N):TgM N T b v rg ws:=⟨h.bag.le a,h.vols.le a,h.vw,h.regs.le a⟩
def fh(T:TG)(b v rg:ay):List SV:=[.v b,.v v,.v (.int .i64 T.2.1.1),.v rg,.v (.int .i64 T.2.1.2.2.1),.v (.int .i64 T.2.1.2.2.2),.v (.string ⟨T.2.2.1.toArray⟩),.v (.int .i64 T.2.2.2)]
structure TgR(T:TG):Prop where
 st:qp T.1.1 T.1.2=0
 rv:Rv.fY T.2.1.1 T.2.1.2.1 T.2.1.2.2.1 T.2.1.2.2.2=0
 tx:T.2.2.1.length<=707*T.2.2.2
 many:T.2.2.2<=200
def hE(R:RQ)(w:Int)(a:Bool):Int:=if Rv.nf w=false then 1 else if Rv.oW R.2.1 R.2.2.1 R.2.2.2 w a=true then 0 else 9
def qk(T:TG)(w:Int)(o:AV):TG×Int:=if hE T.2.1 w true≠0 then(T,hE T.2.1 w true)else if(Hi T.1.1 T.1.2 o).2≠0 then(T,(Hi T.1.1 T.1.2 o).2)else if T.2.2.2=200 then(T,8)else(((Hi T.1.1 T.1.2 o).1,T.2.1,T.2.2.1++frO o,T.2.2.2+1),0)
theorem vR{T:TG}(h:TgR T)(w:Int)(o:AV):TgR (qk T w o).1:=by
 unfold qk;split;·exact h
 split;·exact h
 rename_i a;split;·exact h
 rename_i d;have b:Lg.qu o=0:=l9 λc=>by have :Hi T.1.1 T.1.2 o=(uk,Lg.qu o):=aF c;rw[this]at a;exact a c
 have e:=Gw b;refine⟨?_,h.rv,?_,?_⟩;·have :Hi T.1.1 T.1.2 o=tX T.1.1 T.1.2 o:=ai (λh=>h b);rw[this];exact Fc _ _ _
 ·have :=h.tx;simp only[aG];omega
 ·have :=h.many;simp only;omega
abbrev H3(qa qb qc:Option ay)(oc rc tc:List SV):HS:=[(104,.box oc qa),(264,.box rc qb),(248,.box tc qc)]
section
variable{N:Nat}{w0:bQ}{M0 M:Mem}{σ:dp}{K:KP}{d:Nat}{qa qb qc:Option ay}{oc rc tc:List SV}{T:TG}{b v rg:ay}{ws:List WV}
end
end Go.X.Tg
namespace Go.X.Tg
open Go Go.X Go.RowKit Go.X.Bg Go.X.Nm Go.X.Bp Go.X.Sb Go.X.Vo
def rC(T:TG)(w:Int)(n:T_)(a:Int):T_×Int:=if hE T.2.1 w false≠0 then([],hE T.2.1 w false)else(W2 T.1.1 T.1.2 n a,vH T.1.1 T.1.2 n a)
section
variable{N:Nat}{w0:bQ}{M0 M:Mem}{σ:dp}{K:KP}{d:Nat}{qa qb qc:Option ay}{oc rc tc:List SV}{T:TG}{b v rg:ay}{ws:List WV}
end
end Go.X.Tg
namespace Go.X.Tg
open Go Go.X Go.RowKit Go.X.Bg Go.X.Nm Go.X.Bp Go.X.Sb Go.X.Vo
def lY(T:TG)(S:Rv.RS):TG:=if S.1=0 then(T.1,S.2,T.2.2)else T
mutual
theorem Su(k:Nat)(v:ay):∀s:SV,s.conc=true->SV.xN k v s=s|.v _,_=>rfl|.own _,h=>by simp[SV.conc]at h|.ptr _ _ _ _,h=>by simp[SV.conc]at h|.ea _ _ _ _,_=>rfl|.agg l,h=>by simp only[SV.conc]at h;simp only[SV.xN,mL k v l h]|.tup l,h=>by simp only[SV.conc]at h;simp only[SV.xN,mL k v l h]|.fn f l,h=>by simp only[SV.conc]at h;simp only[SV.xN,mL k v l h]
theorem mL(k:Nat)(v:ay):∀l:List SV,SV.concs l=true->SV.nK k v l=l|[],_=>rfl|s::l,h=>by simp only[SV.concs,ba]at h;simp only[SV.nK,Su k v s h.1,mL k v l h.2]
end
section
variable{N:Nat}{w0:bQ}{M0 M:Mem}{σ:dp}{K:KP}{d:Nat}{qa qb qc:Option ay}{oc rc tc:List SV}{T:TG}{b v rg:ay}{ws:List WV}
theorem VN(D:aU (d<N)=true)(j:SV.concs oc=true)(m:SV.concs rc=true)(a:TgM M T b v rg ws)(E:TgR T)(x:∀y z e L,M.le L->e.map (·.2)=T.1.2->RowM L y 4 (T.1.1.map Bg.eG)->VolsM L z e->K ((d,true,.agg [.v y,.v z])::σ) (H3 qa qb qc oc rc (fh T b v rg)) L):CallK ⟨ab,N,w0,M0⟩ 132 [.ptr 248 0 0 0] d K σ (H3 qa qb qc oc rc (fh T b v rg)) M:=by
 refine dF 8000 [0,2] P6 rfl (by kernel_rfl) D (by simp only[lentB,fh,SV.concs,SV.conc,j,m,cK]) λU=>?_;obtain⟨A,⟨g,l,k,h⟩,V,B⟩:=T;have F:=λd=>gZ d oc j;have G:=λd=>gZ d rc m;have C:=E.st;simp only at C;obtain⟨I,J,_⟩:=lj C;have n:=gQ J;have O:=lr I;have P:ws.length=A.2.length:=by rw[<-a.vw,ae]
 have o:∀w∈ws,w.2.2.length<=32:=λw p=>(n.2 w.2 (by rw[<-a.vw];exact du p)).1;have c:=(wW b v A.1 ws M a.bag a.vols (by omega) (by omega) (λw p=>b6 (o w p) (by omega))).sS (λr H L _ h=>h.Vl);rw[a.vw]at c;simp only[fQ]at c;simp only[fh]at x;simp only[P7,fh,jO,jP,zW,seval,a.bag.dj,a.vols.row.dj,F,G];refine eZ (T:=λs=>s) (λ_ _=>rfl) rfl rfl c λQ R q S t u f i=>?_;simp only[jO,jP,zW,seval,fQ,f.dj,i.row.dj,j,m];exact x Q R q S t u f i
theorem YF(q:aU (d<N)=true)(a:SV.concs oc=true)(c:SV.concs rc=true)(f:TgM M T b v rg ws)(r:TgR T)(j:∀y L,M.le L->RowM L y 2 (T.2.1.2.1.map Rv.iA)->K ((d,true,.agg [.v (.int .i64 T.2.1.1),.v y,.v (.int .i64 T.2.1.2.2.1),.v (.int .i64 T.2.1.2.2.2)])::σ) (H3 qa qb qc oc rc (fh T b v rg)) L):CallK ⟨ab,N,w0,M0⟩ 133 [.ptr 248 0 0 0] d K σ (H3 qa qb qc oc rc (fh T b v rg)) M:=by refine tw 8000 (λs=>.agg [.v (.int .i64 T.2.1.1),s,.v (.int .i64 T.2.1.2.2.1),.v (.int .i64 T.2.1.2.2.2)]) (λs z V u h=>by simp only[SV.cL,aS,h]) [0,2,3] P8 rfl (by kernel_rfl) q (by simp only[lentB,fh,SV.concs,SV.conc,a,c,cK]) λB=>?_;obtain⟨A,⟨g,l,k,h⟩,C,m⟩:=T;have t:=λd=>gZ d oc a;have w:=λd=>gZ d rc c;have n:=r.rv;simp only at n;have D:=Rv.C8 (Rv.gq n).2.1;obtain⟨o,p⟩:=f.regs.FL (by omega);simp only at o p;simp only[fh]at j;simp only[P9,fh,jO,jP,zW,seval,f.regs.dj,f.regs.sl,t,w,o,ae,c,a];refine⟨⟨⟨by omega,by omega⟩,p⟩,80,2,_,rfl,rfl,λy i e x=>?_⟩;simp only[im,iq,ir,jO,jP,zW,seval,a,c,mL _ _ oc a,mL _ _ rc c];exact j y i e x
end
end Go.X.Tg
namespace Go.X.Tg
open Go Go.X Go.RowKit Go.X.Bg Go.X.Nm Go.X.Bp Go.X.Sb Go.X.Vo
theorem GA(s:T_):(Fr.t_ s).toNat<=s.length/\(Fr.t_ s).toNat<=707/\0<=Fr.t_ s:=by
 unfold Fr.t_;by_cases h:Fr.rB s=0
 ·rw[aF h];have a:=Gx h;have b:Fr.gN s<=700:=by
   unfold Fr.rB at h;split at h;·cases h
   split at h;·cases h
   rename_i c;omega
  omega
 ·rw[ai h];exact⟨bJ _,bJ _,pk _⟩
def fV(s:T_):Nat->Nat|0=>0|k+1=>fV s k+(Fr.t_ (s.drop (fV s k))).toNat
theorem yq(s:T_):∀k,fV s k<=s.length/\fV s k<=707*k|0=>⟨bJ _,bJ _⟩|k+1=>by have b:=yq s k;have a:=GA (s.drop (fV s k));rw[aT]at a;rw[fV];omega
theorem C9:∀(f:Nat)(A:St)(s:T_)(n:Nat),qp A.1 A.2=0->n<=200->qp (kl f A s n).1.1 (kl f A s n).1.2=0/\0<=(kl f A s n).2.1/\(kl f A s n).2.1<=200
 |0,A,s,n,a,b=>⟨a,by simp only[kl];omega,by simp only[kl];omega⟩
 |f+1,A,s,n,a,b=>by
  rw[kl];split;·exact⟨a,by simp only;omega,by simp only;omega⟩
  split;·exact⟨rfl,pk _,(by decide:(0:Int)<=200)⟩
  split;·exact⟨rfl,pk _,(by decide:(0:Int)<=200)⟩
  split;·exact⟨rfl,pk _,(by decide:(0:Int)<=200)⟩
  split;·exact⟨rfl,pk _,(by decide:(0:Int)<=200)⟩
  ·exact C9 f _ _ _ (Fc _ _ _) (by omega)
def Jl(T:TG)(n:Int):T_:=T.2.2.1.take (max 0 (wg n (T.2.2.1.length:Int))).toNat
def xn(T:TG)(n:Int):St×Int×Int:=kl (Jl T n).length uk (Jl T n) 0
def NC(T:TG)(n:Int):TG:=((xn T n).1,(0,[],0,0),(Jl T n).take (fV (Jl T n) (xn T n).2.1.toNat),(xn T n).2.1.toNat)
theorem pT(T:TG)(n:Int):qp (xn T n).1.1 (xn T n).1.2=0/\0<=(xn T n).2.1/\(xn T n).2.1<=200:=C9 _ _ _ _ rfl (by decide)
theorem C'(T:TG)(n:Int):TgR (NC T n):=by
 obtain⟨a,b,c⟩:=pT T n;refine⟨a,rfl,?_,?_⟩;·have :=yq (Jl T n) (xn T n).2.1.toNat;simp only[NC,a6];omega
 ·simp only[NC];omega
section
variable{N:Nat}{w0:bQ}{M0 M:Mem}{σ:dp}{K:KP}{d:Nat}{qa qb qc:Option ay}{oc rc tc:List SV}{T:TG}{b v rg:ay}{ws:List WV}
end
end Go.X.Tg
namespace Go.X.Tg
open Go Go.X Go.RowKit Go.X.Bg Go.X.Nm Go.X.Bp Go.X.Sb Go.X.Vo
def Xd(l:List (Int×Int))(k h:Int):Prop:=(k=0/\h=0)\/(Rv.jG k=true/\h=0/\l≠[])\/(k≠0/\Rv.jG k=false/\Rv.kS k=true/\0<Rv.ky h l)
theorem LD:∀{l:List (Int×Int)}{last:Int},-1<=last->Rv.qy (last+1) l->Rv.ck l last=0|[],_,_,_=>rfl|x::l,last,h,⟨b,c,a⟩=>by rw[Rv.ck,ai (by omega),ai (by omega)];exact LD (by omega) a
theorem ND{l:List (Int×Int)}{w:Int}(a:Rv.qy 0 l):(0<Rv.ky w l)↔0<=Rv.fi w l 0:=Rv.Jj w l 0 (Rv.k6 a)
theorem ql{g:Int}{l:List (Int×Int)}{k h:Int}(i:0<=g/\g<=2147483647)(d:Rv.qy 0 l)(e:Xd l k h):Rv.fY g l k h=0:=by
 unfold Rv.fY;rw[ai (by omega),LD (by omega) d,ai (λh=>h rfl)];unfold Rv.kE;rcases e with⟨a,b⟩|⟨a,b,c⟩|⟨a,b,c,f⟩
 ·rw[aF (.inl a),ai];subst a;rintro(h|⟨h,_⟩);·exact h b
  ·exact absurd h (by decide)
 ·rw[aF (.inr a),ai];rintro(h|⟨_,h⟩);·exact h b
  ·exact c h
 ·have j:=(ND d).1 f;rw[ai (by rw[b];simp[a]),ai (by rw[c];decide),ai (by omega)]
theorem C_{g:Int}{l:List (Int×Int)}{k h:Int}(a:Rv.fY g l k h=0):(0<=g/\g<=2147483647)/\Rv.qy 0 l/\Xd l k h:=by
 obtain⟨e,d,m,f,i,n⟩:=Rv.gq a;refine⟨e,d,?_⟩;by_cases b:k=0;·exact .inl ⟨b,i b⟩
 cases c:Rv.jG k with
  |true=>exact .inr (.inl ⟨c,f c⟩)
  |false=>
   unfold Rv.fY at a;rw[ai (by omega),LD (by omega) d,ai (λh=>h rfl)]at a;unfold Rv.kE at a;rw[ai (by rw[c];simp[b])]at a;split at a;·cases a
   rename_i j;split at a;·cases a
   rename_i o;exact .inr (.inr ⟨b,c,by simpa using j,(ND d).2 (by omega)⟩)
theorem yr{l:List (Int×Int)}{w:Int}(a:Rv.qy 0 l)(h:0<Rv.ky w l):0<=w/\w<=7:=by
 rcases Rv.tu (w:=w) (l:=l) (i:=0)with⟨c,_⟩|⟨j,x,_,b,d,_⟩;·have :=(ND a).1 h;omega
 ·have :=Rv.Sk a x (aL b);omega
theorem aaq{l:List (Int×Int)}{w:Int}(h:0<Rv.ky w l):l≠[]:=λe=>by subst e;exact absurd (show 0<(0:Int)from h) (by decide)
theorem Sv(f:Int->Int):∀(n:Nat)(a:Int),a+n<=8->(∀h,a<=h->h<a+n->f h<=1000)->Rv.qy a (Rv.Az f n a)/\∀q,a<=q->q<a+n->0<=f q->Rv.ky q (Rv.Az f n a)=f q
 |0,a,_,_=>⟨trivial,λq c d=>by omega⟩
 |n+1,a,k,i=>by
  obtain⟨e,j⟩:=Sv f n (a+1) (by omega) (λh c d=>i h (by omega) (by omega));rw[Rv.Az];by_cases h:0<f a
  ·rw[aF h];refine⟨⟨⟨pk _,by simp only;omega⟩,⟨by simp only;omega,i a (by omega) (by omega)⟩,e⟩,λq c d g=>?_⟩;rw[Rv.ky];by_cases b:a=q;·subst b;rw[aF rfl]
   ·rw[ai b];exact j q (by omega) (by omega) g
  ·rw[ai h];refine⟨Rv.C5 (by omega) e,λq c d g=>?_⟩;by_cases b:a=q;·subst b;rw[Rv.Sh e (by omega)];omega
   ·exact j q (by omega) (by omega) g
theorem aar{l:List (Int×Int)}{w key:Int}(a:Rv.qy 0 l)(e:0<=key/\key<=1000):Rv.qy 0 (Rv.kr l w key)/\∀q,0<=q->q<=7->Rv.ky q (Rv.kr l w key)=if q=w then key else Rv.ky q l:=by obtain⟨b,c⟩:=Sv (λh=>if h=w then key else Rv.ky h l) 8 0 (by decide) (λh _ _=>by have :=Rv.LA (w:=h) a;split<;>omega);refine⟨b,λq d f=>c q d (by omega) ?_⟩;have :=Rv.LA (w:=q) a;split<;>omega
theorem zI{g:Int}{l:List (Int×Int)}{k h w a key:Int}(b:(Rv.oq g l k h w a key).1=0):Rv.fY (Rv.oq g l k h w a key).2.1 (Rv.oq g l k h w a key).2.2.1 (Rv.oq g l k h w a key).2.2.2.1 (Rv.oq g l k h w a key).2.2.2.2=0:=by
 unfold Rv.oq at b⊢;by_cases j:Rv.fY g l k h≠0;·rw[aF j]at b;exact absurd b j
 rw[ai j]at b⊢;by_cases n:Rv.nf w=false\/(key<0\/1000<key);·rw[aF n]at b;exact absurd b (by decide)
 rw[ai n]at b⊢;by_cases o:Rv.ky w l≠a;·rw[aF o]at b;exact absurd b (by decide)
 rw[ai o]at b⊢;by_cases p:g=2147483647;·rw[aF p]at b;exact absurd b (by decide)
 rw[ai p];obtain⟨A,q,t⟩:=C_ (kv.1 j);have d:0<=key/\key<=1000:=by omega
 obtain⟨u,v⟩:=aar (w:=w) q d;refine ql (by simp only;omega) u ?_;simp only;cases c:Rv.kF l k h w key with
  |true=>exact .inl ⟨rfl,rfl⟩
  |false=>
   simp only[bp,cA];unfold Rv.kF at c;rcases t with e|⟨f,i,r⟩|⟨f,i,r,s⟩;·exact .inl e
   ·refine .inr (.inl ⟨f,i,λe=>?_⟩);rw[f,e]at c;simp at c
   ·refine .inr (.inr ⟨f,i,r,?_⟩);obtain⟨x,y⟩:=yr q s;rw[v h x y];by_cases m:h=w
    ·rw[aF m];have z:Rv.ll l k h w=true:=by unfold Rv.ll;rw[i];simp[f,m]
     rw[i,z]at c;have :¬key=0:=λe=>by rw[e]at c;simp at c
     omega
    ·rw[ai m];exact s
theorem Bq{g:Int}{l:List (Int×Int)}{k h w key:Int}(b:Rv.jz g l k h w key=0):(0<=g/\g<=2147483647)/\Rv.qy 0 l/\Xd l k h/\0<Rv.ky w l:=by obtain⟨c,_,d,_⟩:=Rv.yo b;obtain⟨e,a,f⟩:=C_ c;exact⟨e,a,f,(ND a).2 d⟩
theorem VO{c:Int}(h:Rv.kS c=true):c≠0:=λe=>by subst e;exact absurd h (by decide)
theorem Jm{l:List (Int×Int)}{w c:Int}(h:0<Rv.ky w l)(a:Rv.kS c=true):Xd l c (if Rv.jG c=true then 0 else w):=by cases b:Rv.jG c with|true=>exact .inr (.inl ⟨b,rfl,aaq h⟩)|false=>exact .inr (.inr ⟨VO a,b,a,h⟩)
theorem zJ{g:Int}{l:List (Int×Int)}{k h w key k2:Int}(a:(Rv.ot g l k h w key k2).1=0):Rv.fY (Rv.ot g l k h w key k2).2.1 (Rv.ot g l k h w key k2).2.2.1 (Rv.ot g l k h w key k2).2.2.2.1 (Rv.ot g l k h w key k2).2.2.2.2=0:=by
 unfold Rv.ot at a⊢;by_cases b:Rv.jz g l k h w key≠0;·rw[aF b]at a;exact absurd a b
 rw[ai b]at a⊢;by_cases c:Rv.kS k2=false;·rw[aF c]at a;exact absurd a (by decide)
 rw[ai c]at a⊢;by_cases d:k≠0/\(Rv.ll l k h w=false\/k≠k2);·rw[aF d]at a;exact absurd a (by decide)
 rw[ai d];obtain⟨e,f,j,i⟩:=Bq (kv.1 b);exact ql e f (Jm i (by simpa using c))
theorem zK{g:Int}{l:List (Int×Int)}{k h w key k2:Int}(a:(Rv.ou g l k h w key k2).1=0):Rv.fY (Rv.ou g l k h w key k2).2.1 (Rv.ou g l k h w key k2).2.2.1 (Rv.ou g l k h w key k2).2.2.2.1 (Rv.ou g l k h w key k2).2.2.2.2=0:=by
 unfold Rv.ou at a⊢;by_cases b:Rv.jz g l k h w key≠0;·rw[aF b]at a;exact absurd a b
 rw[ai b]at a⊢;by_cases c:Rv.kS k2=false;·rw[aF c]at a;exact absurd a (by decide)
 rw[ai c]at a⊢;obtain⟨d,e,j,m⟩:=Bq (kv.1 b);by_cases f:Rv.ll l k h w=false;·rw[aF f];exact ql d e j
 rw[ai f]at a⊢;by_cases i:k≠k2;·rw[aF i]at a;exact absurd a (by decide)
 rw[ai i];exact ql d e (.inl ⟨rfl,rfl⟩)
theorem zL{g:Int}{l:List (Int×Int)}{k h w key:Int}(a:(Rv.ov g l k h w key).1=0):Rv.fY (Rv.ov g l k h w key).2.1 (Rv.ov g l k h w key).2.2.1 (Rv.ov g l k h w key).2.2.2.1 (Rv.ov g l k h w key).2.2.2.2=0:=by
 unfold Rv.ov at a⊢;by_cases b:Rv.jz g l k h w key≠0;·rw[aF b]at a;exact absurd a b
 rw[ai b]at a⊢;by_cases c:g=2147483647;·rw[aF c]at a;exact absurd a (by decide)
 rw[ai c];obtain⟨d,e,f,i⟩:=Bq (kv.1 b);exact ql (by simp only;omega) trivial (.inl ⟨rfl,rfl⟩)
theorem VP{s:Rv.ST}{q w:Int}(d:Rv.qy 0 s.1)(n:Xd s.1 s.2.1 s.2.2)(u:q≠w):Rv.qy 0 (Rv.ng s q).1/\Xd (Rv.ng s q).1 (Rv.ng s q).2.1 (Rv.ng s q).2.2/\Rv.ky w (Rv.ng s q).1=Rv.ky w s.1:=by
 obtain⟨l,k,h⟩:=s;simp only at d n;have o:∀x,Rv.ky x (Rv.zH l q)=if x=q then 0 else Rv.ky x l:=λx=>Rv.zG d;refine⟨Rv.qi d,?_,by simp only[Rv.ng,o,ai u.symm]⟩;simp only[Rv.ng];cases b:Rv.yn l k h q with
  |true=>exact .inl ⟨rfl,rfl⟩
  |false=>
   simp only[bp,cA];unfold Rv.yn at b;rcases n with e|⟨a,c,f⟩|⟨a,c,f,v⟩;·exact .inl e
   ·refine .inr (.inl ⟨a,c,λe=>?_⟩);rw[a,e]at b;have g:Rv.ll l k h q=false:=by simpa using b
    unfold Rv.ll at g;rw[aF a]at g;obtain⟨x,r,y⟩:∃x r,l=x::r:=by cases l with|nil=>exact absurd rfl f|cons x r=>exact⟨x,r,rfl⟩
    have p:x∈l:=by rw[y];exact bn
    have m:x.1≠q:=by
     rcases Rv.tu (w:=q) (l:=l) (i:=0)with⟨_,z⟩|⟨j,x,B,_⟩;·exact z x p
     ·simp only[jl]at g;omega
    have :x∈Rv.zH l q:=BI.2 ⟨p,by simp[m]⟩;rw[e]at this;cases this
   ·refine .inr (.inr ⟨a,c,f,?_⟩);rw[o h];by_cases t:h=q
    ·have A:Rv.ll l k h q=true:=by unfold Rv.ll;rw[c];simp[a,t]
     rw[c,A]at b;exact absurd b (by simp)
    ·rw[ai t];exact v
theorem GB{w:Int}:∀(a:List Int)(s:Rv.ST),Rv.qy 0 s.1->Xd s.1 s.2.1 s.2.2->Rv.qy 0 (Rv.vc w s a).1/\Xd (Rv.vc w s a).1 (Rv.vc w s a).2.1 (Rv.vc w s a).2.2/\Rv.ky w (Rv.vc w s a).1=Rv.ky w s.1
 |[],s,b,c=>⟨b,c,rfl⟩
 |q::r,s,b,c=>by
  rw[Rv.vc];by_cases d:q=w;·rw[aF d];exact GB r s b c
  ·rw[ai d];obtain⟨e,f,g⟩:=VP b c d;obtain⟨h,i,j⟩:=GB (w:=w) r _ e f;exact⟨h,i,j.trans g⟩
theorem zM{g:Int}{l:List (Int×Int)}{k h w key b c:Int}(a:(Rv.ox g l k h w key b c).1=0):Rv.fY (Rv.ox g l k h w key b c).2.1 (Rv.ox g l k h w key b c).2.2.1 (Rv.ox g l k h w key b c).2.2.2.1 (Rv.ox g l k h w key b c).2.2.2.2=0:=by
 unfold Rv.ox at a⊢;by_cases e:Rv.jz g l k h w key≠0;·rw[aF e]at a;exact absurd a e
 rw[ai e]at a⊢;by_cases f:Rv.kS c=false\/(b<1\/1000<b);·rw[aF f]at a;exact absurd a (by decide)
 rw[ai f]at a⊢;by_cases j:Rv.fM l b=[];·rw[aF j]at a;exact absurd a (by decide)
 rw[ai j]at a⊢;by_cases m:g=2147483647;·rw[aF m]at a;exact absurd a (by decide)
 rw[ai m];obtain⟨u,p,q,r⟩:=Bq (kv.1 e);obtain⟨n,s,t⟩:=GB (w:=w) (Rv.fM l b) (l,k,h) p q;have i:Rv.kS c=true:=by cases i:Rv.kS c with|true=>rfl|false=>exact absurd (.inl i) f
 have d:0<=g+1/\g+1<=2147483647:=by omega
 by_cases o:Rv.qY k h (Rv.fM l b)=true;·rw[aF o];exact ql d n (Jm (by rw[t];exact r) i)
 ·rw[ai o];exact ql d n s
end Go.X.Tg
namespace Go.X.Th
open Go Go.X Go.RowKit Go.X.Bg Go.X.Nm Go.X.Bp Go.X.Sb Go.X.Vo Go.X.Tg
abbrev H1(qc:Option ay)(tc:List SV):HS:=[(248,.box tc qc)]
section
variable{N:Nat}{w0:bQ}{M0 M:Mem}{σ:dp}{K:KP}{d:Nat}{qc:Option ay}{T:TG}{b v rg:ay}{ws:List WV}
theorem aas(hd:aU (d<N)=true)(w:Int)(o:AV)(j:TgM M T b v rg ws)(H:TgR T)(I:∀b' v' J L,M.le L->TgM L (qk T w o).1 b' v' rg J->K ((d,true,.v (.int .i64 (qk T w o).2))::σ) (H1 qc (fh (qk T w o).1 b' v' rg)) L):CallK ⟨ab,N,w0,M0⟩ 124 [.ptr 248 0 0 0,.v (.int .i64 w),Ns o] d K σ (H1 qc (fh T b v rg)) M:=by
 refine dF 8000 [0,1,2,5,6,7,8,9,10,12,24,27,38,44] Proofs.Tryz.func124 rfl (by kernel_rfl) hd (by simp only[lentB,fh,SV.concs,SV.conc,cK]) λxs=>?_;have O:=Rv.may T.2.1.1 rg T.2.1.2.2.1 T.2.1.2.2.2 w true T.2.1.2.1 M j.regs;simp only[Rv.mu]at O;obtain⟨A,⟨g,l,k,h⟩,t,a⟩:=T;have h2:=H.rv;have h4:=H.many;have h5:=H.tx;simp only at O h2 h4 h5;have P:Rv.Sf g l k h w=if Rv.nf w=true then 0 else 1:=ai (λh=>h h2);generalize c:qk (A,(g,l,k,h),t,a) w o=S at*;unfold qk at c;simp only at c;simp only[Proofs.Tryz.f124,fh,Ns,jO,jP,zW,seval,j.bag.dj,j.vols.row.dj,j.regs.dj];refine az ⟨rfl,rfl⟩ rfl O ?_;rw[P];have m:∀(e:Int),S=((A,(g,l,k,h),t,a),e)->K ((d,true,.v (.int .i64 e))::σ) (H1 qc [.v b,.v v,.v (.int .i64 g),.v rg,.v (.int .i64 k),.v (.int .i64 h),.v (.string ⟨t.toArray⟩),.v (.int .i64 a)]) M:=λe Q=>by subst Q;exact I b v ws M (cg M) j
 cases hw:Rv.nf w with
  |false=>have R:hE (g,l,k,h) w true=1:=aF hw;rw[R,aF (by decide)]at c;simp only[jO,jP,zW,seval];exact m 1 c.symm
  |true=>
   have R:hE (g,l,k,h) w true=if Rv.oW l k h w true=true then 0 else 9:=ai (by rw[hw];decide);rw[R]at c;cases y:Rv.oW l k h w true with
    |false=>rw[y,aF (by decide),ai (by decide)]at c;simp only[jO,jP,zW,seval,cR,dr];exact m 9 c.symm
    |true=>
     rw[y,aF rfl,ai (λh=>h rfl)]at c;have U:=ldo b v A.1 ws o M j.bag j.vols;rw[j.vw]at U;simp only[fQ,Ns]at U;have V:(Hi A.1 A.2 o).2=0->Lg.qu o=0:=λh=>l9 λh1=>by have :Hi A.1 A.2 o=(uk,Lg.qu o):=aF h1;rw[this]at h;exact h1 h
     generalize Hi A.1 A.2 o=D at*;simp only[jO,jP,zW,seval,cR,dr];refine lU (X:=ay×ay×List WV×Mem) (λz=>(M.le z.2.2.2/\z.2.2.1.map (·.2)=D.1.2)/\RowM z.2.2.2 z.1 4 (D.1.1.map Bg.eG)/\VolsM z.2.2.2 z.2.1 z.2.2.1) (λz=>([(0,true,.ptr 8248 0 0 0),(5,true,.ptr 40 0 0 0),(8,true,.v (.int .i64 D.2)),(9,true,.ptr 72 0 0 0)],[(72,.box [.v z.1,.v z.2.1] none),(40,.box [.v (.int .i64 o.1),.v (.string ⟨o.2.1.toArray⟩),.v (.string ⟨o.2.2.1.toArray⟩),.v (.int .i64 o.2.2.2.1),.v (.string ⟨o.2.2.2.2.toArray⟩)] none),(8248,.box [.v b,.v v,.v (.int .i64 g),.v rg,.v (.int .i64 k),.v (.int .i64 h),.v (.string ⟨t.toArray⟩),.v (.int .i64 a)] (some (xs 248)))],z.2.2.2)) ?_ ?_;·refine ie [8248,40] (tk [0,4,1,2,3] (.two 5 (tk [6,7,8] (.one 9 (.one 10 (tk [11] .done)))) 9 (.one 5 (tk [6,7,8] (.one 10 (tk [11] .done)))))) (by kernel_rfl) (by kernel_rfl) λys u=>?_;simp only[na]at u;simp only[jO,jP,zW,seval,fl,fm,fP,j.bag.dj,j.vols.row.dj,u];refine⟨?_,?_⟩;all_goals refine eZ (T:=λs=>.tup [s,.v (.int .i64 D.2)]) (λ_ _=>rfl) rfl rfl U λb5 v5 W M5 B Y C E=>?_;simp only[zW,seval,fl,fm,fP,fQ,C.dj,E.row.dj,B,u];exact⟨(b5,v5,W,M5),⟨⟨B,Y⟩,C,E⟩,dO (df (k:=40) rfl) (aR (by simp only[zV,seval,hset]))⟩
     rintro⟨b2,v2,Z,F⟩⟨⟨n,G⟩,p,q⟩;simp only at n G p q;have f:∀(e:Int),S=((A,(g,l,k,h),t,a),e)->K ((d,true,.v (.int .i64 e))::σ) (H1 qc [.v b,.v v,.v (.int .i64 g),.v rg,.v (.int .i64 k),.v (.int .i64 h),.v (.string ⟨t.toArray⟩),.v (.int .i64 a)]) F:=λe Q=>by subst Q;exact I b v ws F n (j.le n)
     by_cases x:D.2=0;rotate_left;·have c6:=ax x;rw[aF x]at c;simp only[jO,jP,zW,seval,c6];exact f _ c.symm
     rw[ai (λh=>h x)]at c;have i:=V x;by_cases h7:a=200;·have c7:((a:Int)=200)=True:=aK (by omega);rw[aF h7]at c;simp only[jO,jP,zW,seval,x,c7];exact f _ c.symm
     have c7:((a:Int)=200)=False:=ax (by omega);rw[ai h7]at c;subst c;have r:=Lg.Vx o F;rw[i,aF rfl]at r;simp only[Lg.tY]at r;obtain⟨p1,p2⟩:=Jg i;have hP:=Fr.put 1 (Lg.lu o) F (Jh i);rw[p1,p2]at hP;simp only[Fr.wY]at hP;have hfl:=Gw i;simp only[jO,jP,zW,seval,x,c7];refine az ⟨rfl,rfl⟩ rfl r ?_;simp only[jO,jP,zW,seval];refine az ⟨rfl,rfl⟩ rfl hP ?_;simp only[jO,jP,zW,seval];refine ie [72] (tk [0,1,2,3,4,8,10,5,11,6,12] (.two 7 (tk [9] (.one 13 (tk [14,15,16] (.one 17 (tk [18,19] (.one 20 (tk [21,22] (.one 23 .done)))))))) 13 (tk [14] (.one 7 (tk [9,15,16] (.one 17 (tk [18,19] (.one 20 (tk [21,22] (.one 23 .done)))))))))) (by kernel_rfl) (by kernel_rfl) λys u=>?_;simp only[na]at u;simp only[jO,jP,zW,seval,fl,fm,fP,p.dj,q.row.dj,j.regs.dj,u,cY,lo,hi];have hK:=I b2 v2 Z F n ⟨p,q,G,j.regs.le n⟩;simp only[fh,aJ,cB]at hK;exact⟨⟨by omega,⟨by omega,by omega⟩,hK⟩,⟨by omega,by omega⟩,by omega,hK⟩
theorem VQ(t:aU (d<N)=true)(w:Int)(n:T_)(a:Int)(c:TgM M T b v rg ws)(u:TgR T)(j:K ((d,true,.tup [.v (.string ⟨(rC T w n a).1.toArray⟩),.v (.int .i64 (rC T w n a).2)])::σ) (H1 qc (fh T b v rg)) M):CallK ⟨ab,N,w0,M0⟩ 121 [.ptr 248 0 0 0,.v (.int .i64 w),.v (.string ⟨n.toArray⟩),.v (.int .i64 a)] d K σ (H1 qc (fh T b v rg)) M:=by refine dF 8000 [0,1,2,3,8,9,10,11,22,25] Proofs.Tryz.func121 rfl (by kernel_rfl) t (by simp only[lentB,fh,SV.concs,SV.conc,cK]) λy=>?_;obtain⟨A,⟨g,l,k,h⟩,x,f⟩:=T;have q:=Rv.may g rg k h w false l M c.regs;simp only[Rv.mu]at q;have r:=u.rv;simp only at r;have m:Rv.Sf g l k h w=if Rv.nf w=true then 0 else 1:=ai (λh=>h r);generalize e:rC (A,(g,l,k,h),x,f) w n a=S at*;unfold rC at e;simp only at e;simp only[fh]at j;simp only[Proofs.Tryz.f121,fh,jO,jP,zW,seval,c.bag.dj,c.vols.row.dj,c.regs.dj];refine az ⟨rfl,rfl⟩ rfl q ?_;rw[m];cases s:Rv.nf w with|false=>have o:hE (g,l,k,h) w false=1:=aF s;rw[o,aF (by decide)]at e;subst e;simp only[jO,jP,zW,seval];exact j|true=>have o:hE (g,l,k,h) w false=if Rv.oW l k h w false=true then 0 else 9:=ai (by rw[s];decide);rw[o]at e;cases i:Rv.oW l k h w false with|false=>rw[i,aF (by decide),ai (by decide)]at e;subst e;simp only[jO,jP,zW,seval,cR,dr];exact j|true=>rw[i,aF rfl,ai (λh=>h rfl)]at e;subst e;have p:=abf b v A.1 ws n a M c.bag c.vols;rw[c.vw]at p;simp only[fQ]at p;simp only[jO,jP,zW,seval,cR,dr,c.bag.dj,c.vols.row.dj];refine az ⟨rfl,rfl⟩ rfl p ?_;simp only[jO,jP,zW,seval];exact j
theorem Jn(s:aU (d<N)=true)(w x y:Int)(j:TgM M T b v rg ws)(n:∀f L,M.le L->TgM L (lY T (Rv.oq T.2.1.1 T.2.1.2.1 T.2.1.2.2.1 T.2.1.2.2.2 w x y)) b v f ws->K ((d,true,.v (.int .i64 (Rv.oq T.2.1.1 T.2.1.2.1 T.2.1.2.2.1 T.2.1.2.2.2 w x y).1))::σ) (H1 qc (fh (lY T (Rv.oq T.2.1.1 T.2.1.2.1 T.2.1.2.2.1 T.2.1.2.2.2 w x y)) b v f)) L):CallK ⟨ab,N,w0,M0⟩ 126 [.ptr 248 0 0 0,.v (.int .i64 w),.v (.int .i64 x),.v (.int .i64 y)] d K σ (H1 qc (fh T b v rg)) M:=by
 refine dF 8000 [0,1,2,3,8] Proofs.Tryz.func126 rfl (by kernel_rfl) s (by simp only[lentB,fh,SV.concs,SV.conc,cK]) λu=>?_;obtain⟨A,⟨g,l,k,h⟩,o,a⟩:=T;have q:=Rv.Sm g rg k h w x y l M j.regs;simp only[Rv.kW,Rv.we]at q;generalize Rv.oq g l k h w x y=S at*;simp only[Proofs.Tryz.f126,fh,jO,jP,zW,seval,j.bag.dj,j.vols.row.dj,j.regs.dj];refine gS (Rv.O_ S) rfl rfl q λf r e i=>?_;simp only[Rv.VI,Rv.kW,jO,jP,zW,seval];refine dF 8000 [0,1,2,4,6,8] lT rfl (by kernel_rfl) rfl (by simp only[lentB,SV.concs,SV.conc,cK]) λz=>?_;by_cases m:S.1=0;·have p:lY (A,(g,l,k,h),o,a) S=(A,S.2,o,a):=aF m;rw[p]at n;have c:=n f r e ⟨j.bag.le e,j.vols.le e,j.vw,i⟩;simp only[fh]at c;rw[m]at c;simp only[fZ,jO,jP,zW,seval,i.dj,m,mb i.sl];exact c
 ·have t:=ax m;have p:lY (A,(g,l,k,h),o,a) S=(A,(g,l,k,h),o,a):=ai m;rw[p]at n;have c:=n rg r e (j.le e);simp only[fh]at c;simp only[fZ,jO,jP,zW,seval,i.dj,t];exact c
theorem LF(s:aU (d<N)=true)(w x y:Int)(j:TgM M T b v rg ws)(n:∀f L,M.le L->TgM L (lY T (Rv.ot T.2.1.1 T.2.1.2.1 T.2.1.2.2.1 T.2.1.2.2.2 w x y)) b v f ws->K ((d,true,.v (.int .i64 (Rv.ot T.2.1.1 T.2.1.2.1 T.2.1.2.2.1 T.2.1.2.2.2 w x y).1))::σ) (H1 qc (fh (lY T (Rv.ot T.2.1.1 T.2.1.2.1 T.2.1.2.2.1 T.2.1.2.2.2 w x y)) b v f)) L):CallK ⟨ab,N,w0,M0⟩ 127 [.ptr 248 0 0 0,.v (.int .i64 w),.v (.int .i64 x),.v (.int .i64 y)] d K σ (H1 qc (fh T b v rg)) M:=by
 refine dF 8000 [0,1,2,3,8] Proofs.Tryz.func127 rfl (by kernel_rfl) s (by simp only[lentB,fh,SV.concs,SV.conc,cK]) λu=>?_;obtain⟨A,⟨g,l,k,h⟩,o,a⟩:=T;have q:=Rv.VJ g rg k h w x y l M j.regs;simp only[Rv.kW,Rv.we]at q;generalize Rv.ot g l k h w x y=S at*;simp only[Proofs.Tryz.f127,fh,jO,jP,zW,seval,j.bag.dj,j.vols.row.dj,j.regs.dj];refine gS (Rv.O_ S) rfl rfl q λf r e i=>?_;simp only[Rv.VI,Rv.kW,jO,jP,zW,seval];refine dF 8000 [0,1,2,4,6,8] lT rfl (by kernel_rfl) rfl (by simp only[lentB,SV.concs,SV.conc,cK]) λz=>?_;by_cases m:S.1=0;·have p:lY (A,(g,l,k,h),o,a) S=(A,S.2,o,a):=aF m;rw[p]at n;have c:=n f r e ⟨j.bag.le e,j.vols.le e,j.vw,i⟩;simp only[fh]at c;rw[m]at c;simp only[fZ,jO,jP,zW,seval,i.dj,m,mb i.sl];exact c
 ·have t:=ax m;have p:lY (A,(g,l,k,h),o,a) S=(A,(g,l,k,h),o,a):=ai m;rw[p]at n;have c:=n rg r e (j.le e);simp only[fh]at c;simp only[fZ,jO,jP,zW,seval,i.dj,t];exact c
theorem VR(o:aU (d<N)=true)(c:TgM M T b v rg ws)(p:TgR T)(f:∀y L,M.le L->RowM L y 2 (T.2.1.2.1.map Rv.iA)->K ((d,true,.agg [.v (.int .i64 T.2.1.1),.v y,.v (.int .i64 T.2.1.2.2.1),.v (.int .i64 T.2.1.2.2.2)])::σ) (H1 qc (fh T b v rg)) L):CallK ⟨ab,N,w0,M0⟩ 133 [.ptr 248 0 0 0] d K σ (H1 qc (fh T b v rg)) M:=by refine tw 8000 (λs=>.agg [.v (.int .i64 T.2.1.1),s,.v (.int .i64 T.2.1.2.2.1),.v (.int .i64 T.2.1.2.2.2)]) (λs r V u h=>by simp only[SV.cL,aS,h]) [0,2,3] P8 rfl (by kernel_rfl) o (by simp only[lentB,fh,SV.concs,SV.conc,cK]) λt=>?_;obtain⟨A,⟨g,l,k,h⟩,w,i⟩:=T;have j:=p.rv;simp only at j;have x:=Rv.C8 (Rv.gq j).2.1;obtain⟨m,n⟩:=c.regs.FL (by omega);simp only at m n;simp only[fh]at f;simp only[P9,fh,jO,jP,zW,seval,c.regs.dj,c.regs.sl,m,ae];refine⟨⟨⟨by omega,by omega⟩,n⟩,80,2,_,rfl,rfl,λy e a q=>?_⟩;simp only[im,iq,ir,jO,jP,zW,seval];exact f y e a q
theorem LG(s:aU (d<N)=true)(w x y:Int)(j:TgM M T b v rg ws)(n:∀f L,M.le L->TgM L (lY T (Rv.ou T.2.1.1 T.2.1.2.1 T.2.1.2.2.1 T.2.1.2.2.2 w x y)) b v f ws->K ((d,true,.v (.int .i64 (Rv.ou T.2.1.1 T.2.1.2.1 T.2.1.2.2.1 T.2.1.2.2.2 w x y).1))::σ) (H1 qc (fh (lY T (Rv.ou T.2.1.1 T.2.1.2.1 T.2.1.2.2.1 T.2.1.2.2.2 w x y)) b v f)) L):CallK ⟨ab,N,w0,M0⟩ 128 [.ptr 248 0 0 0,.v (.int .i64 w),.v (.int .i64 x),.v (.int .i64 y)] d K σ (H1 qc (fh T b v rg)) M:=by
 refine dF 8000 [0,1,2,3,8] Proofs.Tryz.func128 rfl (by kernel_rfl) s (by simp only[lentB,fh,SV.concs,SV.conc,cK]) λu=>?_;obtain⟨A,⟨g,l,k,h⟩,o,a⟩:=T;have q:=Rv.VK g rg k h w x y l M j.regs;simp only[Rv.kW,Rv.we]at q;generalize Rv.ou g l k h w x y=S at*;simp only[Proofs.Tryz.f128,fh,jO,jP,zW,seval,j.bag.dj,j.vols.row.dj,j.regs.dj];refine gS (Rv.O_ S) rfl rfl q λf r e i=>?_;simp only[Rv.VI,Rv.kW,jO,jP,zW,seval];refine dF 8000 [0,1,2,4,6,8] lT rfl (by kernel_rfl) rfl (by simp only[lentB,SV.concs,SV.conc,cK]) λz=>?_;by_cases m:S.1=0;·have p:lY (A,(g,l,k,h),o,a) S=(A,S.2,o,a):=aF m;rw[p]at n;have c:=n f r e ⟨j.bag.le e,j.vols.le e,j.vw,i⟩;simp only[fh]at c;rw[m]at c;simp only[fZ,jO,jP,zW,seval,i.dj,m,mb i.sl];exact c
 ·have t:=ax m;have p:lY (A,(g,l,k,h),o,a) S=(A,(g,l,k,h),o,a):=ai m;rw[p]at n;have c:=n rg r e (j.le e);simp only[fh]at c;simp only[fZ,jO,jP,zW,seval,i.dj,t];exact c
theorem Sw(s:aU (d<N)=true)(w x:Int)(j:TgM M T b v rg ws)(n:∀f L,M.le L->TgM L (lY T (Rv.ov T.2.1.1 T.2.1.2.1 T.2.1.2.2.1 T.2.1.2.2.2 w x)) b v f ws->K ((d,true,.v (.int .i64 (Rv.ov T.2.1.1 T.2.1.2.1 T.2.1.2.2.1 T.2.1.2.2.2 w x).1))::σ) (H1 qc (fh (lY T (Rv.ov T.2.1.1 T.2.1.2.1 T.2.1.2.2.1 T.2.1.2.2.2 w x)) b v f)) L):CallK ⟨ab,N,w0,M0⟩ 129 [.ptr 248 0 0 0,.v (.int .i64 w),.v (.int .i64 x)] d K σ (H1 qc (fh T b v rg)) M:=by
 refine dF 8000 [0,1,2,6] Proofs.Tryz.func129 rfl (by kernel_rfl) s (by simp only[lentB,fh,SV.concs,SV.conc,cK]) λu=>?_;obtain⟨A,⟨g,l,k,h⟩,o,a⟩:=T;have q:=Rv.aao g rg k h w x l M j.regs;simp only[Rv.kW,Rv.we]at q;generalize Rv.ov g l k h w x=S at*;simp only[Proofs.Tryz.f129,fh,jO,jP,zW,seval,j.bag.dj,j.vols.row.dj,j.regs.dj];refine gS (Rv.O_ S) rfl rfl q λf r e i=>?_;simp only[Rv.VI,Rv.kW,jO,jP,zW,seval];refine dF 8000 [0,1,2,4,6,8] lT rfl (by kernel_rfl) rfl (by simp only[lentB,SV.concs,SV.conc,cK]) λy=>?_;by_cases m:S.1=0;·have p:lY (A,(g,l,k,h),o,a) S=(A,S.2,o,a):=aF m;rw[p]at n;have c:=n f r e ⟨j.bag.le e,j.vols.le e,j.vw,i⟩;simp only[fh]at c;rw[m]at c;simp only[fZ,jO,jP,zW,seval,i.dj,m,mb i.sl];exact c
 ·have t:=ax m;have p:lY (A,(g,l,k,h),o,a) S=(A,(g,l,k,h),o,a):=ai m;rw[p]at n;have c:=n rg r e (j.le e);simp only[fh]at c;simp only[fZ,jO,jP,zW,seval,i.dj,t];exact c
theorem LH(s:aU (d<N)=true)(w x y z:Int)(j:TgM M T b v rg ws)(n:∀f L,M.le L->TgM L (lY T (Rv.ox T.2.1.1 T.2.1.2.1 T.2.1.2.2.1 T.2.1.2.2.2 w x y z)) b v f ws->K ((d,true,.v (.int .i64 (Rv.ox T.2.1.1 T.2.1.2.1 T.2.1.2.2.1 T.2.1.2.2.2 w x y z).1))::σ) (H1 qc (fh (lY T (Rv.ox T.2.1.1 T.2.1.2.1 T.2.1.2.2.1 T.2.1.2.2.2 w x y z)) b v f)) L):CallK ⟨ab,N,w0,M0⟩ 130 [.ptr 248 0 0 0,.v (.int .i64 w),.v (.int .i64 x),.v (.int .i64 y),.v (.int .i64 z)] d K σ (H1 qc (fh T b v rg)) M:=by
 refine dF 8000 [0,1,2,3,4,10] Proofs.Tryz.func130 rfl (by kernel_rfl) s (by simp only[lentB,fh,SV.concs,SV.conc,cK]) λu=>?_;obtain⟨A,⟨g,l,k,h⟩,o,a⟩:=T;have q:=Rv.VL g rg k h w x y z l M j.regs;simp only[Rv.kW,Rv.we]at q;generalize Rv.ox g l k h w x y z=S at*;simp only[Proofs.Tryz.f130,fh,jO,jP,zW,seval,j.bag.dj,j.vols.row.dj,j.regs.dj];refine gS (Rv.O_ S) rfl rfl q λf r e i=>?_;simp only[Rv.VI,Rv.kW,jO,jP,zW,seval];refine dF 8000 [0,1,2,4,6,8] lT rfl (by kernel_rfl) rfl (by simp only[lentB,SV.concs,SV.conc,cK]) λB=>?_;by_cases m:S.1=0;·have p:lY (A,(g,l,k,h),o,a) S=(A,S.2,o,a):=aF m;rw[p]at n;have c:=n f r e ⟨j.bag.le e,j.vols.le e,j.vw,i⟩;simp only[fh]at c;rw[m]at c;simp only[fZ,jO,jP,zW,seval,i.dj,m,mb i.sl];exact c
 ·have t:=ax m;have p:lY (A,(g,l,k,h),o,a) S=(A,(g,l,k,h),o,a):=ai m;rw[p]at n;have c:=n rg r e (j.le e);simp only[fh]at c;simp only[fZ,jO,jP,zW,seval,i.dj,t];exact c
theorem Sx(B:aU (d<N)=true)(a:TgM M T b v rg ws)(C:TgR T)(t:∀u x e L,M.le L->e.map (·.2)=T.1.2->RowM L u 4 (T.1.1.map Bg.eG)->VolsM L x e->K ((d,true,.agg [.v u,.v x])::σ) (H1 qc (fh T b v rg)) L):CallK ⟨ab,N,w0,M0⟩ 132 [.ptr 248 0 0 0] d K σ (H1 qc (fh T b v rg)) M:=by
 refine dF 8000 [0,2] P6 rfl (by kernel_rfl) B (by simp only[lentB,fh,SV.concs,SV.conc,cK]) λP=>?_;obtain⟨A,⟨g,l,k,h⟩,Q,y⟩:=T;have z:=C.st;simp only at z;obtain⟨D,E,_⟩:=lj z;have j:=gQ E;have F:=lr D;have G:ws.length=A.2.length:=by rw[<-a.vw,ae]
 have m:∀w∈ws,w.2.2.length<=32:=λw n=>(j.2 w.2 (by rw[<-a.vw];exact du n)).1;have c:=(wW b v A.1 ws M a.bag a.vols (by omega) (by omega) (λw n=>b6 (m w n) (by omega))).sS (λr H L _ h=>h.Vl);rw[a.vw]at c;simp only[fQ]at c;simp only[fh]at t;simp only[P7,fh,jO,jP,zW,seval,a.bag.dj,a.vols.row.dj];refine eZ (T:=λs=>s) (λ_ _=>rfl) rfl rfl c λI J o O p q f i=>?_;simp only[jO,jP,zW,seval,fQ,f.dj,i.row.dj];exact t I J o O p q f i
theorem Sy(W:aU (d<N)=true)(n:Int)(hn:cY .i64 n)(r:TgM M T b v rg ws)(F:TgR T)(f:∀G H t L,M.le L->TgM L (NC T n) G H (.slice none 0 0) t->K ((d,true,.v (.int .i64 (xn T n).2.1))::σ) (H1 qc (fh (NC T n) G H (.slice none 0 0))) L):CallK ⟨ab,N,w0,M0⟩ 131 [.ptr 248 0 0 0,.v (.int .i64 n)] d K σ (H1 qc (fh T b v rg)) M:=by
 refine dF 8000 [0,1,4,5,6,7,9,11,33,34,35] Proofs.Tryz.func131 rfl (by kernel_rfl) W (by simp only[lentB,fh,SV.concs,SV.conc,cK]) λY=>?_;have Z:=pT T n;have a:Jl T n=T.2.2.1.take (max 0 (wg n (T.2.2.1.length:Int))).toNat:=rfl;have j:xn T n=kl (Jl T n).length uk (Jl T n) 0:=rfl;have o:NC T n=((xn T n).1,(0,[],0,0),(Jl T n).take (Tg.fV (Jl T n) (xn T n).2.1.toNat),(xn T n).2.1.toNat):=rfl;rw[o]at f;simp only[fh]at f;generalize xn T n=P at*;generalize Jl T n=s at*;obtain⟨A,⟨g,l,k,h⟩,q,p⟩:=T;have h4:=F.many;have h5:=F.tx;simp only at h4 h5 a;have hsl:s.length<=q.length:=by rw[a,a6];omega
 have I:(max 0 (wg n (q.length:Int))).toNat<=q.length:=by omega
 simp only[Proofs.Tryz.f131,fh,jO,jP,zW,seval,r.bag.dj,r.vols.row.dj,r.regs.dj];refine ie [8248] (tk [0,4,5,1,6,2,7,3,8,9,10,11,12,13] .done) (by kernel_rfl) (by kernel_rfl) λys J=>?_;simp only[na]at J;simp only[jO,jP,zW,seval,fl,fm,fP,J,cY,lo,hi,iS,<-a];refine⟨⟨by omega,by omega⟩,?_⟩;have w:=VC s M (by unfold dB;omega);rw[<-j]at w;clear j o a;obtain⟨P,m,pe⟩:=P;obtain⟨c1,c2,c3⟩:=Z;simp only at c1 c2 c3 w f;refine eZ (T:=lQ m pe) (λ_ _=>rfl) rfl rfl w λO Q x y z B c e=>?_;simp only[jO,jP,zW,seval,lQ,fQ,c.dj,e.row.dj];refine bE (X:=Nat) (λi=>([(0,true,.ptr 8248 0 0 0),(5,true,.v (.string ⟨s.toArray⟩)),(6,true,.ptr 48 0 0 0),(7,true,.v (.int .i64 m)),(9,true,.v (.string ⟨(s.drop (Tg.fV s i)).toArray⟩)),(33,true,.v (.int .i64 m)),(34,true,.v (.int .i64 i))],[(48,.box [.v O,.v Q] none),(8248,.box [.v b,.v v,.v (.int .i64 g),.v rg,.v (.int .i64 k),.v (.int .i64 h),.v (.string ⟨q.toArray⟩),.v (.int .i64 p)] (some (Y 248)))],y)) (λi=>i<=m.toNat) (λi=>m.toNat-i) 0 (bJ _) (aR ?_) ?_;·simp only[zV,seval,Tg.fV,cQ,aZ];done
 intro i hil;obtain⟨u1,u2⟩:=yq s i;by_cases C:i=m.toNat
 ·have D:((i:Int)<m)=False:=ax (by omega);have e1:m.toNat=i:=C.symm;have e2:(m.toNat:Int)=m:=by omega
  have e3:(s.length:Int)-((s.drop (Tg.fV s i)).length:Int)=(Tg.fV s i:Nat):=by rw[aT];omega
  simp only[jO,jP,zW,seval,D];refine ie [48] (tk [0,1,2,3,5,9,4,6,7,8,10,11] (.one 12 .done)) (by kernel_rfl) (by kernel_rfl) λzs R=>?_;simp only[na]at R;simp only[jO,jP,zW,seval,fl,fm,fP,R,c.dj,e.row.dj,cY,lo,hi,e3,iS];rw[e1]at f;have S:=f O Q x y z ⟨c,e,B,bY _ _⟩;have e4:(i:Int)=m:=by omega
  rw[e4]at S;exact⟨⟨by omega,by omega⟩,⟨by omega,by omega⟩,S⟩
 have D:((i:Int)<m)=True:=aK (by omega);have E:=Fr.get (s.drop (Tg.fV s i)) y (by rw[aT];unfold dB;omega);obtain⟨U,V,hF⟩:∃U V,Fr.zx (s.drop (Tg.fV s i))=Fr.wY U V:=by
  unfold Fr.zx;split;·exact⟨_,_,rfl⟩
  ·exact⟨_,_,rfl⟩
 rw[hF]at E;simp only[Fr.wY]at E;have hU:=GA (s.drop (Tg.fV s i));have hD:Tg.fV s (i+1)=Tg.fV s i+(Fr.t_ (s.drop (Tg.fV s i))).toNat:=rfl;have hL:(s.drop (Tg.fV s i)).length<=s.length:=by rw[aT];omega
 generalize hu:Fr.t_ (s.drop (Tg.fV s i))=u at*;simp only[jO,jP,zW,seval,D];refine az ⟨rfl,rfl⟩ rfl E ?_;simp only[jO,jP,zW,seval,cY,lo,hi];have ed:fH ((s.drop (Tg.fV s i)).length-u.toNat) ((s.drop (Tg.fV s i)).drop u.toNat)=s.drop (Tg.fV s i+u.toNat):=by rw[l6,bz];simp only[aT];omega
 refine⟨⟨⟨hU.2.2,by omega⟩,pk _⟩,⟨by omega,by omega⟩,i+1,⟨by omega,by omega⟩,aR ?_⟩;simp only[zV,seval,aJ,cB,hD,ed]
end
end Go.X.Th
namespace Go.X.Th
open Go Go.X Go.RowKit Go.X.Bg Go.X.Nm Go.X.Bp Go.X.Sb Go.X.Vo Go.X.Tg
section
variable{N:Nat}{w0:bQ}{M0 M:Mem}{σ:dp}{K:KP}{d:Nat}{qc:Option ay}{T:TG}{b v rg:ay}{ws:List WV}
theorem aat(hd:aU (d<N)=true)(w:Int)(o:AV)(i:TgM M T b v rg ws)(L:TgR T)(O:∀b' v' P Q,M.le Q->TgM Q (qk T w o).1 b' v' rg P->K ((d,true,.v (.int .i64 (qk T w o).2))::σ) (H1 qc (fh (qk T w o).1 b' v' rg)) Q):CallK ⟨ab,N,w0,M0⟩ 43 [.ptr 248 0 0 0,.v (.int .i64 w),Ns o] d K σ (H1 qc (fh T b v rg)) M:=by
 refine dF 8000 [0,1,2,5,6,7,8,9,10,11,17,22,34,40] Proofs.Tryz.func43 rfl (by kernel_rfl) hd (by simp only[lentB,fh,SV.concs,SV.conc,cK]) λxs=>?_;obtain⟨A,⟨g,l,k,h⟩,r,a⟩:=T;have h2:=L.rv;have h4:=L.many;have h5:=L.tx;obtain⟨_,u,R,_⟩:=Rv.gq h2;have hM:=Rv.aam g rg k h w true l M i.regs (Rv.k6 u) R.1;simp only[Rv.mu]at hM;simp only at h2 h4 h5;generalize f:qk (A,(g,l,k,h),r,a) w o=S at*;unfold qk at f;simp only at f;have j:∀(e:Int),S=((A,(g,l,k,h),r,a),e)->K ((d,true,.v (.int .i64 e))::σ) (H1 qc [.v b,.v v,.v (.int .i64 g),.v rg,.v (.int .i64 k),.v (.int .i64 h),.v (.string ⟨r.toArray⟩),.v (.int .i64 a)]) M:=λe U=>by subst U;exact O b v ws M (cg M) i
 simp only[Proofs.Tryz.f43,fh,Ns,jO,jP,zW,seval,i.bag.dj,i.vols.row.dj,i.regs.dj];refine dF 8000 [0,1,2,6,9,17] Hp rfl (by kernel_rfl) rfl (by simp only[lentB,SV.concs,SV.conc,cK]) λys=>?_;simp only[Mu,jO,jP,zW,seval,i.regs.dj];refine az ⟨rfl,rfl⟩ rfl (Bg.uW w 0 7 M) ?_;cases J:Rv.nf w with
  |false=>
   have V:hE (g,l,k,h) w true=1:=aF J;have W:aU (0<=w/\w<=7)=false:=by rw[Rv.nD,J]
   rw[V,aF (by decide)]at f;simp only[jO,jP,zW,seval,W];exact j 1 f.symm
  |true=>
   have W:aU (0<=w/\w<=7)=true:=by rw[Rv.nD,J]
   have V:hE (g,l,k,h) w true=if Rv.oW l k h w true=true then 0 else 9:=ai (by rw[J];decide);rw[V]at f;simp only[jO,jP,zW,seval,W,i.regs.dj];refine az ⟨rfl,rfl⟩ rfl hM ?_;cases x:Rv.oW l k h w true with
    |false=>rw[x,aF (by decide),ai (by decide)]at f;simp only[jO,jP,zW,seval];exact j 9 f.symm
    |true=>
     rw[x,aF rfl,ai (λh=>h rfl)]at f;have y:=Lg.Jd o M;simp only[Lg.tY]at y;simp only[jO,jP,zW,seval];refine az ⟨rfl,rfl⟩ rfl y ?_;by_cases c:Lg.qu o=0;rotate_left;·have c1:=ax c;have Y:Hi A.1 A.2 o=(uk,Lg.qu o):=aF c;rw[Y,aF c]at f;simp only[jO,jP,zW,seval,c1];exact j _ f.symm
     have Y:Hi A.1 A.2 o=tX A.1 A.2 o:=ai (λh=>h c);rw[Y]at f;have Z:=rdo b v A.1 ws o M i.bag i.vols;rw[i.vw]at Z;simp only[fQ,Vo.Ns]at Z;generalize tX A.1 A.2 o=D at*;simp only[jO,jP,zW,seval,c];refine lU (X:=ay×ay×List WV×Mem) (λz=>(M.le z.2.2.2/\z.2.2.1.map (·.2)=D.1.2)/\RowM z.2.2.2 z.1 4 (D.1.1.map Bg.eG)/\VolsM z.2.2.2 z.2.1 z.2.2.1) (λz=>([(0,true,.ptr 8248 0 0 0),(5,true,.ptr 40 0 0 0),(9,true,.ptr 72 0 0 0),(10,true,.v (.int .i64 D.2))],[(72,.box [.v z.1,.v z.2.1] none),(40,.box [.v (.int .i64 o.1),.v (.string ⟨o.2.1.toArray⟩),.v (.string ⟨o.2.2.1.toArray⟩),.v (.int .i64 o.2.2.2.1),.v (.string ⟨o.2.2.2.2.toArray⟩)] none),(8248,.box [.v b,.v v,.v (.int .i64 g),.v rg,.v (.int .i64 k),.v (.int .i64 h),.v (.string ⟨r.toArray⟩),.v (.int .i64 a)] (some (xs 248)))],z.2.2.2)) ?_ ?_;·refine ie [8248,40] (tk [0,4,1,2,3] (.two 5 (tk [6,7,8] (.one 9 (.one 10 (tk [11] .done)))) 9 (.one 5 (tk [6,7,8] (.one 10 (tk [11] .done)))))) (by kernel_rfl) (by kernel_rfl) λys t=>?_;simp only[na]at t;simp only[jO,jP,zW,seval,fl,fm,fP,i.bag.dj,i.vols.row.dj,t];refine⟨?_,?_⟩;all_goals refine eZ (T:=λs=>.tup [s,.v (.int .i64 D.2)]) (λ_ _=>rfl) rfl rfl Z λb5 v5 ws5 M5 B hw5 C E=>?_;simp only[zW,seval,fl,fm,fP,fQ,C.dj,E.row.dj,B,t];exact⟨(b5,v5,ws5,M5),⟨⟨B,hw5⟩,C,E⟩,dO (df (k:=40) rfl) (aR (by simp only[zV,seval,hset]))⟩
     rintro⟨b2,v2,ws2,F⟩⟨⟨n,G⟩,p,q⟩;simp only at n G p q;have m:∀(e:Int),S=((A,(g,l,k,h),r,a),e)->K ((d,true,.v (.int .i64 e))::σ) (H1 qc [.v b,.v v,.v (.int .i64 g),.v rg,.v (.int .i64 k),.v (.int .i64 h),.v (.string ⟨r.toArray⟩),.v (.int .i64 a)]) F:=λe U=>by subst U;exact O b v ws F n (i.le n)
     by_cases H:D.2=0;rotate_left;·have c6:=ax H;rw[aF H]at f;simp only[jO,jP,zW,seval,c6];exact m _ f.symm
     rw[ai (λh=>h H)]at f;by_cases h7:a=200;·have c7:((a:Int)=200)=True:=aK (by omega);rw[aF h7]at f;simp only[jO,jP,zW,seval,H,c7];exact m _ f.symm
     have c7:((a:Int)=200)=False:=ax (by omega);rw[ai h7]at f;subst f;have I:=Lg.Gt o F c;simp only[Lg.tY]at I;obtain⟨p1,p2⟩:=Jg c;have hP:=Fr.R9 1 (Lg.lu o) F (Jh c);rw[p1,p2]at hP;simp only[Fr.wY]at hP;have hfl:=Gw c;simp only[jO,jP,zW,seval,H,c7];refine az ⟨rfl,rfl⟩ rfl I ?_;simp only[jO,jP,zW,seval];refine az ⟨rfl,rfl⟩ rfl hP ?_;simp only[jO,jP,zW,seval];refine ie [72] (tk [0,1,2,3,4,8,10,5,11,6,12] (.two 7 (tk [9] (.one 13 (tk [14,15,16] (.one 17 (tk [18,19] (.one 20 (tk [21,22] (.one 23 .done)))))))) 13 (tk [14] (.one 7 (tk [9,15,16] (.one 17 (tk [18,19] (.one 20 (tk [21,22] (.one 23 .done)))))))))) (by kernel_rfl) (by kernel_rfl) λys t=>?_;simp only[na]at t;simp only[jO,jP,zW,seval,fl,fm,fP,p.dj,q.row.dj,i.regs.dj,t,cY,lo,hi];have hK:=O b2 v2 ws2 F n ⟨p,q,G,i.regs.le n⟩;simp only[fh,aJ,cB]at hK;exact⟨⟨by omega,⟨by omega,by omega⟩,hK⟩,⟨by omega,by omega⟩,by omega,hK⟩
theorem VS(hd:aU (d<N)=true)(w:Int)(n:T_)(a:Int)(e:TgM M T b v rg ws)(hR:TgR T)(R:∀M',M.le M'->K ((d,true,.tup [.v (.string ⟨(rC T w n a).1.toArray⟩),.v (.int .i64 (rC T w n a).2)])::σ) (H1 qc (fh T b v rg)) M'):CallK ⟨ab,N,w0,M0⟩ 46 [.ptr 248 0 0 0,.v (.int .i64 w),.v (.string ⟨n.toArray⟩),.v (.int .i64 a)] d K σ (H1 qc (fh T b v rg)) M:=by
 refine dF 8000 [0,1,2,3,8,9,10,11,12,17,26,39] Proofs.Tryz.func46 rfl (by kernel_rfl) hd (by simp only[lentB,fh,SV.concs,SV.conc,cK]) λxs=>?_;obtain⟨A,⟨g,l,k,h⟩,tx,G⟩:=T;have h2:=hR.rv;obtain⟨_,H,U,_⟩:=Rv.gq h2;have hM:=Rv.aam g rg k h w false l M e.regs (Rv.k6 H) U.1;simp only[Rv.mu]at hM;have E:=hR.st;simp only at E h2;generalize r:rC (A,(g,l,k,h),tx,G) w n a=S at*;unfold rC at r;simp only at r;simp only[fh]at R;have s:=R M (cg M);simp only[Proofs.Tryz.f46,fh,jO,jP,zW,seval,e.bag.dj,e.vols.row.dj,e.regs.dj];refine dF 8000 [0,1,2,6,9,17] Hp rfl (by kernel_rfl) rfl (by simp only[lentB,SV.concs,SV.conc,cK]) λys=>?_;simp only[Mu,jO,jP,zW,seval,e.regs.dj];refine az ⟨rfl,rfl⟩ rfl (Bg.uW w 0 7 M) ?_;cases Q:Rv.nf w with
  |false=>
   have V:hE (g,l,k,h) w false=1:=aF Q;have W:aU (0<=w/\w<=7)=false:=by rw[Rv.nD,Q]
   rw[V,aF (by decide)]at r;subst r;simp only[jO,jP,zW,seval,W];exact s
  |true=>
   have W:aU (0<=w/\w<=7)=true:=by rw[Rv.nD,Q]
   have V:hE (g,l,k,h) w false=if Rv.oW l k h w false=true then 0 else 9:=ai (by rw[Q];decide);rw[V]at r;simp only[jO,jP,zW,seval,W,e.regs.dj];refine az ⟨rfl,rfl⟩ rfl hM ?_;cases I:Rv.oW l k h w false with
    |false=>rw[I,aF (by decide),ai (by decide)]at r;subst r;simp only[jO,jP,zW,seval];exact s
    |true=>
     rw[I,aF rfl,ai (λh=>h rfl)]at r;subst r;have X:=Yl b v ws n M e.vols;rw[e.vw]at X;simp only[fQ]at X;simp only[jO,jP,zW,seval,e.bag.dj,e.vols.row.dj];refine az ⟨rfl,rfl⟩ rfl X ?_;by_cases F:iD A.2 n<0
     ·have Y:=aK F;have B:vH A.1 A.2 n a=4:=by unfold vH;rw[ai (λh=>h E),aF F]
      have Z:W2 A.1 A.2 n a=[]:=ai (by rw[B];decide);rw[B,Z]at s;simp only[jO,jP,zW,seval,Y];exact s
     have Y:=ax F;have J:=Z' b v A.1 ws M e.bag e.vols (by rw[e.vw];exact E);have o:=si (lj E).2.1;simp only[fQ]at J;obtain⟨j,x,k1,k2,k3,k4⟩:=oR (ws:=ws) (n:=n) (by rw[e.vw];exact F);rw[e.vw]at k1 k4;rw[<-e.vw]at o;simp only[jO,jP,zW,seval,Y,e.bag.dj,e.vols.row.dj];refine KS (T:=λ(_:List (List UInt8×ay))f=>f 0) (P:=λes _=>[.mp (jt Vb es)]) (λx f f' ν ν' h=>h 0 (by decide)) (λx f f' ν ν' h=>⟨λw y hy=>hy,trivial⟩) rfl rfl J (by simp only[zW,seval,hdel]) λes M3 hM3 hes=>?_;simp only[zV,seval,im,iq,ir,nzs,uJ,uK,hdel];obtain⟨t,ht,p⟩:=Vv hes o k2;rw[k3]at ht;refine⟨rfl,nZ (ia (by kernel_rfl)) (key:=n) (kt:=9) (et:=36) (z:=.slice none 0 0) rfl rfl rfl (by kernel_rfl) Proofs.Tryz.zeroValue36 rfl rfl (λ_=>rfl) rfl ?_⟩;rw[ht];have u:=R M3 hM3;have htl:=p.eQ;rw[ae,ae]at htl;have D:=s_ k1 k4;simp only[jO,jP,zW,seval,p.gC,p.sl,ae,cY,lo,hi];refine⟨by omega,az ⟨rfl,rfl⟩ rfl (Bg.uW a 0 ((x.2.2.length:Int)-1) M3) ?_⟩;by_cases h4:0<=a/\a<=(x.2.2.length:Int)-1;rotate_left
     ·have c4:=bI h4;have B:vH A.1 A.2 n a=1:=by unfold vH;rw[ai (λh=>h E),ai F,D,aF (by omega)]
      have Z:W2 A.1 A.2 n a=[]:=ai (by rw[B];decide);rw[B,Z]at u;simp only[jO,jP,zW,seval,c4];exact u
     have c4:=cy h4;have B:vH A.1 A.2 n a=0:=by unfold vH;rw[ai (λh=>h E),ai F,D,ai (by omega)]
     obtain⟨m,rfl⟩:∃m:Nat,a=m:=⟨a.toNat,by omega⟩;obtain⟨C,L,_⟩:=cE (l:=x.2.2) (i:=m) (by omega);have hrd:Lf A.2 n (m:Int)=C:=by unfold Lf;rw[D,aX,L];rfl
     have e3:W2 A.1 A.2 n (m:Int)=(tE A.1 C).drop 1:=by unfold W2;rw[aF B,hrd,Vw]
     have q:=p.UH (enc:=B5) (l:=x.2.2.map (tE A.1)) (x:=tE A.1 C) (i:=m) (c:=.string ⟨(tE A.1 C).toArray⟩) (by rw[aN,L];rfl) rfl;have O:=p.ix (i:=(m:Int)) (by omega) (by rw[ae,ae];omega);have hl1:1<=(tE A.1 C).length:=by unfold tE;split<;>simp
     have et:fH ((tE A.1 C).length-1) ((tE A.1 C).drop 1)=(tE A.1 C).drop 1:=bz (by rw[aT];exact bc _);rw[B,e3]at u;simp only[jO,jP,zW,seval,c4,O,O.2,q.1,q.2,et];exact⟨⟨by omega,by omega⟩,u⟩
theorem Sz(Z:aU (d<N)=true)(n:Int)(hn:cY .i64 n)(t:TgM M T b v rg ws)(H:TgR T)(f:∀I J w L,M.le L->TgM L (NC T n) I J (.slice none 0 0) w->K ((d,true,.v (.int .i64 (xn T n).2.1))::σ) (H1 qc (fh (NC T n) I J (.slice none 0 0))) L):CallK ⟨ab,N,w0,M0⟩ 45 [.ptr 248 0 0 0,.v (.int .i64 n)] d K σ (H1 qc (fh T b v rg)) M:=by
 refine dF 8000 [0,1,4,5,6,7,9,11,33,34,35] Proofs.Tryz.func45 rfl (by kernel_rfl) Z (by simp only[lentB,fh,SV.concs,SV.conc,cK]) λxs=>?_;have hC:=pT T n;have a:Jl T n=T.2.2.1.take (max 0 (wg n (T.2.2.1.length:Int))).toNat:=rfl;have j:xn T n=kl (Jl T n).length uk (Jl T n) 0:=rfl;have o:NC T n=((xn T n).1,(0,[],0,0),(Jl T n).take (Tg.fV (Jl T n) (xn T n).2.1.toNat),(xn T n).2.1.toNat):=rfl;rw[o]at f;simp only[fh]at f;generalize xn T n=P at*;generalize Jl T n=s at*;obtain⟨A,⟨g,l,k,h⟩,q,p⟩:=T;have h4:=H.many;have h5:=H.tx;simp only at h4 h5 a;have hsl:s.length<=q.length:=by rw[a,a6];omega
 have O:(max 0 (wg n (q.length:Int))).toNat<=q.length:=by omega
 simp only[Proofs.Tryz.f45,fh,jO,jP,zW,seval,t.bag.dj,t.vols.row.dj,t.regs.dj];refine ie [8248] (tk [0,4,5,1,6,2,7,3,8,9,10,11,12,13] .done) (by kernel_rfl) (by kernel_rfl) λys Q=>?_;simp only[na]at Q;simp only[jO,jP,zW,seval,fl,fm,fP,Q,cY,lo,hi,iS,<-a];refine⟨⟨by omega,by omega⟩,?_⟩;have r:=VD s.length s (.slice none 0 0) (.slice none 0 0) [] [] 0 M (bc _) (by unfold dB;omega) (by decide) (bY _ _) (gi M).2;have y:(([],List.map (λx:WV=>x.2) []):St)=uk:=rfl;rw[y,<-j]at r;simp only[fQ]at r;clear j o a;obtain⟨P,m,pe⟩:=P;obtain⟨c1,c2,c3⟩:=hC;simp only at c1 c2 c3 r f;refine eZ (T:=lQ m pe) (λ_ _=>rfl) rfl rfl r λR S z B C D c e=>?_;simp only[jO,jP,zW,seval,lQ,fQ,c.dj,e.row.dj];refine bE (X:=Nat) (λi=>([(0,true,.ptr 8248 0 0 0),(5,true,.v (.string ⟨s.toArray⟩)),(6,true,.ptr 48 0 0 0),(7,true,.v (.int .i64 m)),(9,true,.v (.string ⟨(s.take (Tg.fV s i)).toArray⟩)),(33,true,.v (.int .i64 m)),(34,true,.v (.int .i64 i))],[(48,.box [.v R,.v S] none),(8248,.box [.v b,.v v,.v (.int .i64 g),.v rg,.v (.int .i64 k),.v (.int .i64 h),.v (.string ⟨q.toArray⟩),.v (.int .i64 p)] (some (xs 248)))],B)) (λi=>i<=m.toNat) (λi=>m.toNat-i) 0 (bJ _) (aR ?_) ?_;·simp only[zV,seval,Tg.fV,fE,aZ];done
 intro i hil;obtain⟨u1,u2⟩:=yq s i;by_cases E:i=m.toNat
 ·have F:((i:Int)<m)=False:=ax (by omega);have e1:m.toNat=i:=E.symm;have e2:(m.toNat:Int)=m:=by omega
  simp only[jO,jP,zW,seval,F,c.dj,e.row.dj];rw[e1]at f;have U:=f R S z B C ⟨c,e,D,bY _ _⟩;have e4:(i:Int)=m:=by omega
  rw[e4]at U;exact U
 have F:((i:Int)<m)=True:=aK (by omega);have G:=Fr.Gv (s.drop (Tg.fV s i)) B (by rw[aT];unfold dB;omega);obtain⟨V,W,hF⟩:∃V W,Fr.zx (s.drop (Tg.fV s i))=Fr.wY V W:=by
  unfold Fr.zx;split;·exact⟨_,_,rfl⟩
  ·exact⟨_,_,rfl⟩
 rw[hF]at G;simp only[Fr.wY]at G;have hU:=GA (s.drop (Tg.fV s i));have hD:Tg.fV s (i+1)=Tg.fV s i+(Fr.t_ (s.drop (Tg.fV s i))).toNat:=rfl;have hL:(s.drop (Tg.fV s i)).length<=s.length:=by rw[aT];omega
 have Y:(s.take (Tg.fV s i)).length=Tg.fV s i:=by rw[a6];omega
 have e6:fH (s.length-Tg.fV s i) (s.drop (Tg.fV s i))=s.drop (Tg.fV s i):=bz (by rw[aT];exact bc _);generalize hu:Fr.t_ (s.drop (Tg.fV s i))=u at*;simp only[jO,jP,zW,seval,F,Y,e6];refine⟨⟨⟨by omega,by omega⟩,pk _⟩,?_⟩;refine az ⟨rfl,rfl⟩ rfl G ?_;simp only[jO,jP,zW,seval,cY,lo,hi,Y];have hD2:(s.drop (Tg.fV s i)).length=s.length-Tg.fV s i:=aT;have e7:((Tg.fV s i:Int)+u).toNat=Tg.fV s (i+1):=by omega
 refine⟨⟨by omega,by omega⟩,⟨by omega,by omega⟩,⟨by omega,by omega⟩,i+1,⟨by omega,by omega⟩,aR ?_⟩;simp only[zV,seval,aJ,cB,e7,iS]
end
end Go.X.Th
namespace Go.X
open Go Go.RowKit
section
variable{E:Env}{σ:dp}{H:HS}{M:Mem}{K:KP}{Q:QP}{X:XP}{o:db}
theorem tz{ν:Nat->ay}{k b:Nat}(h:ν k=bT b):(SV.ptr k 0 0 0).cL ν=(SV.v (bT b)).cL ν:=by simp only[SV.cL,h,KD,Nat.mul_zero,eJ]
theorem qZ{f d:Nat}{A:SV->List SV}{cs:List SV}(k:Nat){b:Nat}(g:Ctxs A)(i:hget H k=some (.box cs (some (bT b))))(h:CallK E f (A (.ptr k 0 0 0)) d K σ H M):CallK E f (A (.v (bT b))) d K σ H M:=by intro V a w j e;have c:V k=bT b:=(e.holds _ (bP i)).2 _ rfl;have :=h V a w j e;rw[g (.ptr k 0 0 0) (.v (bT b)) V V (tz c)]at this;exact this
theorem kT{f d:Nat}{A:SV->List SV}{cs:List SV}(k:Nat){b:Nat}(g:Ctxs A)(i:hget H k=some (.box cs (some (bT b))))(h:CallX E f (A (.ptr k 0 0 0)) d K X σ H M):CallX E f (A (.v (bT b))) d K X σ H M:=by intro V a w j e;have c:V k=bT b:=(e.holds _ (bP i)).2 _ rfl;have :=h V a w j e;rw[g (.ptr k 0 0 0) (.v (bT b)) V V (tz c)]at this;exact this
theorem q6{f d:Nat}{l:List SV}{R:RP}{X0:XP}(o:aU (d<E.N)=true)(h:MeetsX E.P f l H M R X0)(p:∀s H' L,M.le L->R s H' L->s.conc=true/\K ((d,true,s)::sigConc σ) H' L)(q:∀m H' L,M.le L->X0 m H' L->X m H' L):CallX E f l d K X σ H M:=by
 intro v a w r i;refine⟨h.1,(h.2 E.w0 M v w ⟨i.holds,i.nodup,i.apart,i.mem,i.below,cg M,λb k=>.inl k,i.one⟩).mono ?_⟩;have n:∀{u:Nat->ay}{H':HS}{L:Mem}{W:bQ},Heap ⟨E.P,0,E.w0,M⟩ u H' L W->Heap E u H' L W:=λj=>⟨j.holds,j.nodup,j.apart,j.mem,j.below,i.le0.dC j.le0,λb k=>(j.fresh b k).elim (λh=>i.fresh b h) .inr,j.one⟩;rintro e W(⟨s,H',L,u,rfl,g,t⟩|⟨c,u,H',L,rfl,g,x⟩);·obtain⟨z,y⟩:=p s H' L g.le0 t;exact .inl ⟨_,rfl,_,_,_,⟨u,r.ZR.ml (aW o) (by rw[dM]),n g⟩,y⟩
 ·exact .inr ⟨_,rfl,u,H',L,n g,q c H' L g.le0 x⟩
theorem Heap.two{ν:Nat->ay}{w:bQ}(a:Heap E ν H M w){j k:Nat}{p q:PO}(h:hget H j=some p)(l:hget H k=some q)(m:j≠k):Heap E ν [(j,p),(k,q)] M w:=by
 have d:=bP h;have c:=bP l;refine⟨λr f=>?_,?_,λb n=>?_,a.mem,a.below,a.le0,a.fresh,a.one⟩
 ·simp only[aV,cH,fK]at f;rcases f with rfl|rfl;·exact a.holds _ d
  ·exact a.holds _ c
 ·simp only[fp,bK,eu];cases o:ee (ν j)with
   |none=>cases i:ee (ν k)with|none=>simp|some s=>simp
   |some t=>cases i:ee (ν k)with|none=>simp|some s=>have :=uz a h o _ c (λe=>m e.symm);simp only at this;rw[i]at this;simp only[gK,bD,cH,gy,kM,fL];exactλe=>this (by rw[e])
 ·obtain⟨r,f,g⟩:=bH.1 n;simp only[aV,cH,fK]at f;rcases f with rfl|rfl;·exact a.apart b (bH.2 ⟨_,d,g⟩)
  ·exact a.apart b (bH.2 ⟨_,c,g⟩)
theorem Heap.SA{ν:Nat->ay}{w:bQ}(a:Heap E ν H M w){j:Nat}{p:PO}(f:hget H j=some p):Heap E ν [(j,p)] M w:=by
 have c:=bP f;refine⟨λr d=>?_,?_,λb g=>?_,a.mem,a.below,a.le0,a.fresh,a.one⟩;·simp only[bD]at d;subst d;exact a.holds _ c
 ·simp only[fp,bK,eu];split<;>simp
 ·obtain⟨r,d,e⟩:=bH.1 g;simp only[bD]at d;subst d;exact a.apart b (bH.2 ⟨_,c,e⟩)
theorem LI{P:bZ}{f:kH}{args:List SV}{R m:RP}{n:XP}(j k:Nat)(o:j≠k)(h:MeetsX P f args H M R X)(r:∀s H' N,R s H' N->∃p q,(hget H' j=some p/\hget H' k=some q)/\m s [(j,p),(k,q)] N)(t:∀c H' N,X c H' N->∃p q,(hget H' j=some p/\hget H' k=some q)/\n c [(j,p),(k,q)] N):MeetsX P f args H M m n:=⟨h.1,λv x V w y=>(h.2 v x V w y).mono λe W h=>h.imp (λ⟨s,H',N,u,g,i,l⟩=>let⟨p,q,⟨a,b⟩,c⟩:=r _ _ _ l;⟨s,_,N,u,g,i.two a b o,c⟩) (λ⟨c,u,H',N,g,i,l⟩=>let⟨p,q,⟨a,b⟩,d⟩:=t _ _ _ l;⟨c,u,_,N,g,i.two a b o,d⟩)⟩
/-! map literals -/
theorem oy{t kt et k:Nat}{x y v:bB}{α:Type}[DecidableEq α]{enc:α->ay}{key:α}{l:List (α×ay)}{s:SV}{u:ay}(d:KeyT E.P kt enc)(f:o.op=.insert t x y v)(g:o.dst=none)(i:E.P.underlying t=some (.map kt et))(j:opv σ x=some (true,.own k))(m:opv σ y=some (true,s))(b:∀ν,s.cL ν=enc key)(n:opv σ v=some (true,.v u))(p:hget H k=some (.mp (jt enc l)))(q:K σ (hset k (.mp (jt enc (KU key u l))) H) M):OpK E o K σ H M:=by
 have h:=Cg (E:=E) (o:={o with op:=.mapUpdate t x y v}) d rfl g i j m b n p q;intro a w r;have c:=h a w r;have e:da a.eval {o with op:=.mapUpdate t x y v}=da a.eval o:=by simp only[da,f]
 unfold oC at c⊢;rw[e]at c;exact c
theorem GC{t d kt et k:Nat}{x y:bB}{α:Type}[DecidableEq α]{enc:α->ay}{key:α}{l:List (α×ay)}{s:SV}{z:ay}(i:KeyT E.P kt enc)(n:o.op=.lookup t x y true)(q:o.dst=some d)(r:aU (d<E.N)=true)(u:E.P.underlying t=some (.map kt et))(A:∀w,(wA et).run E.P w=.ok z w)(B:opv σ x=some (true,.own k))(C:opv σ y=some (true,s))(e:∀ν,s.cL ν=enc key)(D:hget H k=some (.mp (jt enc l)))(F:K ((d,true,.tup [.v (((nJ key l 0).map (·.2)).getD z),.v (.bool (nJ key l 0).isSome)])::σ) H M):OpK E o K σ H M:=by
 refine jq λν a w f j=>?_;obtain⟨b,m,c,g,G,I,J⟩:=j.H8 D;have L:a.eval x=.map (some b):=by rw[f.mA B rfl];exact g
 have O:a.eval y=enc key:=by rw[f.mA C rfl];exact e ν
 refine⟨.tuple #[((nJ key l 0).map (·.2)).getD z,.bool (nJ key l 0).isSome],w,?_,_,_,_,⟨ν,?_,j⟩,F⟩;·simp only[da,n,L,O,Instr.lookup,a7,a8 u,aQ,iU G,bC,i.check,i.vB w key I];cases Q:nJ key l 0 with|none=>simp[A]|some p=>simp
 ·rw[q];exact f.ml (aW r) rfl
theorem GD{id:Nat}{ops:Array db}(n:Nat)(b:List Nat)(c:Sch3)(r:E.P.follows .mixedOrders=true)(m:(iG ops&&(aU (n<ops.size)&&(mi .any ops n&&(lA .any ops n&&m_ .any ops n c ops.size (nV ops.size false)))))=true)(h:∀d:Nat->ay,na d H->stayH (pickH b (tieH d H)) (tieH d H)/\wpH3 E ops.toList (pickH b (tieH d H)) M (BV E ops.toList K (ops.toList.drop n)) c σ (tieH d H) M):DrawK E id ops K σ H M:=by rintro a w⟨v,s,o⟩;simp only[ba,br]at m;obtain⟨e,u,i,k,l⟩:=m;have g:=qj o.holds;have p:=rX (o.mE ((dQ _ _).drew):Heap E v H M {w with drawn:=w.drawn+1});have f:HeadInv .any ops n (nV ops.size false):=⟨by simp,λj x _ q=>(by rw[sG]at q;cases q),λt _ g=>getD_in (by simpa using g) (sG _ _)⟩;exact wp_region_any r (tm _ _ _ _ (wpH3_sound e i k u (p.gB (k8 b _)) (iX b H) c _ _ σ _ M a _ l f ⟨v,s,p⟩ ⟨(h v g).1,cg M⟩ (h v g).2))
/-! loops of few rounds -/
def tA(E:Env)(live:List Nat)(a:lp)(Q:QP):Nat->KP|0=>λ_ _ _=>False|n+1=>λσ H M=>xk E live a (xM (tA E live a Q n) Q) σ H M
@[congr]theorem Ua{live:List Nat}{b:lp}{n:Nat}{σ':dp}{H':HS}(h:σ=σ')(a:H=H'):tA E live b Q n σ H M=tA E live b Q n σ' H' M:=by rw[h,a]
theorem lZ(live:List Nat)(b:lp)(n:Nat):tA E live b Q (n+1) σ H M=xk E live b (xM (tA E live b Q n) Q) σ H M:=rfl
theorem yt{live:List Nat}{c:lp}(n:Nat)(h:tA E live c Q n σ H M):LoopK E live c Q σ H M:=by
 intro a w j b k v;have y:∀n σ H M a w,tA E live c Q n σ H M->Rep E σ H M a w->∃e u W,AM E Q e u W/\Arrives E.P (lone (b.at a (.code c::.inLoop c::k)) v w) b k v e u W:=by intro n;induction n with|zero=>intro σ H M a w h;exact h.elim|succ n z=>intro σ H M a w h j;obtain⟨e,g,i,⟨t,G,N,d,o⟩,f⟩:=eD c _ _ _ _ h a w j b (.inLoop c::k) v;cases e with|normal=>obtain⟨q,r,s,p,m⟩:=z _ _ _ g i o d;exact⟨q,r,s,p,.of_steps (Steps.trans f (.one step_inLoop)) m⟩|exit A=>exact⟨_,g,i,⟨t,G,N,d,o⟩,.pass (x:=.inLoop c) rfl (λ_ _=>.inl (by simp)) f⟩|goto l=>exact⟨_,g,i,⟨t,G,N,d,o⟩,.pass (x:=.inLoop c) rfl (λ_ _=>.inl (by simp)) f⟩|ret=>exact⟨_,g,i,⟨t,G,N,d,o⟩,.pass (x:=.inLoop c) rfl (λ_ _=>.inl (by simp)) f⟩|panic B=>exact⟨_,g,i,⟨t,G,N,d,o⟩,.pass (x:=.inLoop c) rfl (λ_ _=>.inl (by simp)) f⟩|outgrown=>exact⟨_,g,i,⟨t,G,N,d,o⟩,.pass (x:=.inLoop c) rfl (λ_ _=>.inl (by simp)) f⟩
 obtain⟨e,u,W,o,f⟩:=y n _ _ _ a w h j;exact⟨e,u,W,o,.of_steps (.one step_loop) f⟩
end
end Go.X
namespace Go.X.Dk
open Go Go.X Go.RowKit Go.X.Vo Go.X.Tg
abbrev iP:=TG×Int×Tx
def lF(ws:List Tx)(i:Nat):Option Nat:=(ws[i]?).bind nL
def Pa(ws:List Tx)(i:Nat):Option Tx:=(ws[i]?).bind l_
def GF(w:Nat)(o:AV)(T:TG):iP:=((qk T w o).1,(qk T w o).2,yP)
def Xe(w:Nat)(n:Tx)(a:Nat)(T:TG):iP:=(T,(rC T w n a).2,p_ (rC T w n a).1)
def Jo(w x y:Nat)(T:TG):iP:=(lY T (Rv.oq T.2.1.1 T.2.1.2.1 T.2.1.2.2.1 T.2.1.2.2.2 w x y),(Rv.oq T.2.1.1 T.2.1.2.1 T.2.1.2.2.1 T.2.1.2.2.2 w x y).1,yP)
def Jp(w x y:Nat)(T:TG):iP:=(lY T (Rv.ot T.2.1.1 T.2.1.2.1 T.2.1.2.2.1 T.2.1.2.2.2 w x y),(Rv.ot T.2.1.1 T.2.1.2.1 T.2.1.2.2.1 T.2.1.2.2.2 w x y).1,yP)
def Jq(w x y:Nat)(T:TG):iP:=(lY T (Rv.ou T.2.1.1 T.2.1.2.1 T.2.1.2.2.1 T.2.1.2.2.2 w x y),(Rv.ou T.2.1.1 T.2.1.2.1 T.2.1.2.2.1 T.2.1.2.2.2 w x y).1,yP)
def Jr(w x:Nat)(T:TG):iP:=(lY T (Rv.ov T.2.1.1 T.2.1.2.1 T.2.1.2.2.1 T.2.1.2.2.2 w x),(Rv.ov T.2.1.1 T.2.1.2.1 T.2.1.2.2.1 T.2.1.2.2.2 w x).1,yP)
def Js(w x y z:Nat)(T:TG):iP:=(lY T (Rv.ox T.2.1.1 T.2.1.2.1 T.2.1.2.2.1 T.2.1.2.2.2 w x y z),(Rv.ox T.2.1.1 T.2.1.2.1 T.2.1.2.2.1 T.2.1.2.2.2 w x y z).1,yP)
def Jt(n:Nat)(T:TG):iP:=(NC T n,0,dL [(xn T n).2.1.toNat])
def pK(v:fy):Tx:=[32]++v.1++[58]++cF v.2.length
def YG(T:TG):Tx:=dL [T.1.1.length,T.2.1.1.toNat,T.2.1.2.2.1.toNat,T.2.1.2.2.2.toNat]++T.1.2.flatMap pK
def Ju(T:TG):iP:=(T,0,YG T)
def lG(ws:List Tx):Tx:=ws.headD []
def nE(ws:List Tx):Option (Nat×(TG->iP)):=if lG ws=[109,97,107,101]then(lF ws 1).bind λw=>(ws[2]?).bind λn=>(lF ws 3).bind λa=>some (4,GF w (1,n,[],a,[]))else if lG ws=[100,114,111,112]then(lF ws 1).bind λw=>(ws[2]?).bind λn=>some (3,GF w (2,n,[],0,[]))else if lG ws=[119,114,105,116,101]then(lF ws 1).bind λw=>(ws[2]?).bind λn=>(lF ws 3).bind λa=>(Pa ws 4).bind λt=>some (5,GF w (3,n,[],a,t))else if lG ws=[116,114,105,109]then(lF ws 1).bind λw=>(ws[2]?).bind λn=>(lF ws 3).bind λa=>some (4,GF w (4,n,[],a,[]))else if lG ws=[99,108,111,110,101]then(lF ws 1).bind λw=>(ws[2]?).bind λn=>(ws[3]?).bind λt=>some (4,GF w (5,n,t,0,[]))else(lF ws 1).bind λw=>(ws[2]?).bind λn=>(lF ws 3).bind λa=>some (4,Xe w n a)
def wZ(w:Tx):Bool:=aU (w=[109,97,107,101]\/w=[100,114,111,112]\/w=[119,114,105,116,101]\/w=[116,114,105,109]\/w=[99,108,111,110,101]\/w=[114,101,97,100])
def iQ(ws:List Tx):Option (Nat×(TG->iP)):=if lG ws=[114,101,103,105,115,116,101,114]then(lF ws 1).bind λw=>(lF ws 2).bind λx=>(lF ws 3).bind λy=>some (4,Jo w x y)else if lG ws=[114,101,115,101,114,118,101]then(lF ws 1).bind λw=>(lF ws 2).bind λx=>(lF ws 3).bind λy=>some (4,Jp w x y)else if lG ws=[114,101,108,101,97,115,101]then(lF ws 1).bind λw=>(lF ws 2).bind λx=>(lF ws 3).bind λy=>some (4,Jq w x y)else if lG ws=[99,108,101,97,114]then(lF ws 1).bind λw=>(lF ws 2).bind λx=>some (3,Jr w x)else if lG ws=[112,114,101,101,109,112,116]then(lF ws 1).bind λw=>(lF ws 2).bind λx=>(lF ws 3).bind λy=>(lF ws 4).bind λz=>some (5,Js w x y z)else if lG ws=[99,114,97,115,104]then(lF ws 1).bind λw=>some (2,Jt w)else if lG ws=[97,108,108]then some (1,Ju)else none
theorem Da{ws:List Tx}(h:lG ws=[109,97,107,101]):nE ws=(lF ws 1).bind λw=>(ws[2]?).bind λn=>(lF ws 3).bind λa=>some (4,GF w (1,n,[],a,[])):=by unfold nE;rw[aF h]
theorem Db{ws:List Tx}(h:lG ws=[100,114,111,112]):nE ws=(lF ws 1).bind λw=>(ws[2]?).bind λn=>some (3,GF w (2,n,[],0,[])):=by unfold nE;rw[ai (by rw[h];decide),aF h]
theorem AA{ws:List Tx}(h:lG ws=[119,114,105,116,101]):nE ws=(lF ws 1).bind λw=>(ws[2]?).bind λn=>(lF ws 3).bind λa=>(Pa ws 4).bind λt=>some (5,GF w (3,n,[],a,t)):=by unfold nE;rw[ai (by rw[h];decide),ai (by rw[h];decide),aF h]
theorem Dc{ws:List Tx}(h:lG ws=[116,114,105,109]):nE ws=(lF ws 1).bind λw=>(ws[2]?).bind λn=>(lF ws 3).bind λa=>some (4,GF w (4,n,[],a,[])):=by unfold nE;rw[ai (by rw[h];decide),ai (by rw[h];decide),ai (by rw[h];decide),aF h]
theorem AB{ws:List Tx}(h:lG ws=[99,108,111,110,101]):nE ws=(lF ws 1).bind λw=>(ws[2]?).bind λn=>(ws[3]?).bind λt=>some (4,GF w (5,n,t,0,[])):=by unfold nE;rw[ai (by rw[h];decide),ai (by rw[h];decide),ai (by rw[h];decide),ai (by rw[h];decide),aF h]
theorem Dd{ws:List Tx}(h:lG ws=[114,101,97,100]):nE ws=(lF ws 1).bind λw=>(ws[2]?).bind λn=>(lF ws 3).bind λa=>some (4,Xe w n a):=by unfold nE;rw[ai (by rw[h];decide),ai (by rw[h];decide),ai (by rw[h];decide),ai (by rw[h];decide),ai (by rw[h];decide)]
theorem tP{ws:List Tx}(h:lG ws=[114,101,103,105,115,116,101,114]):iQ ws=(lF ws 1).bind λw=>(lF ws 2).bind λx=>(lF ws 3).bind λy=>some (4,Jo w x y):=by unfold iQ;rw[aF h]
theorem vd{ws:List Tx}(h:lG ws=[114,101,115,101,114,118,101]):iQ ws=(lF ws 1).bind λw=>(lF ws 2).bind λx=>(lF ws 3).bind λy=>some (4,Jp w x y):=by unfold iQ;rw[ai (by rw[h];decide),aF h]
theorem ve{ws:List Tx}(h:lG ws=[114,101,108,101,97,115,101]):iQ ws=(lF ws 1).bind λw=>(lF ws 2).bind λx=>(lF ws 3).bind λy=>some (4,Jq w x y):=by unfold iQ;rw[ai (by rw[h];decide),ai (by rw[h];decide),aF h]
theorem yu{ws:List Tx}(h:lG ws=[99,108,101,97,114]):iQ ws=(lF ws 1).bind λw=>(lF ws 2).bind λx=>some (3,Jr w x):=by unfold iQ;rw[ai (by rw[h];decide),ai (by rw[h];decide),ai (by rw[h];decide),aF h]
theorem vf{ws:List Tx}(h:lG ws=[112,114,101,101,109,112,116]):iQ ws=(lF ws 1).bind λw=>(lF ws 2).bind λx=>(lF ws 3).bind λy=>(lF ws 4).bind λz=>some (5,Js w x y z):=by unfold iQ;rw[ai (by rw[h];decide),ai (by rw[h];decide),ai (by rw[h];decide),ai (by rw[h];decide),aF h]
theorem yv{ws:List Tx}(h:lG ws=[99,114,97,115,104]):iQ ws=(lF ws 1).bind λw=>some (2,Jt w):=by unfold iQ;rw[ai (by rw[h];decide),ai (by rw[h];decide),ai (by rw[h];decide),ai (by rw[h];decide),ai (by rw[h];decide),aF h]
theorem De{ws:List Tx}(h:lG ws=[97,108,108]):iQ ws=some (1,Ju):=by unfold iQ;rw[ai (by rw[h];decide),ai (by rw[h];decide),ai (by rw[h];decide),ai (by rw[h];decide),ai (by rw[h];decide),ai (by rw[h];decide),aF h]
def Df(ws:List Tx):Option (Nat×(TG->iP)):=if wZ (lG ws)=true then nE ws else iQ ws
def kG(A:List Tx->Option (Nat×(TG->iP)))(T:TG)(ws:List Tx):TG×Tx:=match A ws with|none=>(T,lO 12)|some (n,F)=>if n=ws.length then((F T).1,if(F T).2.1=0 then(F T).2.2 else lO (F T).2.1.toNat)else(T,lO 12)
def VT(bt:Nat)(T:TG)(H:HS)(M:Mem):Prop:=∃b v c d,H=[(248,.box (fh T b v c) (some (bT bt)))]/\TgM M T b v c d/\TgR T
def YH(bt:Nat)(T:TG)(H:HS)(M:Mem):Prop:=∃b v a c,hget H 248=some (.box (fh T b v a) (some (bT bt)))/\TgM M T b v a c/\TgR T
theorem w6{P:bZ}{f:kH}{args:List SV}{H:HS}{M:Mem}{bt:Nat}{T:TG}{A:SV->Prop}{X:XP}(h:MeetsX P f args H M (λs H' a=>A s/\YH bt T H' a) (λ_ _ _=>False)):MeetsX P f args H M (λs H' a=>A s/\VT bt T H' a) X:=⟨h.1,λc d V w g=>(h.2 c d V w g).mono λe W h=>h.elim (λ⟨s,H',N,u,i,j,k,b,v,l,m,n,o⟩=>.inl ⟨s,_,N,u,i,j.SA n,k,b,v,l,m,rfl,o⟩) (λ⟨_,_,_,_,_,_,p⟩=>p.elim)⟩
def zN(bt:Nat)(f:kH)(c:List SV)(M:Mem)(F:TG->iP):Prop:=SV.concs c=true/\∀T b v e g N,M.le N->TgM N T b v e g->TgR T->MeetsX ab f c [(248,.box (fh T b v e) (some (bT bt)))] N (λs G d=>(s.conc=true/\(F T).2.1=0/\s=.v (.string ⟨(F T).2.2.toArray⟩))/\VT bt (F T).1 G d) (λh G d=>((F T).2.1≠0/\h=jv (F T).2.1)/\VT bt (F T).1 G d)
abbrev Xf(a:ay)(i:Nat)(q:Option ay)(bt:Nat)(T:TG)(b v c:ay):HS:=[(8000,.box (jW a i) q),(248,.box (fh T b v c) (some (bT bt)))]
def LnB(a:ay)(i:Nat)(q:Option ay)(bt:Nat)(T:TG)(b v c:ay)(H:HS):Prop:=hget H 8000=some (.box (jW a i) q)/\hget H 248=some (.box (fh T b v c) (some (bT bt)))
def aau(f:kH)(A:List Tx->Option (Nat×(TG->iP)))(bt i:Nat)(h:ay)(ws:List Tx)(M:Mem):Prop:=∀q T b v d j N,M.le N->TgM N T b v d j->TgR T->MeetsX ab f [.v (bT i),.v (.string ⟨(lG ws).toArray⟩),.ptr 8000 0 0 0] (Xf h 1 q bt T b v d) N (λs G e=>∃n F g c,A ws=some (n,F)/\s=.fn g c/\zN bt g c e F/\LnB h n q bt T b v d G) (λk G _=>A ws=none/\k=jv 12/\hget G 248=some (.box (fh T b v d) (some (bT bt))))
def YI(f:kH)(A:List Tx->Option (Nat×(TG->iP)))(bt i:Nat)(e:ay)(ws:List Tx)(M:Mem):Prop:=∀h T b v c j N,M.le N->TgM N T b v c j->TgR T->MeetsX ab f [.v (bT i),.v (.string ⟨(lG ws).toArray⟩),.ptr 8000 0 0 0] (Xf e 1 (some (bT h)) bt T b v c) N (λs G d=>∃n F g a,A ws=some (n,F)/\s=.fn g a/\zN bt g a d F/\LnB e n (some (bT h)) bt T b v c G) (λk G _=>A ws=none/\k=jv 12/\hget G 248=some (.box (fh T b v c) (some (bT bt))))
def LJ(F:TG->iP):Prop:=∀T,TgR T->(0<=(F T).2.1/\(F T).2.1<=1000)/\(F T).2.2.length<=60000
def abw(f:kH)(bt e:Nat)(c:ay)(ws:List Tx):Prop:=∀q T b v d N,MeetsX ab f [.v (bT e),.v (.string ⟨(lG ws).toArray⟩),.ptr 8000 0 0 0] (Xf c 1 q bt T b v d) N (λs G _=>s=.v .nilFunc/\G=Xf c 1 q bt T b v d) (λ_ _ _=>False)
end Go.X.Dk
namespace Go.X.Dk
open Go Go.X Go.RowKit
theorem GG:(([110,101,120,116]:Tx)=[103,99,100])=False/\(([102,97,99,116,111,114,115]:Tx)=[103,99,100])=False/\(([102,97,99,116,111,114,115]:Tx)=[110,101,120,116])=False/\(([112,114,105,110,116]:Tx)=[103,99,100])=False/\(([112,114,105,110,116]:Tx)=[110,101,120,116])=False/\(([112,114,105,110,116]:Tx)=[102,97,99,116,111,114,115])=False/\(([99,117,116]:Tx)=[103,99,100])=False/\(([99,117,116]:Tx)=[110,101,120,116])=False/\(([99,117,116]:Tx)=[102,97,99,116,111,114,115])=False/\(([99,117,116]:Tx)=[112,114,105,110,116])=False/\(([115,104,117,116]:Tx)=[103,99,100])=False/\(([115,104,117,116]:Tx)=[110,101,120,116])=False/\(([115,104,117,116]:Tx)=[102,97,99,116,111,114,115])=False/\(([115,104,117,116]:Tx)=[112,114,105,110,116])=False/\(([115,104,117,116]:Tx)=[99,117,116])=False/\(([114,101,115,101,114,118,101]:Tx)=[114,101,103,105,115,116,101,114])=False/\(([114,101,108,101,97,115,101]:Tx)=[114,101,103,105,115,116,101,114])=False/\(([114,101,108,101,97,115,101]:Tx)=[114,101,115,101,114,118,101])=False/\(([99,108,101,97,114]:Tx)=[114,101,103,105,115,116,101,114])=False/\(([99,108,101,97,114]:Tx)=[114,101,115,101,114,118,101])=False/\(([99,108,101,97,114]:Tx)=[114,101,108,101,97,115,101])=False/\(([112,114,101,101,109,112,116]:Tx)=[114,101,103,105,115,116,101,114])=False/\(([112,114,101,101,109,112,116]:Tx)=[114,101,115,101,114,118,101])=False/\(([112,114,101,101,109,112,116]:Tx)=[114,101,108,101,97,115,101])=False/\(([112,114,101,101,109,112,116]:Tx)=[99,108,101,97,114])=False/\(([99,114,97,115,104]:Tx)=[114,101,103,105,115,116,101,114])=False/\(([99,114,97,115,104]:Tx)=[114,101,115,101,114,118,101])=False/\(([99,114,97,115,104]:Tx)=[114,101,108,101,97,115,101])=False/\(([99,114,97,115,104]:Tx)=[99,108,101,97,114])=False/\(([99,114,97,115,104]:Tx)=[112,114,101,101,109,112,116])=False/\(([97,108,108]:Tx)=[114,101,103,105,115,116,101,114])=False/\(([97,108,108]:Tx)=[114,101,115,101,114,118,101])=False/\(([97,108,108]:Tx)=[114,101,108,101,97,115,101])=False/\(([97,108,108]:Tx)=[99,108,101,97,114])=False/\(([97,108,108]:Tx)=[112,114,101,101,109,112,116])=False/\(([97,108,108]:Tx)=[99,114,97,115,104])=False/\(([100,114,111,112]:Tx)=[109,97,107,101])=False/\(([100,114,111,112]:Tx)=[116,114,105,109])=False/\(([100,114,111,112]:Tx)=[114,101,97,100])=False/\(([100,114,111,112]:Tx)=[119,114,105,116,101])=False/\(([100,114,111,112]:Tx)=[99,108,111,110,101])=False/\(([119,114,105,116,101]:Tx)=[109,97,107,101])=False/\(([119,114,105,116,101]:Tx)=[116,114,105,109])=False/\(([119,114,105,116,101]:Tx)=[114,101,97,100])=False/\(([116,114,105,109]:Tx)=[109,97,107,101])=False/\(([116,114,105,109]:Tx)=[114,101,97,100])=False/\(([99,108,111,110,101]:Tx)=[109,97,107,101])=False/\(([99,108,111,110,101]:Tx)=[116,114,105,109])=False/\(([99,108,111,110,101]:Tx)=[114,101,97,100])=False/\(([99,108,111,110,101]:Tx)=[119,114,105,116,101])=False/\(([114,101,97,100]:Tx)=[109,97,107,101])=False/\(([114,101,97,100]:Tx)=[116,114,105,109])=False/\(([109,97,107,101]:Tx)=[114,101,97,100])=False:=by
 repeat' apply aa
 all_goals exact ax (by decide)
section
variable{E:Env}{σ:dp}{H:HS}{M:Mem}{K:KP}{X:XP}{d i:Nat}{ws:List Tx}{vw:ay}{q:Option ay}
theorem GH:Ctxs λs=>[s]:=λs a v u h=>by simp only[aS,h]
abbrev Nxt(H:HS)(M:Mem)(X:XP)(q:Option ay):Prop:=∀b,X (jv 12) (hset 8000 (.box b q) H) M
theorem Eg(j:E.P=ab)(k:aU (d<E.N)=true)(l:hget H 8000=some (.box (jW vw i) q))(m:GlobM M)(o:RowM M vw 1 (ws.map dG))(p:∀w∈ws,w.length<=70000)(hi:i<=ws.length)(r:∀n:Nat,lF ws i=some n->i<ws.length->K ((d,true,.v (.int .i64 n))::σ) (hset 8000 (.box (jW vw (i+1)) q) H) M)(t:lF ws i=none->Nxt H M X q):CallX E 54 [.ptr 8000 0 0 0] d K X σ H M:=n8 (A:=λs=>[s]) 8000 GH k l rfl (λz B b=>j▸ZV (i:=i) (m.le b) (o.le b) hi λw h=>b6 (p w h) (by decide)) (λs c⟨x,n,a,e,u,f⟩=>by subst u f;exact r n (by unfold lF;rw[a];exact e) (aI.1 a).1) λC c⟨y,g⟩=>g▸t y c
theorem SB(h:E.P=ab)(j:aU (d<E.N)=true)(k:hget H 8000=some (.box (jW vw i) q))(l:RowM M vw 1 (ws.map dG))(m:∀w∈ws,w.length<=70000)(hi:i<=ws.length)(o:∀t:Tx,Pa ws i=some t->i<ws.length->K ((d,true,.v (.string ⟨t.toArray⟩))::σ) (hset 8000 (.box (jW vw (i+1)) q) H) M)(p:Pa ws i=none->Nxt H M X q):CallX E 64 [.ptr 8000 0 0 0] d K X σ H M:=n8 (A:=λs=>[s]) 8000 GH j k rfl (λy z c=>h▸XY (i:=i) (l.le c) hi m) (λs b⟨x,n,a,e,r,f⟩=>by subst r f;exact o n (by unfold Pa;rw[a];exact e) (aI.1 a).1) λB b⟨u,g⟩=>g▸p u b
theorem Xg(g:E.P=ab)(h:aU (d<E.N)=true)(j:hget H 8000=some (.box (jW vw i) q))(k:RowM M vw 1 (ws.map dG))(hi:i<=ws.length)(l:∀t:Tx,ws[i]?=some t->i<ws.length->K ((d,true,.v (.string ⟨t.toArray⟩))::σ) (hset 8000 (.box (jW vw (i+1)) q) H) M)(m:ws[i]?=none->Nxt H M X q):CallX E 110 [.ptr 8000 0 0 0] d K X σ H M:=n8 (A:=λs=>[s]) 8000 GH h j rfl (λp r c=>g▸K5 (i:=i) (k.le c) hi) (λs b⟨x,a,n,e⟩=>by subst n e;exact l x a (aI.1 a).1) λu b⟨o,f,_⟩=>f▸m o b
end
end Go.X.Dk
namespace Go.X
open Go Go.RowKit
section
variable{E:Env}{σ:dp}{H:HS}{M:Mem}{K:KP}
theorem Jv{d:Nat}{v:ay}{s:SV}{a:xp}{ν ν2:Nat->ay}(c:aU (d<E.N)=true)(e:Slots E.N ν σ a)(b:Slots E.N ν2 [(d,true,s)] (a.put (some d) v))(g:s.conc=true):Slots E.N ν ((d,true,s)::σ) (a.put (some d) v):=by
 have h:v=s.cL ν:=by
  have f:=b.2.2 d true s (by simp[lk]);have i:d<a.tmps.size:=by rw[e.1];exact aW c
  have j:(a.put (some d) v).tmps[d]?=some v:=by simp[Act.put,i]
  rw[j,aO]at f;rw[f,dM];exact fz s g
 exact e.ml (aW c) (by rw[dM];exact h)
theorem Dg{f d:Nat}{A:SV->List SV}{oc rc tc:List SV}{C D F:Option ay}{R:SV->List SV->Mem->Prop}(n k2 m:Nat)(hA:Ctxs A)(hd:aU (d<E.N)=true)(H:(SV.concs oc&&(SV.concs rc&&SV.concs tc))=true)(L:∀(qa qb qc:Option ay)(K0:KP),(∀s c k,R s c k->K0 [(d,true,s)] [(104,.box oc qa),(264,.box rc qb),(248,.box c qc)] k)->CallK E f (A (.ptr 248 0 0 0)) d K0 [] [(104,.box oc qa),(264,.box rc qb),(248,.box tc qc)] M)(hR:∀s c k,R s c k->s.conc=true/\SV.concs c=true)(hK:∀s c k,R s c k->K ((d,true,s)::σ) [(n,.box oc C),(k2,.box rc D),(m,.box c F)] k):CallK E f (A (.ptr m 0 0 0)) d K σ [(n,.box oc C),(k2,.box rc D),(m,.box tc F)] M:=by
 simp only[ba]at H;obtain⟨I,J,S⟩:=H;intro ν a w U q;have p1:=q.holds (n,.box oc C) (by simp);have p2:=q.holds (k2,.box rc D) (by simp);have p3:=q.holds (m,.box tc F) (by simp);let i:Nat->ay:=λj=>if j=104 then ν n else if j=264 then ν k2 else if j=248 then ν m else .bool false;have n1:i 104=ν n:=by simp[i]
 have n2:i 264=ν k2:=by simp[i]
 have V:i 248=ν m:=by simp[i]
 have O:∀(X Y Z:Option ay)(c:List SV),fp i [(104,PO.box oc X),(264,PO.box rc Y),(248,PO.box c Z)]=fp ν [(n,PO.box oc C),(k2,PO.box rc D),(m,PO.box tc F)]:=λ_ _ _ _=>by simp only[fp,bK,eu,n1,n2,V]
 have tr:∀{x y:ay}{r:List SV}{t:Option ay}{ν ν':Nat->ay}{w:bQ},SV.concs r=true->x=y->(PO.box r t).jJ ν w x->(PO.box r (some y)).jJ ν' w y:=λ{x y r t ν ν' w}hc B h=>by subst B;obtain⟨⟨b,T,e1,e2⟩,_⟩:=h;exact⟨⟨b,T,e1,by rw[e2,cl (ν:=ν) (ν':=ν') r hc]⟩,λv hv=>by cases hv;rfl⟩
 have hh1:Heap E i [(104,.box oc (some (ν n))),(264,.box rc (some (ν k2))),(248,.box tc (some (ν m)))] M w:=by
  refine⟨λp P=>?_,by rw[O];exact q.nodup,by rw[O];exact q.apart,q.mem,q.below,q.le0,q.fresh,λj=>?_⟩
  ·simp only[aV,cH,fK]at P;rcases P with rfl|rfl|rfl;·rw[n1];exact tr I rfl p1
   ·rw[n2];exact tr J rfl p2
   ·rw[V];exact tr S rfl p3
  ·simp only[i];split;·exact q.one n
   ·split;·exact q.one k2
    ·split;·exact q.one m
     ·rfl
 have hl:=L (some (ν n)) (some (ν k2)) (some (ν m)) (λo G k=>∃s c,o=[(d,true,s)]/\G=[(104,.box oc (some (ν n))),(264,.box rc (some (ν k2))),(248,.box c (some (ν m)))]/\R s c k) (λs c k h=>⟨s,c,rfl,rfl,h⟩) i a w ⟨U.1,U.2.1,λj g s h=>by simp[lk]at h⟩ hh1;rw[hA (.ptr 248 0 0 0) (.ptr m 0 0 0) i ν (by simp only[SV.cL,V])]at hl;have Q:∀v W,(∃o G k,Rep E o G k (a.put (some d) v) W/\∃s c,o=[(d,true,s)]/\G=[(104,.box oc (some (ν n))),(264,.box rc (some (ν k2))),(248,.box c (some (ν m)))]/\R s c k)->∃o G k,Rep E o G k (a.put (some d) v) W/\K o G k:=by
  rintro v W⟨_,_,k,⟨u,hs2,l⟩,s,c,rfl,rfl,hr⟩;obtain⟨c1,c2⟩:=hR s c k hr;refine⟨_,_,k,⟨ν,Jv hd U hs2 c1,?_⟩,hK s c k hr⟩;have q1:=l.holds (104,.box oc (some (ν n))) (by simp);have q2:=l.holds (264,.box rc (some (ν k2))) (by simp);have q3:=l.holds (248,.box c (some (ν m))) (by simp);have m1:u 104=ν n:=q1.2 _ rfl;have m2:u 264=ν k2:=q2.2 _ rfl;have m3:u 248=ν m:=q3.2 _ rfl;have z:fp ν [(n,PO.box oc C),(k2,PO.box rc D),(m,PO.box c F)]=fp u [(104,PO.box oc (some (ν n))),(264,PO.box rc (some (ν k2))),(248,PO.box c (some (ν m)))]:=by simp only[fp,bK,eu,m1,m2,m3]
  have tb:∀{x y:ay}{r:List SV}{t t':Option ay}{ν ν':Nat->ay}{w:bQ},SV.concs r=true->x=y->Ux t' y->(PO.box r t).jJ ν w x->(PO.box r t').jJ ν' w y:=λ{x y r t t' ν ν' w}hc B ht h=>by subst B;obtain⟨⟨b,T,e1,e2⟩,_⟩:=h;exact⟨⟨b,T,e1,by rw[e2,cl (ν:=ν) (ν':=ν') r hc]⟩,ht⟩
  refine⟨λp P=>?_,by rw[z];exact l.nodup,by rw[z];exact l.apart,l.mem,l.below,l.le0,l.fresh,q.one⟩;simp only[aV,cH,fK]at P;rcases P with rfl|rfl|rfl;·exact tb I m1 p1.2 q1
  ·exact tb J m2 p2.2 q2
  ·exact tb c2 m3 p3.2 q3
 rcases hl with⟨h1,h2⟩|⟨v,W,h1,h2⟩;·exact .inl ⟨h1,h2.mono λe W⟨v,he,hx⟩=>⟨v,he,Q v W hx⟩⟩
 ·exact .inr ⟨v,W,h1,Q v W h2⟩
end
end Go.X
namespace Go.X
open Go Go.RowKit
section
variable{E:Env}{σ:dp}{H:HS}{M:Mem}{K:KP}
theorem Dh{f d:Nat}{A:SV->List SV}{oc tc:List SV}{t1 t3:Option ay}{R:SV->List SV->Mem->Prop}(n l:Nat)(hA:Ctxs A)(hd:aU (d<E.N)=true)(D:(SV.concs oc&&SV.concs tc)=true)(L:∀(qa qc:Option ay)(K0:KP),(∀s c i,R s c i->K0 [(d,true,s)] [(104,.box oc qa),(248,.box c qc)] i)->CallK E f (A (.ptr 248 0 0 0)) d K0 [] [(104,.box oc qa),(248,.box tc qc)] M)(hR:∀s c i,R s c i->s.conc=true/\SV.concs c=true)(hK:∀s c i,R s c i->K ((d,true,s)::σ) [(n,.box oc t1),(l,.box c t3)] i):CallK E f (A (.ptr l 0 0 0)) d K σ [(n,.box oc t1),(l,.box tc t3)] M:=by
 simp only[ba]at D;obtain⟨F,O⟩:=D;intro ν a w P q;have p1:=q.holds (n,.box oc t1) (by simp);have p3:=q.holds (l,.box tc t3) (by simp);let k:Nat->ay:=λj=>if j=104 then ν n else if j=248 then ν l else .bool false;have n1:k 104=ν n:=by simp[k]
 have Q:k 248=ν l:=by simp[k]
 have H:∀(S U:Option ay)(c:List SV),fp k [(104,PO.box oc S),(248,PO.box c U)]=fp ν [(n,PO.box oc t1),(l,PO.box tc t3)]:=λ_ _ _=>by simp only[fp,bK,eu,n1,Q]
 have tr:∀{x y:ay}{r:List SV}{t:Option ay}{ν ν':Nat->ay}{w:bQ},SV.concs r=true->x=y->(PO.box r t).jJ ν w x->(PO.box r (some y)).jJ ν' w y:=λ{x y r t ν ν' w}V B h=>by subst B;obtain⟨⟨b,T,W,X⟩,_⟩:=h;exact⟨⟨b,T,W,by rw[X,cl (ν:=ν) (ν':=ν') r V]⟩,λv hv=>by cases hv;rfl⟩
 have Y:Heap E k [(104,.box oc (some (ν n))),(248,.box tc (some (ν l)))] M w:=by
  refine⟨λp I=>?_,by rw[H];exact q.nodup,by rw[H];exact q.apart,q.mem,q.below,q.le0,q.fresh,λj=>?_⟩
  ·simp only[aV,cH,fK]at I;rcases I with rfl|rfl;·rw[n1];exact tr F rfl p1
   ·rw[Q];exact tr O rfl p3
  ·simp only[k];split;·exact q.one n
   ·split;·exact q.one l
    ·rfl
 have hl:=L (some (ν n)) (some (ν l)) (λo G i=>∃s c,o=[(d,true,s)]/\G=[(104,.box oc (some (ν n))),(248,.box c (some (ν l)))]/\R s c i) (λs c i h=>⟨s,c,rfl,rfl,h⟩) k a w ⟨P.1,P.2.1,λj g s h=>by simp[lk]at h⟩ Y;rw[hA (.ptr 248 0 0 0) (.ptr l 0 0 0) k ν (by simp only[SV.cL,Q])]at hl;have J:∀v u,(∃o G i,Rep E o G i (a.put (some d) v) u/\∃s c,o=[(d,true,s)]/\G=[(104,.box oc (some (ν n))),(248,.box c (some (ν l)))]/\R s c i)->∃o G i,Rep E o G i (a.put (some d) v) u/\K o G i:=by
  rintro v u⟨_,_,i,⟨C,Z,m⟩,s,c,rfl,rfl,hr⟩;obtain⟨c1,c2⟩:=hR s c i hr;refine⟨_,_,i,⟨ν,Jv hd P Z c1,?_⟩,hK s c i hr⟩;have q1:=m.holds (104,.box oc (some (ν n))) (by simp);have q3:=m.holds (248,.box c (some (ν l))) (by simp);have m1:C 104=ν n:=q1.2 _ rfl;have m3:C 248=ν l:=q3.2 _ rfl;have z:fp ν [(n,PO.box oc t1),(l,PO.box c t3)]=fp C [(104,PO.box oc (some (ν n))),(248,PO.box c (some (ν l)))]:=by simp only[fp,bK,eu,m1,m3]
  have tb:∀{x y:ay}{r:List SV}{t t':Option ay}{ν ν':Nat->ay}{w:bQ},SV.concs r=true->x=y->Ux t' y->(PO.box r t).jJ ν w x->(PO.box r t').jJ ν' w y:=λ{x y r t t' ν ν' w}V B ht h=>by subst B;obtain⟨⟨b,T,W,X⟩,_⟩:=h;exact⟨⟨b,T,W,by rw[X,cl (ν:=ν) (ν':=ν') r V]⟩,ht⟩
  refine⟨λp I=>?_,by rw[z];exact m.nodup,by rw[z];exact m.apart,m.mem,m.below,m.le0,m.fresh,q.one⟩;simp only[aV,cH,fK]at I;rcases I with rfl|rfl;·exact tb F m1 p1.2 q1
  ·exact tb c2 m3 p3.2 q3
 rcases hl with⟨h1,h2⟩|⟨v,u,h1,h2⟩;·exact .inl ⟨h1,h2.mono λe u⟨v,he,hx⟩=>⟨v,he,J v u hx⟩⟩
 ·exact .inr ⟨v,u,h1,J v u h2⟩
end
end Go.X
namespace Go.X.Th
open Go Go.X Go.RowKit Go.X.Bg Go.X.Nm Go.X.Bp Go.X.Sb Go.X.Vo Go.X.Tg
abbrev H2(qa qc:Option ay)(oc tc:List SV):HS:=[(104,.box oc qa),(248,.box tc qc)]
section
variable{N:Nat}{w0:bQ}{M0 M:Mem}{σ:dp}{K:KP}{d:Nat}{qa qc t1 t2 t3:Option ay}{oc rc:List SV}{T:TG}{b v rg:ay}{ws:List WV}
theorem SC(C:aU (d<N)=true)(j:SV.concs oc=true)(a:TgM M T b v rg ws)(D:TgR T)(u:∀x y e L,M.le L->e.map (·.2)=T.1.2->RowM L x 4 (T.1.1.map Bg.eG)->VolsM L y e->K ((d,true,.agg [.v x,.v y])::σ) (H2 qa qc oc (fh T b v rg)) L):CallK ⟨ab,N,w0,M0⟩ 132 [.ptr 248 0 0 0] d K σ (H2 qa qc oc (fh T b v rg)) M:=by
 refine dF 8000 [0,2] P6 rfl (by kernel_rfl) C (by simp only[lentB,fh,SV.concs,SV.conc,j,cK]) λR=>?_;obtain⟨A,⟨g,l,k,h⟩,S,z⟩:=T;have E:=λd=>gZ d oc j;have B:=D.st;simp only at B;obtain⟨F,G,_⟩:=lj B;have m:=gQ G;have I:=lr F;have J:ws.length=A.2.length:=by rw[<-a.vw,ae]
 have n:∀w∈ws,w.2.2.length<=32:=λw o=>(m.2 w.2 (by rw[<-a.vw];exact du o)).1;have c:=(wW b v A.1 ws M a.bag a.vols (by omega) (by omega) (λw o=>b6 (n w o) (by omega))).sS (λr H L _ h=>h.Vl);rw[a.vw]at c;simp only[fQ]at c;simp only[fh]at u;simp only[P7,fh,jO,jP,zW,seval,a.bag.dj,a.vols.row.dj,E];refine eZ (T:=λs=>s) (λ_ _=>rfl) rfl rfl c λO P p Q q t f i=>?_;simp only[jO,jP,zW,seval,fQ,f.dj,i.row.dj,j];exact u O P p Q q t f i
theorem VU(p:aU (d<N)=true)(a:SV.concs oc=true)(e:TgM M T b v rg ws)(q:TgR T)(i:∀y L,M.le L->RowM L y 2 (T.2.1.2.1.map Rv.iA)->K ((d,true,.agg [.v (.int .i64 T.2.1.1),.v y,.v (.int .i64 T.2.1.2.2.1),.v (.int .i64 T.2.1.2.2.2)])::σ) (H2 qa qc oc (fh T b v rg)) L):CallK ⟨ab,N,w0,M0⟩ 133 [.ptr 248 0 0 0] d K σ (H2 qa qc oc (fh T b v rg)) M:=by refine tw 8000 (λs=>.agg [.v (.int .i64 T.2.1.1),s,.v (.int .i64 T.2.1.2.2.1),.v (.int .i64 T.2.1.2.2.2)]) (λs w V u h=>by simp only[SV.cL,aS,h]) [0,2,3] P8 rfl (by kernel_rfl) p (by simp only[lentB,fh,SV.concs,SV.conc,a,cK]) λx=>?_;obtain⟨A,⟨g,l,k,h⟩,z,j⟩:=T;have r:=λd=>gZ d oc a;have m:=q.rv;simp only at m;have B:=Rv.C8 (Rv.gq m).2.1;obtain⟨n,o⟩:=e.regs.FL (by omega);simp only at n o;simp only[fh]at i;simp only[P9,fh,jO,jP,zW,seval,e.regs.dj,e.regs.sl,r,n,ae,a];refine⟨⟨⟨by omega,by omega⟩,o⟩,80,2,_,rfl,rfl,λy f c t=>?_⟩;simp only[im,iq,ir,jO,jP,zW,seval,a,mL _ _ oc a];exact i y f c t
theorem VV(j:Nat)(m:aU (d<N)=true)(n:SV.concs oc=true)(o:TgM M T b v rg ws)(p:TgR T)(q:∀c e a L,M.le L->a.map (·.2)=T.1.2->RowM L c 4 (T.1.1.map Bg.eG)->VolsM L e a->K ((d,true,.agg [.v c,.v e])::σ) [(j,.box oc t1),(248,.box (fh T b v rg) t3)] L):CallK ⟨ab,N,w0,M0⟩ 132 [.ptr 248 0 0 0] d K σ [(j,.box oc t1),(248,.box (fh T b v rg) t3)] M:=Dh (A:=λs=>[s]) (oc:=oc) (tc:=fh T b v rg) (R:=λs f L=>∃c e a,((M.le L/\a.map (·.2)=T.1.2)/\RowM L c 4 (T.1.1.map Bg.eG)/\VolsM L e a)/\s=.agg [.v c,.v e]/\f=fh T b v rg) j 248 (λs w V u h=>by simp only[aS,h]) m (by rw[n];rfl) (λqa qc x h=>SC m n o p (λc e a L g i k l=>h _ _ _ ⟨c,e,a,⟨⟨g,i⟩,k,l⟩,rfl,rfl⟩)) (λs f L⟨c,e,a,_,g,i⟩=>by subst g i;exact⟨rfl,rfl⟩) (λs f L⟨c,e,a,⟨⟨k,l⟩,r,t⟩,g,i⟩=>by subst g i;exact q c e a L k l r t)
theorem VW(j k2:Nat)(m:aU (d<N)=true)(n:SV.concs oc=true)(o:SV.concs rc=true)(p:TgM M T b v rg ws)(q:TgR T)(r:∀c e a L,M.le L->a.map (·.2)=T.1.2->RowM L c 4 (T.1.1.map Bg.eG)->VolsM L e a->K ((d,true,.agg [.v c,.v e])::σ) [(j,.box oc t1),(k2,.box rc t2),(248,.box (fh T b v rg) t3)] L):CallK ⟨ab,N,w0,M0⟩ 132 [.ptr 248 0 0 0] d K σ [(j,.box oc t1),(k2,.box rc t2),(248,.box (fh T b v rg) t3)] M:=Dg (A:=λs=>[s]) (oc:=oc) (rc:=rc) (tc:=fh T b v rg) (R:=λs f L=>∃c e a,((M.le L/\a.map (·.2)=T.1.2)/\RowM L c 4 (T.1.1.map Bg.eG)/\VolsM L e a)/\s=.agg [.v c,.v e]/\f=fh T b v rg) j k2 248 (λs x V u h=>by simp only[aS,h]) m (by rw[n,o];rfl) (λqa y qc z h=>VN m n o p q (λc e a L g i k l=>h _ _ _ ⟨c,e,a,⟨⟨g,i⟩,k,l⟩,rfl,rfl⟩)) (λs f L⟨c,e,a,_,g,i⟩=>by subst g i;exact⟨rfl,rfl⟩) (λs f L⟨c,e,a,⟨⟨k,l⟩,t,w⟩,g,i⟩=>by subst g i;exact r c e a L k l t w)
theorem YJ(f:Nat)(g:aU (d<N)=true)(i:SV.concs oc=true)(j:TgM M T b v rg ws)(k:TgR T)(l:∀y L,M.le L->RowM L y 2 (T.2.1.2.1.map Rv.iA)->K ((d,true,.agg [.v (.int .i64 T.2.1.1),.v y,.v (.int .i64 T.2.1.2.2.1),.v (.int .i64 T.2.1.2.2.2)])::σ) [(f,.box oc t1),(248,.box (fh T b v rg) t3)] L):CallK ⟨ab,N,w0,M0⟩ 133 [.ptr 248 0 0 0] d K σ [(f,.box oc t1),(248,.box (fh T b v rg) t3)] M:=Dh (A:=λs=>[s]) (oc:=oc) (tc:=fh T b v rg) (R:=λs a L=>∃y,(M.le L/\RowM L y 2 (T.2.1.2.1.map Rv.iA))/\s=.agg [.v (.int .i64 T.2.1.1),.v y,.v (.int .i64 T.2.1.2.2.1),.v (.int .i64 T.2.1.2.2.2)]/\a=fh T b v rg) f 248 (λs o V u h=>by simp only[aS,h]) g (by rw[i];rfl) (λqa qc p h=>VU g i j k (λy L c e=>h _ _ _ ⟨y,⟨c,e⟩,rfl,rfl⟩)) (λs a L⟨y,_,c,e⟩=>by subst c e;exact⟨rfl,rfl⟩) (λs a L⟨y,⟨m,n⟩,c,e⟩=>by subst c e;exact l y L m n)
theorem YK(f k2:Nat)(g:aU (d<N)=true)(i:SV.concs oc=true)(j:SV.concs rc=true)(k:TgM M T b v rg ws)(l:TgR T)(m:∀y L,M.le L->RowM L y 2 (T.2.1.2.1.map Rv.iA)->K ((d,true,.agg [.v (.int .i64 T.2.1.1),.v y,.v (.int .i64 T.2.1.2.2.1),.v (.int .i64 T.2.1.2.2.2)])::σ) [(f,.box oc t1),(k2,.box rc t2),(248,.box (fh T b v rg) t3)] L):CallK ⟨ab,N,w0,M0⟩ 133 [.ptr 248 0 0 0] d K σ [(f,.box oc t1),(k2,.box rc t2),(248,.box (fh T b v rg) t3)] M:=Dg (A:=λs=>[s]) (oc:=oc) (rc:=rc) (tc:=fh T b v rg) (R:=λs a L=>∃y,(M.le L/\RowM L y 2 (T.2.1.2.1.map Rv.iA))/\s=.agg [.v (.int .i64 T.2.1.1),.v y,.v (.int .i64 T.2.1.2.2.1),.v (.int .i64 T.2.1.2.2.2)]/\a=fh T b v rg) f k2 248 (λs p V u h=>by simp only[aS,h]) g (by rw[i,j];rfl) (λqa q qc r h=>YF g i j k l (λy L c e=>h _ _ _ ⟨y,⟨c,e⟩,rfl,rfl⟩)) (λs a L⟨y,_,c,e⟩=>by subst c e;exact⟨rfl,rfl⟩) (λs a L⟨y,⟨n,o⟩,c,e⟩=>by subst c e;exact m y L n o)
end
end Go.X.Th
