/- Contracts of functions and the logic that they are proved in (4 texts in one). Conditions: none. -/
import Derived.StillTail
import Derived.Test.YthafjlokddpjfaaGreatDoorMg4
import Derived.OrdersHeld
set_option linter.unusedSimpArgs false
set_option linter.unusedVariables false
set_option maxHeartbeats 4000000
set_option maxRecDepth 20000
namespace Go.X
open Go Go.RowKit

section
variable {P:Program} {ops:Array Oper} {md:Region.Mode} {C:World→Prop}

/-- whatever order the head comes up in -/
def headQ (P:Program) (md:Region.Mode) (ops:Array Oper) (C:World→Prop) (n:Nat) (L:Array Bool→Act→Prop):Nat→Array Bool→Act→Prop
 | 0,listed,a=>L listed a
 | f+1,listed,a=>Region.ready md ops listed≠[] ∧ ∀ i ∈ Region.ready md ops listed,i < n∧qOp P ops C i (headQ P md ops C n L f (listed.setIfInBounds i true)) a

theorem headQ_any {n g:Nat} {L:Array Bool→Act→Prop} {Q:Exit→Act→World→Prop} (hL : ∀ listed a w,C w→L listed a→wpAny P md ops Q g listed a w) :
  ∀ (f:Nat) (listed:Array Bool) (a:Act) (w:World),C w→headQ P md ops C n L f listed a→wpAny P md ops Q (f+g) listed a w
 | 0,listed,a,w,hw,h=>by rw [Nat.zero_add]; exact hL _ _ _ hw h
 | f+1,listed,a,w,hw,h=>by
   rw [show f+1+g=(f+g)+1 by omega]
   exact ⟨fun h0=>absurd h0 h.1,fun i hi=>wpOp_of_qOp hw (fun a' w' hw' h'=>headQ_any hL f _ a' w' hw' h') (h.2 i hi).2⟩

theorem headQ_first {n i:Nat} {oi:Oper} {v:Value} {L:Array Bool→Act→Prop} (hi:ops[i]? = some oi) (hsel : ∀ (j:Nat) (o:Oper) cs b,ops[j]? = some o→o.op ≠ .select cs b)
  (hs:Region.sinkB md ops n=true) (hc:Region.chainB md ops n=true) (hn:n < ops.size) (hin:i < n)
  (hdone : ∀ listed a,L listed a → ∀ j ∈ Region.ready md ops listed,n≤j) :
  ∀ (f:Nat) (listed:Array Bool) (a:Act),HeadInv md ops n listed →
    (∀ j oj,ops[j]? = some oj→j≠i→listed.getD j true=false→(∀ e ∈ oj.after,Region.binds md e=true→e.on≠i)→oi.apart ops oj=true) →
    i ∈ Region.ready md ops listed→YieldsIn P ops C oi v a →
    headQ P md ops C n L f (listed.setIfInBounds i true) (a.put oi.dst v)→headQ P md ops C n L (f+1) listed a:=by
 intro f
 induction f with
 | zero=>
   intro listed a inv _ hr hy K
   have hun:=(mem_ready.1 hr).1
   refine ⟨fun h=>(by rw [h] at hr; cases hr),fun j hj=>?_⟩
   have hjn:j < n:=by
    rcases Nat.lt_or_ge j n with h | h
    · exact h
    · exact absurd hj (tail_waits hs hc hn inv _ i rfl hin hun j h)
   refine ⟨hjn,?_⟩
   by_cases hji:j=i
   · subst hji; exact hy.qOp hi K
   · have:=hdone _ _ K j (ready_mono hj hji)
     omega
 | succ f ih=>
   intro listed a inv hfree hr hy K
   have hun:=(mem_ready.1 hr).1
   refine ⟨fun h=>(by rw [h] at hr; cases hr),fun j hj=>?_⟩
   have hjn:j < n:=by
    rcases Nat.lt_or_ge j n with h | h
    · exact h
    · exact absurd hj (tail_waits hs hc hn inv _ i rfl hin hun j h)
   refine ⟨hjn,?_⟩
   by_cases hji:j=i
   · subst hji; exact hy.qOp hi K
   · have h1:=(K.2 j (ready_mono hj hji)).2
     obtain ⟨hjun,oj,hoj,hall⟩:=mem_ready.1 hj
     have hnot : ∀ e ∈ oj.after,Region.binds md e=true→e.on≠i:=fun e he hb heq=>by
      have h1:=hall e he hb
      rw [heq,getD_both hun] at h1
      cases h1
     have h2:=qOp_put hoj (hfree j oj hoj hji hjun hnot) (fun cs b=>hsel i oi cs b hi) (fun cs b=>hsel j oj cs b hoj) hy h1
     have hfree' : ∀ k ok,ops[k]? = some ok→k≠i→(listed.setIfInBounds j true).getD k true=false →
       (∀ e ∈ ok.after,Region.binds md e=true→e.on≠i)→oi.apart ops ok=true:=fun k ok hk hki hun hno=>by
      refine hfree k ok hk hki ?_ hno
      by_cases hjk:j=k
      · subst hjk; exact hjun
      · rw [getD_set_ne true hjk] at hun; exact hun
     refine qOp_mono (fun a' h3=>ih (listed.setIfInBounds j true) a' (inv.set hj hjn) hfree' (ready_mono hr (Ne.symm hji)) h3.1 ?_) h2
     rw [Array.setIfInBounds_comm _ _ hji]
     exact h3.2

theorem headQ_lex {n g:Nat} {Lq:Act→Prop} (hsel:Region.noSelect ops=true) (hs:Region.sinkB md ops n=true) (hc:Region.chainB md ops n=true) (hn:n < ops.size) :
  ∀ (l:List Oper) (k:Nat) (listed:Array Bool) (a:Act),(∀ j,j < l.length→l[j]? = ops[k+j]?)→k+l.length=n→HeadInv md ops n listed →
  Region.lexHead md ops g l.length k listed=true→wpQuiet P ops C Lq l a →
  headQ P md ops C n (fun listed' a'=>Region.seqB md ops g n listed'=true∧Lq a') l.length listed a
 | [],k,listed,a,_,hk,_,hB,h=>by
   have:k=n:=by simpa using hk
   subst this
   exact ⟨by simpa [Region.lexHead] using hB,h⟩
 | o :: l,k,listed,a,hl,hk,inv,hB,h=>by
   have h0:ops[k]? = some o:=by simpa using (hl 0 (by simp)).symm
   simp only [List.length_cons,Region.lexHead,Bool.and_eq_true] at hB
   obtain ⟨⟨hr,hf⟩,hB'⟩:=hB
   have hkn:k < n:=by simp only [List.length_cons] at hk; omega
   have hr':k ∈ Region.ready md ops listed:=by simpa using hr
   have hst:qOp P ops C k (wpQuiet P ops C Lq l) a:=by unfold qOp; simp only [h0]; exact h
   obtain ⟨v,hy,hK⟩:=yieldsIn_of_qOp h0 hst
   exact headQ_first h0 (Region.noSelect_spec hsel) hs hc hn hkn (fun listed' a' hL=>seqB_ready hL.1) l.length listed a inv (Region.free_spec h0 hf) hr' hy
    (headQ_lex hsel hs hc hn l (k+1) _ _ (fun j hj=>by have:=hl (j+1) (by simp; omega); simpa [Nat.add_assoc,Nat.add_comm 1 j] using this) (by simp only [List.length_cons] at hk; omega) (inv.set hr' hkn) hB' hK)

theorem wp_region_tail {id:Nat} {Q:Exit→Act→World→Prop} {a:Act} {w:World} (n:Nat) (hm:P.follows .mixedOrders=true) (hB:Region.lexTailB .any ops n=true) (hC:C { w with drawn:=w.drawn+1 })
  (h:wpQuiet P ops C (fun a'=>∀ w',C w'→wpList P ops Q (ops.toList.drop n) a' w') (ops.toList.take n) a):(Code.region id ops true).wp P Q a w:=by
 simp only [Region.lexTailB,Bool.and_eq_true,decide_eq_true_eq] at hB
 obtain ⟨⟨⟨⟨hsel,hn⟩,hs⟩,hc⟩,hlex⟩:=hB
 have hn':n < ops.toList.length:=by simpa using hn
 have htl:(ops.toList.take n).length=n:=by rw [List.length_take]; omega
 have hdl:(ops.toList.drop n).length=ops.size - n:=by simp
 have inv0:HeadInv .any ops n (Array.replicate ops.size false):=
  ⟨by simp,fun j oj _ hl=>(by rw [getD_replicate_false] at hl; cases hl),fun t _ ht=>getD_in (by simpa using ht) (getD_replicate_false _ _)⟩
 have K:=headQ_lex (md:=.any) (C:=C) (g:=ops.size - n) hsel hs hc hn (ops.toList.take n) 0 _ a (fun j hj=>by
  have hj':j < n:=by rw [htl] at hj; exact hj
  rw [List.getElem?_take,if_pos hj',Nat.zero_add,Array.getElem?_toList]) (by simpa using htl) inv0 (by rw [htl]; exact hlex) h
 refine wp_region_any hm ?_
 have:=headQ_any (C:=C) (Q:=Q) (g:=ops.size - n) (fun listed a' w' hw' hL=>by
  have:=wpAny_of_seq (md:=.any) (Q':=Q) (ops.toList.drop n) n listed a' w' (fun j=>by rw [List.getElem?_drop,Array.getElem?_toList]) (by rw [hdl]; exact hL.1) (hL.2 w' hw')
  rwa [hdl] at this) _ _ _ _ hC K
 rw [htl,show n+(ops.size - n)=ops.size by omega] at this
 exact this
end

section
variable {E:Env} {σ:Sig} {H:HS} {M:Mem}
/-- .. the first n operations are quiet, the others follow in their order -/
theorem DrawK.tail {id:Nat} {ops:Array Oper} {K:KP} (n:Nat) (hm:E.P.follows .mixedOrders=true) (hB:Region.lexTailB .any ops n=true)
  (h:wpQ E ops.toList (wpR E ops.toList K (ops.toList.drop n)) (ops.toList.take n) σ H M):DrawK E id ops K σ H M:=by
 rintro a w ⟨ν,hs,hh⟩
 refine wp_region_tail (C:=fun w'=>Heap E ν H M w') n hm hB (hh.grow ((Below.refl _ _).drew)) ?_
 have:=wpQ_sound (E:=E) (ops:=ops.toList) (K:=wpR E ops.toList K (ops.toList.drop n)) (Nx:=fun a'=>∀ w',Heap E ν H M w'→wpList E.P ops (fun e a w=>e=Exit.normal ∧ ∃ σ H M,Rep E σ H M a w∧K σ H M) (ops.toList.drop n) a' w')
  (fun σ a hs hk w' hw'=>by
    have:=wpR_sound (E:=E) (ops:=ops.toList) (K:=K) (Q:=fun e a w=>e=Exit.normal ∧ ∃ σ H M,Rep E σ H M a w∧K σ H M) (fun σ H M a w hr hk=>⟨rfl,σ,H,M,hr,hk⟩) (ops.toList.drop n) σ H M a w' ⟨ν,hs,hw'⟩ hk
    simpa using this) (fun w'=>Heap E ν H M w') (fun _ h=>h) (fun w w' h hb=>h.grow hb) w hh (ops.toList.take n) σ a hs h
 simpa using this

/-! ### closures over boxes of the call's own -/
def tieH (xs:Nat→Value):HS→HS
 | []=>[]
 | (k,.box cs _) :: H=>(k,.box cs (some (xs k))) :: tieH xs H
 | (k,.row sz es) :: H=>(k,.row sz es) :: tieH xs H
 | (k,.tab sz es) :: H=>(k,.tab sz es) :: tieH xs H
 | (k,.mp es) :: H=>(k,.mp es) :: tieH xs H
def untieH:HS→HS
 | []=>[]
 | (k,.box cs _) :: H=>(k,.box cs none) :: untieH H
 | (k,.row sz es) :: H=>(k,.row sz es) :: untieH H
 | (k,.tab sz es) :: H=>(k,.tab sz es) :: untieH H
 | (k,.mp es) :: H=>(k,.mp es) :: untieH H
def allBox:HS→Bool
 | []=>true
 | (_,.box _ _) :: H=>allBox H
 | (_,.row _ _) :: _=>false
 | (_,.tab _ _) :: _=>false
 | (_,.mp _) :: _=>false
def tiedH (xs:Nat→Value):HS→Prop
 | []=>True
 | (k,.box cs t) :: H=>(t=some (xs k)∧SV.concs cs=true)∧tiedH xs H
 | (_,.row _ _) :: _=>False
 | (_,.tab _ _) :: _=>False
 | (_,.mp _) :: _=>False

theorem tieH_mem {xs:Nat→Value} : ∀ {H:HS} {q:Nat×PO},allBox H=true→q ∈ tieH xs H → ∃ cs t,(q.1,PO.box cs t) ∈ H∧q.2 = .box cs (some (xs q.1))
 | [],q,_,h=>by simp [tieH] at h
 | (k,.box cs t) :: H,q,hb,h=>by
  simp only [tieH] at h
  rcases List.mem_cons.1 h with rfl | h
  · exact ⟨cs,t,List.mem_cons_self,rfl⟩
  · obtain ⟨cs',t',h1,h2⟩:=tieH_mem (H:=H) hb h
    exact ⟨cs',t',List.mem_cons_of_mem _ h1,h2⟩
 | (k,.row _ _) :: H,q,hb,h=>by cases hb
 | (k,.tab _ _) :: H,q,hb,h=>by cases hb
 | (k,.mp _) :: H,q,hb,h=>by cases hb
theorem tieH_fp (ν:Nat→Value) (xs:Nat→Value) : ∀ H:HS,fp ν (tieH xs H)=fp ν H
 | []=>rfl
 | (k,.box cs t) :: H=>by
  have:=tieH_fp ν xs H
  simp only [tieH,fp,List.filterMap_cons] at this ⊢
  rw [this]
 | (k,.row _ _) :: H=>by
  have:=tieH_fp ν xs H
  simp only [tieH,fp,List.filterMap_cons] at this ⊢
  rw [this]
 | (k,.tab _ _) :: H=>by
  have:=tieH_fp ν xs H
  simp only [tieH,fp,List.filterMap_cons] at this ⊢
  rw [this]
 | (k,.mp _) :: H=>by
  have:=tieH_fp ν xs H
  simp only [tieH,fp,List.filterMap_cons] at this ⊢
  rw [this]
theorem untieH_mem {xs:Nat→Value} : ∀ {H:HS} {q:Nat×PO},tiedH xs H→q ∈ untieH H → ∃ cs,(q.1,PO.box cs (some (xs q.1))) ∈ H∧q.2 = .box cs none∧SV.concs cs=true
 | [],q,_,h=>by simp [untieH] at h
 | (k,.box cs t) :: H,q,hb,h=>by
  simp only [untieH] at h
  obtain ⟨⟨rfl,hc⟩,hb⟩:=hb
  rcases List.mem_cons.1 h with rfl | h
  · exact ⟨cs,List.mem_cons_self,rfl,hc⟩
  · obtain ⟨cs',h1,h2⟩:=untieH_mem (H:=H) hb h
    exact ⟨cs',List.mem_cons_of_mem _ h1,h2⟩
 | (k,.row _ _) :: H,q,hb,h=>hb.elim
 | (k,.tab _ _) :: H,q,hb,h=>hb.elim
 | (k,.mp _) :: H,q,hb,h=>hb.elim
theorem untieH_fp {ν ν':Nat→Value} : ∀ {H:HS},(∀ q ∈ H,ν q.1=ν' q.1)→fp ν (untieH H)=fp ν' H
 | [],_=>rfl
 | (k,.box cs t) :: H,h=>by
  have:=untieH_fp (H:=H) (fun q hq=>h q (List.mem_cons_of_mem _ hq))
  have h0:=h _ List.mem_cons_self
  simp only [untieH,fp,List.filterMap_cons] at this h0 ⊢
  rw [this,h0]
 | (k,.row _ _) :: H,h=>by
  have:=untieH_fp (H:=H) (fun q hq=>h q (List.mem_cons_of_mem _ hq))
  have h0:=h _ List.mem_cons_self
  simp only [untieH,fp,List.filterMap_cons] at this h0 ⊢
  rw [this,h0]
 | (k,.tab _ _) :: H,h=>by
  have:=untieH_fp (H:=H) (fun q hq=>h q (List.mem_cons_of_mem _ hq))
  have h0:=h _ List.mem_cons_self
  simp only [untieH,fp,List.filterMap_cons] at this h0 ⊢
  rw [this,h0]
 | (k,.mp _) :: H,h=>by
  have:=untieH_fp (H:=H) (fun q hq=>h q (List.mem_cons_of_mem _ hq))
  have h0:=h _ List.mem_cons_self
  simp only [untieH,fp,List.filterMap_cons] at this h0 ⊢
  rw [this,h0]
theorem tiedH_mem {xs:Nat→Value} : ∀ {H:HS} {q:Nat×PO},tiedH xs H→q ∈ H → ∃ cs,q.2 = .box cs (some (xs q.1))
 | (k,.box cs t) :: H,q,hb,h=>by
  obtain ⟨⟨rfl,hc⟩,hb⟩:=hb
  rcases List.mem_cons.1 h with rfl | h
  · exact ⟨cs,rfl⟩
  · exact tiedH_mem hb h
 | (k,.row _ _) :: H,q,hb,h=>hb.elim
 | (k,.tab _ _) :: H,q,hb,h=>hb.elim
 | (k,.mp _) :: H,q,hb,h=>hb.elim
 | [],q,_,h=>by simp at h

/-- a call of a closure that reads and writes boxes of the caller's own: its body is walked in the caller's private heap -/
theorem CallK.boxes {f d:Nat} {fn:Func} {c:Code} {l:List SV} {K:KP} (live:List Nat) (hf:E.P.funcs[f]? = some fn) (hb:fn.body=some c) (hn:okFn fn l.length=true) (hd:decide (d < E.N)=true) (hH:allBox H=true)
  (h : ∀ xs:Nat→Value,wpC ⟨E.P,fn.ntmps,E.w0,E.M0⟩ live c (RetK E.P fn.results.toList (fun s H' M'=>(s.conc=true∧tiedH xs H')∧K ((d,true,s) :: σ) (untieH H') M')) (params fn.ntmps 0 l) (tieH xs H) M) :
  CallK E f l d K σ H M:=by
 intro ν a w hs hh
 simp only [okFn,Bool.and_eq_true,Bool.not_eq_true',decide_eq_true_eq] at hn
 refine .inl ⟨⟨fn,hf,hn.1.1,hn.1.2⟩,?_⟩
 refine calls_of_wp hf hb ?_
 have hlen:(SV.vals ν l).length=l.length:=by rw [SV.vals_map]; simp
 have hheap:Heap ⟨E.P,fn.ntmps,E.w0,E.M0⟩ ν (tieH ν H) M w:=by
  refine ⟨fun q hq=>?_,by rw [tieH_fp]; exact hh.nodup,by rw [tieH_fp]; exact hh.apart,hh.mem,hh.below,hh.le0,hh.fresh,hh.one⟩
  obtain ⟨cs,t,h1,h2⟩:=tieH_mem hH hq
  have:=hh.holds _ h1
  rw [h2]
  obtain ⟨h3,_⟩:=this
  exact ⟨h3,fun v hv=>by cases hv; rfl⟩
 refine Code.wp_mono ?_ (wpC_sound c _ _ _ _ (h ν) _ w ⟨ν,⟨?_,rfl,?_⟩,hheap⟩)
 · rintro e a' w' ⟨σ',H',M',⟨ν',hs',hh'⟩,hq⟩
   have key:(match rsvs E.P σ' H' M' fn.results.toList with | some (ss,C)=>C∧((one? ss).conc=true∧tiedH ν H')∧K ((d,true,one? ss) :: σ) (untieH H') M' | none=>False) →
     a'.defers=[] ∧ ∃ v,(results fn a'.tmps).run E.P w' = .ok v w' ∧ ∃ v',Ending.returned v = .returned v' ∧ ∃ σ'' H'' M'',Rep E σ'' H'' M'' (a.put (some d) v') w'∧K σ'' H'' M'':=by
    intro hq
    split at hq
    · rename_i ss C hr
      obtain ⟨hC,⟨hc,ht⟩,hK⟩:=hq
      refine ⟨hs'.2.1,_,results_sound hs' hh' hr hC,_,rfl,_,_,_,⟨ν,?_,?_⟩,hK⟩
      · exact hs.put (of_decide_eq_true hd) (by rw [SV.conc_val (ν:=ν') (ν':=ν) _ hc]; rfl)
      · have heq : ∀ q ∈ H',ν q.1=ν' q.1:=fun q hq=>by
         obtain ⟨cs,h2⟩:=tiedH_mem ht hq
         have h3:=hh'.holds q hq
         rw [h2] at h3
         exact (h3.2 _ rfl).symm
        refine ⟨fun q hq=>?_,by rw [untieH_fp heq]; exact hh'.nodup,by rw [untieH_fp heq]; exact hh'.apart,hh'.mem,hh'.below,hh'.le0,hh'.fresh,hh.one⟩
        obtain ⟨cs,h1,h2,h3⟩:=untieH_mem ht hq
        obtain ⟨⟨b,T,e1,e2⟩,e3⟩:=hh'.holds _ h1
        rw [h2]
        refine ⟨⟨b,T,?_,?_⟩,fun _ h=>by cases h⟩
        · rw [heq _ h1]; exact e1
        · rw [SV.concs_vals (ν:=ν') (ν':=ν) cs h3]; exact e2
    · exact hq.elim
   cases e with
   | normal=>exact key hq
   | ret=>exact key hq
   | _=>exact hq.elim
 · simp only [Array.size_append,List.size_toArray,Array.size_replicate,hlen]; omega
 · intro k g s hk
   obtain ⟨i,rfl,hg,hi⟩:=lk_params hk
   simp only at hg hi
   subst hg
   have hlt:i < l.length:=(List.getElem?_eq_some_iff.1 hi).1
   rw [Array.getElem?_append_left (by simp only [List.size_toArray,hlen]; omega),List.getElem?_toArray,SV.vals_map,List.getElem?_map,Nat.zero_add,hi]
   rfl

/-! ### the same, the boxes under other keys: the callee may lay boxes and rows of its own -/
mutual
def SV.sh (B:Nat):SV→SV
 | .v x=>.v x
 | .own k=>.own (k+B)
 | .ptr k sz i off=>.ptr (k+B) sz i off
 | .ea x a b c=>.ea x a b c
 | .agg l=>.agg (SV.shs B l)
 | .tup l=>.tup (SV.shs B l)
 | .fn f l=>.fn f (SV.shs B l)
def SV.shs (B:Nat):List SV→List SV
 | []=>[]
 | s :: l=>SV.sh B s :: SV.shs B l
end
def shN (B:Nat) (ν:Nat→Value):Nat→Value:=fun j=>if B≤j then ν (j - B) else ν j
theorem shN_at (B:Nat) (ν:Nat→Value) (k:Nat):shN B ν (k+B)=ν k:=by
 unfold shN
 rw [if_pos (by omega),Nat.add_sub_cancel]
mutual
theorem SV.sh_val {B:Nat} {ν:Nat→Value} : ∀ s:SV,(s.sh B).val (shN B ν)=s.val ν
 | .v _=>rfl
 | .own k=>by simp only [SV.sh,SV.val,shN_at]
 | .ptr k sz i off=>by simp only [SV.sh,SV.val,shN_at]
 | .ea _ _ _ _=>rfl
 | .agg l=>by simp only [SV.sh,SV.val,SV.shs_vals l]
 | .tup l=>by simp only [SV.sh,SV.val,SV.shs_vals l]
 | .fn f l=>by simp only [SV.sh,SV.val,SV.shs_vals l]
theorem SV.shs_vals {B:Nat} {ν:Nat→Value} : ∀ l:List SV,SV.vals (shN B ν) (SV.shs B l)=SV.vals ν l
 | []=>rfl
 | s :: l=>by simp only [SV.shs,SV.vals,SV.sh_val s,SV.shs_vals l]
end
theorem SV.shs_len (B:Nat) : ∀ l:List SV,(SV.shs B l).length=l.length
 | []=>rfl
 | s :: l=>by simp only [SV.shs,List.length_cons,SV.shs_len B l]

def lentH (B:Nat) (xs:Nat→Value):HS→HS
 | []=>[]
 | (k,.box cs _) :: H=>(k+B,.box cs (some (xs k))) :: lentH B xs H
 | (_,.row _ _) :: H=>lentH B xs H
 | (_,.tab _ _) :: H=>lentH B xs H
 | (_,.mp _) :: H=>lentH B xs H
def lentB:HS→Bool
 | []=>true
 | (_,.box cs _) :: H=>SV.concs cs && lentB H
 | (_,.row _ _) :: _=>false
 | (_,.tab _ _) :: _=>false
 | (_,.mp _) :: _=>false
/-- what comes back -/
def backC (xs:Nat→Value) (k:Nat) (t:Option Value) (r:HS×Prop):Option PO→HS×Prop
 | some (.box cs t')=>((k,.box cs t) :: r.1,(t'=some (xs k)∧SV.concs cs=true)∧r.2)
 | _=>([],False)
def backH (B:Nat) (xs:Nat→Value) (H':HS):HS→HS×Prop
 | []=>([],True)
 | (k,.box _ t) :: H=>backC xs k t (backH B xs H' H) (hget H' (k+B))
 | (_,.row _ _) :: _=>([],False)
 | (_,.tab _ _) :: _=>([],False)
 | (_,.mp _) :: _=>([],False)

theorem lentH_mem {B:Nat} {xs:Nat→Value} : ∀ {H:HS} {q:Nat×PO},lentB H=true→q ∈ lentH B xs H → ∃ k cs t,(k,PO.box cs t) ∈ H∧q=(k+B,.box cs (some (xs k)))∧SV.concs cs=true
 | [],q,_,h=>by simp [lentH] at h
 | (k,.box cs t) :: H,q,hb,h=>by
  simp only [lentB,Bool.and_eq_true] at hb
  simp only [lentH] at h
  rcases List.mem_cons.1 h with rfl | h
  · exact ⟨k,cs,t,List.mem_cons_self,rfl,hb.1⟩
  · obtain ⟨k',cs',t',h1,h2⟩:=lentH_mem (H:=H) hb.2 h
    exact ⟨k',cs',t',List.mem_cons_of_mem _ h1,h2⟩
 | (k,.row _ _) :: H,q,hb,h=>by cases hb
 | (k,.tab _ _) :: H,q,hb,h=>by cases hb
 | (k,.mp _) :: H,q,hb,h=>by cases hb
theorem lentH_fp (B:Nat) (ν:Nat→Value) (xs:Nat→Value) : ∀ H:HS,lentB H=true→fp (shN B ν) (lentH B xs H)=fp ν H
 | [],_=>rfl
 | (k,.box cs t) :: H,hb=>by
  simp only [lentB,Bool.and_eq_true] at hb
  have:=lentH_fp B ν xs H hb.2
  simp only [lentH,fp,List.filterMap_cons,shN_at] at this ⊢
  rw [this]
 | (k,.row _ _) :: H,hb=>by cases hb
 | (k,.tab _ _) :: H,hb=>by cases hb
 | (k,.mp _) :: H,hb=>by cases hb
theorem backH_mem {B:Nat} {xs:Nat→Value} {H':HS} : ∀ {H:HS} {q:Nat×PO},(backH B xs H' H).2→q ∈ (backH B xs H' H).1 → ∃ cs t,q.2 = .box cs t∧(q.1+B,PO.box cs (some (xs q.1))) ∈ H'∧SV.concs cs=true ∧ ∃ cs0,(q.1,PO.box cs0 t) ∈ H
 | [],q,_,h=>by simp [backH] at h
 | (k,.box cs0 t) :: H,q,hb,h=>by
  simp only [backH] at hb h
  cases hg:hget H' (k+B) with
  | none=>rw [hg] at hb; exact hb.elim
  | some p=>
    rw [hg] at hb h
    cases p with
    | row _ _=>exact hb.elim
    | tab _ _=>exact hb.elim
    | mp _=>exact hb.elim
    | box cs t'=>
      simp only [backC] at hb h
      obtain ⟨⟨rfl,hc⟩,hb⟩:=hb
      rcases List.mem_cons.1 h with rfl | h
      · exact ⟨cs,t,rfl,hget_mem hg,hc,cs0,List.mem_cons_self⟩
      · obtain ⟨cs',t2,h1,h2,h3,cs1,h4⟩:=backH_mem (H:=H) hb h
        exact ⟨cs',t2,h1,h2,h3,cs1,List.mem_cons_of_mem _ h4⟩
 | (k,.row _ _) :: H,q,hb,h=>hb.elim
 | (k,.tab _ _) :: H,q,hb,h=>hb.elim
 | (k,.mp _) :: H,q,hb,h=>hb.elim
theorem backH_fp {B:Nat} {xs:Nat→Value} {H':HS} (ν:Nat→Value) : ∀ {H:HS},(backH B xs H' H).2→fp ν (backH B xs H' H).1=fp ν H
 | [],_=>rfl
 | (k,.box cs0 t) :: H,hb=>by
  simp only [backH] at hb ⊢
  cases hg:hget H' (k+B) with
  | none=>rw [hg] at hb; exact hb.elim
  | some p=>
    rw [hg] at hb
    cases p with
    | row _ _=>exact hb.elim
    | tab _ _=>exact hb.elim
    | mp _=>exact hb.elim
    | box cs t'=>
      simp only [backC] at hb ⊢
      have:=backH_fp ν (H:=H) hb.2
      simp only [fp,List.filterMap_cons] at this ⊢
      rw [this]
 | (k,.row _ _) :: H,hb=>hb.elim
 | (k,.tab _ _) :: H,hb=>hb.elim
 | (k,.mp _) :: H,hb=>hb.elim

theorem CallK.lendB (B:Nat) {f d:Nat} {fn:Func} {c:Code} {l:List SV} {K:KP} (live:List Nat) (hf:E.P.funcs[f]? = some fn) (hb:fn.body=some c) (hn:okFn fn l.length=true) (hd:decide (d < E.N)=true) (hH:lentB H=true)
  (h : ∀ xs:Nat→Value,wpC ⟨E.P,fn.ntmps,E.w0,E.M0⟩ live c (RetK E.P fn.results.toList (fun s H' M'=>(s.conc=true∧(backH B xs H' H).2)∧K ((d,true,s) :: σ) (backH B xs H' H).1 M')) (params fn.ntmps 0 (SV.shs B l)) (lentH B xs H) M) :
  CallK E f l d K σ H M:=by
 intro ν a w hs hh
 simp only [okFn,Bool.and_eq_true,Bool.not_eq_true',decide_eq_true_eq] at hn
 refine .inl ⟨⟨fn,hf,hn.1.1,hn.1.2⟩,?_⟩
 refine calls_of_wp hf hb ?_
 rw [← SV.shs_vals (B:=B) (ν:=ν) l]
 have hlen:(SV.vals (shN B ν) (SV.shs B l)).length=l.length:=by rw [SV.vals_map,List.length_map,SV.shs_len]
 have hheap:Heap ⟨E.P,fn.ntmps,E.w0,E.M0⟩ (shN B ν) (lentH B ν H) M w:=by
  refine ⟨fun q hq=>?_,by rw [lentH_fp B ν ν H hH]; exact hh.nodup,by rw [lentH_fp B ν ν H hH]; exact hh.apart,hh.mem,hh.below,hh.le0,hh.fresh,fun j=>?_⟩
  · obtain ⟨k,cs,t,h1,rfl,hc⟩:=lentH_mem hH hq
    obtain ⟨⟨b,T,e1,e2⟩,_⟩:=hh.holds _ h1
    refine ⟨⟨b,T,by rw [shN_at]; exact e1,by rw [SV.concs_vals (ν:=ν) (ν':=shN B ν) cs hc]; exact e2⟩,fun v hv=>?_⟩
    cases hv
    exact shN_at B ν k
  · unfold shN
    split
    · exact hh.one _
    · exact hh.one _
 refine Code.wp_mono ?_ (wpC_sound c _ _ _ _ (h ν) _ w ⟨shN B ν,⟨?_,rfl,?_⟩,hheap⟩)
 · rintro e a' w' ⟨σ',H',M',⟨ν',hs',hh'⟩,hq⟩
   have key:(match rsvs E.P σ' H' M' fn.results.toList with | some (ss,C)=>C∧((one? ss).conc=true∧(backH B ν H' H).2)∧K ((d,true,one? ss) :: σ) (backH B ν H' H).1 M' | none=>False) →
     a'.defers=[] ∧ ∃ v,(results fn a'.tmps).run E.P w' = .ok v w' ∧ ∃ v',Ending.returned v = .returned v' ∧ ∃ σ'' H'' M'',Rep E σ'' H'' M'' (a.put (some d) v') w'∧K σ'' H'' M'':=by
    intro hq
    split at hq
    · rename_i ss C hr
      obtain ⟨hC,⟨hc,ht⟩,hK⟩:=hq
      refine ⟨hs'.2.1,_,results_sound hs' hh' hr hC,_,rfl,_,_,_,⟨ν,?_,?_⟩,hK⟩
      · exact hs.put (of_decide_eq_true hd) (by rw [SV.conc_val (ν:=ν') (ν':=ν) _ hc]; rfl)
      · refine ⟨fun q hq=>?_,by rw [backH_fp ν ht]; exact hh.nodup,fun b hb=>?_,hh'.mem,hh'.below,hh'.le0,hh'.fresh,hh.one⟩
        · obtain ⟨cs,t,h1,h2,h3,cs0,h4⟩:=backH_mem ht hq
          obtain ⟨⟨b,T,e1,e2⟩,e3⟩:=hh'.holds _ h2
          have e4:=e3 _ rfl
          rw [h1]
          refine ⟨⟨b,T,?_,?_⟩,(hh.holds _ h4).2⟩
          · rw [← e4]; exact e1
          · rw [SV.concs_vals (ν:=ν') (ν':=ν) cs h3]; exact e2
        · obtain ⟨q,hq,hqb⟩:=List.mem_filterMap.1 hb
          obtain ⟨cs,t,h1,h2,h3,cs0,h4⟩:=backH_mem ht hq
          obtain ⟨_,e3⟩:=hh'.holds _ h2
          have e4:=e3 _ rfl
          exact hh'.apart b (List.mem_filterMap.2 ⟨_,h2,by rw [e4]; exact hqb⟩)
    · exact hq.elim
   cases e with
   | normal=>exact key hq
   | ret=>exact key hq
   | _=>exact hq.elim
 · simp only [Array.size_append,List.size_toArray,Array.size_replicate,hlen]; omega
 · intro k g s hk
   obtain ⟨i,rfl,hg,hi⟩:=lk_params hk
   simp only at hg hi
   subst hg
   have hlt:i < (SV.shs B l).length:=(List.getElem?_eq_some_iff.1 hi).1
   rw [Array.getElem?_append_left (by simp only [List.size_toArray,hlen]; rw [SV.shs_len] at hlt; omega),List.getElem?_toArray,SV.vals_map,List.getElem?_map,Nat.zero_add,hi]
   rfl

/-- a closure as a value -/
theorem OpK.mkFn {o:Oper} {K:KP} {f d:Nat} {caps:Array Operand} {l:List SV} (ho:o.op = .makeFunc (.func f) #[] caps) (hd:o.dst=some d) (hl:argsO σ caps.toList=some (true,l)) (hN:decide (d < E.N)=true)
  (hK:K ((d,true,.fn f l) :: σ) H M):OpK E o K σ H M:=by
 refine opK_of fun ν a w hs hh=>?_
 have e:=argsO_spec hs hl rfl
 have e3:caps.map a.eval=(SV.vals ν l).toArray:=by apply Array.ext'; simp [← e]
 refine ⟨.func (.func f) #[] (SV.vals ν l).toArray,w,?_,_,_,_,⟨ν,?_,hh⟩,hK⟩
 · simp [execOp,ho,Instr.makeFunc,e3]
 · rw [hd]
   exact hs.put (of_decide_eq_true hN) rfl
theorem stepK.mkFn {K:KP} {f d:Nat} {caps:Array Operand} {l:List SV} {ty:TypeId} {pos:String} {aft:Array Edge} {gd:Option (Nat×Bool)} (hl:argsO σ caps.toList=some (true,l)) (hN:decide (d < E.N)=true)
  (hK:K ((d,true,.fn f l) :: σ) H M):stepK E ⟨some d,.makeFunc (.func f) #[] caps,ty,pos,aft,gd⟩ true K σ H M:=by
 show true=true∧OpK E _ K σ H M
 exact ⟨rfl,OpK.mkFn rfl rfl hl hN hK⟩
end
theorem sd1:type_of% (And.intro (And.intro (And.intro @tieH.eq_1 @tieH.eq_2) (And.intro @untieH.eq_1 @untieH.eq_2)) (And.intro @tiedH.eq_1 (And.intro @tiedH.eq_2 (And.intro @allBox.eq_1 @allBox.eq_2)))):=And.intro (And.intro (And.intro @tieH.eq_1 @tieH.eq_2) (And.intro @untieH.eq_1 @untieH.eq_2)) (And.intro @tiedH.eq_1 (And.intro @tiedH.eq_2 (And.intro @allBox.eq_1 @allBox.eq_2)))
theorem sd2:type_of% (And.intro (And.intro (And.intro @lentH.eq_1 @lentH.eq_2) (And.intro @backH.eq_1 @backH.eq_2)) (And.intro (And.intro @backC.eq_1 @lentB.eq_1) (And.intro @lentB.eq_2 (And.intro @SV.shs.eq_1 @SV.shs.eq_2)))):=And.intro (And.intro (And.intro @lentH.eq_1 @lentH.eq_2) (And.intro @backH.eq_1 @backH.eq_2)) (And.intro (And.intro @backC.eq_1 @lentB.eq_1) (And.intro @lentB.eq_2 (And.intro @SV.shs.eq_1 @SV.shs.eq_2)))
theorem sd3:type_of% (And.intro (And.intro (And.intro @SV.sh.eq_1 @SV.sh.eq_2) (And.intro @SV.sh.eq_3 @SV.sh.eq_4)) (And.intro @SV.sh.eq_5 (And.intro @SV.sh.eq_6 @SV.sh.eq_7))):=And.intro (And.intro (And.intro @SV.sh.eq_1 @SV.sh.eq_2) (And.intro @SV.sh.eq_3 @SV.sh.eq_4)) (And.intro @SV.sh.eq_5 (And.intro @SV.sh.eq_6 @SV.sh.eq_7))
end Go.X

namespace Go.X
open Go Go.RowKit

/-- the order in which a drawn region is walked: 'take' a quiet operation first; fork over all that may come up -/
inductive Sch where
 | done
 | take (i:Nat) (n:Sch)
 | one (i:Nat) (n:Sch)
 | two (i:Nat) (n:Sch) (j:Nat) (m:Sch)

def schB (md:Region.Mode) (ops:Array Oper):Sch→Nat→Array Bool→Bool
 | .done,_,listed=>(Region.ready md ops listed).isEmpty
 | .take i n,f+1,listed=>(Region.free md ops listed i && (Region.ready md ops listed).contains i) && schB md ops n f (listed.setIfInBounds i true)
 | .one i n,f+1,listed=>Region.ready md ops listed == [i] && schB md ops n f (listed.setIfInBounds i true)
 | .two i n j m,f+1,listed=>Region.ready md ops listed == [i,j] && (schB md ops n f (listed.setIfInBounds i true) && schB md ops m f (listed.setIfInBounds j true))
 | _,0,_=>false

def pickH (sel:List Nat):HS→HS
 | []=>[]
 | (k,.box cs t) :: H=>bif memN k sel && (SV.concs cs && t.isSome) then (k,.box cs t) :: pickH sel H else pickH sel H
 | (_,.row _ _) :: H=>pickH sel H
 | (_,.tab _ _) :: H=>pickH sel H
 | (_,.mp _) :: H=>pickH sel H

def stayH:HS→HS→Prop
 | [],_=>True
 | (k,p) :: r,H=>hget H k=some p∧stayH r H

/-- a quiet operation, at what of memory stays -/
def qtK (E:Env) (o:Oper) (Hs:HS) (Ms:Mem) (K:KP) (σ:Sig) (H:HS) (M:Mem):Option Bool→Option Nat→Prop
 | some g,some d=>(d < E.N∧(g=true→(pev E.P Hs Ms σ o.op).1=true∧(pev E.P Hs Ms σ o.op).2.2))∧K ((d,g,(pev E.P Hs Ms σ o.op).2.1) :: σ) H M
 | _,_=>False
def efC (Hs:HS) (Ms:Mem) (K:KP) (σ':Sig) (H':HS) (M':Mem):Prop:=(stayH Hs H'∧Ms.le M')∧K σ' H' M'
@[congr] theorem efC_congr {Hs Hs':HS} {Ms:Mem} {K:KP} {σ σ':Sig} {H H':HS} {M:Mem} (h0:Hs=Hs') (h:σ=σ') (h':H=H'):efC Hs Ms K σ H M=efC Hs' Ms K σ' H' M:=by rw [h0,h,h']
def efK (E:Env) (o:Oper) (Hs:HS) (Ms:Mem) (K:KP) (σ:Sig) (H:HS) (M:Mem):Option Bool→Prop
 | some g=>stepK E o g (efC Hs Ms K) σ H M
 | none=>False
def opt1 (f:Oper→Prop):Option Oper→Prop
 | some o=>f o
 | none=>False

def wpH (E:Env) (ops:List Oper) (Hs:HS) (Ms:Mem) (K:KP):Sch→Sig→HS→Mem→Prop
 | .done,σ,H,M=>K σ H M
 | .take i n,σ,H,M=>opt1 (fun o=>qtK E o Hs Ms (wpH E ops Hs Ms K n) σ H M (gdOf ops σ o.guard) o.dst) ops[i]?
 | .one i n,σ,H,M=>opt1 (fun o=>efK E o Hs Ms (wpH E ops Hs Ms K n) σ H M (gdOf ops σ o.guard)) ops[i]?
 | .two i n j m,σ,H,M=>opt1 (fun o=>efK E o Hs Ms (wpH E ops Hs Ms K n) σ H M (gdOf ops σ o.guard)) ops[i]? ∧ opt1 (fun o=>efK E o Hs Ms (wpH E ops Hs Ms K m) σ H M (gdOf ops σ o.guard)) ops[j]?

@[congr] theorem qtK_congr {E:Env} {o:Oper} {Hs Hs':HS} {Ms:Mem} {K:KP} {σ σ':Sig} {H H':HS} {M:Mem} {g g':Option Bool} {d d':Option Nat} (h0:Hs=Hs') (h:σ=σ') (h':H=H') (hg:g=g') (hd:d=d'):qtK E o Hs Ms K σ H M g d=qtK E o Hs' Ms K σ' H' M g' d':=by rw [h0,h,h',hg,hd]
@[congr] theorem efK_congr {E:Env} {o:Oper} {Hs Hs':HS} {Ms:Mem} {K:KP} {σ σ':Sig} {H H':HS} {M:Mem} {g g':Option Bool} (h0:Hs=Hs') (h:σ=σ') (h':H=H') (hg:g=g'):efK E o Hs Ms K σ H M g=efK E o Hs' Ms K σ' H' M g':=by rw [h0,h,h',hg]
@[congr] theorem opt1_congr {f:Oper→Prop} {x y:Option Oper} (h:x=y):opt1 f x=opt1 f y:=by rw [h]
@[congr] theorem wpH_congr {E:Env} {ops:List Oper} {Hs Hs':HS} {Ms:Mem} {K:KP} {s:Sch} {σ σ':Sig} {H H':HS} {M:Mem} (h0:Hs=Hs') (h:σ=σ') (h':H=H'):wpH E ops Hs Ms K s σ H M=wpH E ops Hs' Ms K s σ' H' M:=by rw [h0,h,h']

section
variable {E:Env} {σ:Sig} {H Hs:HS} {M Ms:Mem} {ν ν':Nat→Value} {a:Act} {w:World}

def tieds (ν:Nat→Value):HS→Prop
 | []=>True
 | (k,.box cs t) :: H=>(SV.concs cs=true∧t=some (ν k))∧tieds ν H
 | (_,.row _ _) :: _=>False
 | (_,.tab _ _) :: _=>False
 | (_,.mp _) :: _=>False
theorem tieds_mem : ∀ {Hs:HS} {q:Nat×PO},tieds ν Hs→q ∈ Hs → ∃ cs,q.2 = .box cs (some (ν q.1))∧SV.concs cs=true
 | (k,.box cs t) :: H,q,h,hq=>by
  obtain ⟨⟨h1,rfl⟩,h2⟩:=h
  rcases List.mem_cons.1 hq with rfl | hq
  · exact ⟨cs,rfl,h1⟩
  · exact tieds_mem h2 hq
 | (k,.row _ _) :: H,q,h,_=>h.elim
 | (k,.tab _ _) :: H,q,h,_=>h.elim
 | (k,.mp _) :: H,q,h,_=>h.elim
 | [],q,_,hq=>by cases hq
theorem stayH_mem : ∀ {Hs:HS} {q:Nat×PO},stayH Hs H→q ∈ Hs→q ∈ H
 | (k,p) :: r,q,h,hq=>by
  rcases List.mem_cons.1 hq with rfl | hq
  · exact hget_mem h.1
  · exact stayH_mem h.2 hq
 | [],q,_,hq=>by cases hq
theorem fp_eq : ∀ {Hs:HS},(∀ q ∈ Hs,ν' q.1=ν q.1)→fp ν' Hs=fp ν Hs
 | [],_=>rfl
 | q :: H,h=>by
   have:=fp_eq (Hs:=H) fun q hq=>h q (List.mem_cons_of_mem _ hq)
   have h0:=h q List.mem_cons_self
   simp only [fp,List.filterMap_cons] at this ⊢
   rw [h0,this]

/-- what stays of memory, at the values of the region's beginning -/
theorem Heap.stay {w0:World} (h0:Heap E ν Hs Ms w0) (ht:tieds ν Hs) (hh:Heap E ν' H M w) (hs:stayH Hs H) (hle:Ms.le M):Heap E ν Hs Ms w ∧ ∀ q ∈ Hs,ν' q.1=ν q.1:=by
 have e : ∀ q ∈ Hs,ν' q.1=ν q.1:=fun q hq=>by
  obtain ⟨cs,h1,_⟩:=tieds_mem ht hq
  have:=hh.holds q (stayH_mem hs hq)
  rw [h1] at this
  exact this.2 _ rfl
 refine ⟨⟨fun q hq=>?_,h0.nodup,h0.apart,fun b o hb=>hh.mem b o (hle b o hb),hh.below,h0.le0,h0.fresh,h0.one⟩,e⟩
 obtain ⟨cs,h1,h2⟩:=tieds_mem ht hq
 have:=hh.holds q (stayH_mem hs hq)
 rw [h1,e q hq] at this
 rw [h1]
 obtain ⟨⟨b,T,e1,e2⟩,e3⟩:=this
 exact ⟨⟨b,T,e1,by rw [SV.concs_vals (ν:=ν') (ν':=ν) cs h2]; exact e2⟩,e3⟩

theorem Heap.again (h0:Heap E ν Hs Ms w) (ht:tieds ν Hs) (e : ∀ q ∈ Hs,ν' q.1=ν q.1) (h1 : ∀ k,(ν' k).oneCell'=true):Heap E ν' Hs Ms w:=by
 have hf:=fp_eq (ν:=ν) (ν':=ν') e
 refine ⟨fun q hq=>?_,by rw [hf]; exact h0.nodup,by rw [hf]; exact h0.apart,h0.mem,h0.below,h0.le0,h0.fresh,h1⟩
 obtain ⟨cs,h1,h2⟩:=tieds_mem ht hq
 have:=h0.holds q hq
 rw [h1] at this
 rw [h1,e q hq]
 obtain ⟨⟨b,T,e1,e2⟩,e3⟩:=this
 exact ⟨⟨b,T,e1,by rw [SV.concs_vals (ν:=ν) (ν':=ν') cs h2]; exact e2⟩,e3⟩

theorem wpH_sound {ops:Array Oper} {K:KP} {w0:World} (hsel:Region.noSelect ops=true) (h0:Heap E ν Hs Ms w0) (ht:tieds ν Hs) :
  ∀ (sch:Sch) (f:Nat) (listed:Array Bool) (σ:Sig) (H:HS) (M:Mem) (a:Act) (w:World),schB .any ops sch f listed=true→Rep E σ H M a w→(stayH Hs H∧Ms.le M)→wpH E ops.toList Hs Ms K sch σ H M →
    wpAnyH E.P .any ops (fun e a w=>e=Exit.normal ∧ ∃ σ H M,Rep E σ H M a w∧K σ H M) (fun w=>Heap E ν Hs Ms w) f listed a w
 | .done,f,listed,σ,H,M,a,w,hB,hr,_,h=>by
   exact wpAnyH_done (by simpa [schB] using hB) ⟨rfl,σ,H,M,hr,h⟩ f
 | .take i n,f+1,listed,σ,H,M,a,w,hB,⟨ν',hs,hh⟩,⟨hsub,hle⟩,h=>by
   simp only [schB,Bool.and_eq_true] at hB
   obtain ⟨⟨hf,hrd⟩,hB⟩:=hB
   simp only [wpH] at h
   cases ho:ops[i]? with
   | none=>rw [show ops.toList[i]? = none by rw [Array.getElem?_toList]; exact ho] at h; exact h.elim
   | some o=>
     rw [show ops.toList[i]? = some o by rw [Array.getElem?_toList]; exact ho] at h
     simp only [opt1] at h
     cases hg:gdOf ops.toList σ o.guard with
     | none=>rw [hg] at h; exact h.elim
     | some g=>
       cases hd:o.dst with
       | none=>rw [hg,hd] at h; exact h.elim
       | some d=>
         rw [hg,hd] at h
         obtain ⟨⟨hN,h1⟩,hK⟩:=h
         have hgd:=gd_spec hs hg o rfl
         obtain ⟨hS,hke⟩:=Heap.stay h0 ht hh hsub hle
         refine wpAnyH_take (v:=bif g then (pev E.P Hs Ms σ o.op).2.1.val ν' else undef) ho hsel hf hrd (fun c a w h=>by obtain ⟨h,_⟩:=h; cases h) ?_ hS ?_
         · cases g with
           | true=>
             obtain ⟨hg1,hc⟩:=h1 rfl
             refine .inl ⟨by simpa using hgd,fun w1 hw1=>?_⟩
             exact pev_sound hs (Heap.again hw1 ht hke hh.one) o hg1 hc
           | false=>exact .inr ⟨by simpa using hgd,rfl⟩
         · refine wpH_sound hsel h0 ht n f _ _ H M _ w hB ⟨ν',?_,hh⟩ ⟨hsub,hle⟩ hK
           rw [hd]
           exact hs.put hN rfl
 | .one i n,f+1,listed,σ,H,M,a,w,hB,hr,hsm,h=>by
   simp only [schB,Bool.and_eq_true,beq_iff_eq] at hB
   refine wpAnyH_all hB.1 (by simp) fun j hj=>?_
   obtain rfl:j=i:=by simpa using hj
   exact wpH_op hsel h0 ht n f listed σ H M a w hB.2 hr hsm h
 | .two i n i' m,f+1,listed,σ,H,M,a,w,hB,hr,hsm,h=>by
   simp only [schB,Bool.and_eq_true,beq_iff_eq] at hB
   refine wpAnyH_all hB.1 (by simp) fun j hj=>?_
   rcases (by simpa using hj:j=i∨j=i') with rfl | rfl
   · exact wpH_op hsel h0 ht n f listed σ H M a w hB.2.1 hr hsm h.1
   · exact wpH_op hsel h0 ht m f listed σ H M a w hB.2.2 hr hsm h.2
 | .take _ _,0,_,_,_,_,_,_,hB,_,_,_=>by simp [schB] at hB
 | .one _ _,0,_,_,_,_,_,_,hB,_,_,_=>by simp [schB] at hB
 | .two _ _ _ _,0,_,_,_,_,_,_,hB,_,_,_=>by simp [schB] at hB
where
 wpH_op {ops:Array Oper} {K:KP} {w0:World} (hsel:Region.noSelect ops=true) (h0:Heap E ν Hs Ms w0) (ht:tieds ν Hs) {i:Nat} (n:Sch) (f:Nat) (listed:Array Bool) (σ:Sig) (H:HS) (M:Mem) (a:Act) (w:World)
   (hB:schB .any ops n f (listed.setIfInBounds i true)=true) (hr:Rep E σ H M a w) (_:stayH Hs H∧Ms.le M)
   (h:opt1 (fun o=>efK E o Hs Ms (wpH E ops.toList Hs Ms K n) σ H M (gdOf ops.toList σ o.guard)) ops.toList[i]?) :
   wpOp E.P ops (fun e a w=>e=Exit.normal ∧ ∃ σ H M,Rep E σ H M a w∧K σ H M) i (fun a' w'=>Heap E ν Hs Ms w'∧wpAnyH E.P .any ops (fun e a w=>e=Exit.normal ∧ ∃ σ H M,Rep E σ H M a w∧K σ H M) (fun w=>Heap E ν Hs Ms w) f (listed.setIfInBounds i true) a' w') a w:=by
  cases ho:ops[i]? with
  | none=>rw [show ops.toList[i]? = none by rw [Array.getElem?_toList]; exact ho] at h; exact h.elim
  | some o=>
    rw [show ops.toList[i]? = some o by rw [Array.getElem?_toList]; exact ho] at h
    simp only [opt1] at h
    obtain ⟨ν',hs,hh⟩:=hr
    cases hg:gdOf ops.toList σ o.guard with
    | none=>rw [hg] at h; exact h.elim
    | some g=>
      rw [hg] at h
      simp only [efK] at h
      have hgd:=gd_spec hs hg o rfl
      have key:=stepK_sound (Nx:=fun a' w'=>Heap E ν Hs Ms w'∧wpAnyH E.P .any ops (fun e a w=>e=Exit.normal ∧ ∃ σ H M,Rep E σ H M a w∧K σ H M) (fun w=>Heap E ν Hs Ms w) f (listed.setIfInBounds i true) a' w')
       (Qx:=fun e a w=>e=Exit.normal ∧ ∃ σ H M,Rep E σ H M a w∧K σ H M)
       (fun σ1 H1 M1 a1 w1 hr1 hk1=>by
         obtain ⟨ν1,hs1,hh1⟩:=hr1
         exact ⟨(Heap.stay h0 ht hh1 hk1.1.1 hk1.1.2).1,wpH_sound hsel h0 ht n f _ σ1 H1 M1 a1 w1 hB ⟨ν1,hs1,hh1⟩ hk1.1 hk1.2⟩) hs hh h
      unfold wpOp
      simp only [ho]
      have hgd':Region.wanted o (yielded ops a.tmps)=g:=by simpa using hgd
      rw [hgd']
      cases g with
      | true=>simp only [if_true] at key ⊢; exact .inl key
      | false=>simp only [Bool.false_eq_true,if_false] at key ⊢; exact key

theorem tieH_heap (hh:Heap E ν H M w):Heap E ν (tieH ν H) M w:=by
 refine ⟨fun q hq=>?_,by rw [tieH_fp]; exact hh.nodup,by rw [tieH_fp]; exact hh.apart,hh.mem,hh.below,hh.le0,hh.fresh,hh.one⟩
 have : ∀ {H:HS} {q:Nat×PO},q ∈ tieH ν H→((∃ cs t,(q.1,PO.box cs t) ∈ H∧q.2 = .box cs (some (ν q.1)))∨q ∈ H):=by
  intro H
  induction H with
  | nil=>intro q h; simp [tieH] at h
  | cons p H ih=>
    intro q h
    obtain ⟨k,p⟩:=p
    cases p with
    | box cs t=>
      simp only [tieH] at h
      rcases List.mem_cons.1 h with rfl | h
      · exact .inl ⟨cs,t,List.mem_cons_self,rfl⟩
      · rcases ih h with ⟨cs',t',h1,h2⟩ | h1
        · exact .inl ⟨cs',t',List.mem_cons_of_mem _ h1,h2⟩
        · exact .inr (List.mem_cons_of_mem _ h1)
    | row sz es=>
      simp only [tieH] at h
      rcases List.mem_cons.1 h with rfl | h
      · exact .inr List.mem_cons_self
      · rcases ih h with ⟨cs',t',h1,h2⟩ | h1
        · exact .inl ⟨cs',t',List.mem_cons_of_mem _ h1,h2⟩
        · exact .inr (List.mem_cons_of_mem _ h1)
    | tab sz es=>
      simp only [tieH] at h
      rcases List.mem_cons.1 h with rfl | h
      · exact .inr List.mem_cons_self
      · rcases ih h with ⟨cs',t',h1,h2⟩ | h1
        · exact .inl ⟨cs',t',List.mem_cons_of_mem _ h1,h2⟩
        · exact .inr (List.mem_cons_of_mem _ h1)
    | mp es=>
      simp only [tieH] at h
      rcases List.mem_cons.1 h with rfl | h
      · exact .inr List.mem_cons_self
      · rcases ih h with ⟨cs',t',h1,h2⟩ | h1
        · exact .inl ⟨cs',t',List.mem_cons_of_mem _ h1,h2⟩
        · exact .inr (List.mem_cons_of_mem _ h1)
 rcases this hq with ⟨cs,t,h1,h2⟩ | h1
 · have:=hh.holds _ h1
   rw [h2]
   exact ⟨this.1,fun v hv=>by cases hv; rfl⟩
 · exact hh.holds _ h1

theorem pickH_sub (sel:List Nat) : ∀ H:HS,(pickH sel H).Sublist H
 | []=>List.Sublist.slnil
 | (k,.box cs t) :: H=>by
  simp only [pickH]
  cases (memN k sel && (SV.concs cs && t.isSome))
  · exact (pickH_sub sel H).cons _
  · exact (pickH_sub sel H).cons_cons _
 | (k,.row _ _) :: H=>(pickH_sub sel H).cons _
 | (k,.tab _ _) :: H=>(pickH_sub sel H).cons _
 | (k,.mp _) :: H=>(pickH_sub sel H).cons _
theorem pickH_tieds (sel:List Nat) : ∀ H:HS,tieds ν (pickH sel (tieH ν H))
 | []=>trivial
 | (k,.box cs t) :: H=>by
  simp only [pickH,tieH]
  cases hb:(memN k sel && (SV.concs cs && (some (ν k)).isSome))
  · exact pickH_tieds sel H
  · simp only [Bool.and_eq_true] at hb
    exact ⟨⟨hb.2.1,rfl⟩,pickH_tieds sel H⟩
 | (k,.row _ _) :: H=>pickH_tieds sel H
 | (k,.tab _ _) :: H=>pickH_tieds sel H
 | (k,.mp _) :: H=>pickH_tieds sel H

/-- a region that draws its order, walked after a plan: quiet operations taken first, at what of memory stays (the boxes 'sel', tied; all that is known) -/
theorem DrawK.held {id:Nat} {ops:Array Oper} {K:KP} (sel:List Nat) (sch:Sch) (hm:E.P.follows .mixedOrders=true) (hB:(Region.noSelect ops && schB .any ops sch ops.size (Array.replicate ops.size false))=true)
  (h : ∀ xs:Nat→Value,stayH (pickH sel (tieH xs H)) (tieH xs H)∧wpH E ops.toList (pickH sel (tieH xs H)) M K sch σ (tieH xs H) M):DrawK E id ops K σ H M:=by
 rintro a w ⟨ν,hs,hh⟩
 simp only [Bool.and_eq_true] at hB
 have h1:=tieH_heap (hh.grow ((Below.refl _ _).drew):Heap E ν H M { w with drawn:=w.drawn+1 })
 exact wp_region_held hm (wpH_sound hB.1 (h1.sublist (pickH_sub sel _)) (pickH_tieds sel H) sch _ _ σ _ M a _ hB.2 ⟨ν,hs,h1⟩ ⟨(h ν).1,Mem.le.refl M⟩ (h ν).2)
/-- .. no box is looked at -/
theorem DrawK.plan {id:Nat} {ops:Array Oper} {K:KP} (sch:Sch) (hm:E.P.follows .mixedOrders=true) (hB:(Region.noSelect ops && schB .any ops sch ops.size (Array.replicate ops.size false))=true)
  (h:wpH E ops.toList [] M K sch σ H M):DrawK E id ops K σ H M:=by
 rintro a w ⟨ν,hs,hh⟩
 simp only [Bool.and_eq_true] at hB
 have h1:=(hh.grow ((Below.refl _ _).drew):Heap E ν H M { w with drawn:=w.drawn+1 })
 exact wp_region_held hm (wpH_sound hB.1 (h1.sublist (List.nil_sublist H)) trivial sch _ _ σ _ M a _ hB.2 ⟨ν,hs,h1⟩ ⟨trivial,Mem.le.refl M⟩ h)
end
theorem nzs:(((1:Nat)≠0)=True)∧(((2:Nat)≠0)=True)∧(((3:Nat)≠0)=True)∧(((4:Nat)≠0)=True)∧(∀ k,(Shp.int k≠Shp.bad)=True)∧((Shp.str≠Shp.bad)=True)∧((Shp.bool≠Shp.bad)=True)∧((∀ _:Nat,True)=True):=by simp
theorem Mem.le_self (M:Mem):Mem.le M M=True:=eq_true (Mem.le.refl M)
theorem se1:type_of% (And.intro (And.intro (And.intro @wpH.eq_1 @wpH.eq_2) (And.intro @wpH.eq_3 @wpH.eq_4)) (And.intro (And.intro (And.intro @opt1.eq_1 @efC.eq_1) @efK.eq_1) (And.intro @qtK.eq_1 @Mem.le_self))):=And.intro (And.intro (And.intro @wpH.eq_1 @wpH.eq_2) (And.intro @wpH.eq_3 @wpH.eq_4)) (And.intro (And.intro (And.intro @opt1.eq_1 @efC.eq_1) @efK.eq_1) (And.intro @qtK.eq_1 @Mem.le_self))
theorem isS {α:Type} (x:α):(some x).isSome=true:=rfl
theorem se2:type_of% (And.intro (And.intro (And.intro @stayH.eq_1 @stayH.eq_2) (And.intro @pickH.eq_1 @pickH.eq_2)) (And.intro (And.intro @pickH.eq_3 @tieH.eq_1) (And.intro @tieH.eq_2 (And.intro @tieH.eq_3 @isS)))):=And.intro (And.intro (And.intro @stayH.eq_1 @stayH.eq_2) (And.intro @pickH.eq_1 @pickH.eq_2)) (And.intro (And.intro @pickH.eq_3 @tieH.eq_1) (And.intro @tieH.eq_2 (And.intro @tieH.eq_3 @isS)))
end Go.X

namespace Go.X
open Go Go.RowKit

section
variable {E:Env} {σ:Sig} {H:HS} {M:Mem} {a:Act} {w:World} {ν:Nat→Value} {K:KP}

theorem RowM.one {v:Value} {sz:Nat} {es:List (List Value)} (h:RowM M v sz es):v.oneCell'=true:=by
 have:=h.sl
 cases v <;> first | rfl | cases this

/-- a call that hands back what is known -/
theorem CallK.res {f d:Nat} {l:List SV} {R:SV→Mem→Prop} (hl:SV.concs l=true) (hd:decide (d < E.N)=true) (h:Meets E.P f l M (fun r _ M'=>R r M')) (hc : ∀ r M',R r M'→r.conc=true)
  (hk : ∀ r M',M.le M'→R r M'→K ((d,true,r) :: σ) H M'):CallK E f l d K σ H M:=by
 intro ν a w hs hh
 refine .inl ⟨h.1,?_⟩
 rw [SV.concs_vals (ν:=ν0) (ν':=ν) l hl]
 refine (h.2 w hh.mem).mono ?_
 rintro e w' ⟨s,H',M',ν',rfl,hh',hR⟩
 refine ⟨_,rfl,_,_,_,⟨ν,hs.put (of_decide_eq_true hd) (by rw [cond_true]; exact SV.conc_val s (hc _ _ hR)),hh.call hh'⟩,hk s M' hh'.le0 hR⟩

/-- what the callee hands back as its own, known from now on -/
theorem Meets.pub {P:Program} {f:FuncId} {args:List SV} {T:SV→SV} {sz:Nat} {Φ:List (List Value)→Mem→Prop} (hT:Ctx T) (hΦ : ∀ es M M',M.le M'→Φ es M→Φ es M')
  (h:Meets P f args M (fun r H M'=>∃ s es,r=T s∧IsRow H M' s sz es∧Φ es M')):Meets P f args M (fun r _ M'=>∃ v es,r=T (.v v)∧RowM M' v sz es∧Φ es M'):=by
 refine ⟨h.1,fun w hw=>(h.2 w hw).mono ?_⟩
 rintro e w' ⟨s,H',M',ν,rfl,hh,s',es,rfl,hR,hp⟩
 cases s' with
 | v x=>exact ⟨_,H',M',ν,rfl,hh,x,es,rfl,hR,hp⟩
 | own k=>
   obtain ⟨M'',h1,h2,h3⟩:=pub_heap hh hR
   refine ⟨T (.v (ν k)),_,M'',ν,?_,h3,ν k,es,rfl,h2,hΦ _ _ _ h1 hp⟩
   rw [hT (.own k) (.v (ν k)) ν ν rfl]
 | _=>exact hR.elim

/-- nil, as a row of the callee's own -/
theorem Meets.nilOwn {P:Program} {f:FuncId} {args:List SV} {sz:Nat} (h:Meets P f args M (fun r _ _=>r = .v (.slice none 0 0))):Meets P f args M (OwnR (fun s=>s) sz []):=by
 refine ⟨h.1,fun w hw=>(h.2 w hw).mono ?_⟩
 rintro e w' ⟨s,H',M',ν,rfl,hh,rfl⟩
 refine ⟨.own 0,[(0,.row sz [])],M',fun _=>.slice none 0 0,rfl,⟨fun p hp=>?_,by simp [fp,blk?],by simp [fp,blk?],hh.mem,hh.below,hh.le0,hh.fresh,fun _=>rfl⟩,0,rfl,rfl⟩
 simp only [List.mem_singleton] at hp
 subst hp
 exact ⟨fun e he=>by simp at he,.inl ⟨rfl,rfl⟩⟩
end
def tk:List Nat→Sch→Sch
 | [],s=>s
 | i :: l,s=>.take i (tk l s)
def ones':List Nat→Sch→Sch
 | [],s=>s
 | i :: l,s=>.one i (ones' l s)
theorem tks:type_of% (And.intro (And.intro @tk.eq_1 @tk.eq_2) (And.intro @ones'.eq_1 @ones'.eq_2)):=And.intro (And.intro @tk.eq_1 @tk.eq_2) (And.intro @ones'.eq_1 @ones'.eq_2)
theorem l_drop_at {α:Type} {l:List α} {i:Nat} (h:i < l.length) : ∃ x,l[i]? = some x∧l.drop i=x :: l.drop (i+1):=
 ⟨_,List.getElem?_eq_getElem h,List.drop_eq_getElem_cons h⟩
/-- the place of the first that is so, or -1 -/
def fidx {α:Type} (p:α→Bool):List α→Nat→Int
 | [],_=>-1
 | x :: l,i=>if p x=true then (i:Int) else fidx p l (i+1)
theorem fidx_iff {α:Type} (p:α→Bool) : ∀ (l:List α) (i:Nat),0≤fidx p l i↔l.any p=true
 | [],i=>by simp [fidx]
 | x :: l,i=>by
   have:=fidx_iff p l (i+1)
   by_cases hp:p x=true
   · simp [fidx,hp]
   · simp [fidx,hp,this]
theorem fidx_any {α:Type} (p:α→Bool) (l:List α) (i:Nat):decide (0≤fidx p l i)=l.any p:=by
 have:=fidx_iff p l i
 cases h:l.any p with
 | true=>exact decide_eq_true (this.2 h)
 | false=>exact decide_eq_false (fun h'=>by rw [this.1 h'] at h; cases h)
end Go.X

namespace Go.X
open Go Go.RowKit

def vv (es:List (List Value)):List (List SV):=es.map (·.map .v)
theorem vals_v (ν:Nat→Value) : ∀ l:List Value,SV.vals ν (l.map .v)=l
 | []=>rfl
 | x :: l=>by simp only [List.map_cons,SV.vals,SV.val,vals_v ν l]
def tabOf:Option PO→Option (Nat×List (List SV))
 | some (.row sz es)=>some (sz,vv es)
 | some (.tab sz es)=>some (sz,es)
 | _=>none
/-- a part's cells -/
def tabP (sz:Nat):Nat→List (Nat×SV)→List (List SV)×Prop
 | _,[]=>([],True)
 | j,(i,s) :: r=>(cellsSV s :: (tabP sz (j+1) r).1,((i=j∧(cellsSV s).length=sz)∧oneS s=true∧ones (cellsSV s)=true)∧(tabP sz (j+1) r).2)

section
variable {E:Env} {σ:Sig} {H:HS} {M:Mem} {a:Act} {w:World} {ν:Nat→Value} {K:KP} {o:Oper}

theorem tabP_spec {sz:Nat} {ν:Nat→Value} (h1 : ∀ k,(ν k).oneCell'=true) : ∀ {ps:List (Nat×SV)} {j:Nat},(tabP sz j ps).2 →
  (ps.map fun p=>(p.2.val ν).cells.toList)=(tabP sz j ps).1.map (SV.vals ν)∧(∀ i (p:Nat×SV),ps[i]? = some p→p.1=j+i) ∧ ∀ e ∈ (tabP sz j ps).1.map (SV.vals ν),e.length=sz ∧ ∀ c ∈ e,c.oneCell'=true
 | [],j,_=>by simp [tabP]
 | (i,s) :: r,j,h=>by
  simp only [tabP] at h ⊢
  obtain ⟨⟨⟨rfl,h2⟩,h3,h4⟩,h5⟩:=h
  obtain ⟨g1,g2,g3⟩:=tabP_spec h1 (ps:=r) (j:=i+1) h5
  have hc:=cells_of_one h3 ν (fun k=>cells_one (h1 k))
  refine ⟨by simp only [List.map_cons,g1,hc,List.toList_toArray],fun k p hk=>?_,fun e he=>?_⟩
  · cases k with
    | zero=>simp only [List.getElem?_cons_zero,Option.some.injEq] at hk; subst hk; rfl
    | succ k=>
      simp only [List.getElem?_cons_succ] at hk
      have:=g2 k p hk
      omega
  · simp only [List.map_cons,List.mem_cons] at he
    rcases he with rfl | he
    · exact ⟨by rw [SV.vals_map,List.length_map]; exact h2,ones_mem h4 h1⟩
    · exact g3 e he

/-- a literal whose parts may be rows of the call's own -/
theorem OpK.bsTab {t n d e sz bt:Nat} {zs:List Value} {ps:Array (Nat×Operand)} {l:List (Nat×SV)} (ho:o.op = .buildSlice t n ps) (hd:o.dst=some d) (hsl:slT E.P t=some (e,sz,bt,zs)) (hp:partsO σ ps.toList=some (true,l))
  (hc:(decide (d < E.N) && decide (l.length=n) && decide (n * sz≤16777216) && decide (n≤16777216))=true) (hrow:(tabP sz 0 l).2) (hn:(hNoKey d (hdel d H) && noKeyss d (tabP sz 0 l).1)=true)
  (hK:K ((d,true,.own (8 * d)) :: sigDrop d σ) ((8 * d,.tab sz (tabP sz 0 l).1) :: hdel d H) M):OpK E o K σ H M:=by
 simp only [Bool.and_eq_true,decide_eq_true_eq] at hc hn
 obtain ⟨⟨⟨hN,hlen⟩,hsm⟩,hsm2⟩:=hc
 obtain ⟨i,z,hu,hi,hz,rfl,rfl,rfl⟩:=slT_spec hsl
 refine opK_of fun ν a w hs hh=>?_
 obtain ⟨g1,g2,g3⟩:=tabP_spec hh.one hrow
 generalize htp:(tabP i.size 0 l).1=T1 at *
 have e1:=partsO_spec hs hp rfl
 have hesl:(T1.map (SV.vals ν)).length=n:=by rw [← g1,List.length_map,hlen]
 have hfl:=flatten_len (fun e he=>(g3 e he).1)
 have hfill : ∀ cs:Array Value,cs.size=n * i.size→Instr.fill (fun j=>some (j * i.size,i.size)) cs (l.map fun p=>(p.1,p.2.val ν))=some ((T1.map (SV.vals ν)).flatten).toArray:=by
  intro cs hcs
  have:=fillRow (sz:=i.size) (l.map fun p=>(p.1,p.2.val ν)) (T1.map (SV.vals ν)) 0 [] cs.toList (by rw [List.map_map]; exact g1)
   (fun k p hk=>by
     rw [List.getElem?_map,Option.map_eq_some_iff] at hk
     obtain ⟨q,hq,rfl⟩:=hk
     exact g2 k q hq) (fun e he=>(g3 e he).1) (by simp) (by simp [hcs,hlen])
  simpa using this
 refine ⟨.slice (some ⟨w.heap.size,0,none⟩) n n,w.alloc (.cells ((T1.map (SV.vals ν)).flatten).toArray e),?_,_,_,_,?_,hK⟩
 · simp only [execOp,ho,Sem.run_bind]
   have:(Instr.buildSlice t n (ps.map fun (x:Nat×Operand)=>match x with | (i,x)=>(i,a.eval x))).run E.P w = .ok (.slice (some ⟨w.heap.size,0,none⟩) n n) (w.alloc (.cells ((T1.map (SV.vals ν)).flatten).toArray e)):=by
    by_cases h0:n * i.size=0
    · have hf:=hfill (Array.map (fun x=>default) (Array.range 0)) (by simp [h0])
      simp [Instr.buildSlice,run_underlying hu,sizeOf,typeInfo,zeroValue,hi,hz,h0,newRow,e1,hf]
    · have hf:=hfill ((Array.range (n * i.size)).map (z.cells[· % z.cells.size]!)) (by simp)
      simp [Instr.buildSlice,run_underlying hu,sizeOf,typeInfo,zeroValue,hi,hz,h0,newRow,e1,hf,show ¬ 16777216 < n * i.size by omega]
   rw [this]
   rfl
 · rw [hd]
   refine Rep.fresh hs hh hN (hdel_sub d H) hn.1 (below_alloc w _) rfl (fun ν' hν'=>?_) (fun b hb=>by simp only [blk?,Option.some.injEq] at hb; omega) (fun ν' h=>h)
   rw [PO.tab_row,noKeyss_vals hν' hn.2]
   refine ⟨g3,.inr ⟨w.heap.size,n,e,[],by rw [hesl],by omega,by simp only [maxLen]; omega,by simp [hesl],?_⟩⟩
   rw [List.append_nil]
   exact heap_alloc_at w _

/-! ### other forms of the same memory -/
def HEnt (E:Env) (H:HS) (M:Mem) (H':HS):Prop:=∀ ν w,Heap E ν H M w→Heap E ν H' M w
theorem HEnt.refl:HEnt E H M H:=fun _ _ h=>h
theorem HEnt.trans {H' H'':HS} (h:HEnt E H M H') (h':HEnt E H' M H''):HEnt E H M H'':=fun ν w x=>h' ν w (h ν w x)
theorem OpK.heap {H':HS} (h:HEnt E H M H') (hk:OpK E o K σ H' M):OpK E o K σ H M:=by
 rintro a w ⟨ν,hs,hh⟩
 exact hk a w ⟨ν,hs,h ν w hh⟩
theorem CallK.heap {f d:Nat} {l:List SV} {H':HS} (h:HEnt E H M H') (hk:CallK E f l d K σ H' M):CallK E f l d K σ H M:=fun ν a w hs hh=>hk ν a w hs (h ν w hh)
theorem LoopK.heap {live:List Nat} {body:Code} {Q:QP} {H':HS} (h:HEnt E H M H') (hk:LoopK E live body Q σ H' M):LoopK E live body Q σ H M:=by
 rintro a w ⟨ν,hs,hh⟩
 exact hk a w ⟨ν,hs,h ν w hh⟩
theorem DrawK.heap {id:Nat} {ops:Array Oper} {H':HS} (h:HEnt E H M H') (hk:DrawK E id ops K σ H' M):DrawK E id ops K σ H M:=by
 rintro a w ⟨ν,hs,hh⟩
 exact hk a w ⟨ν,hs,h ν w hh⟩
theorem Ent.heap {S:Sig×HS×Mem} {H':HS} (h:HEnt E H M H') (hk:Ent E σ H' M S):Ent E σ H M S:=by
 rintro a w ⟨ν,hs,hh⟩
 exact hk a w ⟨ν,hs,h ν w hh⟩
/-- a row whose cells are all known, as such, and the other way round -/
theorem HEnt.set {k:Nat} {p q:PO} (hk:hget H k=some p) (h : ∀ ν w,p.holds ν w (ν k)→q.holds ν w (ν k)):HEnt E H M (hset k q H):=by
 intro ν w hh
 refine ⟨fun r hr=>?_,by rw [hset_fp]; exact hh.nodup,fun b hb=>hh.apart b (by rw [hset_fp] at hb; exact hb),hh.mem,hh.below,hh.le0,hh.fresh,hh.one⟩
 rcases hset_mem hr with rfl | hr
 · exact h ν w (hh.holds _ (hget_mem hk))
 · exact hh.holds _ hr
theorem HEnt.sub {H':HS} (h:H'.Sublist H):HEnt E H M H':=fun _ _ hh=>hh.sublist h
end
theorem vv_cons (e:List Value) (es:List (List Value)):vv (e :: es)=e.map .v :: vv es:=rfl
theorem vv_len (es:List (List Value)):(vv es).length=es.length:=List.length_map _
theorem noKeys_v (d:Nat) : ∀ l:List Value,SV.noKeys d (l.map .v)=true
 | []=>rfl
 | x :: l=>by simp only [List.map_cons,SV.noKeys,SV.noKey,noKeys_v d l,Bool.and_self]
theorem noKeyss_vv (d:Nat) : ∀ es:List (List Value),noKeyss d (vv es)=true
 | []=>rfl
 | e :: r=>by rw [vv_cons,noKeyss,noKeys_v,noKeyss_vv d r]; rfl
theorem noKeyss_app (d:Nat) : ∀ es es':List (List SV),noKeyss d (es++es')=(noKeyss d es && noKeyss d es')
 | [],es'=>by simp [noKeyss]
 | e :: r,es'=>by rw [List.cons_append,noKeyss,noKeyss,noKeyss_app d r es',Bool.and_assoc]
theorem pubs_v (k:Nat) (v:Value) : ∀ l:List Value,SV.pubs k v (l.map .v)=l.map .v
 | []=>rfl
 | x :: l=>by simp only [List.map_cons,SV.pubs,SV.pub,pubs_v k v l]
theorem pubss_vv (k:Nat) (v:Value) : ∀ es:List (List Value),pubss k v (vv es)=vv es
 | []=>rfl
 | e :: r=>by rw [vv_cons,pubss,pubs_v,pubss_vv k v r]
theorem pubss_app (k:Nat) (v:Value) : ∀ es es':List (List SV),pubss k v (es++es')=pubss k v es++pubss k v es'
 | [],_=>rfl
 | e :: r,es'=>by rw [List.cons_append,pubss,pubss,pubss_app k v r es',List.cons_append]
theorem tieH_mp (xs:Nat→Value) (k:Nat) (es:List (Value×Value)) (H:HS):tieH xs ((k,.mp es) :: H)=(k,.mp es) :: tieH xs H:=rfl
theorem pickH_mp (sel:List Nat) (k:Nat) (es:List (Value×Value)) (H:HS):pickH sel ((k,.mp es) :: H)=pickH sel H:=rfl
theorem tieH_tab (xs:Nat→Value) (k sz:Nat) (es:List (List SV)) (H:HS):tieH xs ((k,.tab sz es) :: H)=(k,.tab sz es) :: tieH xs H:=rfl
theorem pickH_tab (sel:List Nat) (k sz:Nat) (es:List (List SV)) (H:HS):pickH sel ((k,.tab sz es) :: H)=pickH sel H:=rfl
theorem st1:type_of% (And.intro (And.intro (And.intro (And.intro @tieH_tab @tieH_mp) (And.intro @pickH_mp @pickH_tab)) (And.intro (And.intro @tabOf.eq_1 @tabOf.eq_2) (And.intro @tabP.eq_1 @tabP.eq_2))) (And.intro (And.intro (And.intro @vv_len @noKeyss_vv) (And.intro @noKeyss_app @pubss_vv)) @pubss_app)):=
 And.intro (And.intro (And.intro (And.intro @tieH_tab @tieH_mp) (And.intro @pickH_mp @pickH_tab)) (And.intro (And.intro @tabOf.eq_1 @tabOf.eq_2) (And.intro @tabP.eq_1 @tabP.eq_2))) (And.intro (And.intro (And.intro @vv_len @noKeyss_vv) (And.intro @noKeyss_app @pubss_vv)) @pubss_app)
end Go.X

