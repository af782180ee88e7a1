/- Contracts of functions and the logic that they are proved in (3 texts in one). Conditions: none. -/
import Derived.Test.YthafjlokddpjfaaGreatDoorMg5
import Derived.MapKept
set_option linter.unusedSimpArgs false
set_option linter.unusedVariables false
set_option maxHeartbeats 4000000
set_option maxRecDepth 20000
namespace Go.X
open Go Go.RowKit

def enumK:Nat→List PO→HS
 | _,[]=>[]
 | k,p :: r=>(k,p) :: enumK (k+1) r
def heldL (H:HS):List Nat→List PO→Prop
 | [],[]=>True
 | k :: ks,p :: ps=>hget H k=some p∧heldL H ks ps
 | _,_=>False
def ksv (ks:List Nat):Nat→SV:=fun i=>.own (ks.getD i 0)
def kd (d:Nat):Nat→SV:=fun i=>.own (d+i)
/-- the same entries, the rows under other names -/
def alike (ν ν':Nat→Value):List PO→List PO→Prop
 | [],[]=>True
 | p :: ps,q :: qs=>(∀ w x,p.holds ν w x→q.holds ν' w x)∧alike ν ν' ps qs
 | _,_=>False
def sigConcA:List Nat→Sig→Sig
 | _,[]=>[]
 | D,(j,g,s) :: σ=>bif memN j D then sigConcA D σ else bif s.conc then (j,g,s) :: sigConcA D σ else sigConcA (j :: D) σ
def sigConc (σ:Sig):Sig:=sigConcA [] σ

section
variable {E:Env} {σ:Sig} {H:HS} {M:Mem} {a:Act} {w:World} {ν:Nat→Value} {K:KP} {o:Oper}

theorem sigConcA_lk : ∀ {σ:Sig} {D:List Nat} {k:Nat} {p:Bool×SV},lk (sigConcA D σ) k=some p→memN k D=false∧lk σ k=some p∧p.2.conc=true
 | [],D,k,p,h=>by simp [sigConcA,lk] at h
 | (j,g,s) :: σ,D,k,p,h=>by
  simp only [sigConcA] at h
  cases hm:memN j D with
  | true=>
    rw [hm,cond_true] at h
    obtain ⟨h1,h2,h3⟩:=sigConcA_lk h
    refine ⟨h1,?_,h3⟩
    simp only [lk]
    rw [if_neg (fun e=>by rw [e,hm] at h1; cases h1)]
    exact h2
  | false=>
    rw [hm,cond_false] at h
    cases hc:s.conc with
    | true=>
      rw [hc,cond_true] at h
      simp only [lk] at h
      split at h
      · rename_i e
        subst e
        simp only [Option.some.injEq] at h
        subst h
        exact ⟨hm,by simp [lk],hc⟩
      · rename_i e
        obtain ⟨h1,h2,h3⟩:=sigConcA_lk h
        exact ⟨h1,by simp only [lk]; rw [if_neg e]; exact h2,h3⟩
    | false=>
      rw [hc,cond_false] at h
      obtain ⟨h1,h2,h3⟩:=sigConcA_lk h
      simp only [memN] at h1
      split at h1
      · cases h1
      · rename_i e
        exact ⟨h1,by simp only [lk]; rw [if_neg e]; exact h2,h3⟩
theorem Slots.concs {N:Nat} {ν':Nat→Value} (hs:Slots N ν σ a):Slots N ν' (sigConc σ) a:=
 ⟨hs.1,hs.2.1,fun k g s hk=>by
  obtain ⟨_,h2,h3⟩:=sigConcA_lk hk
  rw [hs.2.2 k g s h2,SV.conc_val s h3]⟩

theorem heldL_mem : ∀ {ks:List Nat} {ps:List PO} {k:Nat},heldL H ks ps→k ∈ ks → ∃ p,hget H k=some p
 | [],[],k,_,hk=>by cases hk
 | j :: ks,p :: ps,k,h,hk=>by
   rcases List.mem_cons.1 hk with rfl | hk
   · exact ⟨p,h.1⟩
   · exact heldL_mem h.2 hk
theorem heldL_len : ∀ {ks:List Nat} {ps:List PO},heldL H ks ps→ks.length=ps.length
 | [],[],_=>rfl
 | j :: ks,p :: ps,h=>by simp only [List.length_cons,heldL_len h.2]
theorem alike_len {ν ν':Nat→Value} : ∀ {ps qs:List PO},alike ν ν' ps qs→ps.length=qs.length
 | [],[],_=>rfl
 | p :: ps,q :: qs,h=>by simp only [List.length_cons,alike_len h.2]
theorem blks_nodup (hh:Heap E ν H M w) : ∀ {ks:List Nat} {ps:List PO},heldL H ks ps→ks.Nodup→(ks.filterMap fun k=>blk? (ν k)).Nodup
 | [],_,_,_=>by simp
 | k :: ks,p :: ps,h,hn=>by
   obtain ⟨hn1,hn2⟩:=List.nodup_cons.1 hn
   have ih:=blks_nodup hh h.2 hn2
   rw [List.filterMap_cons]
   split
   · exact ih
   · rename_i b hb
     refine List.nodup_cons.2 ⟨fun hm=>?_,ih⟩
     obtain ⟨k',hk',hb'⟩:=List.mem_filterMap.1 hm
     obtain ⟨p',hp'⟩:=heldL_mem h.2 hk'
     exact blk_ne hh h.1 hb _ (hget_mem hp') (fun e=>hn1 (e ▸ hk')) hb'
theorem enumK_fp {ν ν2:Nat→Value} : ∀ {ks:List Nat} {qs:List PO} {base:Nat},ks.length=qs.length→(∀ i,i < ks.length→ν2 (base+i)=ν (ks.getD i 0))→fp ν2 (enumK base qs)=ks.filterMap fun k=>blk? (ν k)
 | [],[],_,_,_=>rfl
 | k :: ks,q :: qs,base,hl,h=>by
   have h0:=h 0 (by simp)
   simp only [Nat.add_zero,List.getD_cons_zero] at h0
   have ih:=enumK_fp (ν:=ν) (ν2:=ν2) (ks:=ks) (qs:=qs) (base:=base+1) (by simpa using hl) (fun i hi=>by
    have:=h (i+1) (by simp; omega)
    rw [List.getD_cons_succ] at this
    rw [← this]
    congr 1
    omega)
   simp only [enumK,fp,List.filterMap_cons,h0] at ih ⊢
   rw [ih]
theorem enumK_mem : ∀ {qs:List PO} {base:Nat} {r:Nat×PO},r ∈ enumK base qs → ∃ i,qs[i]? = some r.2∧r.1=base+i
 | q :: qs,base,r,h=>by
   simp only [enumK] at h
   rcases List.mem_cons.1 h with rfl | h
   · exact ⟨0,rfl,rfl⟩
   · obtain ⟨i,h1,h2⟩:=enumK_mem h
     exact ⟨i+1,by simpa using h1,by omega⟩
theorem alike_at {ν ν':Nat→Value} : ∀ {ps qs:List PO} {i:Nat} {q:PO},alike ν ν' ps qs→qs[i]? = some q → ∃ p,ps[i]? = some p ∧ ∀ w x,p.holds ν w x→q.holds ν' w x
 | p :: ps,q0 :: qs,0,q,h,hi=>by
   simp only [List.getElem?_cons_zero,Option.some.injEq] at hi
   subst hi
   exact ⟨p,rfl,h.1⟩
 | p :: ps,q0 :: qs,i+1,q,h,hi=>by
   simp only [List.getElem?_cons_succ] at hi
   obtain ⟨p',h1,h2⟩:=alike_at h.2 hi
   exact ⟨p',by simpa using h1,h2⟩
 | [],[],i,q,_,hi=>by simp at hi
theorem heldL_at : ∀ {ks:List Nat} {ps:List PO} {i:Nat} {p:PO},heldL H ks ps→ps[i]? = some p→hget H (ks.getD i 0)=some p
 | k :: ks,p0 :: ps,0,p,h,hi=>by
   simp only [List.getElem?_cons_zero,Option.some.injEq] at hi
   subst hi
   exact h.1
 | k :: ks,p0 :: ps,i+1,p,h,hi=>by
   simp only [List.getElem?_cons_succ] at hi
   rw [List.getD_cons_succ]
   exact heldL_at h.2 hi
 | [],[],i,p,_,hi=>by simp at hi

/-- some of the entries, under other keys -/
theorem Heap.pick {N:Nat} (hh:Heap E ν H M w) {ks:List Nat} {ps qs:List PO} (hn:ks.Nodup) (hl:heldL H ks ps) {ν2:Nat→Value} (ha:alike ν ν2 ps qs) {base:Nat} (hν : ∀ i,i < ks.length→ν2 (base+i)=ν (ks.getD i 0)) (h1 : ∀ k,(ν2 k).oneCell'=true) :
  Heap ⟨E.P,N,E.w0,E.M0⟩ ν2 (enumK base qs) M w:=by
 have hlen:ks.length=qs.length:=(heldL_len hl).trans (alike_len ha)
 have hf:=enumK_fp (ν:=ν) (ν2:=ν2) (base:=base) hlen hν
 refine ⟨fun r hr=>?_,by rw [hf]; exact blks_nodup hh hl hn,fun b hb=>?_,hh.mem,hh.below,hh.le0,hh.fresh,h1⟩
 · obtain ⟨i,hi,he⟩:=enumK_mem hr
   obtain ⟨p,hp,hpq⟩:=alike_at ha hi
   have hil:i < ks.length:=by rw [hlen]; exact (List.getElem?_eq_some_iff.1 hi).1
   have:=hh.holds _ (hget_mem (heldL_at hl hp))
   rw [he,hν i hil]
   exact hpq _ _ this
 · rw [hf] at hb
   obtain ⟨k,hk,hkb⟩:=List.mem_filterMap.1 hb
   obtain ⟨p,hp⟩:=heldL_mem hl hk
   exact hh.apart b (List.mem_filterMap.2 ⟨_,hget_mem hp,hkb⟩)

/-- THE CONTRACT of a function that is lent rows. -/
def MeetsH (P:Program) (f:FuncId) (args:List SV) (H:HS) (M:Mem) (R:RP):Prop:=
 callable P f ∧ ∀ (w0:World) (M0:Mem) (ν:Nat→Value) (w:World),Heap ⟨P,0,w0,M0⟩ ν H M w→Calls P f (SV.vals ν args).toArray w fun e w'=>∃ s H' M' ν',e = .returned (s.val ν')∧Heap ⟨P,0,w0,M0⟩ ν' H' M' w'∧R s H' M'
theorem MeetsH.mono {P:Program} {f:FuncId} {args:List SV} {R R':RP} (h:MeetsH P f args H M R) (hr : ∀ s H' M',R s H' M'→R' s H' M'):MeetsH P f args H M R':=
 ⟨h.1,fun w0 M0 ν w hh=>(h.2 w0 M0 ν w hh).mono fun _ _ ⟨s,H',M',ν',h1,h2,h3⟩=>⟨s,H',M',ν',h1,h2,hr _ _ _ h3⟩⟩
theorem MeetsH.of_body {P:Program} {f:FuncId} {fn:Func} {c:Code} {args:List SV} {R:RP} (live:List Nat) (hf:P.funcs[f]? = some fn) (hb:fn.body=some c) (hn:okFn fn args.length=true)
  (h : ∀ w M0,wpC ⟨P,fn.ntmps,w,M0⟩ live c (RetK P fn.results.toList R) (params fn.ntmps 0 args) H M):MeetsH P f args H M R:=by
 simp only [okFn,Bool.and_eq_true,Bool.not_eq_true',decide_eq_true_eq] at hn
 refine ⟨⟨fn,hf,hn.1.1,hn.1.2⟩,fun w0 M0 ν w hh=>?_⟩
 refine calls_of_wp hf hb ?_
 have hlen:(SV.vals ν args).length=args.length:=by rw [SV.vals_map]; simp
 have hheap:Heap ⟨P,fn.ntmps,w0,M0⟩ ν H M w:=⟨hh.holds,hh.nodup,hh.apart,hh.mem,hh.below,hh.le0,hh.fresh,hh.one⟩
 refine Code.wp_mono ?_ (wpC_sound c _ _ _ _ (h w0 M0) _ w ⟨ν,⟨?_,rfl,?_⟩,hheap⟩)
 · rintro e a w' ⟨σ,H,M',⟨ν,hs,hh⟩,hq⟩
   have key:(match rsvs P σ H M' fn.results.toList with | some (ss,C)=>C∧R (one? ss) H M' | none=>False)→a.defers=[] ∧ ∃ v,(results fn a.tmps).run P w' = .ok v w' ∧ ∃ s H' M' ν,Ending.returned v = .returned (s.val ν)∧Heap ⟨P,0,w0,M0⟩ ν H' M' w'∧R s H' M':=by
    intro hq
    split at hq
    · rename_i ss C hr
      exact ⟨hs.2.1,_,results_sound hs hh hr hq.1,_,_,_,ν,rfl,⟨hh.holds,hh.nodup,hh.apart,hh.mem,hh.below,hh.le0,hh.fresh,hh.one⟩,hq.2⟩
    · exact hq.elim
   cases e with
   | normal=>exact key hq
   | ret=>exact key hq
   | _=>exact hq.elim
 · simp only [Array.size_append,List.size_toArray,Array.size_replicate,hlen]; omega
 · intro k g s hk
   obtain ⟨i,rfl,hg,hi⟩:=lk_params hk
   simp only at hg hi
   subst hg
   have hlt:i < args.length:=(List.getElem?_eq_some_iff.1 hi).1
   rw [Array.getElem?_append_left (by simp only [List.size_toArray,hlen]; omega),List.getElem?_toArray,SV.vals_map,List.getElem?_map,Nat.zero_add,hi]
   rfl

theorem hget_hpub {k k2:Nat} {v:Value} {p:PO} (hne:k≠k2) : ∀ {H:HS},hget H k=some p→hget (hpub k2 v H) k=some (poPub k2 v p)
 | [],h=>by simp [hget] at h
 | (j,q) :: H,h=>by
  simp only [hget] at h
  simp only [hpub]
  split at h
  · rename_i e
    subst e
    rw [if_neg hne]
    simp only [Option.some.injEq] at h
    subst h
    simp only [hget,if_true]
  · rename_i e
    split
    · exact hget_hpub hne h
    · simp only [hget,if_neg e]
      exact hget_hpub hne h
theorem HEnt.untie {k:Nat} {cs:List SV} {t:Option Value} (hk:hget H k=some (.box cs t)):HEnt E H M (hset k (.box cs none) H):=
 HEnt.set hk fun ν w h=>⟨h.1,fun v hv=>by cases hv⟩
/-- a region's ways, led to one end -/
theorem DrawK.ent {id:Nat} {ops:Array Oper} {X:Type} (I:X→Prop) (S:X→Sig×HS×Mem) (h:DrawK E id ops (fun σ H M=>∃ x,I x∧Ent E σ H M (S x)) σ H M) (hk : ∀ x,I x→K (S x).1 (S x).2.1 (S x).2.2):DrawK E id ops K σ H M:=by
 intro a w hr
 refine Code.wp_mono ?_ (h a w hr)
 rintro e a' w' ⟨rfl,σ',H',M',hr',x,hx,he⟩
 exact ⟨rfl,_,_,_,he a' w' hr',hk x hx⟩

/-! ### publishing a box -/
def BoxM (M:Mem) (b:Nat) (cs:List Value):Prop:=∀ j c,cs[j]? = some c→cellM M ⟨b,j,none⟩=some c
theorem BoxM.le {M M':Mem} {b:Nat} {cs:List Value} (h:BoxM M b cs) (hle:M.le M'):BoxM M' b cs:=fun j c hc=>cellM_le hle (h j c hc)
theorem BoxM.at {M:Mem} {b:Nat} {cs:List Value} (h:BoxM M b cs) {j:Nat} {c:Value} (hc:cs[j]? = some c):elP M ⟨b,0,none⟩ j=c∧okP M ⟨b,0,none⟩ j:=by
 have e:(⟨b,0,none⟩:Addr).add j=⟨b,j,none⟩:=by unfold Addr.add; split <;> simp_all
 have:=h j c hc
 unfold elP okP
 rw [e,this]
 exact ⟨rfl,rfl⟩
mutual
def SV.pubP (k b:Nat):SV→SV
 | .v x=>.v x
 | .own j=>if j=k then .v (.pointer (some ⟨b,0,none⟩)) else .own j
 | .ptr j sz i off=>if j=k then .v (.pointer (some ⟨b,i * sz+off,none⟩)) else .ptr j sz i off
 | .ea x a b c=>.ea x a b c
 | .agg l=>.agg (SV.pubPs k b l)
 | .tup l=>.tup (SV.pubPs k b l)
 | .fn f l=>.fn f (SV.pubPs k b l)
def SV.pubPs (k b:Nat):List SV→List SV
 | []=>[]
 | s :: l=>SV.pubP k b s :: SV.pubPs k b l
end
mutual
theorem SV.pubP_val {ν:Nat→Value} {k b:Nat} (h:ν k = .pointer (some ⟨b,0,none⟩)) : ∀ s:SV,(s.pubP k b).val ν=s.val ν
 | .v _=>rfl
 | .own j=>by
   simp only [SV.pubP]
   split
   · rename_i e; subst e; simp only [SV.val,h]
   · rfl
 | .ptr j _ _ _=>by
   simp only [SV.pubP]
   split
   · rename_i e; subst e; simp only [SV.val,h,bOf]
   · rfl
 | .ea _ _ _ _=>rfl
 | .agg l=>by simp only [SV.pubP,SV.val,SV.pubPs_vals h l]
 | .tup l=>by simp only [SV.pubP,SV.val,SV.pubPs_vals h l]
 | .fn _ l=>by simp only [SV.pubP,SV.val,SV.pubPs_vals h l]
theorem SV.pubPs_vals {ν:Nat→Value} {k b:Nat} (h:ν k = .pointer (some ⟨b,0,none⟩)) : ∀ l:List SV,SV.vals ν (SV.pubPs k b l)=SV.vals ν l
 | []=>rfl
 | s :: l=>by simp only [SV.pubPs,SV.vals,SV.pubP_val h s,SV.pubPs_vals h l]
end
def sigPubP (k b:Nat):Sig→Sig
 | []=>[]
 | (j,g,s) :: σ=>(j,g,s.pubP k b) :: sigPubP k b σ
theorem lk_pubP {k b:Nat} : ∀ {σ:Sig} {j:Nat} {g:Bool} {s:SV},lk (sigPubP k b σ) j=some (g,s) → ∃ s',s=s'.pubP k b∧lk σ j=some (g,s')
 | [],j,g,s,h=>by simp [sigPubP,lk] at h
 | (j0,g0,s0) :: σ,j,g,s,h=>by
  simp only [sigPubP,lk] at h
  simp only [lk]
  split at h
  · rename_i e
    rw [if_pos e]
    simp only [Option.some.injEq,Prod.mk.injEq] at h
    obtain ⟨rfl,rfl⟩:=h
    exact ⟨s0,rfl,rfl⟩
  · rename_i e
    rw [if_neg e]
    exact lk_pubP h
theorem pubP_slots {N k b:Nat} (h:ν k = .pointer (some ⟨b,0,none⟩)) (hs:Slots N ν σ a):Slots N ν (sigPubP k b σ) a:=
 ⟨hs.1,hs.2.1,fun j g s hj=>by
  obtain ⟨s',rfl,h'⟩:=lk_pubP hj
  rw [hs.2.2 j g s' h',SV.pubP_val h]⟩
theorem pubP_heap {k:Nat} {cs:List SV} {t:Option Value} (hh:Heap E ν H M w) (hk:hget H k=some (.box cs t)) (hc:SV.concs cs=true) :
  ∃ b M',ν k = .pointer (some ⟨b,0,none⟩)∧M.le M'∧BoxM M' b (SV.vals ν0 cs)∧Heap E ν (hdelk k H) M' w:=by
 obtain ⟨⟨b,T,hν,hb⟩,_⟩:=hh.holds _ (hget_mem hk)
 simp only at hν
 have hkb:blk? (ν k)=some b:=by rw [hν]; rfl
 obtain ⟨hMb,hBb⟩:=hh.apart b (List.mem_filterMap.2 ⟨(k,_),hget_mem hk,hkb⟩)
 let M':Mem:=fun c=>if c=b then some (.cells (SV.vals ν cs).toArray T (0,0)) else M c
 have hM'b:M' b=some (.cells (SV.vals ν cs).toArray T (0,0)):=by simp [M']
 have hle:M.le M':=fun c o hc=>by
  simp only [M']
  rw [if_neg (fun e=>by rw [e,hMb] at hc; cases hc)]
  exact hc
 have h1:=hh.sublist (hdelk_sub k H)
 refine ⟨b,M',hν,hle,fun j c hj=>?_,h1.holds,h1.nodup,fun c hc=>?_,fun c o hc=>?_,hh.below,hh.le0.trans hle,fun c hc=>?_,hh.one⟩
 · simp only [cellM,hM'b]
   simp only [Option.isSome_none,Bool.false_eq_true,if_false,List.getElem?_toArray]
   rw [SV.concs_vals (ν:=ν0) (ν':=ν) cs hc]
   exact hj
 · have hcb:c≠b:=by
    rintro rfl
    exact fp_hdelk hh hk hkb 0 _ (hdelk_sub k H) (hdelk_ne k H) hc
   simp only [M',if_neg hcb]
   exact h1.apart c hc
 · simp only [M'] at hc
   split at hc
   · rename_i e
     subst e
     simp only [Option.some.injEq] at hc
     subst hc
     exact hb
   · exact hh.mem c o hc
 · simp only [M'] at hc
   split at hc
   · rename_i e
     subst e
     exact .inr hBb
   · exact hh.fresh c hc
theorem CallK.pubB {f d k:Nat} {l:List SV} {cs:List SV} {t:Option Value} (hk:hget H k=some (.box cs t)) (hc:SV.concs cs=true)
  (h : ∀ b M',M.le M'→BoxM M' b (SV.vals ν0 cs)→CallK E f (SV.pubPs k b l) d K (sigPubP k b σ) (hdelk k H) M'):CallK E f l d K σ H M:=by
 intro ν a w hs hh
 obtain ⟨b,M',hν,h1,h2,h3⟩:=pubP_heap hh hk hc
 have:=h b M' h1 h2 ν a w (pubP_slots hν hs) h3
 rw [SV.pubPs_vals hν] at this
 exact this
theorem OpK.pubB {k:Nat} {cs:List SV} {t:Option Value} (hk:hget H k=some (.box cs t)) (hc:SV.concs cs=true)
  (h : ∀ b M',M.le M'→BoxM M' b (SV.vals ν0 cs)→OpK E o K (sigPubP k b σ) (hdelk k H) M'):OpK E o K σ H M:=by
 rintro a w ⟨ν,hs,hh⟩
 obtain ⟨b,M',hν,h1,h2,h3⟩:=pubP_heap hh hk hc
 exact h b M' h1 h2 a w ⟨ν,pubP_slots hν hs,h3⟩
theorem LoopK.pubB {live:List Nat} {body:Code} {Q:QP} {k:Nat} {cs:List SV} {t:Option Value} (hk:hget H k=some (.box cs t)) (hc:SV.concs cs=true)
  (h : ∀ b M',M.le M'→BoxM M' b (SV.vals ν0 cs)→LoopK E live body Q (sigPubP k b σ) (hdelk k H) M'):LoopK E live body Q σ H M:=by
 rintro a w ⟨ν,hs,hh⟩
 obtain ⟨b,M',hν,h1,h2,h3⟩:=pubP_heap hh hk hc
 exact h b M' h1 h2 a w ⟨ν,pubP_slots hν hs,h3⟩
theorem DrawK.pubB {id:Nat} {ops:Array Oper} {k:Nat} {cs:List SV} {t:Option Value} (hk:hget H k=some (.box cs t)) (hc:SV.concs cs=true)
  (h : ∀ b M',M.le M'→BoxM M' b (SV.vals ν0 cs)→DrawK E id ops K (sigPubP k b σ) (hdelk k H) M'):DrawK E id ops K σ H M:=by
 rintro a w ⟨ν,hs,hh⟩
 obtain ⟨b,M',hν,h1,h2,h3⟩:=pubP_heap hh hk hc
 exact h b M' h1 h2 a w ⟨ν,pubP_slots hν hs,h3⟩
end
theorem shA1:type_of% (And.intro (And.intro (And.intro @enumK.eq_1 @enumK.eq_2) (And.intro @kd.eq_1 @ksv.eq_1)) (And.intro (And.intro (And.intro @sigConcA.eq_1 @sigConcA.eq_2) (And.intro @sigConc.eq_1 @heldL.eq_1)) (And.intro @heldL.eq_2 @sigPubP.eq_1))):=And.intro (And.intro (And.intro @enumK.eq_1 @enumK.eq_2) (And.intro @kd.eq_1 @ksv.eq_1)) (And.intro (And.intro (And.intro @sigConcA.eq_1 @sigConcA.eq_2) (And.intro @sigConc.eq_1 @heldL.eq_1)) (And.intro @heldL.eq_2 @sigPubP.eq_1))
theorem shA2:type_of% (And.intro (And.intro (And.intro @sigPubP.eq_2 @SV.pubP.eq_1) (And.intro @SV.pubP.eq_2 @SV.pubP.eq_3)) (And.intro (And.intro (And.intro @SV.pubP.eq_4 @SV.pubP.eq_5) (And.intro @SV.pubP.eq_6 @SV.pubP.eq_7)) (And.intro @SV.pubPs.eq_1 @SV.pubPs.eq_2))):=And.intro (And.intro (And.intro @sigPubP.eq_2 @SV.pubP.eq_1) (And.intro @SV.pubP.eq_2 @SV.pubP.eq_3)) (And.intro (And.intro (And.intro @SV.pubP.eq_4 @SV.pubP.eq_5) (And.intro @SV.pubP.eq_6 @SV.pubP.eq_7)) (And.intro @SV.pubPs.eq_1 @SV.pubPs.eq_2))
end Go.X

namespace Go.X
open Go Go.RowKit

section
variable {E:Env} {σ:Sig} {H:HS} {M:Mem} {a:Act} {w:World} {ν:Nat→Value} {K:KP} {o:Oper}

theorem Heap.setPO {k:Nat} {p q:PO} (hh:Heap E ν H M w) (hk:hget H k=some p) (h:p.holds ν w (ν k)→q.holds ν w (ν k)):Heap E ν (hset k q H) M w:=by
 refine ⟨fun r hr=>?_,by rw [hset_fp]; exact hh.nodup,fun b hb=>hh.apart b (by rw [hset_fp] at hb; exact hb),hh.mem,hh.below,hh.le0,hh.fresh,hh.one⟩
 rcases hset_mem hr with rfl | hr
 · exact h (hh.holds _ (hget_mem hk))
 · exact hh.holds _ hr
abbrev ptrV (b:Nat):Value:=.pointer (some ⟨b,0,none⟩)
/-- the pointer to a box gets a name -/
theorem CallK.tie {f d:Nat} {l:List SV} (k:Nat) {cs:List SV} {t:Option Value} (hk:hget H k=some (.box cs t)) (h : ∀ b,CallK E f l d K σ (hset k (.box cs (some (ptrV b))) H) M):CallK E f l d K σ H M:=by
 intro ν a w hs hh
 obtain ⟨⟨b,T,hν,hb⟩,ht⟩:=hh.holds _ (hget_mem hk)
 simp only at hν
 exact h b ν a w hs (hh.setPO hk fun hx=>⟨hx.1,fun v hv=>by cases hv; exact hν⟩)
/-- a nil slice in a box, as a row of the call's own -/
theorem CallK.nilBox {f d:Nat} {l:List SV} (k j e sz:Nat) {cs:List SV} {t:Option Value} (hk:hget H k=some (.box cs t)) (hj:cs[j]? = some (.v (.slice none 0 0))) (hke:(k / 8 == e)=false) (hl:SV.noKeys e l=true) (hn:hNoKey e H=true) (hs':sigNoKey e σ=true)
  (h:CallK E f l d K σ ((8 * e,.row sz []) :: hset k (.box (cs.set j (.own (8 * e))) t) H) M):CallK E f l d K σ H M:=by
 intro ν a w hs hh
 let ν2:Nat→Value:=fun i=>if i / 8=e then .slice none 0 0 else ν i
 have hν : ∀ i,i / 8≠e→ν2 i=ν i:=fun i hi=>by simp [ν2,hi]
 have hν8:ν2 (8 * e) = .slice none 0 0:=by simp [ν2,show (8 * e) / 8=e by omega]
 have hke':k / 8≠e:=by simpa using hke
 have h1:Heap E ν2 ((8 * e,.row sz []) :: H) M w:=by
  refine hh.add hn hν (fun i=>?_) ?_ (fun b hb=>by rw [hν8] at hb; simp [blk?] at hb)
  · by_cases hi:i / 8=e
    · simp [ν2,hi,Value.oneCell']
    · simp only [ν2,hi,if_false]; exact hh.one i
  · rw [hν8]
    exact ⟨fun e he=>by simp at he,.inl ⟨rfl,rfl⟩⟩
 have hne : ¬ 8 * e=k:=fun he=>hke' (by omega)
 have h2:Heap E ν2 ((8 * e,.row sz []) :: hset k (.box (cs.set j (.own (8 * e))) t) H) M w:=by
  have h3:=h1.setPO (k:=k) (p:=.box cs t) (q:=.box (cs.set j (.own (8 * e))) t) (by simp only [hget]; rw [if_neg (fun e'=>hne e'.symm)]; exact hk) (fun hx=>by
   obtain ⟨⟨b,T,e1,e2⟩,e3⟩:=hx
   refine ⟨⟨b,T,e1,?_⟩,e3⟩
   rw [e2]
   congr 3
   rw [SV.vals_map,SV.vals_map,List.map_set]
   apply List.ext_getElem?
   intro i
   rw [List.getElem?_set]
   split
   · rename_i ei
     subst ei
     have hjl:j < cs.length:=(List.getElem?_eq_some_iff.1 hj).1
     rw [List.length_map,if_pos hjl,List.getElem?_map,hj]
     simp only [Option.map_some,SV.val,hν8]
   · rfl)
  simp only [hset,if_neg hne] at h3
  exact h3
 have:=h ν2 a w ⟨hs.1,hs.2.1,fun i g s hi=>by rw [hs.2.2 i g s hi,SV.val_congr hν s (sigNoKey_lk hs' hi)]⟩ h2
 rw [SV.vals_congr hν l hl] at this
 exact this
end
theorem BoxM.at' {M:Mem} {b:Nat} {cs:List Value} (h:BoxM M b cs) {j:Nat} {c:Value} (hc:cs[j]? = some c):elP M ((⟨b,0,none⟩:Addr).add j) 0=c∧okP M ((⟨b,0,none⟩:Addr).add j) 0:=by
 have:=h.at hc
 unfold elP okP at this ⊢
 rw [Addr.add_add,Nat.add_zero]
 exact this
/-- simp takes one branch only of this form -/
theorem sigConcA_if (D:List Nat) (j:Nat) (g:Bool) (s:SV) (σ:Sig):sigConcA D ((j,g,s) :: σ)=if memN j D=true then sigConcA D σ else if s.conc=true then (j,g,s) :: sigConcA D σ else sigConcA (j :: D) σ:=by
 simp only [sigConcA]
 cases memN j D <;> cases s.conc <;> rfl
theorem shB:type_of% (And.intro (And.intro @sigConc.eq_1 (And.intro @sigConcA.eq_1 @sigConcA_if)) (And.intro (And.intro @enumK.eq_1 @enumK.eq_2) (And.intro @kd.eq_1 @ksv.eq_1))):=And.intro (And.intro @sigConc.eq_1 (And.intro @sigConcA.eq_1 @sigConcA_if)) (And.intro (And.intro @enumK.eq_1 @enumK.eq_2) (And.intro @kd.eq_1 @ksv.eq_1))
end Go.X

namespace Go.X
open Go Go.RowKit

/-- the first entry of a key -/
def fnd {α:Type} [DecidableEq α] (a:α):List (α×Value)→Nat→Option (Nat×Value)
 | [],_=>none
 | p :: l,i=>if a=p.1 then some (i,p.2) else fnd a l (i+1)
def encL {α:Type} (enc:α→Value) (l:List (α×Value)):List (Value×Value):=l.map fun p=>(enc p.1,p.2)
/-- what the machine asks of a key's type -/
structure KeyT (P:Program) (kt:TypeId) {α:Type} [DecidableEq α] (enc:α→Value):Prop where
 known : ∃ d,P.underlying kt=some d
 check : ∀ e w a,(Instr.checkKey e 10000 kt (enc a)).run P w = .ok () w
 eq : ∀ w a b,(Op.equal kt (enc a) (enc b)).run P w = .ok (decide (a=b)) w
 now : ∀ d a b,P.underlying kt=some d→Instr.sameNow d (enc a) (enc b)=some (decide (a=b))∨Instr.sameNow d (enc a) (enc b)=none
 same : ∀ a,Instr.sameBits 10000 (enc a) (enc a)=true

section
variable {P:Program} {kt:TypeId} {α:Type} [DecidableEq α] {enc:α→Value}
theorem KeyT.findAsking (K:KeyT P kt enc) (w:World) (a:α) : ∀ (l:List (α×Value)) (es:List MapEntry) (i:Nat),es.map (fun e=>(e.key,e.val))=encL enc l→(Instr.findAsking kt (enc a) es i).run P w = .ok (fnd a l i) w
 | [],[],i,_=>by simp [Instr.findAsking,fnd]
 | [],_ :: _,i,h=>by simp [encL] at h
 | _ :: _,[],i,h=>by simp [encL] at h
 | p :: l,e :: es,i,h=>by
   simp only [encL,List.map_cons,List.cons.injEq,Prod.mk.injEq] at h
   obtain ⟨⟨h1,h2⟩,h3⟩:=h
   have ih:=KeyT.findAsking K w a l es (i+1) h3
   simp only [Instr.findAsking,Sem.run_bind,h1,K.eq,Result.andThen_ok,fnd]
   by_cases hp:a=p.1
   · simp [hp,h2]
   · simp only [hp,decide_false,Bool.false_eq_true,if_false]
     exact ih
theorem KeyT.findNow (K:KeyT P kt enc) {d:TypeDesc} (hd:P.underlying kt=some d) (a:α) : ∀ (l:List (α×Value)) (es:List MapEntry) (i:Nat),es.map (fun e=>(e.key,e.val))=encL enc l→Instr.findNow d (enc a) es i=some (fnd a l i)∨Instr.findNow d (enc a) es i=none
 | [],[],i,_=>.inl rfl
 | [],_ :: _,i,h=>by simp [encL] at h
 | _ :: _,[],i,h=>by simp [encL] at h
 | p :: l,e :: es,i,h=>by
   simp only [encL,List.map_cons,List.cons.injEq,Prod.mk.injEq] at h
   obtain ⟨⟨h1,h2⟩,h3⟩:=h
   have ih:=KeyT.findNow K hd a l es (i+1) h3
   simp only [Instr.findNow,h1,fnd]
   rcases K.now d a p.1 hd with h | h
   · rw [h]
     by_cases hp:a=p.1
     · simp [hp,h2]
     · simp only [hp,decide_false,if_false]
       exact ih
   · rw [h]
     exact .inr rfl
theorem KeyT.findKey (K:KeyT P kt enc) (w:World) (a:α) {l:List (α×Value)} {es:List MapEntry} (h:es.map (fun e=>(e.key,e.val))=encL enc l):(Instr.findKey kt (enc a) es).run P w = .ok (fnd a l 0) w:=by
 obtain ⟨d,hd⟩:=K.known
 simp only [Instr.findKey,Sem.run_bind,run_underlying hd,Result.andThen_ok]
 rcases K.findNow hd a l es 0 h with h1 | h1
 · rw [h1]; rfl
 · rw [h1]
   exact K.findAsking w a l es 0 h
theorem fnd_spec (a:α) : ∀ (l:List (α×Value)) (i:Nat),(fnd a l i=none ∧ ∀ p ∈ l,p.1≠a) ∨ ∃ j v,fnd a l i=some (i+j,v)∧l[j]? = some (a,v)
 | [],i=>.inl ⟨rfl,fun p hp=>by cases hp⟩
 | p :: l,i=>by
   simp only [fnd]
   by_cases hp:a=p.1
   · rw [if_pos hp]
     exact .inr ⟨0,p.2,rfl,by rw [hp]; rfl⟩
   · rw [if_neg hp]
     rcases fnd_spec a l (i+1) with ⟨h1,h2⟩ | ⟨j,v,h1,h2⟩
     · refine .inl ⟨h1,fun q hq=>?_⟩
       rcases List.mem_cons.1 hq with rfl | hq
       · exact fun e=>hp e.symm
       · exact h2 q hq
     · exact .inr ⟨j+1,v,by rw [h1]; congr 2; omega,by simpa using h2⟩
/-- the map after a store -/
def upd (a:α) (v:Value) (l:List (α×Value)):List (α×Value):=match fnd a l 0 with
 | some (i,_)=>l.set i (a,v)
 | none=>l++[(a,v)]
end

theorem stamp_push {m:Array MapEntry} {c:Nat} {k v:Value} (h:m.size=c ∧ ∀ (j:Nat) (e:MapEntry),m[j]? = some e→e.born=j):(m.push { key:=k,val:=v,born:=c }).size=c+1 ∧ ∀ (j:Nat) (e:MapEntry),(m.push { key:=k,val:=v,born:=c })[j]? = some e→e.born=j:=by
 refine ⟨by simp [h.1],fun j e hj=>?_⟩
 rw [Array.getElem?_push] at hj
 split at hj
 · rename_i e1
   cases hj
   show c=j
   rw [e1]; exact h.1.symm
 · exact h.2 j e hj
theorem stamp_mod {m:Array MapEntry} {c i:Nat} {f:MapEntry→MapEntry} (h:m.size=c ∧ ∀ (j:Nat) (e:MapEntry),m[j]? = some e→e.born=j) (hf : ∀ e,(f e).born=e.born):(m.modify i f).size=c ∧ ∀ (j:Nat) (e:MapEntry),(m.modify i f)[j]? = some e→e.born=j:=by
 refine ⟨by rw [Array.size_modify]; exact h.1,fun j e hj=>?_⟩
 rw [Array.getElem?_modify] at hj
 split at hj
 · rw [Option.map_eq_some_iff] at hj
   obtain ⟨x,hx,rfl⟩:=hj
   rw [hf]
   exact h.2 j x hx
 · exact h.2 j e hj
/-- where a key's entry stands, or would -/
def kix {α:Type} [DecidableEq α] (a:α) (l:List (α×Value)):Nat:=match fnd a l 0 with
 | some (i,_)=>i
 | none=>l.length
/-- the map with an entry for a key -/
def ens {α:Type} [DecidableEq α] (a:α) (z:Value) (l:List (α×Value)):List (α×Value):=match fnd a l 0 with
 | some _=>l
 | none=>l++[(a,z)]
theorem ens_at {α:Type} [DecidableEq α] (a:α) (z:Value) (l:List (α×Value)) : ∃ v,(ens a z l)[kix a l]? = some (a,v)∧((fnd a l 0).map (·.2)).getD z=v:=by
 unfold ens kix
 rcases fnd_spec a l 0 with ⟨h1,_⟩ | ⟨j,v,h1,h2⟩
 · rw [h1]
   exact ⟨z,by simp,rfl⟩
 · rw [h1]
   exact ⟨v,by simpa using h2,rfl⟩
theorem ens_set {α:Type} [DecidableEq α] (a:α) (z u:Value) (l:List (α×Value)):(ens a z l).set (kix a l) (a,u)=upd a u l:=by
 unfold ens kix upd
 rcases fnd_spec a l 0 with ⟨h1,_⟩ | ⟨j,v,h1,h2⟩
 · rw [h1]
   simp [List.set_append]
 · rw [h1]
theorem fnd_app {α:Type} [DecidableEq α] (a:α) (l':List (α×Value)) : ∀ (l:List (α×Value)) (i:Nat),fnd a (l++l') i=match fnd a l i with
  | some p=>some p
  | none=>fnd a l' (i+l.length)
 | [],i=>rfl
 | p :: l,i=>by
   simp only [List.cons_append,fnd,List.length_cons]
   split
   · rfl
   · rw [fnd_app a l' l (i+1),show i+1+l.length=i+(l.length+1) by omega]
theorem fnd_setv {α:Type} [DecidableEq α] (a b:α) (u v:Value) : ∀ (l:List (α×Value)) (i j:Nat),l[j]? = some (b,v)→(∀ q p,q < j→l[q]? = some p→p.1≠b)→((fnd a (l.set j (b,u)) i).map (·.2))=if a=b then some u else (fnd a l i).map (·.2)
 | [],i,j,h,_=>by simp at h
 | p :: l,i,0,h,_=>by
   simp only [List.getElem?_cons_zero,Option.some.injEq] at h
   subst h
   simp only [List.set_cons_zero,fnd]
   by_cases hab:a=b
   · rw [if_pos hab,if_pos hab]; rfl
   · rw [if_neg hab,if_neg hab,if_neg hab]
 | p :: l,i,j+1,h,hq=>by
   have ih:=fnd_setv a b u v l (i+1) j (by simpa using h) (fun q p hq1 hp=>hq (q+1) p (by omega) (by simpa using hp))
   simp only [List.set_cons_succ,fnd]
   by_cases hap:a=p.1
   · rw [if_pos hap,if_pos hap,if_neg (fun e=>hq 0 p (by omega) rfl (by rw [← hap,e]))]
   · rw [if_neg hap,if_neg hap,ih]
theorem fnd_first {α:Type} [DecidableEq α] (a:α) : ∀ (l:List (α×Value)) (i j:Nat) (v:Value),fnd a l i=some (i+j,v) → ∀ q p,q < j→l[q]? = some p→p.1≠a
 | [],i,j,v,h=>by cases h
 | x :: l,i,j,v,h=>by
   simp only [fnd] at h
   split at h
   · have:i=i+j:=by simpa using congrArg (·.map (·.1)) h
     intro q p hq; omega
   · rename_i hx
     intro q p hq hp
     cases q with
     | zero=>simp at hp; subst hp; exact fun e=>hx e.symm
     | succ q=>
       obtain ⟨j',rfl⟩ : ∃ j',j=j'+1:=⟨j - 1,by omega⟩
       exact fnd_first a l (i+1) j' v (by rw [h]; congr 2; omega) q p (by omega) (by simpa using hp)
/-- what a key has behind a store -/
theorem fnd_upd {α:Type} [DecidableEq α] (a b:α) (u:Value) (l:List (α×Value)):((fnd a (upd b u l) 0).map (·.2))=if a=b then some u else (fnd a l 0).map (·.2):=by
 unfold upd
 rcases fnd_spec b l 0 with ⟨h1,h2⟩ | ⟨j,v,h1,h2⟩
 · rw [h1]
   simp only
   rw [fnd_app]
   by_cases hab:a=b
   · subst hab
     rw [h1,if_pos rfl]
     simp [fnd]
   · rw [if_neg hab]
     cases fnd a l 0 with
     | some p=>rfl
     | none=>simp [fnd,hab]
 · rw [h1]
   simp only
   rw [Nat.zero_add]
   exact fnd_setv a b u v l 0 j h2 (fnd_first b l 0 j v h1)

section
variable {E:Env} {σ:Sig} {H:HS} {M:Mem} {a:Act} {w:World} {ν:Nat→Value} {K:KP} {o:Oper}

theorem OpK.makeMap {t d:Nat} (ho:o.op = .makeMap t none) (hd:o.dst=some d) (hN:decide (d < E.N)=true) (hn:hNoKey d (hdel d H)=true)
  (hK:K ((d,true,.own (8 * d)) :: sigDrop d σ) ((8 * d,.mp []) :: hdel d H) M):OpK E o K σ H M:=by
 refine opK_of fun ν a w hs hh=>?_
 refine ⟨.map (some w.heap.size),w.alloc (.map #[] 0),?_,_,_,_,?_,hK⟩
 · simp [execOp,ho,Instr.makeMap]
 · rw [hd]
   refine Rep.fresh hs hh (of_decide_eq_true hN) (hdel_sub d H) hn (below_alloc w _) rfl (fun ν' hν'=>?_) (fun b hb=>by simp only [blk?,Option.some.injEq] at hb; omega) (fun ν' h=>h)
   exact ⟨w.heap.size,#[],0,rfl,heap_alloc_at w _,rfl,rfl,fun j e h=>by simp at h⟩
theorem Heap.mapAt (hh:Heap E ν H M w) {k:Nat} {es:List (Value×Value)} (hk:hget H k=some (.mp es)) : ∃ b m c,ν k = .map (some b)∧w.heap[b]? = some (.map m c)∧m.toList.map (fun e=>(e.key,e.val))=es∧(m.size=c ∧ ∀ (j:Nat) (e:MapEntry),m[j]? = some e→e.born=j):=hh.holds _ (hget_mem hk)
theorem OpK.lookup {t d kt et k:Nat} {x y:Operand} {α:Type} [DecidableEq α] {enc:α→Value} {key:α} {l:List (α×Value)} {s:SV} {z:Value} (KT:KeyT E.P kt enc) (ho:o.op = .lookup t x y false) (hd:o.dst=some d) (hN:decide (d < E.N)=true)
  (ht:E.P.underlying t=some (.map kt et)) (hz : ∀ w,(zeroValue et).run E.P w = .ok z w) (hx:opv σ x=some (true,.own k)) (hy:opv σ y=some (true,s)) (hs' : ∀ ν,s.val ν=enc key) (hk:hget H k=some (.mp (encL enc l)))
  (hK:K ((d,true,.v (((fnd key l 0).map (·.2)).getD z)) :: σ) H M):OpK E o K σ H M:=by
 refine opK_of fun ν a w hs hh=>?_
 obtain ⟨b,m,c,hν,hb,he,hst⟩:=hh.mapAt hk
 have ex:a.eval x = .map (some b):=by rw [hs.opv hx rfl]; exact hν
 have ey:a.eval y=enc key:=by rw [hs.opv hy rfl]; exact hs' ν
 refine ⟨((fnd key l 0).map (·.2)).getD z,w,?_,_,_,_,⟨ν,?_,hh⟩,hK⟩
 · simp only [execOp,ho,ex,ey,Instr.lookup,Sem.run_bind,run_underlying ht,Result.andThen_ok,MapKept.run_getObj_map hb,Sem.run_pure,KT.check,KT.findKey w key he]
   cases hf:fnd key l 0 with
   | none=>simp [hz]
   | some p=>simp
 · rw [hd]
   exact hs.put (of_decide_eq_true hN) rfl
theorem OpK.mapUpd {t kt et k:Nat} {x y v:Operand} {α:Type} [DecidableEq α] {enc:α→Value} {key:α} {l:List (α×Value)} {s:SV} {u:Value} (KT:KeyT E.P kt enc) (ho:o.op = .mapUpdate t x y v) (hd:o.dst=none)
  (ht:E.P.underlying t=some (.map kt et)) (hx:opv σ x=some (true,.own k)) (hy:opv σ y=some (true,s)) (hs' : ∀ ν,s.val ν=enc key) (hv:opv σ v=some (true,.v u)) (hk:hget H k=some (.mp (encL enc l)))
  (hK:K σ (hset k (.mp (encL enc (upd key u l))) H) M):OpK E o K σ H M:=by
 rintro a w ⟨ν,hs,hh⟩
 obtain ⟨b,m,c,hν,hb,he,hst⟩:=hh.mapAt hk
 have ex:a.eval x = .map (some b):=by rw [hs.opv hx rfl]; exact hν
 have ey:a.eval y=enc key:=by rw [hs.opv hy rfl]; exact hs' ν
 have ev:a.eval v=u:=hs.opv hv rfl
 have hbl:b < w.heap.size:=(Array.getElem?_eq_some_iff.1 hb).1
 obtain ⟨m',c',hrun,he',hst'⟩ : ∃ m' c',(execOp a.eval o).run E.P w = .ok .skip { w with heap:=w.heap.setIfInBounds b (.map m' c') }∧m'.toList.map (fun e=>(e.key,e.val))=encL enc (upd key u l)∧(m'.size=c' ∧ ∀ (j:Nat) (e:MapEntry),m'[j]? = some e→e.born=j):=by
  have hlen:m.toList.length=l.length:=by
   have:=congrArg List.length he
   simpa [encL] using this
  rcases fnd_spec key l 0 with ⟨h1,h2⟩ | ⟨j,v0,h1,h2⟩
  · refine ⟨m.push { key:=enc key,val:=u,born:=c },c+1,?_,?_,stamp_push hst⟩
    · simp only [execOp,ho,ex,ey,ev,Instr.mapUpdate,Sem.run_bind,run_underlying ht,Result.andThen_ok,MapKept.run_getObj_map hb,KT.check,KT.findKey w key he,h1,MapKept.run_setObj_map _ hb,Sem.run_pure]
    · simp only [upd,h1,Array.toList_push,List.map_append,he,encL,List.map_cons,List.map_nil]
  · have hjm:m[j]? = some (m[j]'(by rw [← Array.length_toList,hlen]; exact (List.getElem?_eq_some_iff.1 h2).1)):=Array.getElem?_eq_getElem _
    have hkey:(m[j]'(by rw [← Array.length_toList,hlen]; exact (List.getElem?_eq_some_iff.1 h2).1)).key=enc key:=by
     have h3:(m.toList.map (fun e=>(e.key,e.val)))[j]? = (encL enc l)[j]?:=by rw [he]
     rw [encL,List.getElem?_map,List.getElem?_map,h2,Array.getElem?_toList,hjm] at h3
     simp only [Option.map_some,Option.some.injEq,Prod.mk.injEq] at h3
     exact h3.1
    rw [Nat.zero_add] at h1
    refine ⟨m.modify j fun e=>{ e with key:=enc key,val:=u },c,?_,?_,stamp_mod hst (fun _=>rfl)⟩
    · simp only [execOp,ho,ex,ey,ev,Instr.mapUpdate,Sem.run_bind,run_underlying ht,Result.andThen_ok,MapKept.run_getObj_map hb,KT.check,KT.findKey w key he,h1,hjm,Option.map_some,Option.getD_some,hkey,Instr.keyThatStays,KT.same,if_true,MapKept.run_setObj_map _ hb,Sem.run_pure]
    · apply List.ext_getElem?
      intro i
      have h3:(m.toList.map (fun e=>(e.key,e.val)))[i]? = (encL enc l)[i]?:=by rw [he]
      simp only [upd,h1,encL,List.getElem?_map,Array.getElem?_toList,Array.getElem?_modify,List.getElem?_set] at h3 ⊢
      by_cases hij:j=i
      · subst hij
        have hjl:j < l.length:=(List.getElem?_eq_some_iff.1 h2).1
        simp [hjm,hjl]
      · simp only [hij,if_false]
        exact h3
 obtain ⟨g1,g2⟩:=MapKept.heap_set (o':=.map m' c') hb
 unfold Oper.wp
 rw [hrun]
 simp only [Oper.upon]
 rw [hd]
 exact ⟨_,_,_,⟨ν,hs,hh.upd hk (p:=.mp (encL enc (upd key u l))) (b:=b) (by rw [hν]; rfl) g2 (by simp) ⟨rfl,rfl,rfl⟩ ⟨b,m',c',hν,g1,he',hst'⟩⟩,hK⟩
theorem OpK.mapEntry {t d kt et k:Nat} {x y:Operand} {α:Type} [DecidableEq α] {enc:α→Value} {key:α} {l:List (α×Value)} {s:SV} {z:Value} (KT:KeyT E.P kt enc) (ho:o.op = .mapEntry t x y) (hd:o.dst=some d) (hN:decide (d < E.N)=true)
  (ht:E.P.underlying t=some (.map kt et)) (hz : ∀ w,(zeroValue et).run E.P w = .ok z w) (hx:opv σ x=some (true,.own k)) (hy:opv σ y=some (true,s)) (hs' : ∀ ν,s.val ν=enc key) (hk:hget H k=some (.mp (encL enc l)))
  (hK:K ((d,true,.tup [.v (((fnd key l 0).map (·.2)).getD z),.v (.int .i64 ((kix key l:Nat):Int))]) :: σ) (hset k (.mp (encL enc (ens key z l))) H) M):OpK E o K σ H M:=by
 refine opK_of fun ν a w hs hh=>?_
 obtain ⟨b,m,c,hν,hb,he,hst⟩:=hh.mapAt hk
 have ex:a.eval x = .map (some b):=by rw [hs.opv hx rfl]; exact hν
 have ey:a.eval y=enc key:=by rw [hs.opv hy rfl]; exact hs' ν
 have hlen:m.toList.length=l.length:=by
  have:=congrArg List.length he
  simpa [encL] using this
 have hms:m.size=l.length:=by rw [← Array.length_toList]; exact hlen
 rcases fnd_spec key l 0 with ⟨h1,h2⟩ | ⟨j,v0,h1,h2⟩
 · obtain ⟨g1,g2⟩:=MapKept.heap_set (o':=.map (m.push { key:=enc key,val:=z,born:=c }) (c+1)) hb
   have e1:kix key l=c:=by unfold kix; rw [h1]; exact hms.symm.trans hst.1
   have e2:ens key z l=l++[(key,z)]:=by unfold ens; rw [h1]
   rw [h1,e1,e2] at hK
   refine ⟨.tuple #[z,.int .i64 (c:Int)],{ w with heap:=w.heap.setIfInBounds b (.map (m.push { key:=enc key,val:=z,born:=c }) (c+1)) },?_,_,_,_,⟨ν,?_,?_⟩,hK⟩
   · simp only [execOp,ho,ex,ey,Instr.mapEntry,Sem.run_bind,run_underlying ht,Result.andThen_ok,MapKept.run_getObj_map hb,KT.check,KT.findKey w key he,h1,hz,MapKept.run_setObj_map _ hb,Sem.run_pure,goInt]
   · rw [hd]
     exact hs.put (of_decide_eq_true hN) rfl
   · exact hh.upd hk (p:=.mp (encL enc (l++[(key,z)]))) (b:=b) (by rw [hν]; rfl) g2 (by simp) ⟨rfl,rfl,rfl⟩ ⟨b,_,c+1,hν,g1,by simp only [Array.toList_push,List.map_append,he,encL,List.map_cons,List.map_nil],stamp_push hst⟩
 · rw [Nat.zero_add] at h1
   have hjl:j < l.length:=(List.getElem?_eq_some_iff.1 h2).1
   have hjm:m[j]? = some (m[j]'(by omega)):=Array.getElem?_eq_getElem _
   have hkv:(m[j]'(by omega)).key=enc key:=by
    have h3:(m.toList.map (fun e=>(e.key,e.val)))[j]? = (encL enc l)[j]?:=by rw [he]
    rw [encL,List.getElem?_map,List.getElem?_map,h2,Array.getElem?_toList,hjm] at h3
    simp only [Option.map_some,Option.some.injEq,Prod.mk.injEq] at h3
    exact h3.1
   have hbn:=hst.2 j _ hjm
   obtain ⟨g1,g2⟩:=MapKept.heap_set (o':=.map (m.modify j fun e=>{ e with key:=enc key }) c) hb
   have e1:kix key l=j:=by unfold kix; rw [h1]
   have e2:ens key z l=l:=by unfold ens; rw [h1]
   rw [h1,e1,e2] at hK
   refine ⟨.tuple #[v0,.int .i64 (j:Int)],{ w with heap:=w.heap.setIfInBounds b (.map (m.modify j fun e=>{ e with key:=enc key }) c) },?_,_,_,_,⟨ν,?_,?_⟩,hK⟩
   · simp only [execOp,ho,ex,ey,Instr.mapEntry,Sem.run_bind,run_underlying ht,Result.andThen_ok,MapKept.run_getObj_map hb,KT.check,KT.findKey w key he,h1,hjm,Option.map_some,Option.getD_some,hkv,hbn,Instr.keyThatStays,KT.same,if_true,MapKept.run_setObj_map _ hb,Sem.run_pure,goInt]
   · rw [hd]
     exact hs.put (of_decide_eq_true hN) rfl
   · refine hh.upd hk (p:=.mp (encL enc l)) (b:=b) (by rw [hν]; rfl) g2 (by simp) ⟨rfl,rfl,rfl⟩ ⟨b,_,c,hν,g1,?_,stamp_mod hst (fun _=>rfl)⟩
     apply List.ext_getElem?
     intro i
     have h3:(m.toList.map (fun e=>(e.key,e.val)))[i]? = (encL enc l)[i]?:=by rw [he]
     rw [← h3]
     simp only [List.getElem?_map,Array.getElem?_toList,Array.getElem?_modify]
     by_cases hij:j=i
     · subst hij
       rw [if_pos rfl,hjm]
       simp only [Option.map_some,hkv]
     · rw [if_neg hij]
theorem OpK.entryStore {t k j:Nat} {x y v:Operand} {α:Type} {enc:α→Value} {key:α} {l:List (α×Value)} {u v0:Value} (ho:o.op = .entryStore t x y v) (hd:o.dst=none)
  (hx:opv σ x=some (true,.own k)) (hy:opv σ y=some (true,.v (.int .i64 ((j:Nat):Int)))) (hv:opv σ v=some (true,.v u)) (hk:hget H k=some (.mp (encL enc l))) (hj:l[j]? = some (key,v0))
  (hK:K σ (hset k (.mp (encL enc (l.set j (key,u)))) H) M):OpK E o K σ H M:=by
 rintro a w ⟨ν,hs,hh⟩
 obtain ⟨b,m,c,hν,hb,he,hst⟩:=hh.mapAt hk
 have ex:a.eval x = .map (some b):=by rw [hs.opv hx rfl]; exact hν
 have ey:a.eval y = .int .i64 ((j:Nat):Int):=hs.opv hy rfl
 have ev:a.eval v=u:=hs.opv hv rfl
 have hlen:m.toList.length=l.length:=by
  have:=congrArg List.length he
  simpa [encL] using this
 have hms:m.size=l.length:=by rw [← Array.length_toList]; exact hlen
 have hjl:j < l.length:=(List.getElem?_eq_some_iff.1 hj).1
 have hf:m.findIdx? (fun e=>(e.born:Int) == (j:Int))=some j:=by
  rw [Array.findIdx?_eq_some_iff_getElem]
  refine ⟨by omega,?_,fun i hi=>?_⟩
  · have:=hst.2 j _ (Array.getElem?_eq_getElem (by omega))
    simp [this]
  · have:=hst.2 i _ (Array.getElem?_eq_getElem (by omega))
    simp only [this,beq_iff_eq]
    omega
 obtain ⟨g1,g2⟩:=MapKept.heap_set (o':=.map (m.modify j fun e=>{ e with val:=u }) c) hb
 have hrun:(execOp a.eval o).run E.P w = .ok .skip { w with heap:=w.heap.setIfInBounds b (.map (m.modify j fun e=>{ e with val:=u }) c) }:=by
  simp only [execOp,ho,ex,ey,ev,Instr.entryStore,Sem.run_bind,Result.andThen_ok,MapKept.run_getObj_map hb,asInt,asIntOf,Sem.run_pure,hf,MapKept.run_setObj_map _ hb]
 unfold Oper.wp
 rw [hrun]
 simp only [Oper.upon]
 rw [hd]
 refine ⟨_,_,_,⟨ν,hs,hh.upd hk (p:=.mp (encL enc (l.set j (key,u)))) (b:=b) (by rw [hν]; rfl) g2 (by simp) ⟨rfl,rfl,rfl⟩ ⟨b,_,c,hν,g1,?_,stamp_mod hst (fun _=>rfl)⟩⟩,hK⟩
 apply List.ext_getElem?
 intro i
 have h3:(m.toList.map (fun e=>(e.key,e.val)))[i]? = (encL enc l)[i]?:=by rw [he]
 simp only [encL,List.getElem?_map,Array.getElem?_toList,Array.getElem?_modify,List.getElem?_set] at h3 ⊢
 by_cases hij:j=i
 · subst hij
   rw [hj,Array.getElem?_eq_getElem (show j < m.size by omega)] at h3
   simp only [Option.map_some,Option.some.injEq,Prod.mk.injEq] at h3
   rw [if_pos rfl,if_pos rfl,if_pos hjl,Array.getElem?_eq_getElem (show j < m.size by omega)]
   simp only [Option.map_some,h3.1]
 · rw [if_neg hij,if_neg hij]
   exact h3
end
/-- keys that are integers -/
def encK (n:Int):Value:=.int .i64 n
theorem KeyT.int {P:Program} {kt:TypeId} (hd:P.underlying kt=some (.int .i64)):KeyT P kt encK where
 known:=⟨_,hd⟩
 check:=fun e w a=>MapKept.run_checkKey hd (show MapKept.IsKey (.int .i64) (.int .i64 a) from rfl) e 9999
 eq:=fun w a b=>by
  show (Op.equalIn (9999+1) kt (.int .i64 a) (.int .i64 b)).run P w=_
  rw [run_equalIn_int w 9999 kt _ _ _ _ hd]
  congr 1
 now:=fun d a b h=>by
  rw [hd] at h
  cases h
  left
  show (if IntKind.i64=IntKind.i64 then some (a == b) else none)=_
  rw [if_pos rfl]
  rfl
 same:=fun a=>by
  show (decide (IntKind.i64=IntKind.i64) && _)=true
  simp
end Go.X

