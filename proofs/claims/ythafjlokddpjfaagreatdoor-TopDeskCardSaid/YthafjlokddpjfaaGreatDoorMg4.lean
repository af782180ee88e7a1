/- Contracts of functions and the logic that they are proved in (4 texts in one). Conditions: none. -/
import Derived.Test.YthafjlokddpjfaaGreatDoorTy
import Derived.ChangeSlices
import Derived.OpenShut
import Derived.Deep.Slices
import Derived.Lib.SmallJoins
import Derived.WideShapes
import Derived.SizedLaws
import Derived.Test.YthafjlokddpjfaaGreatDoorRows
import Derived.WalkKit
import Derived.ProofKit
set_option linter.unusedSimpArgs false
set_option linter.unusedVariables false
set_option maxHeartbeats 4000000
set_option maxRecDepth 20000
namespace Go.X
open Go Go.RowKit

/-- what is known of the elements of a slice value -/
def RowM (M:Mem) (v:Value) (sz:Nat) (es:List (List Value)):Prop:=
 (isSl v=true∧lenV v=es.length∧lenV v≤capV v∧capV v≤maxLen)∧(es≠[]→someV v=true) ∧ ∀ i e,es[i]? = some e→(e.length=sz ∧ ∀ j c,e[j]? = some c→cellE M v (i * sz+j)=some c∧c.oneCell'=true)

theorem cellE_le {M M':Mem} (h:M.le M') {v:Value} {j:Nat} {c:Value} (hc:cellE M v j=some c):cellE M' v j=some c:=by
 cases v with
 | slice ad n k=>
   cases ad with
   | some ad=>exact cellM_le h hc
   | none=>simp [cellE] at hc
 | _=>simp [cellE] at hc

theorem RowM.le {M M':Mem} {v:Value} {sz:Nat} {es:List (List Value)} (h:RowM M v sz es) (hle:M.le M'):RowM M' v sz es:=
 ⟨h.1,h.2.1,fun i e he=>⟨(h.2.2 i e he).1,fun j c hc=>⟨cellE_le hle ((h.2.2 i e he).2 j c hc).1,((h.2.2 i e he).2 j c hc).2⟩⟩⟩

theorem RowM.nil (M:Mem) (sz:Nat):RowM M (.slice none 0 0) sz []:=⟨⟨rfl,rfl,Nat.le_refl _,Nat.zero_le _⟩,fun h=>(h rfl).elim,fun i e h=>by simp at h⟩

section
variable {M:Mem} {v:Value} {sz:Nat} {es:List (List Value)}

theorem RowM.len (h:RowM M v sz es):lenV v=es.length:=h.1.2.1
theorem RowM.len_le (h:RowM M v sz es):(es.length:Int)≤9223372036854775807:=by
 have h1:=h.1.2.2.1
 have h2:=h.1.2.2.2
 rw [h.len] at h1
 simp only [maxLen] at h2
 omega
theorem RowM.sl (h:RowM M v sz es):isSl v=true:=h.1.1

theorem RowM.cell (h:RowM M v sz es) {i:Nat} {e:List Value} (he:es[i]? = some e) {off:Nat} (ho:off < sz):elE M v sz i off=e.getD off undef∧okE M v sz i off∧(elE M v sz i off).oneCell'=true:=by
 obtain ⟨h1,h2⟩:=h.2.2 i e he
 have h3:e[off]? = some (e[off]'(by omega)):=List.getElem?_eq_getElem _
 obtain ⟨h4,h5⟩:=h2 off _ h3
 refine ⟨?_,?_,?_⟩
 · simp only [elE,h4,Option.getD_some,List.getD,h3]
 · simp only [okE,h4,Option.isSome_some]
 · simp only [elE,h4,Option.getD_some,h5]

theorem RowM.ix (h:RowM M v sz es) {i:Int} (h0:0≤i) (h1:i < es.length):ixOk v i:=by
 refine ⟨⟨h0,by rw [h.len]; exact h1⟩,h.2.1 fun e=>?_⟩
 subst e
 simp at h1
 omega

theorem RowM.rows (h:RowM M v sz es) (h0:0 < sz):rowsM M v sz=es∧rowsOk M v sz:=by
 have h2 : ∀ i,i < lenV v → ∃ e,es[i]? = some e:=fun i hi=>⟨_,List.getElem?_eq_getElem (by rw [← h.len]; exact hi)⟩
 refine ⟨?_,⟨⟨h.sl,h0⟩,fun i hi j hj=>?_⟩⟩
 · apply List.ext_getElem?
   intro i
   simp only [rowsM,List.getElem?_map]
   by_cases hi:i < lenV v
   · obtain ⟨e,he⟩:=h2 i hi
     rw [List.getElem?_range hi,he]
     simp only [Option.map_some,Option.some.injEq]
     apply List.ext_getElem?
     intro j
     simp only [List.getElem?_map]
     have hl:=(h.2.2 i e he).1
     by_cases hj:j < sz
     · rw [List.getElem?_range hj]
       simp only [Option.map_some]
       rw [(h.cell he hj).1,List.getElem?_eq_getElem (by omega),List.getD,List.getElem?_eq_getElem (by omega)]
       rfl
     · rw [List.getElem?_eq_none (by simp; omega),List.getElem?_eq_none (by omega)]
       rfl
   · rw [List.getElem?_eq_none (by simp; omega),List.getElem?_eq_none (by rw [← h.len]; omega)]
     rfl
 · obtain ⟨e,he⟩:=h2 i hi
   exact (h.cell he hj).2

theorem RowM.sub (h:RowM M v sz es) {lo hi:Nat} (h1:lo≤hi) (h2:hi≤es.length):RowM M (subV v sz lo hi) sz ((es.drop lo).take (hi - lo)):=by
 obtain ⟨⟨g1,g2,g3,g3'⟩,g4,g5⟩:=h
 cases v with
 | slice ad n c=>
   simp only [lenV,capV] at g2 g3 g3'
   refine ⟨⟨rfl,?_,?_,?_⟩,fun hne=>?_,fun i e he=>?_⟩
   · simp only [subV,lenV,List.length_take,List.length_drop]; omega
   · simp only [subV,lenV,capV]; omega
   · simp only [subV,capV]; omega
   · have hes:es≠[]:=by rintro rfl; simp at hne
     have:=g4 hes
     cases ad with
     | none=>simp [someV] at this
     | some ad=>
       simp only [subV,Option.map_some]
       split <;> rfl
   · have hlt:i < hi - lo:=by
      have:=(List.getElem?_eq_some_iff.1 he).1
      simp only [List.length_take] at this
      omega
     rw [List.getElem?_take,if_pos hlt,List.getElem?_drop] at he
     obtain ⟨h3,h4⟩:=g5 (lo+i) e he
     refine ⟨h3,fun j x hx=>?_⟩
     obtain ⟨h5,h6⟩:=h4 j x hx
     refine ⟨?_,h6⟩
     cases ad with
     | none=>simp [cellE] at h5
     | some ad=>
       have hcl : ¬ c=lo:=by omega
       simp only [subV,if_neg hcl,Option.map_some,cellE] at h5 ⊢
       rw [← h5,Addr.add_add]
       congr 2
       rw [Nat.add_mul]
       omega
 | _=>simp [isSl] at g1
end

/-! ### Publishing -/
mutual
def SV.pub (k:Nat) (v:Value):SV→SV
 | .v x=>.v x
 | .own j=>if j=k then .v v else .own j
 | .ptr j a b c=>.ptr j a b c
 | .ea x a b c=>.ea x a b c
 | .agg l=>.agg (SV.pubs k v l)
 | .tup l=>.tup (SV.pubs k v l)
 | .fn f l=>.fn f (SV.pubs k v l)
def SV.pubs (k:Nat) (v:Value):List SV→List SV
 | []=>[]
 | s :: l=>SV.pub k v s :: SV.pubs k v l
end
mutual
theorem SV.pub_val {ν:Nat→Value} {k:Nat} : ∀ s:SV,(s.pub k (ν k)).val ν=s.val ν
 | .v _=>rfl
 | .own j=>by
   simp only [SV.pub]
   split
   · rename_i e; subst e; rfl
   · rfl
 | .ptr _ _ _ _=>rfl
 | .ea _ _ _ _=>rfl
 | .agg l=>by simp only [SV.pub,SV.val,SV.pubs_vals l]
 | .tup l=>by simp only [SV.pub,SV.val,SV.pubs_vals l]
 | .fn f l=>by simp only [SV.pub,SV.val,SV.pubs_vals l]
theorem SV.pubs_vals {ν:Nat→Value} {k:Nat} : ∀ l:List SV,SV.vals ν (SV.pubs k (ν k) l)=SV.vals ν l
 | []=>rfl
 | s :: l=>by simp only [SV.pubs,SV.vals,SV.pub_val s,SV.pubs_vals l]
end
def sigPub (k:Nat) (v:Value):Sig→Sig
 | []=>[]
 | (j,g,s) :: σ=>(j,g,s.pub k v) :: sigPub k v σ
def pubss (k:Nat) (v:Value):List (List SV)→List (List SV)
 | []=>[]
 | e :: r=>SV.pubs k v e :: pubss k v r
theorem pubss_vals {ν:Nat→Value} {k:Nat} : ∀ es:List (List SV),(pubss k (ν k) es).map (SV.vals ν)=es.map (SV.vals ν)
 | []=>rfl
 | e :: r=>by simp only [pubss,List.map_cons,SV.pubs_vals,pubss_vals r]
def poPub (k:Nat) (v:Value):PO→PO
 | .box cs t=>.box (SV.pubs k v cs) t
 | .row sz es=>.row sz es
 | .tab sz es=>.tab sz (pubss k v es)
 | .mp es=>.mp es
def hpub (k:Nat) (v:Value):HS→HS
 | []=>[]
 | (j,p) :: H=>if j=k then hpub k v H else (j,poPub k v p) :: hpub k v H

theorem lk_pub {k:Nat} {v:Value} : ∀ {σ:Sig} {j:Nat} {g:Bool} {s:SV},lk (sigPub k v σ) j=some (g,s) → ∃ s',s=s'.pub k v∧lk σ j=some (g,s')
 | [],j,g,s,h=>by simp [sigPub,lk] at h
 | (i,g',s') :: σ,j,g,s,h=>by
  simp only [sigPub,lk] at h
  simp only [lk]
  split at h
  · rename_i e
    simp only [Option.some.injEq,Prod.mk.injEq] at h
    obtain ⟨rfl,rfl⟩:=h
    exact ⟨s',rfl,by rw [if_pos e]⟩
  · rename_i e
    rw [if_neg e]
    exact lk_pub h

theorem fp_pub (ν:Nat→Value) (k:Nat) (v:Value) : ∀ H:HS,fp ν (hpub k v H)=fp ν (hdelk k H)
 | []=>rfl
 | (j,p) :: H=>by
  have ih:=fp_pub ν k v H
  simp only [hpub,hdelk]
  split
  · exact ih
  · simp only [fp,List.filterMap_cons] at ih ⊢
    rw [ih]

theorem hpub_mem {k:Nat} {v:Value} : ∀ {H:HS} {q:Nat×PO},q ∈ hpub k v H → ∃ p,(q.1,p) ∈ H∧q.2=poPub k v p
 | [],q,h=>by simp [hpub] at h
 | (j,p) :: H,q,h=>by
  simp only [hpub] at h
  split at h
  · obtain ⟨p',h1,h2⟩:=hpub_mem h
    exact ⟨p',List.mem_cons_of_mem _ h1,h2⟩
  · rcases List.mem_cons.1 h with rfl | h
    · exact ⟨p,List.mem_cons_self,rfl⟩
    · obtain ⟨p',h1,h2⟩:=hpub_mem h
      exact ⟨p',List.mem_cons_of_mem _ h1,h2⟩

theorem flatten_get {sz:Nat} {sp:List Value} : ∀ {es:List (List Value)} {i:Nat} {e:List Value} {j:Nat},(∀ e ∈ es,e.length=sz)→es[i]? = some e→j < sz→(es.flatten++sp)[i * sz+j]? = e[j]?
 | [],i,e,j,_,h,_=>by simp at h
 | e' :: es,0,e,j,hl,h,hj=>by
   simp only [List.getElem?_cons_zero,Option.some.injEq] at h
   subst h
   have:=hl e' List.mem_cons_self
   simp only [Nat.zero_mul,Nat.zero_add,List.flatten_cons,List.append_assoc]
   rw [List.getElem?_append_left (by omega)]
 | e' :: es,i+1,e,j,hl,h,hj=>by
   have h1:=hl e' List.mem_cons_self
   simp only [List.getElem?_cons_succ] at h
   have ih:=flatten_get (sp:=sp) (fun e he=>hl e (List.mem_cons_of_mem _ he)) h hj
   simp only [List.flatten_cons,List.append_assoc]
   rw [List.getElem?_append_right (by rw [h1,Nat.add_mul]; omega),← ih]
   congr 1
   rw [h1,Nat.add_mul]
   omega

section
variable {E:Env} {σ:Sig} {H:HS} {M:Mem} {a:Act} {w:World} {ν:Nat→Value} {K:KP} {o:Oper}

theorem pub_heap {k sz:Nat} {es:List (List Value)} (hh:Heap E ν H M w) (hk:hget H k=some (.row sz es)) : ∃ M',M.le M'∧RowM M' (ν k) sz es∧Heap E ν (hpub k (ν k) H) M' w:=by
 obtain ⟨g1,g2⟩:=hh.holds _ (hget_mem hk)
 have hholds : ∀ q ∈ hpub k (ν k) H,q.2.holds ν w (ν q.1):=by
  intro q hq
  obtain ⟨p,h1,h2⟩:=hpub_mem hq
  have:=hh.holds _ h1
  rw [h2]
  cases p with
  | box cs t=>obtain ⟨⟨b,T,e,h⟩,ht⟩:=this; exact ⟨⟨b,T,e,by rw [SV.pubs_vals]; exact h⟩,ht⟩
  | row sz es=>exact this
  | tab sz es=>
    simp only [poPub]
    rw [PO.tab_row] at this ⊢
    rw [pubss_vals]
    exact this
  | mp es=>exact this
 have hsub:(fp ν (hpub k (ν k) H)).Sublist (fp ν H):=by rw [fp_pub]; exact (hdelk_sub k H).filterMap _
 rcases g2 with ⟨hν,rfl⟩ | ⟨b,cap,T,sp,hν,g3,g4,g5,hb⟩
 · simp only at hν
   refine ⟨M,Mem.le.refl M,by rw [hν]; exact RowM.nil M sz,hholds,hh.nodup.sublist hsub,fun b hb=>hh.apart b (hsub.subset hb),hh.mem,hh.below,hh.le0,hh.fresh,hh.one⟩
 · simp only at hν
   have hkb:blk? (ν k)=some b:=by rw [hν]; rfl
   obtain ⟨hMb,hBb⟩:=hh.apart b (List.mem_filterMap.2 ⟨(k,_),hget_mem hk,hkb⟩)
   let M':Mem:=fun c=>if c=b then some (.cells (es.flatten++sp).toArray T (0,0)) else M c
   have hM'b:M' b=some (.cells (es.flatten++sp).toArray T (0,0)):=by simp [M']
   have hle:M.le M':=fun c o hc=>by
    simp only [M']
    rw [if_neg (fun e=>by rw [e,hMb] at hc; cases hc)]
    exact hc
   refine ⟨M',hle,?_,hholds,hh.nodup.sublist hsub,fun c hc=>?_,fun c o hc=>?_,hh.below,hh.le0.trans hle,fun c hc=>?_,hh.one⟩
   · rw [hν]
     refine ⟨⟨rfl,rfl,g3,g4⟩,fun _=>rfl,fun i e he=>?_⟩
     have hel:=g1 e (List.mem_of_getElem? he)
     refine ⟨hel.1,fun j c hc=>?_⟩
     have hj:j < sz:=by rw [← hel.1]; exact (List.getElem?_eq_some_iff.1 hc).1
     refine ⟨?_,hel.2 c (List.mem_of_getElem? hc)⟩
     have hadd:(⟨b,0,none⟩:Addr).add (i * sz+j)=⟨b,i * sz+j,none⟩:=by unfold Addr.add; split <;> simp_all
     simp only [cellE,cellM,hadd,hM'b]
     simp only [Option.isSome_none,Bool.false_eq_true,if_false,List.getElem?_toArray]
     rw [flatten_get (fun e he=>(g1 e he).1) he hj,hc]
   · have hcb:c≠b:=by
      rintro rfl
      rw [fp_pub] at hc
      exact fp_hdelk hh hk hkb 0 _ (hdelk_sub k H) (hdelk_ne k H) hc
     simp only [M',if_neg hcb]
     exact hh.apart c (hsub.subset hc)
   · simp only [M'] at hc
     split at hc
     · rename_i e
       simp only [Option.some.injEq] at hc
       subst hc e
       exact hb
     · exact hh.mem c o hc
   · simp only [M'] at hc
     split at hc
     · rename_i e; subst e; exact .inr hBb
     · exact hh.fresh c hc

theorem pub_slots {N:Nat} {k:Nat} (hs:Slots N ν σ a):Slots N ν (sigPub k (ν k) σ) a:=
 ⟨hs.1,hs.2.1,fun j g s h=>by
  obtain ⟨s',rfl,h'⟩:=lk_pub h
  rw [SV.pub_val]
  exact hs.2.2 j g s' h'⟩

theorem CallK.pub {f d k sz:Nat} {l:List SV} {es:List (List Value)} (hk:hget H k=some (.row sz es))
  (h : ∀ v M',M.le M'→RowM M' v sz es→CallK E f (SV.pubs k v l) d K (sigPub k v σ) (hpub k v H) M'):CallK E f l d K σ H M:=by
 intro ν a w hs hh
 obtain ⟨M',h1,h2,h3⟩:=pub_heap hh hk
 have:=h _ M' h1 h2 ν a w (pub_slots hs) h3
 rw [SV.pubs_vals] at this
 exact this

theorem OpK.pub {k sz:Nat} {es:List (List Value)} (hk:hget H k=some (.row sz es))
  (h : ∀ v M',M.le M'→RowM M' v sz es→OpK E o K (sigPub k v σ) (hpub k v H) M'):OpK E o K σ H M:=by
 rintro a w ⟨ν,hs,hh⟩
 obtain ⟨M',h1,h2,h3⟩:=pub_heap hh hk
 exact h _ M' h1 h2 a w ⟨ν,pub_slots hs,h3⟩

theorem LoopK.pub {live:List Nat} {body:Code} {Q:QP} {k sz:Nat} {es:List (List Value)} (hk:hget H k=some (.row sz es))
  (h : ∀ v M',M.le M'→RowM M' v sz es→LoopK E live body Q (sigPub k v σ) (hpub k v H) M'):LoopK E live body Q σ H M:=by
 rintro a w ⟨ν,hs,hh⟩
 obtain ⟨M',h1,h2,h3⟩:=pub_heap hh hk
 exact h _ M' h1 h2 a w ⟨ν,pub_slots hs,h3⟩

theorem DrawK.pub {id:Nat} {ops:Array Oper} {k sz:Nat} {es:List (List Value)} (hk:hget H k=some (.row sz es))
  (h : ∀ v M',M.le M'→RowM M' v sz es→DrawK E id ops K (sigPub k v σ) (hpub k v H) M'):DrawK E id ops K σ H M:=by
 rintro a w ⟨ν,hs,hh⟩
 obtain ⟨M',h1,h2,h3⟩:=pub_heap hh hk
 exact h _ M' h1 h2 a w ⟨ν,pub_slots hs,h3⟩

/-- an operation that stood still goes on by itself -/
theorem OpK.step (h:stepK E o true K σ H M):OpK E o K σ H M:=by
 rintro a w ⟨ν,hs,hh⟩
 have:=stepK_sound (Nx:=fun a' w'=>∃ σ' H' M',Rep E σ' H' M' a' w'∧K σ' H' M') (Qx:=fun _ _ _=>False) (fun σ H M a w hr hk=>⟨σ,H,M,hr,hk⟩) hs hh h
 simpa using this

/-- a call that only reads a row of the call's own, and hands back a known value -/
theorem CallK.lend {f d k sz:Nat} {l:List SV} {s:SV} {es:List (List Value)} (hk:hget H k=some (.row sz es)) (hd:decide (d < E.N)=true) (hs':s.conc=true)
  (hl : ∀ v,SV.concs (SV.pubs k v l)=true)
  (h : ∀ v M',M.le M'→RowM M' v sz es→Meets E.P f (SV.pubs k v l) M' (fun s' _ _=>s'=s)) (hK:K ((d,true,s) :: σ) H M):CallK E f l d K σ H M:=by
 intro ν a w hs hh
 obtain ⟨M',h1,h2,h3⟩:=pub_heap hh hk
 have hm:=h _ M' h1 h2
 refine .inl ⟨hm.1,?_⟩
 rw [← SV.pubs_vals (k:=k),SV.concs_vals (ν:=ν0) (ν':=ν) _ (hl _)]
 refine (hm.2 w h3.mem).mono ?_
 rintro e w' ⟨s',H',M'',ν',rfl,hh',rfl⟩
 refine ⟨_,rfl,_,_,_,⟨ν,?_,hh.grow hh'.below⟩,hK⟩
 exact hs.put (of_decide_eq_true hd) (by rw [SV.conc_val (ν:=ν) (ν':=ν') s' hs']; rfl)

/-- a call that reads a row of the call's own and hands back the first part of it: that is the row from now on -/
theorem CallK.cut {f d k sz n:Nat} {l:List SV} {es:List (List Value)} (hk:hget H k=some (.row sz es)) (hd:decide (d < E.N)=true)
  (hl : ∀ v,SV.concs (SV.pubs k v l)=true) (hn:n≤es.length)
  (h : ∀ v M',M.le M'→RowM M' v sz es→Meets E.P f (SV.pubs k v l) M' (fun s' _ _=>s' = .v (subV v sz 0 n)))
  (hno:hNoKey d (hdelk k (hdel d H))=true) (hK:K ((d,true,.own (8 * d)) :: sigDrop d σ) ((8 * d,.row sz (es.take n)) :: hdelk k (hdel d H)) M):CallK E f l d K σ H M:=by
 intro ν a w hs hh
 obtain ⟨M',h1,h2,h3⟩:=pub_heap hh hk
 have hm:=h _ M' h1 h2
 refine .inl ⟨hm.1,?_⟩
 rw [← SV.pubs_vals (k:=k),SV.concs_vals (ν:=ν0) (ν':=ν) _ (hl _)]
 refine (hm.2 w h3.mem).mono ?_
 rintro e w' ⟨s',H',M'',ν',rfl,hh',rfl⟩
 have hg:=hh.grow hh'.below
 obtain ⟨g1,g2⟩:=hg.holds _ (hget_mem hk)
 have hsubV:SV.val ν' (.v (subV (ν k) sz 0 n))=subV (ν k) sz 0 n:=rfl
 let ν2:Nat→Value:=fun j=>if j / 8=d then subV (ν k) sz 0 n else ν j
 have hν : ∀ j,j / 8≠d→ν2 j=ν j:=fun j hj=>by simp [ν2,hj]
 have hν8:ν2 (8 * d)=subV (ν k) sz 0 n:=by simp [ν2,show (8 * d) / 8=d by omega]
 have hsub:(hdelk k (hdel d H)).Sublist H:=(hdelk_sub k _).trans (hdel_sub d H)
 have hone:(subV (ν k) sz 0 n).oneCell'=true:=by
  have:=h2.sl
  revert this
  cases ν k <;> simp only [isSl,reduceCtorEq,false_implies,Bool.false_eq_true]
  intro _
  rfl
 refine ⟨_,rfl,_,_,_,⟨ν2,(hs.drop hν).put (of_decide_eq_true hd) (by rw [cond_true]; simp only [SV.val,hν8]),?_⟩,hK⟩
 refine (hg.sublist hsub).add hno hν (fun j=>?_) ?_ (fun b hb=>?_)
 · by_cases hj:j / 8=d
   · simp only [ν2,hj,if_true]; exact hone
   · simp only [ν2,hj,if_false]; exact hg.one j
 · rw [hν8]
   refine ⟨fun e he=>g1 e (List.mem_of_mem_take he),?_⟩
   rcases g2 with ⟨hx,rfl⟩ | ⟨b,cap,T,sp,hx,g3,g4,g5,g6⟩
   · simp only at hx
     left
     rw [hx]
     simp only [List.length_nil,Nat.le_zero_eq] at hn
     subst hn
     exact ⟨rfl,rfl⟩
   · simp only at hx
     right
     rw [hx]
     refine ⟨b,cap,T,(es.drop n).flatten++sp,?_,?_,g4,?_,?_⟩
     · simp only [subV,Nat.zero_mul,Nat.sub_zero,List.length_take,Nat.min_eq_left hn]
       split
       · rfl
       · rfl
     · rw [List.length_take]; omega
     · have : ∀ l:List (List Value),(∀ e ∈ l,e.length=sz)→l.flatten.length=l.length * sz:=by
        intro l
        induction l with
        | nil=>intro _; simp
        | cons e l ih=>
          intro hl
          simp only [List.flatten_cons,List.length_append,List.length_cons,hl e List.mem_cons_self,ih (fun e he=>hl e (List.mem_cons_of_mem _ he))]
          rw [Nat.add_mul]; omega
       rw [List.length_append,this _ (fun e he=>(g1 e (List.mem_of_mem_drop he)).1),g5,List.length_drop,List.length_take,Nat.min_eq_left hn,← Nat.add_mul]
       congr 1
       omega
     · rw [g6]
       congr 3
       conv=>lhs; rw [← List.take_append_drop n es]
       rw [List.flatten_append,List.append_assoc]
 · rw [hν8] at hb
   have hb2:blk? (ν k)=some b:=by
    rcases g2 with ⟨hx,rfl⟩ | ⟨b',cap,T,sp,hx,_⟩
    · simp only at hx
      rw [hx] at hb
      simp only [subV,Option.map_none] at hb
      split at hb <;> cases hb
    · simp only at hx
      rw [hx] at hb ⊢
      simp only [subV,Nat.zero_mul,Option.map_some] at hb
      split at hb <;> exact hb
   obtain ⟨h4,h5⟩:=hg.apart b (List.mem_filterMap.2 ⟨(k,_),hget_mem hk,hb2⟩)
   exact ⟨fp_hdelk hg hk hb2 d _ hsub (hdelk_ne k _),h4,h5⟩

/-- the result is a row: known, or the callee's own -/
def IsRow (H:HS) (M:Mem) (s:SV) (sz:Nat) (es:List (List Value)):Prop:=
 match s with
 | .v v=>RowM M v sz es
 | .own k=>hget H k=some (.row sz es)
 | _=>False
def RowR (T:SV→SV) (sz:Nat) (es:List (List Value)):RP:=fun r H M=>∃ s,r=T s∧IsRow H M s sz es
def OwnR (T:SV→SV) (sz:Nat) (es:List (List Value)):RP:=fun r H _=>∃ k,r=T (.own k)∧hget H k=some (.row sz es)
def Ctx (T:SV→SV):Prop:=∀ s s' ν ν',s.val ν=s'.val ν'→(T s).val ν=(T s').val ν'

theorem CallK.row {f d sz:Nat} {l:List SV} {T:SV→SV} {es:List (List Value)} (hT:Ctx T) (hl:SV.concs l=true) (hd:decide (d < E.N)=true) (h:Meets E.P f l M (RowR T sz es))
  (hk : ∀ v M',M.le M'→RowM M' v sz es→K ((d,true,T (.v v)) :: σ) H M'):CallK E f l d K σ H M:=by
 intro ν a w hs hh
 refine .inl ⟨h.1,?_⟩
 rw [SV.concs_vals (ν:=ν0) (ν':=ν) l hl]
 refine (h.2 w hh.mem).mono ?_
 rintro e w' ⟨s,H',M',ν',rfl,hh',s',rfl,hR⟩
 cases s' with
 | v x=>
   exact ⟨_,rfl,_,_,_,⟨ν,hs.put (of_decide_eq_true hd) (by rw [cond_true]; exact hT _ _ _ _ rfl),hh.call hh'⟩,hk x M' hh'.le0 hR⟩
 | own k=>
   obtain ⟨M'',h1,h2,h3⟩:=pub_heap hh' hR
   exact ⟨_,rfl,_,_,_,⟨ν,hs.put (of_decide_eq_true hd) (by rw [cond_true]; exact hT _ (.v (ν' k)) _ _ rfl),hh.call h3⟩,hk (ν' k) M'' h3.le0 h2⟩
 | _=>exact hR.elim

theorem CallK.own {f d sz:Nat} {l:List SV} {T:SV→SV} {es:List (List Value)} (hT:Ctx T) (hl:SV.concs l=true) (hd:decide (d < E.N)=true) (h:Meets E.P f l M (OwnR T sz es)) (hn:hNoKey d (hdel d H)=true)
  (hk : ∀ M',M.le M'→K ((d,true,T (.own (8 * d))) :: sigDrop d σ) ((8 * d,.row sz es) :: hdel d H) M'):CallK E f l d K σ H M:=by
 intro ν a w hs hh
 refine .inl ⟨h.1,?_⟩
 rw [SV.concs_vals (ν:=ν0) (ν':=ν) l hl]
 refine (h.2 w hh.mem).mono ?_
 rintro e w' ⟨s,H',M',ν',rfl,hh',k,rfl,hR⟩
 let ν2:Nat→Value:=fun j=>if j / 8=d then ν' k else ν j
 have hν : ∀ j,j / 8≠d→ν2 j=ν j:=fun j hj=>by simp [ν2,hj]
 have hν8:ν2 (8 * d)=ν' k:=by simp [ν2,show (8 * d) / 8=d by omega]
 refine ⟨_,rfl,_,_,_,⟨ν2,(hs.drop hν).put (of_decide_eq_true hd) (by rw [cond_true]; exact hT _ _ _ _ (by simp only [SV.val,hν8])),?_⟩,hk M' hh'.le0⟩
 refine ((hh.call hh').sublist (hdel_sub d H)).add hn hν (fun j=>?_) ?_ (fun b hb=>?_)
 · by_cases hj:j / 8=d
   · simp only [ν2,hj,if_true]; exact hh'.one k
   · simp only [ν2,hj,if_false]; exact hh.one j
 · rw [hν8]
   exact hh'.holds _ (hget_mem hR)
 · rw [hν8] at hb
   have hbm:b ∈ fp ν' H':=List.mem_filterMap.2 ⟨(k,_),hget_mem hR,hb⟩
   obtain ⟨h1,h2⟩:=hh'.apart b hbm
   refine ⟨fun hm=>?_,h1,Nat.le_trans hh.below.size h2⟩
   have:=hh.fp_lt (((hdel_sub d H).filterMap _).subset hm)
   simp only at h2
   omega

/-- a nil slice as a row of the call's own -/
theorem Rep.nilRow {j d sz:Nat} (hj:lk σ j=some (true,.v (.slice none 0 0))) (hjN:j < E.N) (hn:hNoKey d (hdel d H)=true) (hr:Rep E σ H M a w):Rep E ((j,true,.own (8 * d)) :: sigDrop d σ) ((8 * d,.row sz []) :: hdel d H) M a w:=by
 obtain ⟨ν,hs,hh⟩:=hr
 let ν2:Nat→Value:=fun j=>if j / 8=d then .slice none 0 0 else ν j
 have hν : ∀ j,j / 8≠d→ν2 j=ν j:=fun j hj=>by simp [ν2,hj]
 have hν8:ν2 (8 * d) = .slice none 0 0:=by simp [ν2,show (8 * d) / 8=d by omega]
 have hs2:=hs.drop hν
 refine ⟨ν2,⟨hs2.1,hs2.2.1,fun k g s hk=>?_⟩,(hh.sublist (hdel_sub d H)).add hn hν (fun j=>?_) ?_ (fun b hb=>by rw [hν8] at hb; simp [blk?] at hb)⟩
 · simp only [lk] at hk
   split at hk
   · rename_i e
     subst e
     simp only [Option.some.injEq,Prod.mk.injEq] at hk
     obtain ⟨rfl,rfl⟩:=hk
     have:=hs.2.2 k true _ hj
     rw [this]
     simp only [cond_true,SV.val,hν8]
   · exact hs2.2.2 k g s hk
 · by_cases hj:j / 8=d
   · simp [ν2,hj,Value.oneCell']
   · simp only [ν2,hj,if_false]; exact hh.one j
 · rw [hν8]
   exact ⟨fun e he=>by simp at he,.inl ⟨rfl,rfl⟩⟩

theorem LoopK.nilRow {live:List Nat} {body:Code} {Q:QP} (j d sz:Nat) (hj:lk σ j=some (true,.v (.slice none 0 0))) (hjN:decide (j < E.N)=true) (hn:hNoKey d (hdel d H)=true)
  (h:LoopK E live body Q ((j,true,.own (8 * d)) :: sigDrop d σ) ((8 * d,.row sz []) :: hdel d H) M):LoopK E live body Q σ H M:=
 fun a w hr=>h a w (Rep.nilRow hj (of_decide_eq_true hjN) hn hr)

/-- the key of a row is another one -/
theorem Ent.rekey {S:Sig×HS×Mem} (j d k sz:Nat) (es:List (List Value)) (hj:lk σ j=some (true,.own k)) (hjN:decide (j < E.N)=true) (hk:hget H k=some (.row sz es)) (hn:hNoKey d (hdelk k (hdel d H))=true)
  (h:Ent E ((j,true,.own (8 * d)) :: sigDrop d σ) ((8 * d,.row sz es) :: hdelk k (hdel d H)) M S):Ent E σ H M S:=by
 rintro a w ⟨ν,hs,hh⟩
 refine h a w ?_
 let ν2:Nat→Value:=fun j=>if j / 8=d then ν k else ν j
 have hν : ∀ j,j / 8≠d→ν2 j=ν j:=fun j hj=>by simp [ν2,hj]
 have hν8:ν2 (8 * d)=ν k:=by simp [ν2,show (8 * d) / 8=d by omega]
 have hs2:=hs.drop hν
 have hsub:(hdelk k (hdel d H)).Sublist H:=(hdelk_sub k _).trans (hdel_sub d H)
 refine ⟨ν2,⟨hs2.1,hs2.2.1,fun i g s hi=>?_⟩,(hh.sublist hsub).add hn hν (fun j=>?_) ?_ (fun b hb=>?_)⟩
 · simp only [lk] at hi
   split at hi
   · rename_i e
     subst e
     simp only [Option.some.injEq,Prod.mk.injEq] at hi
     obtain ⟨rfl,rfl⟩:=hi
     rw [hs.2.2 i true _ hj]
     simp only [cond_true,SV.val,hν8]
   · exact hs2.2.2 i g s hi
 · by_cases hj:j / 8=d
   · simp only [ν2,hj,if_true]; exact hh.one k
   · simp only [ν2,hj,if_false]; exact hh.one j
 · rw [hν8]
   exact hh.holds _ (hget_mem hk)
 · rw [hν8] at hb
   obtain ⟨h1,h2⟩:=hh.apart b (List.mem_filterMap.2 ⟨(k,_),hget_mem hk,hb⟩)
   exact ⟨fp_hdelk hh hk hb d _ hsub (hdelk_ne k _),h1,h2⟩

end

def encS (s:List UInt8):List Value:=[.string ⟨s.toArray⟩]
def encT (b:Bool):List Value:=[.bool b]
theorem Ctx.id:Ctx (fun s=>s):=fun _ _ _ _ h=>h
theorem Ctx.fst (x:Value):Ctx (fun s=>.tup [s,.v x]):=fun s s' ν ν' h=>by simp only [SV.val,SV.vals,h]
theorem sp1:type_of% (And.intro (And.intro (And.intro @SV.pub.eq_1 @SV.pub.eq_2) (And.intro @SV.pub.eq_3 @SV.pub.eq_4)) (And.intro (And.intro @SV.pub.eq_5 @SV.pub.eq_6) (And.intro @SV.pub.eq_7 @SV.pubs.eq_1))):=And.intro (And.intro (And.intro @SV.pub.eq_1 @SV.pub.eq_2) (And.intro @SV.pub.eq_3 @SV.pub.eq_4)) (And.intro (And.intro @SV.pub.eq_5 @SV.pub.eq_6) (And.intro @SV.pub.eq_7 @SV.pubs.eq_1))
theorem sp2:type_of% (And.intro (And.intro (And.intro @SV.pubs.eq_2 @sigPub.eq_1) (And.intro @sigPub.eq_2 @poPub.eq_1)) (And.intro (And.intro @poPub.eq_2 @hpub.eq_1) (And.intro @hpub.eq_2 @IsRow.eq_1))):=And.intro (And.intro (And.intro @SV.pubs.eq_2 @sigPub.eq_1) (And.intro @sigPub.eq_2 @poPub.eq_1)) (And.intro (And.intro @poPub.eq_2 @hpub.eq_1) (And.intro @hpub.eq_2 @IsRow.eq_1))
theorem poPub_mp (k:Nat) (v:Value) (es:List (Value×Value)):poPub k v (.mp es) = .mp es:=rfl
theorem poPub_tab (k:Nat) (v:Value) (sz:Nat) (es:List (List SV)):poPub k v (.tab sz es) = .tab sz (pubss k v es):=rfl
theorem sp3:type_of% (And.intro @IsRow.eq_2 (And.intro (And.intro (@RowR.eq_1) @OwnR.eq_1) (And.intro @poPub_tab (And.intro @pubss.eq_1 (And.intro @poPub_mp @pubss.eq_2))))):=And.intro @IsRow.eq_2 (And.intro (And.intro (@RowR.eq_1) @OwnR.eq_1) (And.intro @poPub_tab (And.intro @pubss.eq_1 (And.intro @poPub_mp @pubss.eq_2))))
end Go.X

namespace Go.X
open Go Go.RowKit

theorem Meets.law {P:Program} {f:FuncId} {args:List SV} {W:World} {v:Value} (h:Meets P f args (fun b=>W.heap[b]?) (fun r _ _=>r = .v v)) :
  Calls P f (SV.vals ν0 args).toArray W fun e w'=>e = .returned v∧Below W.heap.size W w':=by
 refine (h.2 W fun _ _ e=>e).mono fun e w' ⟨s,H',M',ν,he,hh,hR⟩=>?_
 subst hR
 exact ⟨he,hh.below⟩

theorem wf_i64 {n:Int} (h:(Lit.int .i64 n).wf=true):inK .i64 n:=by
 have:=bounds_i64 h
 exact this

theorem cellM_heap (W:World) (a:Addr):cellM (fun b=>W.heap[b]?) a=W.cell? a:=by
 unfold cellM World.cell?
 rfl

end Go.X

namespace Go.X
open Go Go.RowKit Go.ChangeShapes Go.WideShapes

theorem list_of {α:Type} {Q:Nat→α→Prop} : ∀ (n:Nat),(∀ i,i < n → ∃ x,Q i x) → ∃ l:List α,l.length=n ∧ ∀ i x,l[i]? = some x→Q i x
 | 0,_=>⟨[],rfl,fun i x h=>by simp at h⟩
 | n+1,h=>by
   obtain ⟨l,h1,h2⟩:=list_of n (fun i hi=>h i (by omega))
   obtain ⟨x,hx⟩:=h n (by omega)
   refine ⟨l++[x],by simp [h1],fun i y hy=>?_⟩
   rcases Nat.lt_or_ge i l.length with hi | hi
   · rw [List.getElem?_append_left hi] at hy
     exact h2 i y hy
   · rw [List.getElem?_append_right hi] at hy
     have h0:i - l.length=0:=by
      rcases Nat.eq_zero_or_pos (i - l.length) with h0 | h0
      · exact h0
      · rw [List.getElem?_eq_none (by simp; omega)] at hy; cases hy
     rw [h0] at hy
     simp only [List.getElem?_cons_zero,Option.some.injEq] at hy
     subst hy
     rwa [show i=n by omega]

def fits {H:Type} (P:Program) (t:TypeId) (d:DataW H):Prop:=∀ n ∈ d.weights P t,n≤reachBytes
theorem weightsAll_mem {H:Type} {P:Program} {e:TypeId} : ∀ {l:List (DataW H)} {d:DataW H},d ∈ l → ∀ n ∈ d.weights P e,n ∈ DataW.weightsAll P e l
 | d0 :: l,d,h,n,hn=>by
   simp only [DataW.weightsAll,List.mem_append]
   rcases List.mem_cons.1 h with rfl | h
   · exact .inl hn
   · exact .inr (weightsAll_mem h n hn)
/-- the cells of type t are read as α -/
structure Rd (P:Program) (W:World) (t:TypeId) (w:Nat) {α:Type} (E:α→List Value) (ok:α→Prop):Prop where
 size:P.cellsOf t=w
 len : ∀ a,(E a).length=w
 one : ∀ a,ok a → ∀ u ∈ E a,u.oneCell'=true
 rd : ∀ {H:Type} {enc:TypeId×Value→H} {spare:Nat→Bool} {held:Bool} {n:Nat} {cs:List Value} {y:DataW H×List MemPlace},DataW.trod enc P W 0 spare held n t cs=some y→fits P t y.1 → ∃ a,cs=E a∧ok a
structure RdF (P:Program) (W:World) (fs:List Field) (off w:Nat) {α:Type} (E:α→List Value) (ok:α→Prop):Prop where
 len : ∀ a,(E a).length=w
 one : ∀ a,ok a → ∀ u ∈ E a,u.oneCell'=true
 rd : ∀ {H:Type} {enc:TypeId×Value→H} {spare:Nat→Bool} {held:Bool} {n:Nat} {cs:List Value},cs.length=off+w→(∀ f ∈ fs,∃ y,DataW.trod enc P W 0 spare held n f.type ((cs.drop f.offset).take (P.cellsOf f.type))=some y∧fits P f.type y.1) → ∃ a,cs.drop off=E a∧ok a

section
variable {P:Program} {W:World} {t e w off w1 w2:Nat} {α β:Type} {E:α→List Value} {ok:α→Prop} {E2:β→List Value} {ok2:β→Prop}

theorem Rd.int (ht:P.underlying t=some (.int .i64)) (hc:P.cellsOf t=1):Rd P W t 1 (fun a:Int=>[.int .i64 a]) (fun a=>inK .i64 a) where
 size:=hc
 len:=fun _=>rfl
 one:=fun a _ u hu=>by simp at hu; subst hu; rfl
 rd:=fun h hf=>by
  obtain ⟨z,hz1,_,hz2⟩:=DataW.trod_int ht h
  exact ⟨z,hz1,wf_i64 hz2⟩
theorem Rd.bool (ht:P.underlying t=some .bool) (hc:P.cellsOf t=1):Rd P W t 1 (fun a:Bool=>[.bool a]) (fun _=>True) where
 size:=hc
 len:=fun _=>rfl
 one:=fun a _ u hu=>by simp at hu; subst hu; rfl
 rd:=fun h hf=>by
  obtain ⟨b,hb1,_⟩:=DataW.trod_bool ht h
  exact ⟨b,hb1,trivial⟩
theorem Rd.str (ht:P.underlying t=some .string) (hc:P.cellsOf t=1):Rd P W t 1 (fun a:List UInt8=>[.string ⟨a.toArray⟩]) (fun a=>a.length≤reachBytes) where
 size:=hc
 len:=fun _=>rfl
 one:=fun a _ u hu=>by simp at hu; subst hu; rfl
 rd:=fun h hf=>by
  obtain ⟨s,h1,h3,h2⟩:=DataW.trod_string ht h
  exact ⟨bl s,by rw [h1]; exact congrArg (fun x=>[Value.string x]) (B_bl s).symm,by
   subst h3
   exact hf (bl s).length (by simp [DataW.weights,bl])⟩

theorem Rd.slice {bt:Nat} (ht:P.underlying t=some (.slice e)) (hc:P.cellsOf t=1) (hb:P.bytesOf e=bt) (hE:Rd P W e w E ok) :
  Rd P W t 1 (fun a:Value×List α=>[a.1]) (fun a=>RowM (fun b=>W.heap[b]?) a.1 w (a.2.map E)∧a.2.length * bt≤reachBytes ∧ ∀ x ∈ a.2,ok x) where
 size:=hc
 len:=fun _=>rfl
 one:=fun a h u hu=>by
  simp at hu
  subst hu
  have:=h.1.sl
  cases hv:a.1 <;> rw [hv] at this <;> first | rfl | cases this
 rd:=fun {H enc spare held n cs y} h hfit=>by
  rcases Go.Deep.open_slice ht h with ⟨hcs,_⟩ | ⟨a,len,cp,m,n,D,Pl,hcs,_,hl,hm,hmm,hy,hel⟩
  · exact ⟨(.slice none 0 0,[]),hcs,RowM.nil _ _,by simp,fun s hs=>by simp at hs⟩
  · subst hy
    have hfit':((len+(m - len)) * bt≤reachBytes) ∧ ∀ i,i < len→fits P e (D i):=by
     unfold fits at hfit
     simp only [DataW.weights,ht,List.length_map,List.length_range,hb] at hfit
     exact ⟨hfit _ List.mem_cons_self,fun i hi n hn=>hfit n (List.mem_cons_of_mem _ (List.mem_append_left _ (weightsAll_mem (List.mem_map.2 ⟨i,List.mem_range.2 hi,rfl⟩) n hn)))⟩
    have hlm:len≤m:=by rw [hmm]; split <;> omega
    obtain ⟨l,h1,h2⟩:=list_of (Q:=fun i (s:α)=>((E s).length=w ∧ ∀ j u,(E s)[j]? = some u→W.cell? (a.add (i * w+j))=some u)∧ok s) len (fun i hil=>by
     obtain ⟨cs',hc,htr⟩:=hel i (by omega)
     rw [hE.size] at hc
     obtain ⟨_,hlen,hat⟩:=World.cells?_some hc
     obtain ⟨b,rfl,hb⟩:=hE.rd htr (hfit'.2 i hil)
     refine ⟨b,⟨hlen,fun j u hu=>?_⟩,hb⟩
     have hj:=(List.getElem?_eq_some_iff.1 hu).1
     have:=hat j (by omega)
     rw [← Go.Deep.add_add,this,hu])
    refine ⟨(.slice (some a) len cp,l),hcs,⟨⟨rfl,by simp only [lenV,List.length_map]; omega,hl,hm⟩,fun _=>rfl,fun i e' he'=>?_⟩,by simp only; rw [h1]; exact Nat.le_trans (Nat.mul_le_mul_right _ (by omega)) hfit'.1,fun s hs=>?_⟩
    · rw [List.getElem?_map,Option.map_eq_some_iff] at he'
      obtain ⟨s,hs,rfl⟩:=he'
      obtain ⟨⟨g0,g1⟩,gk⟩:=h2 i s hs
      refine ⟨g0,fun j u hu=>?_⟩
      have:=g1 j u hu
      exact ⟨by simp only [cellE,cellM_heap]; exact this,hE.one s gk u (List.mem_of_getElem? hu)⟩
    · obtain ⟨i,hi⟩:=List.mem_iff_getElem?.1 hs
      exact (h2 i s hi).2

theorem RdF.last {f:Field} (h:Rd P W f.type w E ok) (ho:f.offset=off):RdF P W [f] off w E ok where
 len:=h.len
 one:=h.one
 rd:=fun hl hf=>by
  obtain ⟨y,hy,hw⟩:=hf f (by simp)
  rw [h.size,ho,List.take_of_length_le (by rw [List.length_drop]; omega)] at hy
  exact h.rd hy hw
theorem RdF.cons {f:Field} {fs:List Field} (h:Rd P W f.type w1 E ok) (ho:f.offset=off) (r:RdF P W fs (off+w1) w2 E2 ok2) :
  RdF P W (f :: fs) off (w1+w2) (fun a:α×β=>E a.1++E2 a.2) (fun a=>ok a.1∧ok2 a.2) where
 len:=fun a=>by rw [List.length_append,h.len,r.len]
 one:=fun a ha u hu=>by
  rcases List.mem_append.1 hu with hu | hu
  · exact h.one _ ha.1 u hu
  · exact r.one _ ha.2 u hu
 rd:=fun {H enc spare held n cs} hl hf=>by
  obtain ⟨y,hy,hw⟩:=hf f (by simp)
  rw [h.size,ho] at hy
  obtain ⟨a,ha,oka⟩:=h.rd hy hw
  obtain ⟨b,hb,okb⟩:=r.rd (by omega) (fun g hg=>hf g (List.mem_cons_of_mem _ hg))
  refine ⟨(a,b),?_,oka,okb⟩
  simp only
  rw [← ha,← hb,← List.drop_drop,List.take_append_drop]
theorem Rd.struct {fs:Array Field} (ht:P.underlying t=some (.struct fs)) (hc:P.cellsOf t=w) (r:RdF P W fs.toList 0 w E ok):Rd P W t w E ok where
 size:=hc
 len:=r.len
 one:=r.one
 rd:=fun {H enc spare held n cs y} h hfit=>by
  obtain ⟨xs,n',_,hy,hl,hlen,hf⟩:=DataW.trod_struct ht h
  subst hy
  obtain ⟨a,ha,hk⟩:=r.rd (H:=H) (enc:=enc) (spare:=spare) (held:=held) (n:=n') (cs:=cs) (by omega) (fun f hm=>by
   obtain ⟨i,hi⟩:=List.mem_iff_getElem?.1 hm
   have hi':fs[i]? = some f:=by simpa using hi
   have hx:=hf i f hi'
   have hil:i < xs.length:=by
    have:=(List.getElem?_eq_some_iff.1 hi).1
    simp at this
    omega
   refine ⟨xs[i],by rw [hx,List.getElem?_eq_getElem hil],fun n hn=>hfit n ?_⟩
   simp only [DataW.weights,ht]
   exact DataW.weights_mem_each (j:=i) (by rw [List.getElem?_map,hi]; rfl) (by rw [List.getElem?_map,List.getElem?_eq_getElem hil]; rfl) n hn)
  exact ⟨a,by simpa using ha,hk⟩

theorem fits_of {H:Type} {ts:List TypeId} {ds:List (DataW H)} (h:(DataW.weightsEach P ts ds).all (· ≤ reachBytes)=true) (j:Nat) {d:DataW H} (ht:ts[j]? = some t) (hd:ds[j]? = some d):fits P t d:=fun n hn=>by
 have:=List.all_eq_true.1 h n (DataW.weights_mem_each ht hd n hn)
 simpa using this
end
theorem str_fits {H:Type} {P:Program} {t:TypeId} {l:List UInt8} (h:fits (H:=H) P t (.lit (.string l))):l.length≤reachBytes:=h l.length (by simp [DataW.weights])
end Go.X

namespace Go.Proofs.YthafjlokddpjfaaGreatDoor.Clo
open Go
theorem laidOut:laidOutB Tryz.prog=true:=by kernel_rfl
end Go.Proofs.YthafjlokddpjfaaGreatDoor.Clo

