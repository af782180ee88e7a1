/- Contracts of functions and the logic that they are proved in (6 texts in one). Conditions: none. -/
import Derived.Test.YthafjlokddpjfaaGreatDoorMg5
import Derived.Test.YthafjlokddpjfaaGreatDoorMg6
import Derived.Test.YthafjlokddpjfaaGreatDoorMg8
import Derived.Test.YthafjlokddpjfaaGreatDoorMg10
open Int renaming cast_ofNat_Int→zl,natCast_zero→za,natCast_one→ze,toNat_natCast→zo
set_option linter.unusedSimpArgs false
set_option linter.unusedVariables false
set_option maxHeartbeats 4000000
set_option maxRecDepth 20000
namespace Go.X
open Go Go.RowKit
section
variable {P:Program} {ops:Array Oper} {Q:Exit→Act→World→Prop} {md:Region.Mode} {S:World→Prop}
/-- S is asked behind the first n alone -/
def wpAnyT (P:Program) (md:Region.Mode) (ops:Array Oper) (Q:Exit→Act→World→Prop) (S:World→Prop) (n:Nat):Nat→Array Bool→Act→World→Prop
 | 0,listed,a,w=>Region.ready md ops listed=[]∧Q .normal a w
 | f+1,listed,a,w=>
   (Region.ready md ops listed=[]→Q .normal a w) ∧
   ∀ i ∈ Region.ready md ops listed,wpOp P ops Q i (fun a' w'=>(i < n→S w')∧wpAnyT P md ops Q S n f (listed.setIfInBounds i true) a' w') a w
theorem wpAny_of_T {n:Nat} : ∀ (f:Nat) (listed:Array Bool) (a:Act) (w:World),wpAnyT P md ops Q S n f listed a w→wpAny P md ops Q f listed a w
 | 0,_,_,_,h=>h
 | f+1,_,_,_,h=>⟨h.1,fun i hi=>wpOp_mono (fun a' w' h'=>wpAny_of_T f _ a' w' h'.2) (h.2 i hi)⟩
theorem wpAnyT_first {n i:Nat} {oi:Oper} {v:Value} (hs:Region.sinkB md ops n=true) (hc:Region.chainB md ops n=true) (hn:n < ops.size) (hin:i < n) (hi:ops[i]? = some oi) (hsel : ∀ (j:Nat) (o:Oper) cs b,ops[j]? = some o→o.op ≠ .select cs b)
  (hQ : ∀ c a w,Q (.panic c) (a.put oi.dst v) w→Q (.panic c) a w) :
  ∀ (f:Nat) (listed:Array Bool) (a:Act) (w:World),HeadInv md ops n listed →
    (∀ j oj,ops[j]? = some oj→j≠i→listed.getD j true=false→(∀ e ∈ oj.after,Region.binds md e=true→e.on≠i)→oi.apart ops oj=true) →
    i ∈ Region.ready md ops listed→YieldsIf P ops S oi v a→S w →
    wpAnyT P md ops Q S n f (listed.setIfInBounds i true) (a.put oi.dst v) w→wpAnyT P md ops Q S n (f+1) listed a w:=by
 intro f
 induction f with
 | zero=>
   intro listed a w inv _ hr hy hS H
   refine ⟨fun h=>(by rw [h] at hr; cases hr),fun j hj=>?_⟩
   by_cases hji:j=i
   · subst hji; exact hy.wpOp hi hS ⟨fun _=>hS,H⟩
   · have:=ready_mono hj hji
     rw [H.1] at this
     cases this
 | succ f ih=>
   intro listed a w inv hfree hr hy hS H
   have hun0:=(mem_ready.1 hr).1
   refine ⟨fun h=>(by rw [h] at hr; cases hr),fun j hj=>?_⟩
   have hjn:j < n:=by
    rcases Nat.lt_or_ge j n with h | h
    · exact h
    · exact absurd hj (tail_waits hs hc hn inv _ i rfl hin hun0 j h)
   by_cases hji:j=i
   · subst hji; exact hy.wpOp hi hS ⟨fun _=>hS,H⟩
   · have h1:=H.2 j (ready_mono hj hji)
     obtain ⟨hjun,oj,hoj,hall⟩:=mem_ready.1 hj
     have hnot : ∀ e ∈ oj.after,Region.binds md e=true→e.on≠i:=fun e he hb heq=>by
      have h1:=hall e he hb
      rw [heq,getD_both hun0] at h1
      cases h1
     have h2:=wpOp_putIf hoj (hfree j oj hoj hji hjun hnot) (fun cs b=>hsel i oi cs b hi) (fun cs b=>hsel j oj cs b hoj) hQ hy h1
     have hfree' : ∀ k ok,ops[k]? = some ok→k≠i→(listed.setIfInBounds j true).getD k true=false →
       (∀ e ∈ ok.after,Region.binds md e=true→e.on≠i)→oi.apart ops ok=true:=fun k ok hk hki hun hno=>by
      refine hfree k ok hk hki ?_ hno
      by_cases hjk:j=k
      · subst hjk; exact hjun
      · rw [getD_set_ne true hjk] at hun; exact hun
     refine wpOp_mono (fun a' w' h3=>⟨h3.2.1,ih (listed.setIfInBounds j true) a' w' (inv.set hj hjn) hfree' (ready_mono hr (Ne.symm hji)) h3.1 (h3.2.1 hjn) ?_⟩) h2
     rw [Array.setIfInBounds_comm _ _ hji]
     exact h3.2.2
theorem wpAnyT_take {n i:Nat} {oi:Oper} {v:Value} {f:Nat} {listed:Array Bool} {a:Act} {w:World} (hsk:Region.sinkB md ops n=true) (hch:Region.chainB md ops n=true) (hn:n < ops.size) (hin:i < n) (inv:HeadInv md ops n listed) (hi:ops[i]? = some oi)
  (hs:Region.noSelect ops=true) (hf:Region.free md ops listed i=true) (hr:(Region.ready md ops listed).contains i=true)
  (hQ : ∀ c a w,Q (.panic c) (a.put oi.dst v) w→Q (.panic c) a w) (hy:YieldsIf P ops S oi v a) (hS:S w)
  (h:wpAnyT P md ops Q S n f (listed.setIfInBounds i true) (a.put oi.dst v) w):wpAnyT P md ops Q S n (f+1) listed a w:=
 wpAnyT_first hsk hch hn hin hi (Region.noSelect_spec hs) hQ f listed a w inv (Region.free_spec hi hf) (by simpa using hr) hy hS h
theorem wpAnyT_all {n:Nat} {rs:List Nat} {f:Nat} {listed:Array Bool} {a:Act} {w:World} (hr:Region.ready md ops listed=rs) (hne:rs≠[])
  (h : ∀ i ∈ rs,wpOp P ops Q i (fun a' w'=>(i < n→S w')∧wpAnyT P md ops Q S n f (listed.setIfInBounds i true) a' w') a w):wpAnyT P md ops Q S n (f+1) listed a w:=
 ⟨fun h0=>absurd (hr ▸ h0) hne,hr ▸ h⟩
theorem wpAnyT_of_seq {n:Nat} {Q':Exit→Act→World→Prop} : ∀ (l:List Oper) (k:Nat) (listed:Array Bool) (a:Act) (w:World),(∀ j,l[j]? = ops[k+j]?) →
  Region.seqB md ops l.length k listed=true→n≤k→wpList P ops Q' l a w→wpAnyT P md ops Q' S n l.length listed a w
 | [],_,_,_,_,_,hB,_,h=>⟨by simpa [Region.seqB] using hB,h⟩
 | o :: l,k,listed,a,w,hl,hB,hnk,h=>by
   have h0:ops[k]? = some o:=by simpa using (hl 0).symm
   simp only [List.length_cons,Region.seqB,Bool.and_eq_true,decide_eq_true_eq] at hB
   refine ⟨fun h1=>(by rw [hB.1] at h1; cases h1),fun i hi=>?_⟩
   rw [hB.1] at hi
   have hik:i=k:=by simpa using hi
   subst hik
   have hw:wpOp P ops Q' i (wpList P ops Q' l) a w:=by unfold wpOp; simp only [h0]; exact h
   exact wpOp_mono (fun a' w' h'=>⟨fun hlt=>absurd hlt (by omega),wpAnyT_of_seq l (i+1) _ a' w' (fun j=>by have:=hl (j+1); simpa [Nat.add_assoc,Nat.add_comm 1 j] using this) hB.2 (by omega) h'⟩) hw
end
def schTB (md:Region.Mode) (ops:Array Oper) (n:Nat):Sch→Nat→Array Bool→Bool
 | .done,f,listed=>decide (f=ops.size - n) && Region.seqB md ops (ops.size - n) n listed
 | .take i s,f+1,listed=>decide (i < n) && ((Region.free md ops listed i && (Region.ready md ops listed).contains i) && schTB md ops n s f (listed.setIfInBounds i true))
 | .one i s,f+1,listed=>decide (i < n) && (Region.ready md ops listed == [i] && schTB md ops n s f (listed.setIfInBounds i true))
 | .two i s j m,f+1,listed=>(decide (i < n) && decide (j < n)) && (Region.ready md ops listed == [i,j] && (schTB md ops n s f (listed.setIfInBounds i true) && schTB md ops n m f (listed.setIfInBounds j true)))
 | _,0,_=>false
section
variable {E:Env} {σ:Sig} {H Hs:HS} {M Ms:Mem} {ν ν':Nat→Value} {a:Act} {w:World}
theorem wpHT_sound {ops:Array Oper} {K:KP} {w0:World} {n:Nat} (hsel:Region.noSelect ops=true) (hsk:Region.sinkB .any ops n=true) (hch:Region.chainB .any ops n=true) (hn:n < ops.size) (h0:Heap E ν Hs Ms w0) (ht:tieds ν Hs) :
  ∀ (sch:Sch) (f:Nat) (listed:Array Bool) (σ:Sig) (H:HS) (M:Mem) (a:Act) (w:World),schTB .any ops n sch f listed=true→HeadInv .any ops n listed→Rep E σ H M a w→(stayH Hs H∧Ms.le M)→wpH E ops.toList Hs Ms (wpR E ops.toList K (ops.toList.drop n)) sch σ H M →
    wpAnyT E.P .any ops (fun e a w=>e=Exit.normal ∧ ∃ σ H M,Rep E σ H M a w∧K σ H M) (fun w=>Heap E ν Hs Ms w) n f listed a w
 | .done,f,listed,σ,H,M,a,w,hB,inv,hr,_,h=>by
   simp only [schTB,Bool.and_eq_true,decide_eq_true_eq] at hB
   simp only [wpH] at h
   have h2:=wpR_sound (E:=E) (ops:=ops.toList) (K:=K) (Q:=fun e a w=>e=Exit.normal ∧ ∃ σ H M,Rep E σ H M a w∧K σ H M) (fun σ H M a w hr hk=>⟨rfl,σ,H,M,hr,hk⟩) (ops.toList.drop n) σ H M a w hr h
   have h3:(ops.toList.drop n).length=ops.size - n:=by simp
   have:=wpAnyT_of_seq (P:=E.P) (md:=.any) (ops:=ops) (S:=fun w=>Heap E ν Hs Ms w) (n:=n) (Q':=fun e a w=>e=Exit.normal ∧ ∃ σ H M,Rep E σ H M a w∧K σ H M) (ops.toList.drop n) n listed a w (fun j=>by rw [List.getElem?_drop,Array.getElem?_toList]) (by rw [h3]; exact hB.2) (Nat.le_refl _) (by simpa using h2)
   rw [h3] at this
   rw [hB.1]
   exact this
 | .take i m,f+1,listed,σ,H,M,a,w,hB,inv,⟨ν',hs,hh⟩,⟨hsub,hle⟩,h=>by
   simp only [schTB,Bool.and_eq_true,decide_eq_true_eq] at hB
   obtain ⟨hin,⟨hf,hrd⟩,hB⟩:=hB
   simp only [wpH] at h
   cases ho:ops[i]? with
   | none=>rw [show ops.toList[i]? = none by rw [Array.getElem?_toList]; exact ho] at h; exact h.elim
   | some o=>
     rw [show ops.toList[i]? = some o by rw [Array.getElem?_toList]; exact ho] at h
     simp only [opt1] at h
     cases hg:gdOf ops.toList σ o.guard with
     | none=>rw [hg] at h; exact h.elim
     | some g=>
       cases hd:o.dst with
       | none=>rw [hg,hd] at h; exact h.elim
       | some d=>
         rw [hg,hd] at h
         obtain ⟨⟨hN,h1⟩,hK⟩:=h
         have hgd:=gd_spec hs hg o rfl
         obtain ⟨hS,hke⟩:=Heap.stay h0 ht hh hsub hle
         refine wpAnyT_take hsk hch hn hin inv (v:=bif g then (pev E.P Hs Ms σ o.op).2.1.val ν' else undef) ho hsel hf hrd (fun c a w h=>by obtain ⟨h,_⟩:=h; cases h) ?_ hS ?_
         · cases g with
           | true=>
             obtain ⟨hg1,hc⟩:=h1 rfl
             refine .inl ⟨by simpa using hgd,fun w1 hw1=>?_⟩
             exact pev_sound hs (Heap.again hw1 ht hke hh.one) o hg1 hc
           | false=>exact .inr ⟨by simpa using hgd,rfl⟩
         · refine wpHT_sound hsel hsk hch hn h0 ht m f _ _ H M _ w hB (inv.set (by simpa using hrd) hin) ⟨ν',?_,hh⟩ ⟨hsub,hle⟩ hK
           rw [hd]
           exact hs.put hN rfl
 | .one i m,f+1,listed,σ,H,M,a,w,hB,inv,hr,hsm,h=>by
   simp only [schTB,Bool.and_eq_true,decide_eq_true_eq,beq_iff_eq] at hB
   refine wpAnyT_all hB.2.1 (by simp) fun j hj=>?_
   obtain rfl:j=i:=by simpa using hj
   exact wpHT_op hsel hsk hch hn h0 ht m f listed σ H M a w hB.2.2 (inv.set (by rw [hB.2.1]; simp) hB.1) hr hsm h
 | .two i m i' m2,f+1,listed,σ,H,M,a,w,hB,inv,hr,hsm,h=>by
   simp only [schTB,Bool.and_eq_true,decide_eq_true_eq,beq_iff_eq] at hB
   refine wpAnyT_all hB.2.1 (by simp) fun j hj=>?_
   rcases (by simpa using hj:j=i∨j=i') with rfl | rfl
   · exact wpHT_op hsel hsk hch hn h0 ht m f listed σ H M a w hB.2.2.1 (inv.set (by rw [hB.2.1]; simp) hB.1.1) hr hsm h.1
   · exact wpHT_op hsel hsk hch hn h0 ht m2 f listed σ H M a w hB.2.2.2 (inv.set (by rw [hB.2.1]; simp) hB.1.2) hr hsm h.2
 | .take _ _,0,_,_,_,_,_,_,hB,_,_,_,_=>by simp [schTB] at hB
 | .one _ _,0,_,_,_,_,_,_,hB,_,_,_,_=>by simp [schTB] at hB
 | .two _ _ _ _,0,_,_,_,_,_,_,hB,_,_,_,_=>by simp [schTB] at hB
where
 wpHT_op {ops:Array Oper} {K:KP} {w0:World} {n:Nat} (hsel:Region.noSelect ops=true) (hsk:Region.sinkB .any ops n=true) (hch:Region.chainB .any ops n=true) (hn:n < ops.size) (h0:Heap E ν Hs Ms w0) (ht:tieds ν Hs) {i:Nat} (m:Sch) (f:Nat) (listed:Array Bool) (σ:Sig) (H:HS) (M:Mem) (a:Act) (w:World)
   (hB:schTB .any ops n m f (listed.setIfInBounds i true)=true) (inv:HeadInv .any ops n (listed.setIfInBounds i true)) (hr:Rep E σ H M a w) (_:stayH Hs H∧Ms.le M)
   (h:opt1 (fun o=>efK E o Hs Ms (wpH E ops.toList Hs Ms (wpR E ops.toList K (ops.toList.drop n)) m) σ H M (gdOf ops.toList σ o.guard)) ops.toList[i]?) :
   wpOp E.P ops (fun e a w=>e=Exit.normal ∧ ∃ σ H M,Rep E σ H M a w∧K σ H M) i (fun a' w'=>(i < n→Heap E ν Hs Ms w')∧wpAnyT E.P .any ops (fun e a w=>e=Exit.normal ∧ ∃ σ H M,Rep E σ H M a w∧K σ H M) (fun w=>Heap E ν Hs Ms w) n f (listed.setIfInBounds i true) a' w') a w:=by
  cases ho:ops[i]? with
  | none=>rw [show ops.toList[i]? = none by rw [Array.getElem?_toList]; exact ho] at h; exact h.elim
  | some o=>
    rw [show ops.toList[i]? = some o by rw [Array.getElem?_toList]; exact ho] at h
    simp only [opt1] at h
    obtain ⟨ν',hs,hh⟩:=hr
    cases hg:gdOf ops.toList σ o.guard with
    | none=>rw [hg] at h; exact h.elim
    | some g=>
      rw [hg] at h
      simp only [efK] at h
      have hgd:=gd_spec hs hg o rfl
      have key:=stepK_sound (Nx:=fun a' w'=>(i < n→Heap E ν Hs Ms w')∧wpAnyT E.P .any ops (fun e a w=>e=Exit.normal ∧ ∃ σ H M,Rep E σ H M a w∧K σ H M) (fun w=>Heap E ν Hs Ms w) n f (listed.setIfInBounds i true) a' w')
       (Qx:=fun e a w=>e=Exit.normal ∧ ∃ σ H M,Rep E σ H M a w∧K σ H M)
       (fun σ1 H1 M1 a1 w1 hr1 hk1=>by
         obtain ⟨ν1,hs1,hh1⟩:=hr1
         exact ⟨fun _=>(Heap.stay h0 ht hh1 hk1.1.1 hk1.1.2).1,wpHT_sound hsel hsk hch hn h0 ht m f _ σ1 H1 M1 a1 w1 hB inv ⟨ν1,hs1,hh1⟩ hk1.1 hk1.2⟩) hs hh h
      unfold wpOp
      simp only [ho]
      have hgd':Region.wanted o (yielded ops a.tmps)=g:=by simpa using hgd
      rw [hgd']
      cases g with
      | true=>simp only [if_true] at key ⊢; exact .inl key
      | false=>simp only [Bool.false_eq_true,if_false] at key ⊢; exact key


/-- a region that draws its order: the first n after a plan (quiet ones taken first, at what of memory stays), the others in their order -/
theorem DrawK.heldT {id:Nat} {ops:Array Oper} {K:KP} (n:Nat) (sel:List Nat) (sch:Sch) (hm:E.P.follows .mixedOrders=true)
  (hB:(Region.noSelect ops && (decide (n < ops.size) && (Region.sinkB .any ops n && (Region.chainB .any ops n && schTB .any ops n sch ops.size (Array.replicate ops.size false)))))=true)
  (h : ∀ xs:Nat→Value,stayH (pickH sel (tieH xs H)) (tieH xs H)∧wpH E ops.toList (pickH sel (tieH xs H)) M (wpR E ops.toList K (ops.toList.drop n)) sch σ (tieH xs H) M):DrawK E id ops K σ H M:=by
 rintro a w ⟨ν,hs,hh⟩
 simp only [Bool.and_eq_true,decide_eq_true_eq] at hB
 obtain ⟨hsel,hn,hsk,hch,hsc⟩:=hB
 have h1:=tieH_heap (hh.grow ((Below.refl _ _).drew):Heap E ν H M { w with drawn:=w.drawn+1 })
 have inv0:HeadInv .any ops n (Array.replicate ops.size false):=
  ⟨by simp,fun j oj _ hl=>(by rw [getD_replicate_false] at hl; cases hl),fun t _ ht=>getD_in (by simpa using ht) (getD_replicate_false _ _)⟩
 exact wp_region_any hm (wpAny_of_T _ _ _ _ (wpHT_sound hsel hsk hch hn (h1.sublist (pickH_sub sel _)) (pickH_tieds sel H) sch _ _ σ _ M a _ hsc inv0 ⟨ν,hs,h1⟩ ⟨(h ν).1,Mem.le.refl M⟩ (h ν).2))
end
end Go.X

namespace Go.X
open Go Go.RowKit
inductive Sch3 where
 | done
 | take (i:Nat) (n:Sch3)
 | one (i:Nat) (n:Sch3)
 | two (i:Nat) (n:Sch3) (j:Nat) (m:Sch3)
 | three (i:Nat) (n:Sch3) (j:Nat) (m:Sch3) (k:Nat) (q:Sch3)
def wpH3 (E:Env) (ops:List Oper) (Hs:HS) (Ms:Mem) (K:KP):Sch3→Sig→HS→Mem→Prop
 | .done,σ,H,M=>K σ H M
 | .take i n,σ,H,M=>opt1 (fun o=>qtK E o Hs Ms (wpH3 E ops Hs Ms K n) σ H M (gdOf ops σ o.guard) o.dst) ops[i]?
 | .one i n,σ,H,M=>opt1 (fun o=>efK E o Hs Ms (wpH3 E ops Hs Ms K n) σ H M (gdOf ops σ o.guard)) ops[i]?
 | .two i n j m,σ,H,M=>opt1 (fun o=>efK E o Hs Ms (wpH3 E ops Hs Ms K n) σ H M (gdOf ops σ o.guard)) ops[i]? ∧ opt1 (fun o=>efK E o Hs Ms (wpH3 E ops Hs Ms K m) σ H M (gdOf ops σ o.guard)) ops[j]?
 | .three i n j m k q,σ,H,M=>opt1 (fun o=>efK E o Hs Ms (wpH3 E ops Hs Ms K n) σ H M (gdOf ops σ o.guard)) ops[i]? ∧ opt1 (fun o=>efK E o Hs Ms (wpH3 E ops Hs Ms K m) σ H M (gdOf ops σ o.guard)) ops[j]? ∧ opt1 (fun o=>efK E o Hs Ms (wpH3 E ops Hs Ms K q) σ H M (gdOf ops σ o.guard)) ops[k]?
@[congr] theorem wpH3_congr {E:Env} {ops:List Oper} {Hs Hs':HS} {Ms:Mem} {K:KP} {s:Sch3} {σ σ':Sig} {H H':HS} {M:Mem} (h0:Hs=Hs') (h:σ=σ') (h':H=H'):wpH3 E ops Hs Ms K s σ H M=wpH3 E ops Hs' Ms K s σ' H' M:=by rw [h0,h,h']
theorem se3:type_of% (And.intro (And.intro (And.intro @wpH3.eq_1 @wpH3.eq_2) (And.intro @wpH3.eq_3 @wpH3.eq_4)) @wpH3.eq_5):=And.intro (And.intro (And.intro @wpH3.eq_1 @wpH3.eq_2) (And.intro @wpH3.eq_3 @wpH3.eq_4)) @wpH3.eq_5
def tk3:List Nat→Sch3→Sch3
 | [],s=>s
 | i :: l,s=>.take i (tk3 l s)
theorem tks3:type_of% (And.intro @tk3.eq_1 @tk3.eq_2):=And.intro @tk3.eq_1 @tk3.eq_2
def schT3 (md:Region.Mode) (ops:Array Oper) (n:Nat):Sch3→Nat→Array Bool→Bool
 | .done,f,listed=>decide (f=ops.size - n) && Region.seqB md ops (ops.size - n) n listed
 | .take i s,f+1,listed=>decide (i < n) && ((Region.free md ops listed i && (Region.ready md ops listed).contains i) && schT3 md ops n s f (listed.setIfInBounds i true))
 | .one i s,f+1,listed=>decide (i < n) && (Region.ready md ops listed == [i] && schT3 md ops n s f (listed.setIfInBounds i true))
 | .two i s j m,f+1,listed=>(decide (i < n) && decide (j < n)) && (Region.ready md ops listed == [i,j] && (schT3 md ops n s f (listed.setIfInBounds i true) && schT3 md ops n m f (listed.setIfInBounds j true)))
 | .three i s j m k q,f+1,listed=>(decide (i < n) && (decide (j < n) && decide (k < n))) && (Region.ready md ops listed == [i,j,k] && (schT3 md ops n s f (listed.setIfInBounds i true) && (schT3 md ops n m f (listed.setIfInBounds j true) && schT3 md ops n q f (listed.setIfInBounds k true))))
 | _,0,_=>false
section
variable {E:Env} {σ:Sig} {H Hs:HS} {M Ms:Mem} {ν ν':Nat→Value} {a:Act} {w:World}
theorem wpH3_sound {ops:Array Oper} {K:KP} {w0:World} {n:Nat} (hsel:Region.noSelect ops=true) (hsk:Region.sinkB .any ops n=true) (hch:Region.chainB .any ops n=true) (hn:n < ops.size) (h0:Heap E ν Hs Ms w0) (ht:tieds ν Hs) :
  ∀ (sch:Sch3) (f:Nat) (listed:Array Bool) (σ:Sig) (H:HS) (M:Mem) (a:Act) (w:World),schT3 .any ops n sch f listed=true→HeadInv .any ops n listed→Rep E σ H M a w→(stayH Hs H∧Ms.le M)→wpH3 E ops.toList Hs Ms (wpR E ops.toList K (ops.toList.drop n)) sch σ H M →
    wpAnyT E.P .any ops (fun e a w=>e=Exit.normal ∧ ∃ σ H M,Rep E σ H M a w∧K σ H M) (fun w=>Heap E ν Hs Ms w) n f listed a w
 | .done,f,listed,σ,H,M,a,w,hB,inv,hr,_,h=>by
   simp only [schT3,Bool.and_eq_true,decide_eq_true_eq] at hB
   simp only [wpH3] at h
   have h2:=wpR_sound (E:=E) (ops:=ops.toList) (K:=K) (Q:=fun e a w=>e=Exit.normal ∧ ∃ σ H M,Rep E σ H M a w∧K σ H M) (fun σ H M a w hr hk=>⟨rfl,σ,H,M,hr,hk⟩) (ops.toList.drop n) σ H M a w hr h
   have h3:(ops.toList.drop n).length=ops.size - n:=by simp
   have:=wpAnyT_of_seq (P:=E.P) (md:=.any) (ops:=ops) (S:=fun w=>Heap E ν Hs Ms w) (n:=n) (Q':=fun e a w=>e=Exit.normal ∧ ∃ σ H M,Rep E σ H M a w∧K σ H M) (ops.toList.drop n) n listed a w (fun j=>by rw [List.getElem?_drop,Array.getElem?_toList]) (by rw [h3]; exact hB.2) (Nat.le_refl _) (by simpa using h2)
   rw [h3] at this
   rw [hB.1]
   exact this
 | .take i m,f+1,listed,σ,H,M,a,w,hB,inv,⟨ν',hs,hh⟩,⟨hsub,hle⟩,h=>by
   simp only [schT3,Bool.and_eq_true,decide_eq_true_eq] at hB
   obtain ⟨hin,⟨hf,hrd⟩,hB⟩:=hB
   simp only [wpH3] at h
   cases ho:ops[i]? with
   | none=>rw [show ops.toList[i]? = none by rw [Array.getElem?_toList]; exact ho] at h; exact h.elim
   | some o=>
     rw [show ops.toList[i]? = some o by rw [Array.getElem?_toList]; exact ho] at h
     simp only [opt1] at h
     cases hg:gdOf ops.toList σ o.guard with
     | none=>rw [hg] at h; exact h.elim
     | some g=>
       cases hd:o.dst with
       | none=>rw [hg,hd] at h; exact h.elim
       | some d=>
         rw [hg,hd] at h
         obtain ⟨⟨hN,h1⟩,hK⟩:=h
         have hgd:=gd_spec hs hg o rfl
         obtain ⟨hS,hke⟩:=Heap.stay h0 ht hh hsub hle
         refine wpAnyT_take hsk hch hn hin inv (v:=bif g then (pev E.P Hs Ms σ o.op).2.1.val ν' else undef) ho hsel hf hrd (fun c a w h=>by obtain ⟨h,_⟩:=h; cases h) ?_ hS ?_
         · cases g with
           | true=>
             obtain ⟨hg1,hc⟩:=h1 rfl
             refine .inl ⟨by simpa using hgd,fun w1 hw1=>?_⟩
             exact pev_sound hs (Heap.again hw1 ht hke hh.one) o hg1 hc
           | false=>exact .inr ⟨by simpa using hgd,rfl⟩
         · refine wpH3_sound hsel hsk hch hn h0 ht m f _ _ H M _ w hB (inv.set (by simpa using hrd) hin) ⟨ν',?_,hh⟩ ⟨hsub,hle⟩ hK
           rw [hd]
           exact hs.put hN rfl
 | .one i m,f+1,listed,σ,H,M,a,w,hB,inv,hr,hsm,h=>by
   simp only [schT3,Bool.and_eq_true,decide_eq_true_eq,beq_iff_eq] at hB
   refine wpAnyT_all hB.2.1 (by simp) fun j hj=>?_
   obtain rfl:j=i:=by simpa using hj
   exact wpH3_op hsel hsk hch hn h0 ht m f listed σ H M a w hB.2.2 (inv.set (by rw [hB.2.1]; simp) hB.1) hr hsm h
 | .two i m i' m2,f+1,listed,σ,H,M,a,w,hB,inv,hr,hsm,h=>by
   simp only [schT3,Bool.and_eq_true,decide_eq_true_eq,beq_iff_eq] at hB
   refine wpAnyT_all hB.2.1 (by simp) fun j hj=>?_
   rcases (by simpa using hj:j=i∨j=i') with rfl | rfl
   · exact wpH3_op hsel hsk hch hn h0 ht m f listed σ H M a w hB.2.2.1 (inv.set (by rw [hB.2.1]; simp) hB.1.1) hr hsm h.1
   · exact wpH3_op hsel hsk hch hn h0 ht m2 f listed σ H M a w hB.2.2.2 (inv.set (by rw [hB.2.1]; simp) hB.1.2) hr hsm h.2
 | .three i m i' m2 i'' m3,f+1,listed,σ,H,M,a,w,hB,inv,hr,hsm,h=>by
   simp only [schT3,Bool.and_eq_true,decide_eq_true_eq,beq_iff_eq] at hB
   refine wpAnyT_all hB.2.1 (by simp) fun j hj=>?_
   rcases (by simpa using hj:j=i∨j=i'∨j=i'') with rfl | rfl | rfl
   · exact wpH3_op hsel hsk hch hn h0 ht m f listed σ H M a w hB.2.2.1 (inv.set (by rw [hB.2.1]; simp) hB.1.1) hr hsm h.1
   · exact wpH3_op hsel hsk hch hn h0 ht m2 f listed σ H M a w hB.2.2.2.1 (inv.set (by rw [hB.2.1]; simp) hB.1.2.1) hr hsm h.2.1
   · exact wpH3_op hsel hsk hch hn h0 ht m3 f listed σ H M a w hB.2.2.2.2 (inv.set (by rw [hB.2.1]; simp) hB.1.2.2) hr hsm h.2.2
 | .take _ _,0,_,_,_,_,_,_,hB,_,_,_,_=>by simp [schT3] at hB
 | .one _ _,0,_,_,_,_,_,_,hB,_,_,_,_=>by simp [schT3] at hB
 | .two _ _ _ _,0,_,_,_,_,_,_,hB,_,_,_,_=>by simp [schT3] at hB
 | .three _ _ _ _ _ _,0,_,_,_,_,_,_,hB,_,_,_,_=>by simp [schT3] at hB
where
 wpH3_op {ops:Array Oper} {K:KP} {w0:World} {n:Nat} (hsel:Region.noSelect ops=true) (hsk:Region.sinkB .any ops n=true) (hch:Region.chainB .any ops n=true) (hn:n < ops.size) (h0:Heap E ν Hs Ms w0) (ht:tieds ν Hs) {i:Nat} (m:Sch3) (f:Nat) (listed:Array Bool) (σ:Sig) (H:HS) (M:Mem) (a:Act) (w:World)
   (hB:schT3 .any ops n m f (listed.setIfInBounds i true)=true) (inv:HeadInv .any ops n (listed.setIfInBounds i true)) (hr:Rep E σ H M a w) (_:stayH Hs H∧Ms.le M)
   (h:opt1 (fun o=>efK E o Hs Ms (wpH3 E ops.toList Hs Ms (wpR E ops.toList K (ops.toList.drop n)) m) σ H M (gdOf ops.toList σ o.guard)) ops.toList[i]?) :
   wpOp E.P ops (fun e a w=>e=Exit.normal ∧ ∃ σ H M,Rep E σ H M a w∧K σ H M) i (fun a' w'=>(i < n→Heap E ν Hs Ms w')∧wpAnyT E.P .any ops (fun e a w=>e=Exit.normal ∧ ∃ σ H M,Rep E σ H M a w∧K σ H M) (fun w=>Heap E ν Hs Ms w) n f (listed.setIfInBounds i true) a' w') a w:=by
  cases ho:ops[i]? with
  | none=>rw [show ops.toList[i]? = none by rw [Array.getElem?_toList]; exact ho] at h; exact h.elim
  | some o=>
    rw [show ops.toList[i]? = some o by rw [Array.getElem?_toList]; exact ho] at h
    simp only [opt1] at h
    obtain ⟨ν',hs,hh⟩:=hr
    cases hg:gdOf ops.toList σ o.guard with
    | none=>rw [hg] at h; exact h.elim
    | some g=>
      rw [hg] at h
      simp only [efK] at h
      have hgd:=gd_spec hs hg o rfl
      have key:=stepK_sound (Nx:=fun a' w'=>(i < n→Heap E ν Hs Ms w')∧wpAnyT E.P .any ops (fun e a w=>e=Exit.normal ∧ ∃ σ H M,Rep E σ H M a w∧K σ H M) (fun w=>Heap E ν Hs Ms w) n f (listed.setIfInBounds i true) a' w')
       (Qx:=fun e a w=>e=Exit.normal ∧ ∃ σ H M,Rep E σ H M a w∧K σ H M)
       (fun σ1 H1 M1 a1 w1 hr1 hk1=>by
         obtain ⟨ν1,hs1,hh1⟩:=hr1
         exact ⟨fun _=>(Heap.stay h0 ht hh1 hk1.1.1 hk1.1.2).1,wpH3_sound hsel hsk hch hn h0 ht m f _ σ1 H1 M1 a1 w1 hB inv ⟨ν1,hs1,hh1⟩ hk1.1 hk1.2⟩) hs hh h
      unfold wpOp
      simp only [ho]
      have hgd':Region.wanted o (yielded ops a.tmps)=g:=by simpa using hgd
      rw [hgd']
      cases g with
      | true=>simp only [if_true] at key ⊢; exact .inl key
      | false=>simp only [Bool.false_eq_true,if_false] at key ⊢; exact key


/-- a region that draws its order: the first n after a plan (quiet ones taken first, at what of memory stays), the others in their order -/
theorem DrawK.held3 {id:Nat} {ops:Array Oper} {K:KP} (n:Nat) (sel:List Nat) (sch:Sch3) (hm:E.P.follows .mixedOrders=true)
  (hB:(Region.noSelect ops && (decide (n < ops.size) && (Region.sinkB .any ops n && (Region.chainB .any ops n && schT3 .any ops n sch ops.size (Array.replicate ops.size false)))))=true)
  (h : ∀ xs:Nat→Value,stayH (pickH sel (tieH xs H)) (tieH xs H)∧wpH3 E ops.toList (pickH sel (tieH xs H)) M (wpR E ops.toList K (ops.toList.drop n)) sch σ (tieH xs H) M):DrawK E id ops K σ H M:=by
 rintro a w ⟨ν,hs,hh⟩
 simp only [Bool.and_eq_true,decide_eq_true_eq] at hB
 obtain ⟨hsel,hn,hsk,hch,hsc⟩:=hB
 have h1:=tieH_heap (hh.grow ((Below.refl _ _).drew):Heap E ν H M { w with drawn:=w.drawn+1 })
 have inv0:HeadInv .any ops n (Array.replicate ops.size false):=
  ⟨by simp,fun j oj _ hl=>(by rw [getD_replicate_false] at hl; cases hl),fun t _ ht=>getD_in (by simpa using ht) (getD_replicate_false _ _)⟩
 exact wp_region_any hm (wpAny_of_T _ _ _ _ (wpH3_sound hsel hsk hch hn (h1.sublist (pickH_sub sel _)) (pickH_tieds sel H) sch _ _ σ _ M a _ hsc inv0 ⟨ν,hs,h1⟩ ⟨(h ν).1,Mem.le.refl M⟩ (h ν).2))
end
end Go.X

namespace Go.X
open Go Go.RowKit
section
variable {E:Env} {σ:Sig} {H:HS} {M:Mem} {a:Act} {w:World} {ν:Nat→Value} {K:KP} {o:Oper}
/-- a contract that hands back a pointer to a new box -/
def NewB (cs:List SV):RP:=fun r H _=>∃ k,r = .ptr k 0 0 0∧hget H k=some (.box cs none)
theorem CallK.newBox {f d:Nat} {l cs:List SV} (hl:SV.concs l=true) (hd:decide (d < E.N)=true) (h:Meets E.P f l M (NewB cs)) (hc:SV.concs cs=true) (hn:hNoKey d (hdel d H)=true)
  (hk : ∀ M',M.le M'→K ((d,true,.ptr (8 * d) 0 0 0) :: sigDrop d σ) ((8 * d,.box cs none) :: hdel d H) M'):CallK E f l d K σ H M:=by
 intro ν a w hs hh
 refine .inl ⟨h.1,?_⟩
 rw [SV.concs_vals (ν:=ν0) (ν':=ν) l hl]
 refine (h.2 w hh.mem).mono ?_
 rintro e w' ⟨s,H',M',ν',rfl,hh',k,rfl,hR⟩
 let ν2:Nat→Value:=fun j=>if j / 8=d then ν' k else ν j
 have hν : ∀ j,j / 8≠d→ν2 j=ν j:=fun j hj=>by simp [ν2,hj]
 have hν8:ν2 (8 * d)=ν' k:=by simp [ν2,show (8 * d) / 8=d by omega]
 refine ⟨_,rfl,_,_,_,⟨ν2,(hs.drop hν).put (of_decide_eq_true hd) (by simp only [cond_true,SV.val,hν8]),?_⟩,hk M' hh'.le0⟩
 refine ((hh.call hh').sublist (hdel_sub d H)).add hn hν (fun j=>?_) ?_ (fun b hb=>?_)
 · by_cases hj:j / 8=d
   · simp only [ν2,hj,if_true]; exact hh'.one k
   · simp only [ν2,hj,if_false]; exact hh.one j
 · rw [hν8]
   obtain ⟨⟨b,T,e1,e2⟩,_⟩:=hh'.holds _ (hget_mem hR)
   exact ⟨⟨b,T,e1,by rw [SV.concs_vals (ν:=ν') (ν':=ν2) cs hc]; exact e2⟩,fun _ h=>by cases h⟩
 · rw [hν8] at hb
   have hbm:b ∈ fp ν' H':=List.mem_filterMap.2 ⟨(k,_),hget_mem hR,hb⟩
   obtain ⟨h1,h2⟩:=hh'.apart b hbm
   refine ⟨fun hm=>?_,h1,Nat.le_trans hh.below.size h2⟩
   have:=hh.fp_lt (((hdel_sub d H).filterMap _).subset hm)
   simp only at h2
   omega
/-- what ties say -/
def tieEq (ys:Nat→Value):HS→Prop
 | []=>True
 | (k,.box _ (some t)) :: H=>ys k=t∧tieEq ys H
 | (_,.box _ none) :: H=>tieEq ys H
 | (_,.row _ _) :: H=>tieEq ys H
 | (_,.tab _ _) :: H=>tieEq ys H
 | (_,.mp _) :: H=>tieEq ys H
theorem tieEq_of : ∀ {H:HS},(∀ p ∈ H,p.2.holds ν w (ν p.1))→tieEq ν H
 | [],_=>trivial
 | (k,.box cs (some t)) :: H,h=>⟨(h (k,.box cs (some t)) (by simp)).2 t rfl,tieEq_of fun p hp=>h p (by simp [hp])⟩
 | (k,.box cs none) :: H,h=>tieEq_of (H:=H) fun p hp=>h p (by simp [hp])
 | (k,.row _ _) :: H,h=>tieEq_of (H:=H) fun p hp=>h p (by simp [hp])
 | (k,.tab _ _) :: H,h=>tieEq_of (H:=H) fun p hp=>h p (by simp [hp])
 | (k,.mp _) :: H,h=>tieEq_of (H:=H) fun p hp=>h p (by simp [hp])
/-- as DrawK.held, where boxes that were tied stay what they were -/
theorem DrawK.heldE {id:Nat} {ops:Array Oper} (sel:List Nat) (sch:Sch) (hm:E.P.follows .mixedOrders=true) (hB:(Region.noSelect ops && schB .any ops sch ops.size (Array.replicate ops.size false))=true)
  (h : ∀ xs:Nat→Value,tieEq xs H→stayH (pickH sel (tieH xs H)) (tieH xs H)∧wpH E ops.toList (pickH sel (tieH xs H)) M K sch σ (tieH xs H) M):DrawK E id ops K σ H M:=by
 rintro a w ⟨ν,hs,hh⟩
 simp only [Bool.and_eq_true] at hB
 have ht:=tieEq_of hh.holds
 have h1:=tieH_heap (hh.grow ((Below.refl _ _).drew):Heap E ν H M { w with drawn:=w.drawn+1 })
 exact wp_region_held hm (wpH_sound hB.1 (h1.sublist (pickH_sub sel _)) (pickH_tieds sel H) sch _ _ σ _ M a _ hB.2 ⟨ν,hs,h1⟩ ⟨(h ν ht).1,Mem.le.refl M⟩ (h ν ht).2)
/-- as CallK.lendB, where a row of the callee's own is handed back: it is published -/
theorem CallK.lendBR (B:Nat) {f d:Nat} {fn:Func} {c:Code} {l:List SV} (T:SV→SV) (hT:Ctx T) (live:List Nat) (hf:E.P.funcs[f]? = some fn) (hb:fn.body=some c) (hn:okFn fn l.length=true) (hd:decide (d < E.N)=true) (hH:lentB H=true)
  (h : ∀ xs:Nat→Value,wpC ⟨E.P,fn.ntmps,E.w0,E.M0⟩ live c (RetK E.P fn.results.toList (fun s H' M'=>∃ k sz es,s=T (.own k)∧hget H' k=some (.row sz es) ∧ ∀ v M'',M'.le M''→RowM M'' v sz es→((T (.v v)).conc=true∧(backH B xs (hpub k v H') H).2)∧K ((d,true,T (.v v)) :: σ) (backH B xs (hpub k v H') H).1 M'')) (params fn.ntmps 0 (SV.shs B l)) (lentH B xs H) M) :
  CallK E f l d K σ H M:=by
 intro ν a w hs hh
 simp only [okFn,Bool.and_eq_true,Bool.not_eq_true',decide_eq_true_eq] at hn
 refine .inl ⟨⟨fn,hf,hn.1.1,hn.1.2⟩,?_⟩
 refine calls_of_wp hf hb ?_
 rw [← SV.shs_vals (B:=B) (ν:=ν) l]
 have hlen:(SV.vals (shN B ν) (SV.shs B l)).length=l.length:=by rw [SV.vals_map,List.length_map,SV.shs_len]
 have hheap:Heap ⟨E.P,fn.ntmps,E.w0,E.M0⟩ (shN B ν) (lentH B ν H) M w:=by
  refine ⟨fun q hq=>?_,by rw [lentH_fp B ν ν H hH]; exact hh.nodup,by rw [lentH_fp B ν ν H hH]; exact hh.apart,hh.mem,hh.below,hh.le0,hh.fresh,fun j=>?_⟩
  · obtain ⟨k,cs,t,h1,rfl,hc⟩:=lentH_mem hH hq
    obtain ⟨⟨b,T,e1,e2⟩,_⟩:=hh.holds _ h1
    refine ⟨⟨b,T,by rw [shN_at]; exact e1,by rw [SV.concs_vals (ν:=ν) (ν':=shN B ν) cs hc]; exact e2⟩,fun v hv=>?_⟩
    cases hv
    exact shN_at B ν k
  · unfold shN
    split
    · exact hh.one _
    · exact hh.one _
 refine Code.wp_mono ?_ (wpC_sound c _ _ _ _ (h ν) _ w ⟨shN B ν,⟨?_,rfl,?_⟩,hheap⟩)
 · rintro e a' w' ⟨σ',H',M',⟨ν',hs',hh'⟩,hq⟩
   have key:(match rsvs E.P σ' H' M' fn.results.toList with | some (ss,C)=>C∧(fun s H' M'=>∃ k sz es,s=T (.own k)∧hget H' k=some (.row sz es) ∧ ∀ v M'',M'.le M''→RowM M'' v sz es→((T (.v v)).conc=true∧(backH B ν (hpub k v H') H).2)∧K ((d,true,T (.v v)) :: σ) (backH B ν (hpub k v H') H).1 M'') (one? ss) H' M' | none=>False) →
     a'.defers=[] ∧ ∃ v,(results fn a'.tmps).run E.P w' = .ok v w' ∧ ∃ v',Ending.returned v = .returned v' ∧ ∃ σ'' H'' M'',Rep E σ'' H'' M'' (a.put (some d) v') w'∧K σ'' H'' M'':=by
    intro hq
    split at hq
    · rename_i ss C hr
      obtain ⟨hC,k,sz,es,hk1,hk2,hk3⟩:=hq
      obtain ⟨M'',p1,p2,p3⟩:=pub_heap hh' hk2
      obtain ⟨⟨hc,ht⟩,hK⟩:=hk3 (ν' k) M'' p1 p2
      refine ⟨hs'.2.1,_,results_sound hs' hh' hr hC,_,rfl,_,_,_,⟨ν,?_,?_⟩,hK⟩
      · refine hs.put (of_decide_eq_true hd) ?_
        rw [cond_true,hk1,hT (.own k) (.v (ν' k)) ν' ν' rfl]
        exact SV.conc_val (ν:=ν) (ν':=ν') _ hc
      · refine ⟨fun q hq=>?_,by rw [backH_fp ν ht]; exact hh.nodup,fun b hb=>?_,p3.mem,p3.below,p3.le0,p3.fresh,hh.one⟩
        · obtain ⟨cs,t,h1,h2,h3,cs0,h4⟩:=backH_mem ht hq
          obtain ⟨⟨b,T,e1,e2⟩,e3⟩:=p3.holds _ h2
          have e4:=e3 _ rfl
          rw [h1]
          refine ⟨⟨b,T,?_,?_⟩,(hh.holds _ h4).2⟩
          · rw [← e4]; exact e1
          · rw [SV.concs_vals (ν:=ν') (ν':=ν) cs h3]; exact e2
        · obtain ⟨q,hq,hqb⟩:=List.mem_filterMap.1 hb
          obtain ⟨cs,t,h1,h2,h3,cs0,h4⟩:=backH_mem ht hq
          obtain ⟨_,e3⟩:=p3.holds _ h2
          have e4:=e3 _ rfl
          exact p3.apart b (List.mem_filterMap.2 ⟨_,h2,by rw [e4]; exact hqb⟩)
    · exact hq.elim
   cases e with
   | normal=>exact key hq
   | ret=>exact key hq
   | _=>exact hq.elim
 · simp only [Array.size_append,List.size_toArray,Array.size_replicate,hlen]; omega
 · intro k g s hk
   obtain ⟨i,rfl,hg,hi⟩:=lk_params hk
   simp only at hg hi
   subst hg
   have hlt:i < (SV.shs B l).length:=(List.getElem?_eq_some_iff.1 hi).1
   rw [Array.getElem?_append_left (by simp only [List.size_toArray,hlen]; rw [SV.shs_len] at hlt; omega),List.getElem?_toArray,SV.vals_map,List.getElem?_map,Nat.zero_add,hi]
   rfl
end
end Go.X

namespace Go.X
open Go Go.RowKit
section
variable {E:Env} {σ:Sig} {H:HS} {M:Mem} {K:KP} {Q:QP} {X:XP} {o:Oper}
theorem ptr_val {ν:Nat→Value} {k b:Nat} (h:ν k=ptrV b):(SV.ptr k 0 0 0).val ν=(SV.v (ptrV b)).val ν:=by
 simp only [SV.val,h,bOf,Nat.mul_zero,Nat.add_zero]
theorem CallK.asPtr {f d:Nat} {A:SV→List SV} {cs:List SV} (k:Nat) {b:Nat} (hA:Ctxs A) (hk:hget H k=some (.box cs (some (ptrV b)))) (h:CallK E f (A (.ptr k 0 0 0)) d K σ H M):CallK E f (A (.v (ptrV b))) d K σ H M:=by
 intro ν a w hs hh
 have hν:ν k=ptrV b:=(hh.holds _ (hget_mem hk)).2 _ rfl
 have:=h ν a w hs hh
 rw [hA (.ptr k 0 0 0) (.v (ptrV b)) ν ν (ptr_val hν)] at this
 exact this
theorem CallX.asPtr {f d:Nat} {A:SV→List SV} {cs:List SV} (k:Nat) {b:Nat} (hA:Ctxs A) (hk:hget H k=some (.box cs (some (ptrV b)))) (h:CallX E f (A (.ptr k 0 0 0)) d K X σ H M):CallX E f (A (.v (ptrV b))) d K X σ H M:=by
 intro ν a w hs hh
 have hν:ν k=ptrV b:=(hh.holds _ (hget_mem hk)).2 _ rfl
 have:=h ν a w hs hh
 rw [hA (.ptr k 0 0 0) (.v (ptrV b)) ν ν (ptr_val hν)] at this
 exact this
/-- the whole of the private heap goes along -/
theorem CallX.whole {f d:Nat} {l:List SV} {R:RP} {X0:XP} (hd:decide (d < E.N)=true) (h:MeetsX E.P f l H M R X0)
  (hK : ∀ s H' M',M.le M'→R s H' M'→s.conc=true∧K ((d,true,s) :: sigConc σ) H' M') (hX : ∀ ch H' M',M.le M'→X0 ch H' M'→X ch H' M'):CallX E f l d K X σ H M:=by
 intro ν a w hs hh
 refine ⟨h.1,(h.2 E.w0 M ν w ⟨hh.holds,hh.nodup,hh.apart,hh.mem,hh.below,Mem.le.refl M,fun b hb=>.inl hb,hh.one⟩).mono ?_⟩
 have cv : ∀ {ν':Nat→Value} {H':HS} {M':Mem} {w':World},Heap ⟨E.P,0,E.w0,M⟩ ν' H' M' w'→Heap E ν' H' M' w':=fun h'=>
  ⟨h'.holds,h'.nodup,h'.apart,h'.mem,h'.below,hh.le0.trans h'.le0,fun b hb=>(h'.fresh b hb).elim (fun h=>hh.fresh b h) .inr,h'.one⟩
 rintro e w' (⟨s,H',M',ν',rfl,hh',hr⟩ | ⟨c,ν',H',M',rfl,hh',hx⟩)
 · obtain ⟨hc,hk⟩:=hK s H' M' hh'.le0 hr
   exact .inl ⟨_,rfl,_,_,_,⟨ν',hs.concs.put (of_decide_eq_true hd) (by rw [cond_true]),cv hh'⟩,hk⟩
 · exact .inr ⟨_,rfl,ν',H',M',cv hh',hX c H' M' hh'.le0 hx⟩
theorem CallX.tie {f d:Nat} {l:List SV} (k:Nat) {cs:List SV} {t:Option Value} (hk:hget H k=some (.box cs t)) (h : ∀ b,CallX E f l d K X σ (hset k (.box cs (some (ptrV b))) H) M):CallX E f l d K X σ H M:=by
 intro ν a w hs hh
 obtain ⟨⟨b,T,hν,hb⟩,ht⟩:=hh.holds _ (hget_mem hk)
 simp only at hν
 exact h b ν a w hs (hh.setPO hk fun hx=>⟨hx.1,fun v hv=>by cases hv; exact hν⟩)
theorem CallX.ent {f d:Nat} {l:List SV} {σ':Sig} {H':HS} (hl:SV.concs l=true) (he:Ent E σ H M (σ',H',M)) (h:CallX E f l d K X σ' H' M):CallX E f l d K X σ H M:=by
 intro ν a w hs hh
 obtain ⟨ν',hs',hh'⟩:=he a w ⟨ν,hs,hh⟩
 have:=h ν' a w hs' hh'
 rw [SV.concs_vals (ν:=ν) (ν':=ν') l hl] at this
 exact this
/-- two boxes of many -/
theorem Heap.two {ν:Nat→Value} {w:World} (hh:Heap E ν H M w) {j k:Nat} {p q:PO} (hj:hget H j=some p) (hk:hget H k=some q) (hn:j≠k):Heap E ν [(j,p),(k,q)] M w:=by
 have hmj:=hget_mem hj
 have hmk:=hget_mem hk
 refine ⟨fun r hr=>?_,?_,fun b hb=>?_,hh.mem,hh.below,hh.le0,hh.fresh,hh.one⟩
 · simp only [List.mem_cons,List.not_mem_nil,or_false] at hr
   rcases hr with rfl | rfl
   · exact hh.holds _ hmj
   · exact hh.holds _ hmk
 · simp only [fp,List.filterMap_cons,List.filterMap_nil]
   cases h1:blk? (ν j) with
   | none=>
     cases h2:blk? (ν k) with
     | none=>simp
     | some b2=>simp
   | some b1=>
     cases h2:blk? (ν k) with
     | none=>simp
     | some b2=>
       have:=blk_ne hh hj h1 _ hmk (fun e=>hn e.symm)
       simp only at this
       rw [h2] at this
       simp only [List.nodup_cons,List.mem_singleton,List.not_mem_nil,not_false_eq_true,List.nodup_nil,and_true]
       exact fun e=>this (by rw [e])
 · obtain ⟨r,hr,hrb⟩:=List.mem_filterMap.1 hb
   simp only [List.mem_cons,List.not_mem_nil,or_false] at hr
   rcases hr with rfl | rfl
   · exact hh.apart b (List.mem_filterMap.2 ⟨_,hmj,hrb⟩)
   · exact hh.apart b (List.mem_filterMap.2 ⟨_,hmk,hrb⟩)
theorem Heap.lone {ν:Nat→Value} {w:World} (hh:Heap E ν H M w) {j:Nat} {p:PO} (hj:hget H j=some p):Heap E ν [(j,p)] M w:=by
 have hmj:=hget_mem hj
 refine ⟨fun r hr=>?_,?_,fun b hb=>?_,hh.mem,hh.below,hh.le0,hh.fresh,hh.one⟩
 · simp only [List.mem_singleton] at hr
   subst hr
   exact hh.holds _ hmj
 · simp only [fp,List.filterMap_cons,List.filterMap_nil]
   split <;> simp
 · obtain ⟨r,hr,hrb⟩:=List.mem_filterMap.1 hb
   simp only [List.mem_singleton] at hr
   subst hr
   exact hh.apart b (List.mem_filterMap.2 ⟨_,hmj,hrb⟩)
theorem MeetsX.two {P:Program} {f:FuncId} {args:List SV} {R R':RP} {X':XP} (j k:Nat) (hn:j≠k) (h:MeetsX P f args H M R X)
  (hr : ∀ s H' M',R s H' M' → ∃ p q,(hget H' j=some p∧hget H' k=some q)∧R' s [(j,p),(k,q)] M') (hx : ∀ c H' M',X c H' M' → ∃ p q,(hget H' j=some p∧hget H' k=some q)∧X' c [(j,p),(k,q)] M'):MeetsX P f args H M R' X':=
 ⟨h.1,fun w0 M0 ν w hh=>(h.2 w0 M0 ν w hh).mono fun e w' h=>h.imp (fun ⟨s,H',M',ν',h1,h2,h3⟩=>let ⟨p,q,⟨a,b⟩,c⟩:=hr _ _ _ h3; ⟨s,_,M',ν',h1,h2.two a b hn,c⟩) (fun ⟨c,ν',H',M',h1,h2,h3⟩=>let ⟨p,q,⟨a,b⟩,d⟩:=hx _ _ _ h3; ⟨c,ν',_,M',h1,h2.two a b hn,d⟩)⟩
/-- what is known of a call's memory alone -/
theorem MeetsX.le {P:Program} {f:FuncId} {args:List SV} {R:RP} (h : ∀ M',M.le M'→MeetsX P f args H M' R X):MeetsX P f args H M R X:=h M (Mem.le.refl M)
/-! map literals -/
theorem OpK.insert {t kt et k:Nat} {x y v:Operand} {α:Type} [DecidableEq α] {enc:α→Value} {key:α} {l:List (α×Value)} {s:SV} {u:Value} (KT:KeyT E.P kt enc) (ho:o.op = .insert t x y v) (hd:o.dst=none)
  (ht:E.P.underlying t=some (.map kt et)) (hx:opv σ x=some (true,.own k)) (hy:opv σ y=some (true,s)) (hs' : ∀ ν,s.val ν=enc key) (hv:opv σ v=some (true,.v u)) (hk:hget H k=some (.mp (encL enc l)))
  (hK:K σ (hset k (.mp (encL enc (upd key u l))) H) M):OpK E o K σ H M:=by
 have h:=OpK.mapUpd (E:=E) (o:={ o with op:=.mapUpdate t x y v }) KT rfl hd ht hx hy hs' hv hk hK
 intro a w hr
 have h1:=h a w hr
 have e:execOp a.eval { o with op:=.mapUpdate t x y v }=execOp a.eval o:=by simp only [execOp,ho]
 unfold Oper.wp at h1 ⊢
 rw [e] at h1
 exact h1
theorem OpK.lookupOk {t d kt et k:Nat} {x y:Operand} {α:Type} [DecidableEq α] {enc:α→Value} {key:α} {l:List (α×Value)} {s:SV} {z:Value} (KT:KeyT E.P kt enc) (ho:o.op = .lookup t x y true) (hd:o.dst=some d) (hN:decide (d < E.N)=true)
  (ht:E.P.underlying t=some (.map kt et)) (hz : ∀ w,(zeroValue et).run E.P w = .ok z w) (hx:opv σ x=some (true,.own k)) (hy:opv σ y=some (true,s)) (hs' : ∀ ν,s.val ν=enc key) (hk:hget H k=some (.mp (encL enc l)))
  (hK:K ((d,true,.tup [.v (((fnd key l 0).map (·.2)).getD z),.v (.bool (fnd key l 0).isSome)]) :: σ) H M):OpK E o K σ H M:=by
 refine opK_of fun ν a w hs hh=>?_
 obtain ⟨b,m,c,hν,hb,he,hst⟩:=hh.mapAt hk
 have ex:a.eval x = .map (some b):=by rw [hs.opv hx rfl]; exact hν
 have ey:a.eval y=enc key:=by rw [hs.opv hy rfl]; exact hs' ν
 refine ⟨.tuple #[((fnd key l 0).map (·.2)).getD z,.bool (fnd key l 0).isSome],w,?_,_,_,_,⟨ν,?_,hh⟩,hK⟩
 · simp only [execOp,ho,ex,ey,Instr.lookup,Sem.run_bind,run_underlying ht,Result.andThen_ok,MapKept.run_getObj_map hb,Sem.run_pure,KT.check,KT.findKey w key he]
   cases hf:fnd key l 0 with
   | none=>simp [hz]
   | some p=>simp
 · rw [hd]
   exact hs.put (of_decide_eq_true hN) rfl
/-- as DrawK.held3, where boxes that were tied stay what they were -/
theorem DrawK.held3E {id:Nat} {ops:Array Oper} (n:Nat) (sel:List Nat) (sch:Sch3) (hm:E.P.follows .mixedOrders=true)
  (hB:(Region.noSelect ops && (decide (n < ops.size) && (Region.sinkB .any ops n && (Region.chainB .any ops n && schT3 .any ops n sch ops.size (Array.replicate ops.size false)))))=true)
  (h : ∀ xs:Nat→Value,tieEq xs H→stayH (pickH sel (tieH xs H)) (tieH xs H)∧wpH3 E ops.toList (pickH sel (tieH xs H)) M (wpR E ops.toList K (ops.toList.drop n)) sch σ (tieH xs H) M):DrawK E id ops K σ H M:=by
 rintro a w ⟨ν,hs,hh⟩
 simp only [Bool.and_eq_true,decide_eq_true_eq] at hB
 obtain ⟨hsel,hn,hsk,hch,hsc⟩:=hB
 have ht:=tieEq_of hh.holds
 have h1:=tieH_heap (hh.grow ((Below.refl _ _).drew):Heap E ν H M { w with drawn:=w.drawn+1 })
 have inv0:HeadInv .any ops n (Array.replicate ops.size false):=
  ⟨by simp,fun j oj _ hl=>(by rw [getD_replicate_false] at hl; cases hl),fun t _ ht=>getD_in (by simpa using ht) (getD_replicate_false _ _)⟩
 exact wp_region_any hm (wpAny_of_T _ _ _ _ (wpH3_sound hsel hsk hch hn (h1.sublist (pickH_sub sel _)) (pickH_tieds sel H) sch _ _ σ _ M a _ hsc inv0 ⟨ν,hs,h1⟩ ⟨(h ν ht).1,Mem.le.refl M⟩ (h ν ht).2))
/-! loops of few rounds -/
theorem rollQ_panic (ch:List PanicEntry):rollQ K Q (.panic ch) σ H M=Q (.panic ch) σ H M:=rfl
def RoundsX (E:Env) (live:List Nat) (body:Code) (Q:QP):Nat→KP
 | 0=>fun _ _ _=>False
 | n+1=>fun σ H M=>wpX E live body (rollQ (RoundsX E live body Q n) Q) σ H M
@[congr] theorem RoundsX_congr {live:List Nat} {b:Code} {n:Nat} {σ':Sig} {H':HS} (h:σ=σ') (h':H=H'):RoundsX E live b Q n σ H M=RoundsX E live b Q n σ' H' M:=by rw [h,h']
theorem RoundsX_succ (live:List Nat) (b:Code) (n:Nat):RoundsX E live b Q (n+1) σ H M=wpX E live b (rollQ (RoundsX E live b Q n) Q) σ H M:=rfl
theorem LoopX.rounds {live:List Nat} {body:Code} (n:Nat) (h:RoundsX E live body Q n σ H M):LoopK E live body Q σ H M:=by
 intro a w hrep b k cs
 have key : ∀ n σ H M a w,RoundsX E live body Q n σ H M→Rep E σ H M a w →
   ∃ e a' w',Lift E Q e a' w'∧Arrives E.P (lone (b.at a (.code body :: .inLoop body :: k)) cs w) b k cs e a' w':=by
  intro n
  induction n with
  | zero=>intro σ H M a w h; exact h.elim
  | succ n ih=>
    intro σ H M a w h hrep
    obtain ⟨e,a₁,w₁,⟨σ',H',M',hrep',hq⟩,harr⟩:=wpX_sound body _ _ _ _ h a w hrep b (.inLoop body :: k) cs
    cases e with
    | normal=>
      obtain ⟨e₂,a₂,w₂,hq₂,harr₂⟩:=ih _ _ _ a₁ w₁ hq hrep'
      exact ⟨e₂,a₂,w₂,hq₂,.of_steps (Steps.trans harr (.one step_inLoop)) harr₂⟩
    | exit id=>exact ⟨_,a₁,w₁,⟨σ',H',M',hrep',hq⟩,.pass (x:=.inLoop body) rfl (fun _ _=>.inl (by simp)) harr⟩
    | goto l=>exact ⟨_,a₁,w₁,⟨σ',H',M',hrep',hq⟩,.pass (x:=.inLoop body) rfl (fun _ _=>.inl (by simp)) harr⟩
    | ret=>exact ⟨_,a₁,w₁,⟨σ',H',M',hrep',hq⟩,.pass (x:=.inLoop body) rfl (fun _ _=>.inl (by simp)) harr⟩
    | panic ch=>exact ⟨_,a₁,w₁,⟨σ',H',M',hrep',hq⟩,.pass (x:=.inLoop body) rfl (fun _ _=>.inl (by simp)) harr⟩
    | outgrown=>exact ⟨_,a₁,w₁,⟨σ',H',M',hrep',hq⟩,.pass (x:=.inLoop body) rfl (fun _ _=>.inl (by simp)) harr⟩
 obtain ⟨e,a',w',hq,harr⟩:=key n _ _ _ a w h hrep
 exact ⟨e,a',w',hq,.of_steps (.one step_loop) harr⟩
end
end Go.X

namespace Go.X.Dk
open Go Go.X Go.RowKit
theorem dec_len_le : ∀ (k n:Nat),n < 10 ^ (k+1)→(Lib.decDigits n).length≤k+1
 | 0,n,h=>by rw [Lib.decDigits_one (by omega)]; exact Nat.le_refl _
 | k+1,n,h=>by
   by_cases h1:n < 10
   · rw [Lib.decDigits_one h1]; simp
   · rw [Lib.decDigits,dif_neg h1,List.length_append,List.length_singleton]
     have:=dec_len_le k (n / 10) (by rw [Nat.pow_succ] at h; omega)
     omega
def natV (n:Nat):List Value:=[.int .i64 (n:Int)]
def tailS (l:List Nat):Tx:=l.flatMap fun n=>32 :: Lib.decDigits n
theorem numbers_m {l:List Nat} {v:Value} {M:Mem} (hG:GlobM M) (hv:RowM M v 1 (l.map natV)) (hl:l.length≤70000) (hn : ∀ n ∈ l,n≤9223372036854775807) :
  Meets Proofs.Tryz.prog 63 [.v v] M fun r _ _=>r = .v (.string ⟨(numbersS l).toArray⟩):=by
 refine Meets.of_body [0,2,3,5,6,7,8,9] Proofs.Tryz.func63 rfl (by kernel_rfl) rfl fun w=>?_
 have hlen:(l.map natV).length=l.length:=List.length_map ..
 have hsl:isSl v=true:=hv.1.1
 have hlv:lenV v=l.length:=by rw [hv.len,hlen]
 simp only [Proofs.Tryz.f63,zz,zq,seval,zl,za,ze,zo,nzs,hsl,hlv,true_and]
 refine LoopK.go (X:=Nat) (fun k=>([(3,true,.v (.string ⟨(okS++tailS (l.take k)).toArray⟩)),(6,true,.v v),(7,true,.v (.int .i64 l.length)),(8,true,.v (.int .i64 (k:Int)))],[],M)) (fun k=>k≤l.length∧(tailS (l.take k)).length≤20 * k) (fun k=>l.length - k) 0 ⟨Nat.zero_le _,Nat.le_refl _⟩ (Ent.of ?_) ?_
 · simp only [zq,seval,zl,za,ze,zo,List.take_zero,tailS,List.flatMap_nil,List.append_nil,okS,za]
 rintro k ⟨k1,k2⟩
 by_cases hk:k < l.length
 · have d1:((k:Int) < (l.length:Int))=True:=eq_true (by omega)
   obtain ⟨n,hx⟩ : ∃ n,l[k]? = some n:=⟨_,List.getElem?_eq_getElem hk⟩
   have he:(l.map natV)[k]? = some (natV n):=by rw [List.getElem?_map,hx]; rfl
   have hc:=hv.cell he (off:=0) (by omega)
   have hc0:elE M v 1 k 0 = .int .i64 (n:Int):=hc.1
   have hi:=hv.ix (i:=(k:Int)) (by omega) (by omega)
   have hn1:=hn n (List.mem_of_getElem? hx)
   have hd:=dec_len_le 18 n (by have:(10:Nat) ^ 19=10000000000000000000:=(by decide); omega)
   have hit:Lib.itoa (n:Int)=Lib.decDigits n:=Lib.itoa_nonneg n
   have htk:l.take (k+1)=l.take k++[n]:=by rw [List.take_add_one,hx]; rfl
   have htl:okS++tailS (l.take k)++(32 :: Lib.decDigits n)=okS++tailS (l.take (k+1)):=by
    rw [htk]
    simp only [tailS,List.flatMap_append,List.flatMap_cons,List.flatMap_nil,List.append_nil,List.append_assoc]
   simp only [zz,zq,seval,zl,za,ze,zo,nzs,d1,hi,hc0,hc.2.1,true_and]
   refine CallK.pure ⟨rfl,rfl⟩ rfl (itoa_m hG (in64 (by omega) (by omega))) ?_
   simp only [zz,zq,seval,zl,za,ze,zo,nzs,hit]
   have htl2:(tailS (l.take (k+1))).length≤20 * (k+1):=by
    rw [htk]
    simp only [tailS,List.flatMap_append,List.flatMap_cons,List.flatMap_nil,List.append_nil,List.length_append,List.length_cons]
    have:(List.flatMap (fun n=>32 :: Lib.decDigits n) (List.take k l)).length≤20 * k:=k2
    omega
   have hok:okS.length=2:=rfl
   refine ⟨by omega,by rw [List.length_append]; omega,in64 (by omega) (by omega),k+1,⟨⟨by omega,htl2⟩,by omega⟩,Ent.of ?_⟩
   simp only [zq,seval,zl,za,ze,zo,htl,Int.natCast_add]
 · have d1:((k:Int) < (l.length:Int))=False:=eq_false (by omega)
   have:k=l.length:=by omega
   subst this
   simp only [zz,zq,seval,zl,za,ze,zo,nzs,d1,List.take_length]
   rfl
end Go.X.Dk

namespace Go.X
open Go Go.RowKit
/-- a call that does not panic is one that may (in this logic's own words) -/
theorem CallX.ofK {E:Env} {σ:Sig} {H:HS} {M:Mem} {K:KP} {X:XP} {f d:Nat} {l:List SV} (hc:callable E.P f) (h:CallK E f l d K σ H M):CallX E f l d K X σ H M:=by
 intro ν a w hs hh
 rcases h ν a w hs hh with ⟨hc,h2⟩ | ⟨v,w',h2,_⟩
 · exact ⟨hc,h2.mono fun e w' ⟨v,he,hr⟩=>.inl ⟨v,he,hr⟩⟩
 · obtain ⟨fn,hf,hn,hb⟩:=hc
   have:(callFunc f (SV.vals ν l).toArray).run E.P w = .ok (.enter f (SV.vals ν l).toArray) w:=by
    simp only [callFunc,Sem.run_bind,run_program,Result.andThen_ok,hf,hn,hb,Bool.false_eq_true,if_false,Sem.run_pure]
   rw [this] at h2
   cases h2
end Go.X
namespace Go.X.Dk
open Go Go.X Go.RowKit
end Go.X.Dk

