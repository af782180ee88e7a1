/- Contracts of functions and the logic that they are proved in (2 texts in one). Conditions: none. -/
import Derived.Test.YthafjlokddpjfaaGreatDoorMg16
import Derived.Test.YthafjlokddpjfaaGreatDoorMg9
import Derived.Test.YthafjlokddpjfaaGreatDoorMg7
open Int renaming toNat_natCast→zo
namespace Go.X.Bg
end Go.X.Bg
namespace Go.X.Nm
end Go.X.Nm
namespace Go.X.Bp
end Go.X.Bp
namespace Go.X.Sb
end Go.X.Sb
set_option linter.unusedSimpArgs false
set_option linter.unusedVariables false
set_option maxHeartbeats 4000000
set_option maxRecDepth 20000
namespace Go.X.Vo
open Go Go.X Go.RowKit Go.X.Bg Go.X.Nm Go.X.Bp Go.X.Sb

/-! ### a bag, by keys -/
abbrev K2:=Int×Int
def kOf (x:It):K2:=(x.1,x.2.1)
def itK (bag:List It) (k:K2):Option It:=bag.find? fun x=>decide (kOf x=k)
def refK (bag:List It) (k:K2):Int:=((itK bag k).map (·.2.2.2)).getD 0
theorem itK_none {bag:List It} {k:K2}:itK bag k=none ↔ ∀ x ∈ bag,kOf x≠k:=by
 unfold itK
 rw [List.find?_eq_none]
 simp
theorem itK_mem {bag:List It} {k:K2} {x:It} (h:itK bag k=some x):x ∈ bag∧kOf x=k:=by
 unfold itK at h
 exact ⟨List.mem_of_find?_eq_some h,by simpa using List.find?_some h⟩
theorem itK_mid {l1 l2:List It} {x:It} (h : ∀ y ∈ l1,kOf y≠kOf x) (k:K2):itK (l1++x :: l2) k=if k=kOf x then some x else itK (l1++l2) k:=by
 unfold itK
 rw [List.find?_append,List.find?_append,List.find?_cons]
 by_cases hk:k=kOf x
 · subst hk
   rw [if_pos rfl,decide_eq_true rfl]
   have:List.find? (fun y=>decide (kOf y=kOf x)) l1=none:=by
    rw [List.find?_eq_none]
    intro y hy
    simpa using h y hy
   rw [this]
   rfl
 · rw [if_neg hk,decide_eq_false (fun e=>hk e.symm)]
def Dk (bag:List It):Prop:=(bag.map kOf).Nodup
theorem dk_of {bag:List It} (h:bagE bag=0):Dk bag:=by
 have h3:=((bagE_iff bag).1 h).2.2
 unfold Dk List.Nodup
 rw [List.pairwise_map] at h3 ⊢
 refine h3.imp fun {a b} h=>?_
 obtain ⟨h1,_⟩:=h
 intro e
 unfold kOf at e
 unfold kyT at h1
 have e1:=congrArg Prod.fst e
 have e2:=congrArg Prod.snd e
 simp only at e1 e2 h1
 omega
theorem split_at {α:Type} {l:List α} {j:Nat} {x:α} (h:l[j]? = some x):l=l.take j++x :: l.drop (j+1):=by
 have hj:=(List.getElem?_eq_some_iff.1 h).1
 have e:l.drop j=x :: l.drop (j+1):=by
  rw [List.drop_eq_getElem_cons hj,(List.getElem?_eq_some_iff.1 h).2]
 rw [← e,List.take_append_drop]
theorem set_split {α:Type} {l:List α} {j:Nat} {x:α} (h:l[j]? = some x) (y:α):l.set j y=l.take j++y :: l.drop (j+1):=by
 have hj:=(List.getElem?_eq_some_iff.1 h).1
 rw [List.set_eq_take_append_cons_drop,if_pos hj]
theorem dk_mid {l1 l2:List It} {x:It} (h:Dk (l1++x :: l2)):(∀ y ∈ l1,kOf y≠kOf x) ∧ ∀ y ∈ l2,kOf y≠kOf x:=by
 unfold Dk at h
 rw [List.map_append,List.map_cons,List.nodup_append,List.nodup_cons] at h
 obtain ⟨_,⟨h2,_⟩,h3⟩:=h
 refine ⟨fun y hy=>h3 _ (List.mem_map_of_mem hy) _ (by simp),fun y hy e=>h2 (by rw [← e]; exact List.mem_map_of_mem hy)⟩
theorem itK_at {bag:List It} (h:Dk bag) {x:It} (hx:x ∈ bag):itK bag (kOf x)=some x:=by
 obtain ⟨j,hj⟩:=List.mem_iff_getElem?.1 hx
 have e:=split_at hj
 rw [e] at h
 conv=>lhs; rw [e]
 rw [itK_mid (dk_mid h).1,if_pos rfl]
theorem itK_del {bag:List It} (h:Dk bag) {j:Nat} {x:It} (hj:bag[j]? = some x) (k:K2):itK (bag.take j++bag.drop (j+1)) k=if k=kOf x then none else itK bag k:=by
 have e:=split_at hj
 have h':=h
 rw [e] at h'
 obtain ⟨h1,h2⟩:=dk_mid h'
 by_cases hk:k=kOf x
 · rw [if_pos hk,itK_none,hk]
   intro y hy
   rcases List.mem_append.1 hy with hy | hy
   · exact h1 y hy
   · exact h2 y hy
 · rw [if_neg hk]
   conv=>rhs; rw [e]
   rw [itK_mid h1,if_neg hk]
theorem itK_set {bag:List It} (h:Dk bag) {j:Nat} {x:It} (hj:bag[j]? = some x) (r:Int) (k:K2):itK (setR bag j r) k=if k=kOf x then some (x.1,x.2.1,x.2.2.1,r) else itK bag k:=by
 have e:=split_at hj
 have h':=h
 rw [e] at h'
 obtain ⟨h1,h2⟩:=dk_mid h'
 unfold setR
 rw [atI_at hj,set_split hj]
 have h1' : ∀ y ∈ bag.take j,kOf y≠kOf (x.1,x.2.1,x.2.2.1,r):=h1
 rw [itK_mid h1']
 change (if k=kOf x then _ else _)=_
 by_cases hk:k=kOf x
 · rw [if_pos hk,if_pos hk]
 · rw [if_neg hk,if_neg hk]
   conv=>rhs; rw [e]
   rw [itK_mid h1,if_neg hk]
theorem itK_ins {bag:List It} {x:It} (h:itK bag (kOf x)=none) (k:K2):itK (insI bag x) k=if k=kOf x then some x else itK bag k:=by
 unfold insI
 rw [itK_none] at h
 rw [itK_mid (fun y hy=>h y (List.mem_of_mem_take hy)),List.take_append_drop]
theorem isId_iff {id:Id3} {x:It}:isId id x=true↔id.1=true∧kOf x=id.2:=by
 unfold isId kOf
 simp only [Bool.and_eq_true,decide_eq_true_eq]
 constructor
 · rintro ⟨h1,h2,h3⟩
   exact ⟨h1,by rw [h2,h3]⟩
 · rintro ⟨h1,h2⟩
   exact ⟨h1,congrArg Prod.fst h2,congrArg Prod.snd h2⟩
theorem idIx_cases {bag:List It} (h:Dk bag) (id:Id3) (h1:id.1=true):(idIx bag id < 0∧itK bag id.2=none) ∨ ∃ (j:Nat) (x:It),idIx bag id=(j:Int)∧bag[j]? = some x∧kOf x=id.2∧itK bag id.2=some x:=by
 unfold idIx
 rcases fidx_sp (isId id) bag 0 with ⟨k1,k2⟩ | ⟨j,x,k1,k2,k3,_⟩
 · refine .inl ⟨by rw [k1]; decide,itK_none.2 fun x hx e=>?_⟩
   have:=k2 x hx
   rw [isId_iff.2 ⟨h1,e⟩] at this
   cases this
 · have e:=(isId_iff.1 k3).2
   refine .inr ⟨j,x,by rw [k1,Nat.zero_add],k2,e,?_⟩
   rw [← e]
   exact itK_at h (List.mem_of_getElem? k2)
/-! ### one less, one more -/
theorem itK_less {bag:List It} (h:Dk bag) {id:Id3} (h1:id.1=true) {x:It} (hx:itK bag id.2=some x) (k:K2) :
  itK (lessId bag id) k=if k=id.2 then (if x.2.2.2 - 1=0 then none else some (x.1,x.2.1,x.2.2.1,x.2.2.2 - 1)) else itK bag k:=by
 unfold lessId
 rw [if_pos h1]
 unfold lessG
 rcases idIx_cases h id h1 with ⟨k1,k2⟩ | ⟨j,y,k1,k2,k3,k4⟩
 · rw [k2] at hx; cases hx
 · rw [k4] at hx
   cases hx
   rw [k1,if_neg (by omega),zo]
   unfold lessL
   rw [atI_at k2,← k3]
   by_cases h0:x.2.2.2 - 1=0
   · rw [if_pos h0,itK_del h k2,if_pos h0]
   · rw [if_neg h0,itK_set h k2,if_neg h0]
theorem less_hole {bag:List It} {id:Id3} (h:id.1=false):lessId bag id=bag:=by unfold lessId; rw [if_neg (by rw [h]; decide)]
theorem refK_less {bag:List It} (h:bagE bag=0) {id:Id3} (h1:id.1=true) (h2:1≤refK bag id.2) (k:K2):refK (lessId bag id) k=refK bag k - (if k=id.2 then 1 else 0):=by
 cases hx:itK bag id.2 with
 | none=>unfold refK at h2; rw [hx] at h2; exact absurd h2 (by decide)
 | some x=>
   unfold refK
   rw [itK_less (dk_of h) h1 hx]
   by_cases hk:k=id.2
   · subst hk
     rw [if_pos rfl,if_pos rfl,hx]
     by_cases h0:x.2.2.2 - 1=0
     · rw [if_pos h0]
       simp only [Option.map_none,Option.getD_none,Option.map_some,Option.getD_some]
       omega
     · rw [if_neg h0]; rfl
   · rw [if_neg hk,if_neg hk,Int.sub_zero]
theorem itK_inc {bag:List It} (h:Dk bag) (id:Id3) (k:K2):itK (incId bag id) k=if id.1=true∧k=id.2 then (itK bag k).map (fun x=>(x.1,x.2.1,x.2.2.1,x.2.2.2+1)) else itK bag k:=by
 unfold incId
 cases h1:id.1 with
 | false=>
   have hi : ¬ 0≤idIx bag id:=by
    unfold idIx
    rcases fidx_sp (isId id) bag 0 with ⟨k1,_⟩ | ⟨j,x,k1,k2,k3,_⟩
    · rw [k1]; decide
    · have:=(isId_iff.1 k3).1; rw [h1] at this; cases this
   rw [if_neg hi,if_neg (fun hh=>by cases hh.1)]
 | true=>
   rcases idIx_cases h id h1 with ⟨k1,k2⟩ | ⟨j,y,k1,k2,k3,k4⟩
   · rw [if_neg (by omega)]
     by_cases hk:k=id.2
     · rw [if_pos ⟨rfl,hk⟩,hk,k2]; rfl
     · rw [if_neg (fun hh=>hk hh.2)]
   · rw [k1,if_pos (by omega),zo,atI_at k2,itK_set h k2,k3]
     by_cases hk:k=id.2
     · rw [if_pos hk,if_pos ⟨rfl,hk⟩,hk,k4]; rfl
     · rw [if_neg hk,if_neg (fun hh=>hk hh.2)]
theorem dk_inc {bag:List It} (h:Dk bag) (id:Id3):Dk (incId bag id):=by
 unfold Dk at *
 have e : ∀ l:List It,l.map kOf=(l.map kyT).map (fun q=>(q.1,q.2.1)):=fun l=>by rw [List.map_map]; rfl
 rw [e,incId_ky,← e]
 exact h
theorem refK_inc {bag:List It} (h:Dk bag) (id:Id3) (k:K2) (h2:id.1=true→itK bag id.2≠none):refK (incId bag id) k=refK bag k+(if id=(true,k) then 1 else 0):=by
 unfold refK
 rw [itK_inc h]
 by_cases hk:id.1=true∧k=id.2
 · have e:id=(true,k):=by obtain ⟨a,b⟩:=id; obtain ⟨e1,e2⟩:=hk; simp only at e1 e2; rw [e1,e2]
   rw [if_pos hk,if_pos e]
   cases hx:itK bag k with
   | none=>rw [hk.2] at hx; exact absurd hx (h2 hk.1)
   | some x=>rfl
 · have e:id≠(true,k):=fun e=>hk ⟨by rw [e],by rw [e]⟩
   rw [if_neg hk,if_neg e,Int.add_zero]
theorem itK_inc_none {bag:List It} (h:Dk bag) (id:Id3) (k:K2):itK (incId bag id) k=none↔itK bag k=none:=by
 rw [itK_inc h]
 split
 · simp
 · rfl
theorem refK_incs : ∀ (ids:List Id3) {bag:List It},Dk bag→(∀ id ∈ ids,id.1=true→itK bag id.2≠none) → ∀ k:K2,refK (ids.foldl incId bag) k=refK bag k+((ids.count (true,k):Nat):Int)
 | [],_,_,_,k=>by simp
 | id :: r,bag,h,h2,k=>by
   rw [List.foldl_cons,refK_incs r (dk_inc h id) (fun i hi hi1 e=>h2 i (by simp [hi]) hi1 ((itK_inc_none h id i.2).1 e)) k,refK_inc h id k (h2 id (by simp)),List.count_cons]
   by_cases e:id=(true,k)
   · have e2:(id == (true,k))=true:=by rw [e]; exact beq_self_eq_true _
     rw [if_pos e,e2,if_pos rfl]
     omega
   · have e2:(id == (true,k))=false:=beq_eq_false_iff_ne.2 e
     rw [if_neg e,e2,if_neg (by decide)]
     omega
theorem txtIx_cases (bag:List It) (s:List UInt8):(txtIx bag s < 0 ∧ ∀ x ∈ bag,x.2.2.1≠s) ∨ ∃ (j:Nat) (x:It),txtIx bag s=(j:Int)∧bag[j]? = some x∧x.2.2.1=s:=by
 unfold txtIx
 rcases fidx_sp (fun x:It=>decide (x.2.2.1=s)) bag 0 with ⟨k1,k2⟩ | ⟨j,x,k1,k2,k3,_⟩
 · exact .inl ⟨by rw [k1]; decide,fun x hx=>by simpa using k2 x hx⟩
 · exact .inr ⟨j,x,by rw [k1,Nat.zero_add],k2,by simpa using k3⟩
/-- what Put makes of a right bag -/
structure PutR (bag:List It) (s:List UInt8) (bag':List It) (id:Id3):Prop where
 ok:bagE bag'=0
 is:id.1=true
 itk : ∀ k,itK bag' k=if k=id.2 then some (k.1,k.2,s,refK bag k+1) else itK bag k
 txt : ∀ x,itK bag id.2=some x→x.2.2.1=s
 old:(∃ x ∈ bag,x.2.2.1=s)→bag'.length=bag.length
 new:bag'.length≤bag.length+1
 txts : ∀ t,(∃ x ∈ bag',x.2.2.1=t)↔t=s ∨ ∃ x ∈ bag,x.2.2.1=t
theorem putR {bag:List It} (h:bagE bag=0) {s:List UInt8} (h0:(putG bag s).2.2=0):PutR bag s (putG bag s).1 (putG bag s).2.1:=by
 have hd:=dk_of h
 obtain ⟨b1,b2,b3⟩:=(bagE_iff bag).1 h
 unfold putG at h0 ⊢
 by_cases hs:64 < s.length
 · rw [if_pos hs] at h0; exact absurd h0 (by decide)
 rw [if_neg hs] at h0 ⊢
 rcases txtIx_cases bag s with ⟨k1,k2⟩ | ⟨j,x,k1,k2,k3⟩
 · rw [if_neg (by omega)] at h0 ⊢
   by_cases hl:bag.length=64
   · rw [if_pos hl] at h0; exact absurd h0 (by decide)
   rw [if_neg hl]
   obtain ⟨f1,f2,_⟩:=freeN_sp (l:=bag) (by omega) (sumT s)
   have hn:itK bag (sumT s,(freeN bag (sumT s):Int))=none:=itK_none.2 fun y hy e=>by
    have:has bag (sumT s) (freeN bag (sumT s))=true:=(has_iff _ _ _).2 ⟨y,hy,congrArg Prod.fst e,congrArg Prod.snd e⟩
    rw [f2] at this
    cases this
   generalize hx:((sumT s,(freeN bag (sumT s):Int),s,1):It)=x
   have hk:kOf x=(sumT s,(freeN bag (sumT s):Int)):=by rw [← hx]; rfl
   have hxt:x.2.2.1=s:=by rw [← hx]
   rw [← hk] at hn
   have hp:=insI_perm x bag
   have hone:oneE x=0:=by
    rw [← hx]
    unfold oneE
    simp only
    rw [if_neg hs,if_neg (fun h=>h rfl),if_neg (by omega)]
   have hmem : ∀ y,y ∈ insI bag x↔y ∈ bag∨y=x:=fun y=>by rw [hp.mem_iff,List.mem_append,List.mem_singleton]
   have hne : ∀ y ∈ bag,¬ (y.1=x.1∧y.2.1=x.2.1):=fun y hy e=>(itK_none.1 hn) y hy (by unfold kOf; rw [e.1,e.2])
   refine ⟨?_,rfl,fun k=>?_,fun y hy=>?_,fun ⟨y,hy,e⟩=>absurd e (k2 y hy),?_,fun t=>?_⟩
   · rw [bagE_iff]
     refine ⟨by rw [hp.length_eq,List.length_append]; simp only [List.length_singleton]; omega,fun y hy=>?_,?_⟩
     · rcases (hmem y).1 hy with hy | rfl
       · exact b2 y hy
       · exact hone
     · rw [List.pairwise_map]
       have s1:=insI_srt x bag (bag_srt h) hne
       have s2:(insI bag x).Pairwise (fun a b=>(kyT a).2.2≠(kyT b).2.2):=by
        refine List.Perm.pairwise hp.symm ?_ (fun {a b} h e=>h e.symm)
        rw [List.pairwise_append]
        refine ⟨?_,List.pairwise_singleton _ _,fun a ha b hb=>?_⟩
        · rw [List.pairwise_map] at b3
          exact b3.imp fun {a b} h=>h.2
        · rw [List.mem_singleton.1 hb]
          show a.2.2.1≠x.2.2.1
          rw [hxt]
          exact k2 a ha
       refine (s1.and s2).imp fun {a b} h=>⟨?_,h.2⟩
       have:=cmp_lt.1 h.1
       exact this
   · show itK (insI bag x) k=_
     rw [itK_ins hn,← hk]
     by_cases hkk:k=kOf x
     · rw [if_pos hkk,if_pos hkk]
       unfold refK
       rw [hkk,hn,← hx]
       rfl
     · rw [if_neg hkk,if_neg hkk]
   · simp only at hy
     rw [← hk,hn] at hy
     cases hy
   · show (insI bag x).length≤_
     rw [hp.length_eq,List.length_append]
     exact Nat.le_refl _
   · show (∃ y ∈ insI bag x,_)↔_
     constructor
     · rintro ⟨y,hy,rfl⟩
       rcases (hmem y).1 hy with hy | rfl
       · exact .inr ⟨y,hy,rfl⟩
       · exact .inl hxt
     · rintro (rfl | ⟨y,hy,rfl⟩)
       · exact ⟨x,(hmem x).2 (.inr rfl),hxt⟩
       · exact ⟨y,(hmem y).2 (.inl hy),rfl⟩
 · rw [k1,if_pos (by omega),atI_at k2,zo] at h0 ⊢
   by_cases hr:x.2.2.2=1000000
   · rw [if_pos hr] at h0; exact absurd h0 (by decide)
   rw [if_neg hr]
   have ho:=b2 x (List.mem_of_getElem? k2)
   have hox:=oneE_ok ho
   have hit:=itK_at hd (List.mem_of_getElem? k2)
   refine ⟨?_,rfl,fun k=>?_,fun y hy=>?_,fun _=>setR_len _ _ _,by rw [setR_len]; omega,fun t=>?_⟩
   · rw [bagE_iff]
     refine ⟨by rw [setR_len]; exact b1,fun y hy=>?_,by rw [setR_ky k2]; exact b3⟩
     rcases setR_mem k2 hy with hy | rfl
     · exact b2 y hy
     · exact oneE_ref ho (by omega) (by omega)
   · show itK (setR bag j (x.2.2.2+1)) k=_
     rw [itK_set hd k2]
     change (if k=kOf x then _ else _)=if k=kOf x then _ else _
     by_cases hk:k=kOf x
     · rw [if_pos hk,if_pos hk]
       unfold refK
       rw [hk,hit,k3]
       rfl
     · rw [if_neg hk,if_neg hk]
   · change itK bag (kOf x)=some y at hy
     rw [hit] at hy
     cases hy
     exact k3
   · show (∃ y ∈ setR bag j (x.2.2.2+1),_)↔_
     constructor
     · rintro ⟨y,hy,rfl⟩
       rcases setR_mem k2 hy with hy | rfl
       · exact .inr ⟨y,hy,rfl⟩
       · exact .inl k3
     · rintro (rfl | ⟨y,hy,rfl⟩)
       · exact ⟨_,List.mem_of_getElem? (setR_at k2 _),k3⟩
       · obtain ⟨i,hi⟩:=List.mem_iff_getElem?.1 hy
         by_cases hij:i=j
         · subst hij
           rw [k2] at hi
           cases hi
           exact ⟨_,List.mem_of_getElem? (setR_at k2 _),rfl⟩
         · refine ⟨y,List.mem_of_getElem? (i:=i) ?_,rfl⟩
           unfold setR
           rw [List.getElem?_set_ne (fun e=>hij e.symm)]
           exact hi
theorem refK_put {bag:List It} {s:List UInt8} {bag':List It} {id:Id3} (h:PutR bag s bag' id) (k:K2):refK bag' k=refK bag k+(if k=id.2 then 1 else 0):=by
 conv=>lhs; unfold refK
 rw [h.itk]
 by_cases hk:k=id.2
 · rw [if_pos hk,if_pos hk]; rfl
 · rw [if_neg hk,if_neg hk,Int.add_zero]; rfl
/-! ### right states -/
structure Rt (bag:List It) (l:List Vol):Prop where
 ok:bagE bag=0
 len:l.length≤6
 vol : ∀ v ∈ l,v.2.length≤32∧nmB v.1=true
 srt:l.Pairwise fun a b=>Op.bytesLess a.1 b.1=true
 ids : ∀ id ∈ idsOf l,id.1=false→id=hole
 cnt : ∀ k:K2,(((idsOf l).count (true,k):Nat):Int)=refK bag k
theorem mem_ids {l:List Vol} {id:Id3}:id ∈ idsOf l ↔ ∃ v ∈ l,id ∈ v.2:=by unfold idsOf; rw [List.mem_flatMap]
theorem goI_zero {bag:List It} : ∀ {ids:List Id3},(∀ id ∈ ids,idE bag id=0)→goI bag ids=0
 | [],_=>rfl
 | x :: r,h=>by
   rw [goI,if_neg (by rw [h x (by simp)]; exact fun h=>h rfl)]
   exact goI_zero fun id hid=>h id (by simp [hid])
theorem goV_zero {bag:List It} : ∀ {l:List Vol} {p:Option (List UInt8)},(∀ v ∈ l,v.2.length≤32∧nmB v.1=true∧goI bag v.2=0)→(∀ q,p=some q → ∀ v ∈ l,Op.bytesLess q v.1=true)→l.Pairwise (fun a b=>Op.bytesLess a.1 b.1=true)→goV bag p l=0
 | [],_,_,_,_=>rfl
 | x :: r,p,h1,h2,h3=>by
   obtain ⟨a1,a2,a3⟩:=h1 x (by simp)
   obtain ⟨s1,s2⟩:=List.pairwise_cons.1 h3
   have hb:nameBad p x.1=false:=by
    cases p with
    | none=>rfl
    | some q=>show (!Op.bytesLess q x.1)=false; rw [h2 q rfl x (by simp)]; rfl
   rw [goV,if_neg (by rw [a2,hb]; rintro (h | h) <;> cases h),if_neg (by omega),if_neg (fun h=>h a3)]
   exact goV_zero (fun v hv=>h1 v (by simp [hv])) (fun q hq v hv=>by cases hq; exact s1 v hv) s2
theorem idE_iff {bag:List It} (hd:Dk bag) {id:Id3}:idE bag id=0↔(id.1=false→id=hole)∧(id.1=true→itK bag id.2≠none):=by
 unfold idE
 cases h:id.1 with
 | false=>
   by_cases hz:id.2.1=0∧id.2.2=0
   · rw [if_neg (fun h=>h.2 hz),if_neg (fun h=>by cases h.1)]
     refine ⟨fun _=>⟨fun _=>?_,(fun h=>by cases h)⟩,fun _=>rfl⟩
     obtain ⟨a,b,c⟩:=id
     simp only at h hz
     rw [h,hz.1,hz.2]
     rfl
   · rw [if_pos ⟨rfl,hz⟩]
     refine ⟨(fun h=>by cases h),fun ⟨h1,_⟩=>absurd ?_ hz⟩
     rw [h1 rfl]
     exact ⟨rfl,rfl⟩
 | true=>
   rw [if_neg (fun h=>by cases h.1)]
   rcases idIx_cases hd id h with ⟨k1,k2⟩ | ⟨j,x,k1,_,_,k4⟩
   · unfold idIx at k1
     rw [if_pos ⟨rfl,k1⟩,k2]
     exact ⟨(fun h=>by cases h),fun ⟨_,h⟩=>absurd rfl (h rfl)⟩
   · unfold idIx at k1
     rw [if_neg (fun h=>by have:=h.2; omega),k4]
     exact ⟨fun _=>⟨(fun h=>by cases h),(fun _ h=>by cases h)⟩,fun _=>rfl⟩
theorem refK_pos {bag:List It} (h:bagE bag=0) {k:K2}:(itK bag k≠none↔1≤refK bag k)∧(itK bag k=none↔refK bag k=0):=by
 unfold refK
 cases hx:itK bag k with
 | none=>simp
 | some x=>
   have:=(oneE_ok (((bagE_iff bag).1 h).2.1 x (itK_mem hx).1)).2.2
   simp only [Option.map_some,Option.getD_some,ne_eq,reduceCtorEq,not_false_eq_true,true_iff,false_iff]
   omega
theorem rt_of {bag:List It} {l:List Vol} (h:stE bag l=0):Rt bag l:=by
 obtain ⟨h1,h2,h3⟩:=stE_ok h
 obtain ⟨h4,h5⟩:=volsE_ok h2
 have hd:=dk_of h1
 have hid : ∀ id ∈ idsOf l,idE bag id=0:=fun id hi=>by
  obtain ⟨v,hv,hiv⟩:=mem_ids.1 hi
  exact goI_ok (h5 v hv).2.2 id hiv
 refine ⟨h1,h4,fun v hv=>⟨(h5 v hv).1,(h5 v hv).2.1⟩,vols_srt h2,fun id hi=>((idE_iff hd).1 (hid id hi)).1,fun k=>?_⟩
 cases hx:itK bag k with
 | some x=>
   obtain ⟨m1,m2⟩:=itK_mem hx
   unfold cntB at h3
   rw [List.all_eq_true] at h3
   have:=of_decide_eq_true (h3 x m1)
   unfold refK
   rw [hx,← m2]
   exact this
 | none=>
   have:(idsOf l).count (true,k)=0:=List.count_eq_zero.2 fun hi=>((idE_iff hd).1 (hid _ hi)).2 rfl hx
   unfold refK
   rw [this,hx]
   rfl
theorem of_rt {bag:List It} {l:List Vol} (h:Rt bag l):stE bag l=0:=by
 have hd:=dk_of h.ok
 have hv:volsE bag l=0:=by
  unfold volsE
  rw [if_neg (by have:=h.len; omega)]
  refine goV_zero (fun v hv=>⟨(h.vol v hv).1,(h.vol v hv).2,goI_zero fun id hid=>?_⟩) (fun q hq=>by cases hq) h.srt
  have hm:=mem_ids.2 ⟨v,hv,hid⟩
  refine (idE_iff hd).2 ⟨h.ids id hm,fun h1=>?_⟩
  have e:id=(true,id.2):=by obtain ⟨a,b⟩:=id; simp only at h1; rw [h1]
  rw [e] at hm
  have:=List.count_pos_iff.2 hm
  have:=h.cnt id.2
  rw [(refK_pos h.ok).1]
  omega
 have hc:cntB bag (idsOf l)=true:=by
  unfold cntB
  rw [List.all_eq_true]
  intro x hx
  refine decide_eq_true ?_
  have:=h.cnt (kOf x)
  unfold refK at this
  rw [itK_at hd hx] at this
  exact this
 unfold stE
 rw [if_neg (fun hh=>hh h.ok),if_neg (fun hh=>hh hv),if_neg (by rw [hc]; decide)]
theorem rt_nil:Rt [] []:=⟨bagE_nil,by decide,(fun v hv=>by cases hv),.nil,(fun v hv=>by cases hv),fun k=>rfl⟩
/-! ### counts -/
theorem ids_app (a b:List Vol):idsOf (a++b)=idsOf a++idsOf b:=by unfold idsOf; rw [List.flatMap_append]
theorem ids_cons (v:Vol) (b:List Vol):idsOf (v :: b)=v.2++idsOf b:=by unfold idsOf; rw [List.flatMap_cons]
theorem ids_mid (a:List Vol) (x:Vol) (b:List Vol) (q:Id3):(idsOf (a++x :: b)).count q=(idsOf (a++b)).count q+x.2.count q:=by
 rw [ids_app,ids_app,ids_cons,List.count_append,List.count_append,List.count_append]
 omega
theorem ids_mid_mem {a:List Vol} {x:Vol} {b:List Vol} {q:Id3}:q ∈ idsOf (a++x :: b)↔q ∈ x.2∨q ∈ idsOf (a++b):=by
 rw [ids_app,ids_app,ids_cons,List.mem_append,List.mem_append,List.mem_append]
 constructor
 · rintro (h | h | h)
   · exact .inr (.inl h)
   · exact .inl h
   · exact .inr (.inr h)
 · rintro (h | h | h)
   · exact .inr (.inl h)
   · exact .inl h
   · exact .inr (.inr h)
theorem count_set {l:List Id3} {a:Nat} {y:Id3} (h:l[a]? = some y) (z q:Id3):(l.set a z).count q+(if y=q then 1 else 0)=l.count q+(if z=q then 1 else 0):=by
 have e:=split_at h
 rw [set_split h]
 conv=>rhs; rw [e]
 rw [List.count_append,List.count_append,List.count_cons,List.count_cons]
 have b1 : ∀ y:Id3,(if (y == q)=true then 1 else 0)=(if y=q then 1 else 0):=fun y=>by
  by_cases hy:y=q
  · rw [if_pos hy,if_pos (by rw [hy]; exact beq_self_eq_true _)]
  · rw [if_neg hy,if_neg (by rw [beq_eq_false_iff_ne.2 hy]; decide)]
 rw [b1,b1]
 omega
/-! ### setV, insV, delV -/
theorem setV_mid {l:List Vol} {i:Nat} {x:Vol} (h:l[i]? = some x) (a:Nat) (id:Id3):setV l i a id=l.take i++(x.1,x.2.set a id) :: l.drop (i+1):=by
 rw [setV_at h,set_split h]
theorem count_setV {l:List Vol} {i a:Nat} {x:Vol} {y:Id3} (h:l[i]? = some x) (hy:x.2[a]? = some y) (id q:Id3):(idsOf (setV l i a id)).count q+(if y=q then 1 else 0)=(idsOf l).count q+(if id=q then 1 else 0):=by
 have e:(idsOf l).count q=(idsOf (l.take i++l.drop (i+1))).count q+x.2.count q:=by
  conv=>lhs; rw [split_at h]
  exact ids_mid _ _ _ _
 rw [setV_mid h,ids_mid,e]
 have:=count_set hy id q
 simp only
 omega
theorem mem_setV {l:List Vol} {i a:Nat} {x:Vol} (h:l[i]? = some x) {id q:Id3} (hq:q ∈ idsOf (setV l i a id)):q=id∨q ∈ idsOf l:=by
 rw [setV_mid h,ids_mid_mem] at hq
 have e:q ∈ idsOf l↔q ∈ x.2∨q ∈ idsOf (l.take i++l.drop (i+1)):=by
  conv=>lhs; rw [split_at h]
  exact ids_mid_mem
 rw [e]
 rcases hq with hq | hq
 · rcases List.mem_or_eq_of_mem_set hq with hq | hq
   · exact .inr (.inl hq)
   · exact .inl hq
 · exact .inr (.inr hq)
theorem setV_vol {l:List Vol} {i a:Nat} {x:Vol} (h:l[i]? = some x) {id:Id3} {v:Vol} (hv:v ∈ setV l i a id) : ∃ u ∈ l,v.1=u.1∧v.2.length=u.2.length:=by
 rw [setV_at h] at hv
 rcases List.mem_or_eq_of_mem_set hv with hv | rfl
 · exact ⟨v,hv,rfl,rfl⟩
 · exact ⟨x,List.mem_of_getElem? h,rfl,List.length_set⟩
theorem setV_names {l:List Vol} {i a:Nat} {x:Vol} (h:l[i]? = some x) {id:Id3}:(setV l i a id).map (·.1)=l.map (·.1):=by
 rw [setV_mid h]
 conv=>rhs; rw [split_at h]
 rw [List.map_append,List.map_append,List.map_cons,List.map_cons]
theorem srt_names {l l':List Vol} (h:l'.map (·.1)=l.map (·.1)) (hs:l.Pairwise fun a b=>Op.bytesLess a.1 b.1=true):l'.Pairwise fun a b=>Op.bytesLess a.1 b.1=true:=by
 have e : ∀ l:List Vol,(l.Pairwise fun a b=>Op.bytesLess a.1 b.1=true)↔(l.map (·.1)).Pairwise fun a b=>Op.bytesLess a b=true:=fun l=>by rw [List.pairwise_map]
 rw [e,h,← e]
 exact hs
theorem setV_len {l:List Vol} {i a:Nat} {id:Id3}:(setV l i a id).length=l.length:=by unfold setV; rw [List.length_set]
theorem idAt_at {l:List Vol} {i a:Nat} {x:Vol} {y:Id3} (h:l[i]? = some x) (hy:x.2[a]? = some y):idAt l i a=y:=by unfold idAt; rw [volAt_at h,hy]; rfl
theorem mem_at {l:List Vol} {i a:Nat} {x:Vol} {y:Id3} (h:l[i]? = some x) (hy:x.2[a]? = some y):y ∈ idsOf l:=mem_ids.2 ⟨x,List.mem_of_getElem? h,List.mem_of_getElem? hy⟩
theorem Rt.ref {bag:List It} {l:List Vol} (h:Rt bag l) {id:Id3} (hm:id ∈ idsOf l) (h1:id.1=true):1≤refK bag id.2:=by
 have e:id=(true,id.2):=by obtain ⟨a,b⟩:=id; simp only at h1; rw [h1]
 rw [e] at hm
 have:=List.count_pos_iff.2 hm
 have:=h.cnt id.2
 omega
theorem Rt.it {bag:List It} {l:List Vol} (h:Rt bag l) {id:Id3} (hm:id ∈ idsOf l) (h1:id.1=true):itK bag id.2≠none:=(refK_pos h.ok).1.2 (h.ref hm h1)
theorem rt_trim {bag:List It} {l:List Vol} (h:Rt bag l) {i a:Nat} {x:Vol} {y:Id3} (hx:l[i]? = some x) (hy:x.2[a]? = some y):Rt (lessId bag y) (setV l i a hole):=by
 have hm:=mem_at hx hy
 refine ⟨bagE_lessId h.ok y,by rw [setV_len]; exact h.len,fun v hv=>?_,srt_names (setV_names hx) h.srt,fun id hi h1=>?_,fun k=>?_⟩
 · obtain ⟨u,hu,e1,e2⟩:=setV_vol hx hv
   rw [e1,e2]; exact h.vol u hu
 · rcases mem_setV hx hi with hi | hi
   · exact hi
   · exact h.ids id hi h1
 · have hc:=count_setV hx hy hole (true,k)
   have hh : ¬ hole=(true,k):=fun e=>by have:=congrArg Prod.fst e; cases this
   rw [if_neg hh] at hc
   have hk:=h.cnt k
   cases h1:y.1 with
   | false=>
     rw [less_hole h1]
     rw [if_neg (fun e=>by rw [e] at h1; cases h1)] at hc
     omega
   | true=>
     rw [refK_less h.ok h1 (h.ref hm h1)]
     by_cases hkk:k=y.2
     · rw [if_pos (by obtain ⟨a,b⟩:=y; simp only at h1 hkk; rw [h1,hkk])] at hc
       rw [if_pos hkk]; omega
     · rw [if_neg (fun e=>hkk (by rw [e]))] at hc
       rw [if_neg hkk]; omega
theorem rt_put {bag bag':List It} {l:List Vol} (h:Rt bag l) {i a:Nat} {x:Vol} {s:List UInt8} {id:Id3} (hx:l[i]? = some x) (hy:x.2[a]? = some hole) (hp:PutR bag s bag' id):Rt bag' (setV l i a id):=by
 refine ⟨hp.ok,by rw [setV_len]; exact h.len,fun v hv=>?_,srt_names (setV_names hx) h.srt,fun q hi h1=>?_,fun k=>?_⟩
 · obtain ⟨u,hu,e1,e2⟩:=setV_vol hx hv
   rw [e1,e2]; exact h.vol u hu
 · rcases mem_setV hx hi with rfl | hi
   · rw [hp.is] at h1; cases h1
   · exact h.ids q hi h1
 · have hc:=count_setV hx hy id (true,k)
   have hh : ¬ hole=(true,k):=fun e=>by have:=congrArg Prod.fst e; cases this
   rw [if_neg hh] at hc
   have hk:=h.cnt k
   rw [refK_put hp]
   by_cases hkk:k=id.2
   · rw [if_pos (by have:=hp.is; obtain ⟨a,b⟩:=id; simp only at this hkk; rw [this,hkk])] at hc
     rw [if_pos hkk]; omega
   · rw [if_neg (fun e=>hkk (by rw [e]))] at hc
     rw [if_neg hkk]; omega
theorem setV_two {l:List Vol} {i a:Nat} {x:Vol} {y:Id3} (h:l[i]? = some x) (hy:x.2[a]? = some y) (id:Id3):(setV l i a id)[i]? = some (x.1,x.2.set a id)∧(x.2.set a id)[a]? = some id:=by
 have hi:=(List.getElem?_eq_some_iff.1 h).1
 have ha:=(List.getElem?_eq_some_iff.1 hy).1
 exact ⟨by rw [setV_at h,List.getElem?_set_self hi],by rw [List.getElem?_set_self ha]⟩
theorem rt_write {bag:List It} {l:List Vol} (h:Rt bag l) {i a:Nat} {x:Vol} {y:Id3} (hx:l[i]? = some x) (hy:x.2[a]? = some y) {s:List UInt8} (h0:(putG (lessId bag y) s).2.2=0):Rt (putG (lessId bag y) s).1 (setV l i a (putG (lessId bag y) s).2.1):=by
 have h1:=rt_trim h hx hy
 obtain ⟨g1,g2⟩:=setV_two hx hy hole
 have:=rt_put h1 g1 g2 (putR h1.ok h0)
 rwa [setV_setV (List.getElem?_eq_some_iff.1 hx).1] at this
/-! with a volume more, or less -/
theorem insV_mid (l:List Vol) (x:Vol) : ∃ a b,l=a++b∧insV l x=a++x :: b:=⟨_,_,(List.take_append_drop (Sb.bk (fun y=>cmpN y.1 x.1) l) l).symm,rfl⟩
theorem insV_mem {l:List Vol} {x y:Vol}:y ∈ insV l x↔y ∈ l∨y=x:=by
 obtain ⟨a,b,e1,e2⟩:=insV_mid l x
 rw [e2,e1,List.mem_append,List.mem_append,List.mem_cons]
 constructor
 · rintro (h | h | h)
   · exact .inl (.inl h)
   · exact .inr h
   · exact .inl (.inr h)
 · rintro ((h | h) | h)
   · exact .inl h
   · exact .inr (.inr h)
   · exact .inr (.inl h)
theorem insV_srt {l:List Vol} {x:Vol} (h:l.Pairwise fun a b=>Op.bytesLess a.1 b.1=true) (hx : ∀ y ∈ l,y.1≠x.1):(insV l x).Pairwise fun a b=>Op.bytesLess a.1 b.1=true:=by
 have e:l=(l.map fun y=>((.bool true,y):WV)).map (·.2):=by rw [List.map_map]; exact (List.map_id l).symm
 have:=insW_srt ((.bool true,x):WV) (l.map fun y=>((.bool true,y):WV)) (by rw [List.pairwise_map]; exact h) (fun y hy=>by
  obtain ⟨z,hz,rfl⟩:=List.mem_map.1 hy
  exact hx z hz)
 have h2:=insW_map (l.map fun y=>((.bool true,y):WV)) (.bool true,x)
 rw [← e] at h2
 rw [← h2,List.pairwise_map]
 exact this
theorem freshE_ok {l:List Vol} {n:List UInt8} (h:freshE l n=0):nmB n=true∧(∀ y ∈ l,y.1≠n)∧l.length≤5:=by
 unfold freshE at h
 split at h
 · cases h
 rename_i h1
 split at h
 · cases h
 rename_i h2
 split at h
 · cases h
 rename_i h3
 refine ⟨by simpa using h1,fun y hy e=>?_,by omega⟩
 rcases volIx_sp l n with ⟨_,k2⟩ | ⟨j,x,k1,_⟩
 · exact k2 y hy e
 · rw [k1] at h2; omega
theorem count_hole (k:Nat) (q:K2):(List.replicate k hole).count (true,q)=0:=List.count_eq_zero.2 fun h=>by
 have:=(List.mem_replicate.1 h).2
 have:=congrArg Prod.fst this
 cases this
theorem rt_ins {bag bag':List It} {l:List Vol} (h:Rt bag l) {n:List UInt8} {ids:List Id3} (hf:freshE l n=0) (hb:bagE bag'=0) (hl:ids.length≤32) (hh : ∀ id ∈ ids,id.1=false→id=hole) (hc : ∀ k,refK bag' k=refK bag k+((ids.count (true,k):Nat):Int)):Rt bag' (insV l (n,ids)):=by
 obtain ⟨f1,f2,f3⟩:=freshE_ok hf
 obtain ⟨a,b,e1,e2⟩:=insV_mid l (n,ids)
 refine ⟨hb,?_,fun v hv=>?_,insV_srt h.srt f2,fun id hi h1=>?_,fun k=>?_⟩
 · have:=congrArg List.length e1
   rw [e2,List.length_append,List.length_cons]
   rw [List.length_append] at this
   omega
 · rcases insV_mem.1 hv with hv | rfl
   · exact h.vol v hv
   · exact ⟨hl,f1⟩
 · rw [e2,ids_mid_mem,← e1] at hi
   rcases hi with hi | hi
   · exact hh id hi h1
   · exact h.ids id hi h1
 · rw [e2,ids_mid,← e1,hc,← h.cnt k]
   simp only
   omega
theorem rt_make {bag:List It} {l:List Vol} (h:Rt bag l) {n:List UInt8} {k:Nat} (hf:freshE l n=0) (hk:k≤32):Rt (makeS bag l n k).1 (makeS bag l n k).2:=
 rt_ins h hf h.ok (by rw [List.length_replicate]; exact hk) (fun id hi _=>(List.mem_replicate.1 hi).2) (fun q=>by rw [count_hole]; show refK bag q=refK bag q+((0:Nat):Int); simp)
theorem rt_clone {bag:List It} {l:List Vol} (h:Rt bag l) {n:List UInt8} {i:Nat} {x:Vol} (hx:l[i]? = some x) (hf:freshE l n=0):Rt (cloneS bag l i n).1 (cloneS bag l i n).2:=by
 have hxm:=List.mem_of_getElem? hx
 have hi : ∀ id ∈ x.2,id ∈ idsOf l:=fun id hi=>mem_ids.2 ⟨x,hxm,hi⟩
 have hr:=refK_incs x.2 (dk_of h.ok) (fun id hid h1=>h.it (hi id hid) h1)
 have hl192:=idsOf_len h.len (fun v hv=>(h.vol v hv).1)
 unfold cloneS
 rw [volAt_at hx]
 refine rt_ins h hf ?_ (h.vol x hxm).1 (fun id hid h1=>h.ids id (hi id hid) h1) hr
 have b0:=(bagE_iff bag).1 h.ok
 have hky : ∀ (ids:List Id3) (bag:List It),(ids.foldl incId bag).map kyT=bag.map kyT:=fun ids=>by
  induction ids with
  | nil=>exact fun _=>rfl
  | cons id r ih=>intro bag; rw [List.foldl_cons,ih,incId_ky]
 have hdk : ∀ (ids:List Id3) (bag:List It),Dk bag→Dk (ids.foldl incId bag):=fun ids=>by
  induction ids with
  | nil=>exact fun _ h=>h
  | cons id r ih=>intro bag h; exact ih _ (dk_inc h id)
 have hd2:=hdk x.2 bag (dk_of h.ok)
 rw [bagE_iff,incIds_len,hky]
 refine ⟨b0.1,fun y hy=>?_,b0.2.2⟩
 have hkm:kyT y ∈ bag.map kyT:=by rw [← hky x.2]; exact List.mem_map_of_mem hy
 obtain ⟨z,hz,ez⟩:=List.mem_map.1 hkm
 have hzo:=b0.2.1 z hz
 have e1:y.1=z.1:=(congrArg Prod.fst ez).symm
 have e2:y.2.1=z.2.1:=(congrArg (fun q=>q.2.1) ez).symm
 have e3:y.2.2.1=z.2.2.1:=(congrArg (fun q=>q.2.2) ez).symm
 have ey:y=(z.1,z.2.1,z.2.2.1,y.2.2.2):=by rw [← e1,← e2,← e3]
 have hry:=hr (kOf y)
 have hrz:=h.cnt (kOf y)
 have hz1:refK bag (kOf y)=z.2.2.2:=by
  have:kOf y=kOf z:=by unfold kOf; rw [e1,e2]
  unfold refK
  rw [this,itK_at (dk_of h.ok) hz]
  rfl
 have hy1:refK (x.2.foldl incId bag) (kOf y)=y.2.2.2:=by
  unfold refK
  rw [itK_at hd2 hy]
  rfl
 have c1:(idsOf l).count (true,kOf y)≤(idsOf l).length:=List.count_le_length
 have c2:x.2.count (true,kOf y)≤x.2.length:=List.count_le_length
 have c3:=(h.vol x hxm).1
 have hz2:=(oneE_ok hzo).2.2
 rw [ey]
 exact oneE_ref hzo (by omega) (by omega)
theorem delV_ids {l:List Vol} {i:Nat} {x:Vol} (hx:l[i]? = some x) (q:Id3):(idsOf l).count q=(idsOf (delV l i)).count q+x.2.count q:=by
 conv=>lhs; rw [split_at hx]
 exact ids_mid _ _ _ _
theorem refK_lesss : ∀ (ids:List Id3) {bag:List It},bagE bag=0→(∀ k:K2,((ids.count (true,k):Nat):Int)≤refK bag k) → ∀ k:K2,refK (ids.foldl lessId bag) k=refK bag k - ((ids.count (true,k):Nat):Int)
 | [],_,_,_,k=>by simp
 | id :: r,bag,h,h2,k=>by
   have hc : ∀ k:K2,(id :: r).count (true,k)=r.count (true,k)+(if id=(true,k) then 1 else 0):=fun k=>by
    rw [List.count_cons]
    by_cases e:id=(true,k)
    · rw [if_pos e,if_pos (by rw [e]; exact beq_self_eq_true _)]
    · rw [if_neg e,if_neg (by rw [beq_eq_false_iff_ne.2 e]; decide)]
   rw [List.foldl_cons]
   cases h1:id.1 with
   | false=>
     have hne : ∀ k:K2,id≠(true,k):=fun k e=>by rw [e] at h1; cases h1
     rw [less_hole h1,refK_lesss r h (fun k=>by have:=h2 k; rw [hc,if_neg (hne k)] at this; exact this) k,hc,if_neg (hne k)]
     rfl
   | true=>
     have eid:id=(true,id.2):=by obtain ⟨a,b⟩:=id; simp only at h1; rw [h1]
     have hpos:1≤refK bag id.2:=by have:=h2 id.2; rw [hc,if_pos eid] at this; omega
     have hrk:=refK_less h h1 hpos
     have hif : ∀ k:K2,(if k=id.2 then (1:Int) else 0)=(((if id=(true,k) then 1 else 0:Nat)):Int):=fun k=>by
      by_cases hk:k=id.2
      · rw [if_pos hk,if_pos (by rw [hk]; exact eid)]; rfl
      · rw [if_neg hk,if_neg (fun e=>hk (by rw [e]))]; rfl
     rw [refK_lesss r (bagE_lessId h id) (fun k=>by have:=h2 k; rw [hc] at this; rw [hrk,hif]; omega) k,hrk,hif,hc]
     omega
theorem rt_drop {bag:List It} {l:List Vol} (h:Rt bag l) {i:Nat} {x:Vol} (hx:l[i]? = some x):Rt (dropSt bag l i).1 (dropSt bag l i).2:=by
 unfold dropSt
 rw [volAt_at hx]
 have hsub:(delV l i).Sublist l:=by
  conv=>rhs; rw [split_at hx]
  exact List.Sublist.append (List.Sublist.refl _) (List.sublist_cons_self _ _)
 refine ⟨bagE_lessAll x.2 h.ok,Nat.le_trans hsub.length_le h.len,fun v hv=>h.vol v (hsub.subset hv),h.srt.sublist hsub,fun id hi h1=>?_,fun k=>?_⟩
 · obtain ⟨v,hv,hiv⟩:=mem_ids.1 hi
   exact h.ids id (mem_ids.2 ⟨v,hsub.subset hv,hiv⟩) h1
 · have hc:=delV_ids hx (true,k)
   have hk:=h.cnt k
   rw [refK_lesss x.2 h.ok (fun k=>by have:=delV_ids hx (true,k); have:=h.cnt k; omega)]
   simp only
   omega
/-! ### answers are right states -/
theorem zSt_right:stE zSt.1 zSt.2=0:=of_rt rt_nil
theorem volIx_get {l:List Vol} {n:List UInt8} (h : ¬ volIx l n < 0) : ∃ (j:Nat) (x:Vol),volIx l n=(j:Int)∧l[j]? = some x∧x.1=n:=by
 rcases volIx_sp l n with ⟨k1,_⟩ | h1
 · exact absurd (by rw [k1]; decide) h
 · exact h1
theorem makeA_right (bag:List It) (l:List Vol) (n:List UInt8) (k:Int):stE (makeA bag l n k).1.1 (makeA bag l n k).1.2=0:=by
 unfold makeA
 by_cases h1:stE bag l=0
 rotate_left
 · rw [if_pos h1]; exact zSt_right
 rw [if_neg (fun h=>h h1)]
 by_cases h2:k < 1∨32 < k
 · rw [if_pos h2]; exact zSt_right
 rw [if_neg h2]
 by_cases h3:freshE l n=0
 · rw [if_neg (fun h=>h h3)]
   exact of_rt (rt_make (rt_of h1) h3 (by omega))
 · rw [if_pos h3]; exact zSt_right
theorem dropA_right (bag:List It) (l:List Vol) (n:List UInt8):stE (dropA bag l n).1.1 (dropA bag l n).1.2=0:=by
 unfold dropA
 by_cases h1:stE bag l=0
 rotate_left
 · rw [if_pos h1]; exact zSt_right
 rw [if_neg (fun h=>h h1)]
 by_cases h2:volIx l n < 0
 · rw [if_pos h2]; exact zSt_right
 rw [if_neg h2]
 obtain ⟨j,x,e,hx,_⟩:=volIx_get h2
 rw [e,zo]
 exact of_rt (rt_drop (rt_of h1) hx)
theorem cloneA_right (bag:List It) (l:List Vol) (n to:List UInt8):stE (cloneA bag l n to).1.1 (cloneA bag l n to).1.2=0:=by
 unfold cloneA
 by_cases h1:stE bag l=0
 rotate_left
 · rw [if_pos h1]; exact zSt_right
 rw [if_neg (fun h=>h h1)]
 by_cases h2:volIx l n < 0
 · rw [if_pos h2]; exact zSt_right
 rw [if_neg h2]
 obtain ⟨j,x,e,hx,_⟩:=volIx_get h2
 by_cases h3:freshE l to=0
 · rw [if_neg (fun h=>h h3),e,zo]
   exact of_rt (rt_clone (rt_of h1) hx h3)
 · rw [if_pos h3]; exact zSt_right
theorem pl_get {bag:List It} {l:List Vol} {n:List UInt8} {a:Int} (h:plE bag l n a=0):stE bag l=0 ∧ ∃ (i:Nat) (x:Vol) (m:Nat) (y:Id3),volIx l n=(i:Int)∧l[i]? = some x∧x.1=n∧a=(m:Int)∧x.2[m]? = some y:=by
 obtain ⟨h1,h2,h3,h4⟩:=plE_ok h
 obtain ⟨i,x,e,hx,hn⟩:=volIx_get h2
 rw [blks_at e hx] at h4
 refine ⟨h1,i,x,a.toNat,x.2[a.toNat]'(by omega),e,hx,hn,by omega,List.getElem?_eq_getElem _⟩
theorem trimA_right (bag:List It) (l:List Vol) (n:List UInt8) (a:Int):stE (trimA bag l n a).1.1 (trimA bag l n a).1.2=0:=by
 unfold trimA
 by_cases h1:plE bag l n a=0
 · rw [if_neg (fun h=>h h1)]
   obtain ⟨h2,i,x,m,y,e,hx,_,rfl,hy⟩:=pl_get h1
   rw [e,zo,zo]
   simp only [trimS,idAt_at hx hy]
   exact of_rt (rt_trim (rt_of h2) hx hy)
 · rw [if_pos h1]; exact zSt_right
theorem writeA_right (bag:List It) (l:List Vol) (n:List UInt8) (a:Int) (s:List UInt8):stE (writeA bag l n a s).1.1 (writeA bag l n a s).1.2=0:=by
 unfold writeA
 by_cases h1:plE bag l n a=0
 · rw [if_neg (fun h=>h h1)]
   obtain ⟨h2,i,x,m,y,e,hx,_,rfl,hy⟩:=pl_get h1
   rw [e,zo,zo]
   unfold writeS
   rw [idAt_at hx hy]
   by_cases h3:(putG (lessId bag y) s).2.2=0
   · rw [if_neg (fun h=>h h3)]
     exact of_rt (rt_write (rt_of h2) hx hy h3)
   · rw [if_pos h3]; exact zSt_right
 · rw [if_pos h1]; exact zSt_right
end Go.X.Vo

namespace Go.X
open Go Go.RowKit
/-- a row whose whole block is known -/
def RowF (M:Mem) (v:Value) (sz:Nat) (es:List (List Value)):Prop:=
 (∀ e ∈ es,e.length=sz ∧ ∀ c ∈ e,c.oneCell'=true)∧((v = .slice none 0 0∧es=[]) ∨
   ∃ b cap T sp,v = .slice (some ⟨b,0,none⟩) es.length cap∧es.length≤cap∧cap≤maxLen∧List.length sp=(cap - es.length) * sz∧M b=some (.cells (es.flatten++sp).toArray T (0,0)))
def freshB (M:Mem) (v:Value):Prop:=∀ b,blk? v=some b→M b=none
/-- two memories that differ at most in v's block -/
def butB (M M':Mem) (v:Value):Prop:=∀ c,blk? v≠some c→M' c=M c
theorem freshB.of_le {M N:Mem} {v:Value} (h:freshB M v) (hl:N.le M):freshB N v:=fun b hb=>by
 cases hN:N b with
 | none=>rfl
 | some o=>have:=hl b o hN; rw [h b hb] at this; cases this
theorem RowF.row {M:Mem} {v:Value} {sz:Nat} {es:List (List Value)} (h:RowF M v sz es):RowM M v sz es:=by
 obtain ⟨g1,⟨rfl,rfl⟩ | ⟨b,cap,T,sp,rfl,g3,g4,g5,hM⟩⟩:=h
 · exact RowM.nil M sz
 · refine ⟨⟨rfl,rfl,g3,g4⟩,fun _=>rfl,fun i e he=>?_⟩
   have hel:=g1 e (List.mem_of_getElem? he)
   refine ⟨hel.1,fun j c hc=>?_⟩
   have hj:j < sz:=by rw [← hel.1]; exact (List.getElem?_eq_some_iff.1 hc).1
   refine ⟨?_,hel.2 c (List.mem_of_getElem? hc)⟩
   have hadd:(⟨b,0,none⟩:Addr).add (i * sz+j)=⟨b,i * sz+j,none⟩:=by unfold Addr.add; split <;> simp_all
   simp only [cellE,cellM,hadd,hM]
   simp only [Option.isSome_none,Bool.false_eq_true,if_false,List.getElem?_toArray]
   rw [flatten_get (fun e he=>(g1 e he).1) he hj,hc]
theorem RowF.eqM {M M':Mem} {v:Value} {sz:Nat} {es:List (List Value)} (h:RowF M v sz es) (hM : ∀ b,blk? v=some b→M' b=M b):RowF M' v sz es:=by
 obtain ⟨g1,h0 | ⟨b,cap,T,sp,rfl,g3,g4,g5,hb⟩⟩:=h
 · exact ⟨g1,.inl h0⟩
 · exact ⟨g1,.inr ⟨b,cap,T,sp,rfl,g3,g4,g5,by rw [hM b rfl]; exact hb⟩⟩
theorem RowF.le {M M':Mem} {v:Value} {sz:Nat} {es:List (List Value)} (h:RowF M v sz es) (hl:M.le M'):RowF M' v sz es:=by
 obtain ⟨g1,h0 | ⟨b,cap,T,sp,rfl,g3,g4,g5,hb⟩⟩:=h
 · exact ⟨g1,.inl h0⟩
 · exact ⟨g1,.inr ⟨b,cap,T,sp,rfl,g3,g4,g5,hl _ _ hb⟩⟩
theorem RowF.known {M:Mem} {v:Value} {sz:Nat} {es:List (List Value)} (h:RowF M v sz es) {b:Nat} (hb:blk? v=some b):M b≠none:=by
 obtain ⟨_,⟨rfl,_⟩ | ⟨b',cap,T,sp,rfl,_,_,_,hM⟩⟩:=h
 · cases hb
 · cases hb
   rw [hM]
   exact fun e=>by cases e
section
variable {E:Env} {σ:Sig} {H:HS} {M:Mem} {a:Act} {w:World} {ν:Nat→Value} {K:KP} {o:Oper}
theorem pub_heapF {k sz:Nat} {es:List (List Value)} (hh:Heap E ν H M w) (hk:hget H k=some (.row sz es)) : ∃ M',M.le M'∧RowF M' (ν k) sz es∧freshB M (ν k)∧Heap E ν (hpub k (ν k) H) M' w:=by
 have hp:=hpub_heap hh hk
 obtain ⟨g1,g2⟩:=hh.holds _ (hget_mem hk)
 simp only at g1 g2
 rcases g2 with ⟨hν,rfl⟩ | ⟨b,cap,T,sp,hν,g3,g4,g5,hb⟩
 · exact ⟨M,Mem.le.refl M,⟨g1,.inl ⟨hν,rfl⟩⟩,fun b hb=>(by rw [hν] at hb; cases hb),hp⟩
 · have hkb:blk? (ν k)=some b:=by rw [hν]; rfl
   obtain ⟨hMb,hBb⟩:=hh.apart b (List.mem_filterMap.2 ⟨(k,_),hget_mem hk,hkb⟩)
   have hnot:b ∉ fp ν (hpub k (ν k) H):=by
    rw [fp_pub]
    exact fp_hdelk hh hk hkb 0 _ (hdelk_sub k H) (hdelk_ne k H)
   have hle:M.le (updM M b (.cells (es.flatten++sp).toArray T (0,0))):=le_updM (Mem.le.refl M) hMb
   refine ⟨updM M b (.cells (es.flatten++sp).toArray T (0,0)),hle,⟨g1,.inr ⟨b,cap,T,sp,hν,g3,g4,g5,updM_at _ _ _⟩⟩,fun c hc=>(by rw [hkb] at hc; cases hc; exact hMb),?_⟩
   refine ⟨hp.holds,hp.nodup,fun c hc=>⟨?_,(hp.apart c hc).2⟩,fun c y hc=>?_,hp.below,hp.le0.trans hle,fun c hc=>?_,hp.one⟩
   · unfold updM
     rw [if_neg (fun e=>hnot (by rw [← e]; exact hc))]
     exact (hp.apart c hc).1
   · unfold updM at hc
     split at hc
     · rename_i e
       cases hc
       rw [e]; exact hb
     · exact hp.mem c y hc
   · unfold updM at hc
     split at hc
     · rename_i e
       exact .inr (by rw [e]; exact hBb)
     · exact hp.fresh c hc
theorem OpK.pubF {k sz:Nat} {es:List (List Value)} (hk:hget H k=some (.row sz es))
  (h : ∀ v M',M.le M'→RowF M' v sz es→freshB M v→OpK E o K (sigPub k v σ) (hpub k v H) M'):OpK E o K σ H M:=by
 rintro a w ⟨ν,hs,hh⟩
 obtain ⟨M',h1,h2,h3,h4⟩:=pub_heapF hh hk
 exact h _ M' h1 h2 h3 a w ⟨ν,pub_slots hs,h4⟩
theorem LoopK.pubF {live:List Nat} {body:Code} {Q:QP} {k sz:Nat} {es:List (List Value)} (hk:hget H k=some (.row sz es))
  (h : ∀ v M',M.le M'→RowF M' v sz es→freshB M v→LoopK E live body Q (sigPub k v σ) (hpub k v H) M'):LoopK E live body Q σ H M:=by
 rintro a w ⟨ν,hs,hh⟩
 obtain ⟨M',h1,h2,h3,h4⟩:=pub_heapF hh hk
 exact h _ M' h1 h2 h3 a w ⟨ν,pub_slots hs,h4⟩
theorem DrawK.pubF {id:Nat} {ops:Array Oper} {k sz:Nat} {es:List (List Value)} (hk:hget H k=some (.row sz es))
  (h : ∀ v M',M.le M'→RowF M' v sz es→freshB M v→DrawK E id ops K (sigPub k v σ) (hpub k v H) M'):DrawK E id ops K σ H M:=by
 rintro a w ⟨ν,hs,hh⟩
 obtain ⟨M',h1,h2,h3,h4⟩:=pub_heapF hh hk
 exact h _ M' h1 h2 h3 a w ⟨ν,pub_slots hs,h4⟩
theorem CallK.pubF {f d k sz:Nat} {l:List SV} {es:List (List Value)} (hk:hget H k=some (.row sz es))
  (h : ∀ v M',M.le M'→RowF M' v sz es→freshB M v→CallK E f (SV.pubs k v l) d K (sigPub k v σ) (hpub k v H) M'):CallK E f l d K σ H M:=by
 intro ν a w hs hh
 obtain ⟨M',h1,h2,h3,h4⟩:=pub_heapF hh hk
 have:=h _ M' h1 h2 h3 ν a w (pub_slots hs) h4
 rw [SV.pubs_vals] at this
 exact this
/-- a store into a known block that is the call's own -/
theorem OpK.turnF {t:TypeId} {x y:Operand} {v:Value} {sz i off:Nat} {s:SV} {es:List (List Value)} (ho:o.op = .store t x y) (hd:o.dst=none) (hz:szOk E.P t)
  (hx:opv σ x=some (true,.ea v sz i off)) (hy:opv σ y=some (true,s)) (hc:concB s=true) (h1:onesV (cellsV s)=true) (hL:layN (lay (shp E.P t))=some (cellsV s).length)
  (hv:RowF M v sz es) (hf:freshB E.M0 v) (h2:i < es.length) (h3:off+(cellsV s).length≤sz)
  (hK : ∀ M',butB M M' v→RowF M' v sz (es.set i (putV (es.getD i []) off (cellsV s)))→K σ H M'):OpK E o K σ H M:=by
 rintro a w ⟨ν,hs,hh⟩
 have ex:=hs.opv hx rfl
 have ey:=hs.opv hy rfl
 have hcells:=concB_cells ν hc h1
 have hcl:(s.val ν).cells.size=(cellsV s).length:=by rw [← hcells]; simp
 obtain ⟨g1,⟨rfl,rfl⟩ | ⟨b,cap,T,sp,rfl,g3,g4,g5,hM⟩⟩:=hv
 · simp at h2
 have hb:=hh.mem b _ hM
 have h0:E.M0 b=none:=hf b rfl
 have hfl:=flatten_len (fun e he=>(g1 e he).1)
 obtain ⟨n,g,hl,hn⟩ : ∃ n g,lay (shp E.P t)=some (n,g)∧(cellsV s).length=n:=by
  cases hl:lay (shp E.P t) with
  | none=>rw [hl] at hL; cases hL
  | some q=>obtain ⟨n,g⟩:=q; rw [hl] at hL; simp only [layN,Option.some.injEq] at hL; exact ⟨n,g,rfl,hL.symm⟩
 obtain ⟨i0,hi0,hsz⟩:=lay_info hz ⟨n,g,hl⟩
 have hle:i * sz+sz≤es.length * sz:=by
  have:=Nat.mul_le_mul_right sz (show i+1≤es.length by omega)
  rw [Nat.add_mul,Nat.one_mul] at this
  exact this
 have hrun:=run_storeVar_box (P:=E.P) (t:=t) (w:=w) (v:=s.val ν) (off:=i * sz+off) ⟨i0,hi0⟩ (by rw [hsz n g hl,hcl,hn]) hb (by rw [hcl]; simp only [List.size_toArray,List.length_append,hfl]; omega) (by rw [hcells]; exact onesV_mem h1)
 rw [hcells,hcl] at hrun
 have hset:=flatten_set (sp:=sp) (cs:=cellsV s) (fun e he=>(g1 e he).1) h2 h3
 rw [hset] at hrun
 have hval:(SV.ea (.slice (some ⟨b,0,none⟩) es.length cap) sz i off).val ν = .pointer (some ⟨b,i * sz+off,none⟩):=by simp [SV.val,Addr.add_lit]
 have hw':(execOp a.eval o).run E.P w = .ok .skip (w.setRow b ((es.set i (putV (es.getD i []) off (cellsV s))).flatten++sp).toArray):=by
  simp only [execOp,ho,ex,ey,hval,Instr.storeAt,Instr.sureAddr,Sem.run_bind,Sem.run_pure,Result.andThen_ok,hrun]
 unfold Oper.wp
 rw [hw']
 simp only [Oper.upon]
 rw [hd]
 have hgl:(es.getD i []).length=sz ∧ ∀ c ∈ es.getD i [],c.oneCell'=true:=by
  rw [List.getD_eq_getElem?_getD,List.getElem?_eq_getElem h2]
  exact g1 _ (List.getElem_mem _)
 refine ⟨_,_,_,⟨ν,hs,hh.turnM hM h0 (fun j hj=>setRow_other w b _ hj) (by simp [World.setRow]) ⟨rfl,rfl,rfl⟩ (setRow_at w b _ _ T _ hb)⟩,hK _ (fun c hc=>?_) ⟨fun e he=>?_,.inr ⟨b,cap,T,sp,by rw [List.length_set],by rw [List.length_set]; exact g3,g4,by rw [List.length_set]; exact g5,updM_at _ _ _⟩⟩⟩
 · unfold updM
   rw [if_neg (fun e=>hc (by rw [e]; rfl))]
 · rcases List.mem_or_eq_of_mem_set he with he | rfl
   · exact g1 e he
   · refine ⟨by simp only [putV,List.length_append,List.length_take,List.length_drop]; omega,fun c hc=>?_⟩
     simp only [putV,List.mem_append] at hc
     rcases hc with (hc | hc) | hc
     · exact hgl.2 c (List.mem_of_mem_take hc)
     · exact onesV_mem h1 c hc
     · exact hgl.2 c (List.mem_of_mem_drop hc)
/-- a known row that is the call's own goes back into its hand -/
theorem Rep.claim {e sz:Nat} {v:Value} {es:List (List Value)} (hv:RowF M v sz es) (hf:freshB E.M0 v) (hn:hNoKey e H=true) (hs':sigNoKey e σ=true) {ν:Nat→Value} (hs:Slots E.N ν σ a) (hh:Heap E ν H M w) :
  ∃ M' ν2,butB M M' v∧ν2 (8 * e)=v∧(∀ k,k / 8≠e→ν2 k=ν k)∧Slots E.N ν2 σ a∧Heap E ν2 ((8 * e,.row sz es) :: H) M' w:=by
 let ν2:Nat→Value:=fun i=>if i / 8=e then v else ν i
 have hν : ∀ i,i / 8≠e→ν2 i=ν i:=fun i hi=>by simp [ν2,hi]
 have hν8:ν2 (8 * e)=v:=by simp [ν2,show (8 * e) / 8=e by omega]
 have hone:v.oneCell'=true:=by obtain ⟨_,⟨rfl,_⟩ | ⟨b,cap,T,sp,rfl,_⟩⟩:=hv <;> rfl
 have hone2 : ∀ i,(ν2 i).oneCell'=true:=fun i=>by
  by_cases hi:i / 8=e
  · simp only [ν2,hi,if_true]; exact hone
  · simp only [ν2,hi,if_false]; exact hh.one i
 have hs2:Slots E.N ν2 σ a:=⟨hs.1,hs.2.1,fun i g s hi=>by rw [hs.2.2 i g s hi,SV.val_congr hν s (sigNoKey_lk hs' hi)]⟩
 obtain ⟨g1,⟨rfl,rfl⟩ | ⟨b,cap,T,sp,rfl,g3,g4,g5,hM⟩⟩:=hv
 · refine ⟨M,ν2,fun _ _=>rfl,hν8,hν,hs2,hh.add hn hν hone2 ?_ (fun c hc=>by rw [hν8] at hc; cases hc)⟩
   rw [hν8]
   exact ⟨g1,.inl ⟨rfl,rfl⟩⟩
 · have h0:E.M0 b=none:=hf b rfl
   have hbs:E.w0.heap.size≤b:=(hh.fresh b (by rw [hM]; exact fun e=>by cases e)).resolve_left (fun e=>e h0)
   have hnf:b ∉ fp ν H:=fun hb=>by
    have:=(hh.apart b hb).1
    rw [hM] at this
    cases this
   refine ⟨offM M b,ν2,fun c hc=>?_,hν8,hν,hs2,(hh.off h0).add hn hν hone2 ?_ (fun c hc=>?_)⟩
   · unfold offM
     rw [if_neg (fun e=>hc (by rw [e]; rfl))]
   · rw [hν8]
     exact ⟨g1,.inr ⟨b,cap,T,sp,rfl,g3,g4,g5,hh.mem b _ hM⟩⟩
   · rw [hν8] at hc
     simp only [blk?,Option.some.injEq] at hc
     subst hc
     exact ⟨hnf,by simp [offM],hbs⟩
theorem OpK.claim (j e:Nat) {sz:Nat} {v:Value} {es:List (List Value)} (hj:lk σ j=some (true,.v v)) (hjN:decide (j < E.N)=true) (hv:RowF M v sz es) (hf:freshB E.M0 v) (hn:hNoKey e H=true) (hs':sigNoKey e σ=true)
  (h : ∀ M',butB M M' v→OpK E o K ((j,true,.own (8 * e)) :: σ) ((8 * e,.row sz es) :: H) M'):OpK E o K σ H M:=by
 rintro a w ⟨ν,hs,hh⟩
 obtain ⟨M',ν2,h1,h2,h3,h4,h5⟩:=Rep.claim hv hf hn hs' hs hh
 refine h M' h1 a w ⟨ν2,⟨h4.1,h4.2.1,fun i g s hi=>?_⟩,h5⟩
 simp only [lk] at hi
 split at hi
 · rename_i hij
   subst hij
   simp only [Option.some.injEq,Prod.mk.injEq] at hi
   obtain ⟨rfl,rfl⟩:=hi
   rw [h4.2.2 _ _ _ hj]
   simp only [cond_true,SV.val,h2]
 · exact h4.2.2 i g s hi
theorem CallK.claim {f d:Nat} {l:List SV} {A:SV→List SV} (e:Nat) {sz:Nat} {v:Value} {es:List (List Value)} (hA:Ctxs A) (hl:l=A (.v v)) (hv:RowF M v sz es) (hf:freshB E.M0 v) (hn:hNoKey e H=true) (hs':sigNoKey e σ=true)
  (h : ∀ M',butB M M' v→CallK E f (A (.own (8 * e))) d K σ ((8 * e,.row sz es) :: H) M'):CallK E f l d K σ H M:=by
 intro ν a w hs hh
 obtain ⟨M',ν2,h1,h2,h3,h4,h5⟩:=Rep.claim hv hf hn hs' hs hh
 have:=h M' h1 ν2 a w h4 h5
 rw [hl,hA (.v v) (.own (8 * e)) ν ν2 (by simp only [SV.val,h2])]
 exact this
end
end Go.X

