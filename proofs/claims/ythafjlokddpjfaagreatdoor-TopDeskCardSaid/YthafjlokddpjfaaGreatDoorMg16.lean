/- Contracts of functions and the logic that they are proved in (5 texts in one). Conditions: none. -/
import Derived.Test.YthafjlokddpjfaaGreatDoorSlB
import Derived.Test.YthafjlokddpjfaaGreatDoorMg13
import Derived.Lib.Bytealg
import Derived.Test.YthafjlokddpjfaaGreatDoorMg14
open Int renaming cast_ofNat_Int→zl,natCast_zero→za,natCast_one→ze,toNat_natCast→zo
namespace Go.X.Bg
end Go.X.Bg
namespace Go.X.Sb
end Go.X.Sb
namespace Go.X.Nm
end Go.X.Nm
namespace Go.X.Bp
end Go.X.Bp
set_option linter.unusedSimpArgs false
set_option linter.unusedVariables false
set_option maxHeartbeats 4000000
set_option maxRecDepth 20000
namespace Go.X.Bp
open Go Go.X Go.RowKit Go.X.Bg Go.X.Sb

def zIt:It:=(0,0,[],0)
def z3:Id3:=(false,0,0)
def txtIx (l:List It) (s:List UInt8):Int:=fidx (fun x:It=>decide (x.2.2.1=s)) l 0
def atI (l:List It) (i:Int):It:=(l[i.toNat]?).getD zIt
/-- an item with another count -/
def setR (l:List It) (i:Nat) (r:Int):List It:=l.set i ((atI l i).1,(atI l i).2.1,(atI l i).2.2.1,r)
def has (l:List It) (s:Int) (n:Nat):Bool:=decide (0≤fidx (isId (true,s,(n:Int))) l 0)
/-- the least number that is free among those of a print -/
def freeN (l:List It) (s:Int):Nat:=((List.range 65).find? fun n=>!has l s n).getD 0
def insI (l:List It) (x:It):List It:=l.take (bk (fun y=>cmpT y x) l)++x :: l.drop (bk (fun y=>cmpT y x) l)
/-- what is put into a right bag -/
def putG (l:List It) (s:List UInt8):List It×Id3×Int:=
 if 64 < s.length then ([],z3,2) else
 if 0≤txtIx l s then (if (atI l (txtIx l s)).2.2.2=1000000 then ([],z3,8) else (setR l (txtIx l s).toNat ((atI l (txtIx l s)).2.2.2+1),(true,(atI l (txtIx l s)).1,(atI l (txtIx l s)).2.1),0)) else
 if l.length=64 then ([],z3,8) else (insI l (sumT s,(freeN l (sumT s):Int),s,1),(true,sumT s,(freeN l (sumT s):Int)),0)
def putS (l:List It) (s:List UInt8):List It×Id3×Int:=if bagE l≠0 then ([],z3,bagE l) else putG l s
theorem has_iff (l:List It) (s:Int) (n:Nat):has l s n=true ↔ ∃ x ∈ l,x.1=s∧x.2.1=(n:Int):=by
 unfold has
 rw [decide_eq_true_eq,fidx_iff,List.any_eq_true]
 refine exists_congr fun x=>and_congr_right fun _=>?_
 unfold isId
 simp
theorem pig (s:Int) : ∀ (n:Nat) (l:List It),(∀ m,m < n→has l s m=true)→n≤l.length
 | 0,_,_=>Nat.zero_le _
 | n+1,l,h=>by
   obtain ⟨x,hx,hx1,hx2⟩:=(has_iff l s n).1 (h n (by omega))
   have ih:=pig s n (l.erase x) (fun m hm=>(has_iff _ s m).2 (by
    obtain ⟨y,hy,hy1,hy2⟩:=(has_iff l s m).1 (h m (by omega))
    refine ⟨y,(List.mem_erase_of_ne (fun e=>?_)).2 hy,hy1,hy2⟩
    rw [e,hx2] at hy2
    omega))
   rw [List.length_erase_of_mem hx] at ih
   have:=List.length_pos_of_mem hx
   omega
theorem freeN_of {l:List It} {s:Int} {n:Nat} (h : ∀ m,m < n→has l s m=true) (h2:has l s n=false) (hl:n < 65):freeN l s=n:=by
 unfold freeN
 have:(List.range 65).find? (fun n=>!has l s n)=some n:=by
  rw [List.find?_eq_some_iff_getElem]
  refine ⟨by rw [h2]; rfl,n,by simpa using hl,by simp,fun j hj=>?_⟩
  simp only [List.getElem_range]
  rw [h j hj]; rfl
 rw [this]
 rfl
theorem oneCell_it (x:It) : ∀ c ∈ Bg.encT x,c.oneCell'=true:=fun c hc=>by
 simp only [Bg.encT,List.mem_cons,List.not_mem_nil,or_false] at hc
 rcases hc with rfl | rfl | rfl | rfl <;> rfl
theorem getD_it {l:List It} {i:Nat} {x:It} (h:l[i]? = some x):(l.map Bg.encT).getD i []=[.int .i64 x.1,.int .i64 x.2.1,.string ⟨x.2.2.1.toArray⟩,.int .i64 x.2.2.2]:=by
 rw [List.getD_eq_getElem?_getD,List.getElem?_map,h]
 rfl
theorem atI_at {l:List It} {i:Nat} {x:It} (h:l[i]? = some x):atI l (i:Int)=x:=by
 unfold atI
 rw [zo,h]
 rfl
theorem setR_map {l:List It} {j:Nat} {x:It} (h:l[j]? = some x) (r:Int):(l.map Bg.encT).set j (putV [.int .i64 x.1,.int .i64 x.2.1,.string ⟨x.2.2.1.toArray⟩,.int .i64 x.2.2.2] 3 [.int .i64 r])=(setR l j r).map Bg.encT:=by
 unfold setR
 rw [atI_at h,List.map_set]
 rfl
theorem setR_at {l:List It} {j:Nat} {x:It} (h:l[j]? = some x) (r:Int):(setR l j r)[j]? = some (x.1,x.2.1,x.2.2.1,r):=by
 unfold setR
 rw [atI_at h,List.getElem?_set_self (List.getElem?_eq_some_iff.1 h).1]
theorem setR_len (l:List It) (j:Nat) (r:Int):(setR l j r).length=l.length:=by
 unfold setR
 rw [List.length_set]
theorem bag_ok {l:List It} (h:bagE l=0) : ∀ x ∈ l,oneE x=0:=by
 have : ∀ {l:List It} {pre:List It},goB pre l=0 → ∀ x ∈ l,oneE x=0:=fun {l}=>by
  induction l with
  | nil=>intro _ _ x hx; cases hx
  | cons y r ih=>
    intro pre h x hx
    rw [goB] at h
    split at h
    · rename_i h1; exact absurd h h1
    rename_i h1
    split at h
    · cases h
    split at h
    · cases h
    rcases List.mem_cons.1 hx with rfl | hx
    · exact Decidable.of_not_not h1
    · exact ih h x hx
 unfold bagE at h
 split at h
 · cases h
 · exact this h
theorem putC (bb:Nat) (s:List UInt8) (x:It) (M:Mem) (h:BoxM M bb [.string ⟨s.toArray⟩]):Meets Proofs.Tryz.prog 328 [itV x,.v (ptrV bb)] M fun r _ _=>r = .v (.bool (decide (x.2.2.1=s))):=by
 refine Meets.of_body [0,1,2,3] Proofs.Tryz.func328 rfl (by kernel_rfl) rfl fun w=>?_
 have g0:=h.at (j:=0) rfl
 simp only [Proofs.Tryz.f328,itV,zz,zq,seval,zl,za,ze,zo,nzs,g0.1,g0.2,List.toArray_eq_iff]
def idS (i:Id3):SV:=.agg [.v (.bool i.1),.v (.int .i64 i.2.1),.v (.int .i64 i.2.2)]
def putT (i:Id3) (e:Int) (s:SV):SV:=.tup [s,idS i,.v (.int .i64 e)]
theorem putT_ctx (i:Id3) (e:Int):Ctx (putT i e):=fun s s' ν ν' h=>by
 simp only [putT,idS,SV.val,SV.vals,h]

theorem cmp_lt {a b:It}:cmpT a b < 0↔a.1 < b.1∨(a.1=b.1∧a.2.1 < b.2.1):=by
 unfold cmpT
 split <;> omega
theorem cmp_trans {a b c:It} (h1:cmpT a b < 0) (h2:cmpT b c < 0):cmpT a c < 0:=by
 rw [cmp_lt] at *
 omega
theorem goB_srt : ∀ {l pre:List It},goB pre l=0→l.Pairwise (fun a b=>cmpT a b < 0) ∧ ∀ p,pre.getLast? = some p → ∀ x ∈ l,cmpT p x < 0
 | [],_,_=>⟨.nil,fun _ _ x hx=>by cases hx⟩
 | y :: r,pre,h=>by
   rw [goB] at h
   split at h
   · rename_i h1; exact absurd h h1
   split at h
   · cases h
   rename_i h2
   split at h
   · cases h
   obtain ⟨i1,i2⟩:=goB_srt h
   have hy:=i2 y (by simp)
   refine ⟨List.pairwise_cons.2 ⟨hy,i1⟩,fun p hp x hx=>?_⟩
   rw [hp] at h2
   have hpy:cmpT p y < 0:=by
    unfold Bg.bad at h2
    rw [decide_eq_true_eq] at h2
    omega
   rcases List.mem_cons.1 hx with rfl | hx
   · exact hpy
   · exact cmp_trans hpy (hy x hx)
theorem bag_srt {l:List It} (h:bagE l=0):l.Pairwise (fun a b=>cmpT a b < 0):=by
 unfold bagE at h
 split at h
 · cases h
 · exact (goB_srt h).1
theorem bag_rng {l:List It} (h:bagE l=0) : ∀ x ∈ l,(0≤x.1∧x.1≤2147483647)∧0≤x.2.1∧x.2.1 < 64:=fun x hx=>by
 obtain ⟨⟨_,h1⟩,h2,_⟩:=oneE_ok (bag_ok h x hx)
 rw [h1]
 exact ⟨sumT_rng _,h2⟩
theorem bag_mono {l:List It} (h:bagE l=0) (x:It) (i j:Nat) (a b:It) (hij:i≤j) (ha:l[i]? = some a) (hb:l[j]? = some b) (hc:cmpT b x < 0):cmpT a x < 0:=by
 rcases Nat.lt_or_ge i j with hlt | hge
 · have hil:=(List.getElem?_eq_some_iff.1 ha).1
   have hjl:=(List.getElem?_eq_some_iff.1 hb).1
   have:=List.pairwise_iff_getElem.1 (bag_srt h) i j hil hjl hlt
   rw [(List.getElem?_eq_some_iff.1 ha).2,(List.getElem?_eq_some_iff.1 hb).2] at this
   exact cmp_trans this hc
 · have:i=j:=by omega
   subst this
   rw [ha] at hb
   cases hb
   exact hc
theorem bag_len {l:List It} (h:bagE l=0):l.length≤64:=by
 unfold bagE at h
 split at h
 · cases h
 · omega
theorem freeN_sp {l:List It} (h:l.length≤63) (s:Int):freeN l s≤l.length∧has l s (freeN l s)=false ∧ ∀ m,m < freeN l s→has l s m=true:=by
 have hex : ∃ n,n≤l.length∧has l s n=false ∧ ∀ m,m < n→has l s m=true:=by
  have : ∀ k,k≤l.length+1→(∀ m,m < k→has l s m=true) ∨ ∃ n,n < k∧has l s n=false ∧ ∀ m,m < n→has l s m=true:=fun k=>by
   induction k with
   | zero=>exact fun _=>.inl (fun m hm=>by omega)
   | succ k ih=>
     intro hk
     rcases ih (by omega) with h1 | ⟨n,h1,h2,h3⟩
     · cases hh:has l s k with
       | true=>
         refine .inl (fun m hm=>?_)
         rcases Nat.lt_or_ge m k with hm' | hm'
         · exact h1 m hm'
         · rw [show m=k by omega]; exact hh
       | false=>exact .inr ⟨k,by omega,hh,h1⟩
     · exact .inr ⟨n,by omega,h2,h3⟩
  rcases this (l.length+1) (Nat.le_refl _) with h1 | ⟨n,h1,h2,h3⟩
  · have:=pig s (l.length+1) l h1
    omega
  · exact ⟨n,by omega,h2,h3⟩
 obtain ⟨n,h1,h2,h3⟩:=hex
 rw [freeN_of h3 h2 (by omega)]
 exact ⟨h1,h2,h3⟩
theorem put (y:Value) (l:List It) (s:List UInt8) (M:Mem) (hy:RowM M y 4 (l.map Bg.encT)) :
  Meets Proofs.Tryz.prog 280 [.v y,.v (.string ⟨s.toArray⟩)] M (OwnR (putT (putS l s).2.1 (putS l s).2.2) 4 ((putS l s).1.map Bg.encT)):=by
 refine Meets.nilOr (putT_ctx _ _) ?_
 refine Meets.of_body [0,1,3,4,5,6,7,8,9,10,11,16,21,29,35,59,72] Proofs.Tryz.func280 rfl (by kernel_rfl) rfl fun w=>?_
 generalize hc:putS l s=c
 unfold putS at hc
 have hC:=check y l M hy
 simp only [Proofs.Tryz.f280,zz,zq,seval,zl,za,ze,zo,nzs]
 refine CallK.pure ⟨rfl,rfl⟩ rfl hC ?_
 by_cases h1:bagE l=0
 rotate_left
 · have c1:=eq_false h1
   rw [if_pos h1] at hc
   subst hc
   simp only [zz,zq,seval,zl,za,ze,zo,nzs,c1,putT,idS,z3]
 rw [if_neg (fun h=>h h1)] at hc
 unfold putG at hc
 have hyl:=hy.len_le
 rw [List.length_map] at hyl
 have hl64:l.length≤64:=by
  unfold bagE at h1
  split at h1
  · cases h1
  · omega
 by_cases h2:64 < s.length
 · have c2:((64:Int) < (s.length:Int))=True:=eq_true (by omega)
   rw [if_pos h2] at hc
   subst hc
   simp only [zz,zq,seval,zl,za,ze,zo,nzs,h1,c2,putT,idS,z3]
 have c2:((64:Int) < (s.length:Int))=False:=eq_false (by omega)
 have hs:s.length≤maxLen:=Nat.le_trans (Nat.le_of_not_lt h2) (by decide)
 rw [if_neg h2] at hc
 simp only [zz,zq,seval,zl,za,ze,zo,nzs,h1,c2]
 refine CallK.own Ctx.id rfl rfl (cloneB y l M hy (by omega)) rfl fun M1 hM1=>?_
 simp only [zz,zq,seval,zl,za,ze,zo,nzs,hdel,sigDrop,sigDropA]
 refine stepK.mkFn rfl rfl ?_
 simp only [zz,zq,seval,zl,za,ze,zo,nzs]
 refine CallK.pubB (k:=24) rfl rfl fun bb M2 hM2 hb2=>?_
 simp only [shA1,shA2,zz,zq,seval,zl,za,ze,zo]
 refine CallK.lend (k:=192) rfl rfl rfl (fun _=>rfl) (fun v M3 hM3 hv=>idxB4 (α:=It) (fun x=>.int .i64 x.1) (fun x=>.int .i64 x.2.1) (fun x=>.string ⟨x.2.2.1.toArray⟩) (fun x=>.int .i64 x.2.2.2) (fun x=>decide (x.2.2.1=s)) _ [.v (ptrV bb)] rfl v l M3 hv (fun z _=>putC bb s z M3 (hb2.le hM3))) ?_
 have g0:=hb2.at (j:=0) rfl
 have g0':=hb2.at' (j:=0) rfl
 rw [show fidx (fun x:It=>decide (x.2.2.1=s)) l 0=txtIx l s from rfl]
 rcases fidx_sp (fun x:It=>decide (x.2.2.1=s)) l 0 with ⟨k1,_⟩ | ⟨j,x,k1,k2,k3,_⟩
 rotate_left
 · rw [Nat.zero_add] at k1
   replace k1:txtIx l s=(j:Int):=k1
   rw [k1,atI_at k2,zo,if_pos (by omega)] at hc
   rw [k1]
   have c3:((0:Int)≤(j:Int))=True:=eq_true (by omega)
   have hg:=getD_it k2
   have hjl:=(List.getElem?_eq_some_iff.1 k2).1
   by_cases h3:x.2.2.2=1000000
   · have c4:=eq_true h3
     rw [if_pos h3] at hc
     subst hc
     simp only [zz,zq,seval,zl,za,ze,zo,nzs,c3,hg,List.getD_cons_zero,List.getD_cons_succ,c4,List.length_map,putT,idS,z3]
     exact ⟨by omega,hjl⟩
   have c4:=eq_false h3
   rw [if_neg h3] at hc
   subst hc
   have hset:=setR_map k2 (x.2.2.2+1)
   have hg2:=getD_it (setR_at k2 (x.2.2.2+1))
   have hln:=setR_len l j (x.2.2.2+1)
   have hrf:=(oneE_ok (bag_ok h1 x (List.mem_of_getElem? k2))).2.2
   simp only [zz,zq,seval,zl,za,ze,zo,nzs,c3,hg,List.getD_cons_zero,List.getD_cons_succ,c4,List.length_map,hset]
   refine ⟨by omega,hjl,by omega,hjl,by simp only [inK,lo,hi]; omega,by omega,hjl,DrawK.tail 13 (by kernel_rfl) (by kernel_rfl) ?_⟩
   simp only [zz,zq,seval,zl,za,ze,zo,nzs,hg2,hln,List.getD_cons_zero,List.getD_cons_succ,List.length_map,putT,idS]
   exact ⟨⟨by omega,by omega⟩,hjl,⟨by omega,by omega⟩,hjl,.inr ⟨192,rfl,rfl⟩⟩
 · replace k1:txtIx l s = -1:=k1
   rw [k1,if_neg (by decide)] at hc
   rw [k1]
   by_cases h4:l.length=64
   · have c5:((l.length:Int)=64)=True:=eq_true (by omega)
     rw [if_pos h4] at hc
     subst hc
     simp only [zz,zq,seval,zl,za,ze,zo,nzs,hy.len,hy.sl,List.length_map,c5,putT,idS,z3]
   have c5:((l.length:Int)=64)=False:=eq_false (by omega)
   rw [if_neg h4] at hc
   subst hc
   simp only [zz,zq,seval,zl,za,ze,zo,nzs,hy.len,hy.sl,List.length_map,c5]
   have hrg:=sumT_rng s
   have hl63:l.length≤63:=by omega
   have hy2:=(hy.le hM1).le hM2
   obtain ⟨f1,f2,f3⟩:=freeN_sp hl63 (sumT s)
   refine DrawK.ent (X:=Unit) (fun _=>True) (fun _=>([(0,true,.v y),(3,true,.v (ptrV bb)),(4,true,.v (.slice none 0 0)),(5,true,.ptr 40 0 0 0),(6,true,.v (.int .i64 0)),(8,true,.own 192),(10,true,.ptr 80 0 0 0)],[(80,.box [.v (.int .i64 (sumT s)),.v (.int .i64 0),.v (.string ⟨s.toArray⟩),.v (.int .i64 1)] none),(192,.row 4 (l.map Bg.encT)),(40,.box [.v (.bool false),.v (.int .i64 0),.v (.int .i64 0)] none)],M2)) ?_ ?_
   · refine DrawK.held [] (tk [0,2] (.two 1 (tk [3] (.one 4 (.one 5 .done))) 4 (.one 1 (tk [3] (.one 5 .done))))) (by kernel_rfl) (by kernel_rfl) fun xs=>?_
     simp only [zz,zq,seval,zl,za,ze,zo,nzs,se1,se2,tks,g0.1,g0.2,SV.val]
     refine ⟨CallK.pure ⟨rfl,rfl⟩ rfl (plainS s M2 hs) ?_,CallK.pure ⟨rfl,rfl⟩ rfl (plainS s M2 hs) ?_⟩
     · simp only [zz,zq,seval,zl,za,ze,zo,nzs,se1,se2,tks,g0.1,g0.2,SV.val]
       first | exact ⟨(),trivial,Ent.heap (HEnt.untie (k:=40) rfl) (Ent.of (by simp only [zq,seval,zl,za,ze,zo,hset]))⟩ | exact ⟨(),Ent.heap (HEnt.untie (k:=40) rfl) (Ent.of (by simp only [zq,seval,zl,za,ze,zo,hset]))⟩ | exact Ent.heap (HEnt.untie (k:=40) rfl) (Ent.of (by simp only [zq,seval,zl,za,ze,zo,hset]))
     · simp only [zz,zq,seval,zl,za,ze,zo,nzs,se1,se2,tks,g0.1,g0.2,SV.val]
       first | exact ⟨(),trivial,Ent.heap (HEnt.untie (k:=40) rfl) (Ent.of (by simp only [zq,seval,zl,za,ze,zo,hset]))⟩ | exact ⟨(),Ent.heap (HEnt.untie (k:=40) rfl) (Ent.of (by simp only [zq,seval,zl,za,ze,zo,hset]))⟩ | exact Ent.heap (HEnt.untie (k:=40) rfl) (Ent.of (by simp only [zq,seval,zl,za,ze,zo,hset]))
   rintro _ _
   simp only [zz,zq,seval,zl,za,ze,zo,nzs]
   refine LoopK.go (X:=Nat) (fun n=>([(0,true,.v y),(3,true,.v (ptrV bb)),(4,true,.v (.slice none 0 0)),(5,true,.ptr 40 0 0 0),(6,true,.v (.int .i64 0)),(8,true,.own 192),(10,true,.ptr 80 0 0 0)],[(80,.box [.v (.int .i64 (sumT s)),.v (.int .i64 (n:Int)),.v (.string ⟨s.toArray⟩),.v (.int .i64 1)] none),(192,.row 4 (l.map Bg.encT)),(40,.box [.v (.bool false),.v (.int .i64 0),.v (.int .i64 0)] none)],M2)) (fun n=>∀ m,m < n→has l (sumT s) m=true) (fun n=>65 - n) 0 (fun m hm=>by omega) (Ent.of ?_) ?_
   · simp only [zq,seval,zl,za,ze,zo,za]
   intro n hn
   have hpn:=pig (sumT s) n l hn
   have hF:=Bg.find y l (true,sumT s,(n:Int)) M2 hy2
   simp only [idV] at hF
   simp only [zz,zq,seval,zl,za,ze,zo,nzs]
   refine CallK.pure ⟨rfl,rfl⟩ rfl hF ?_
   cases hh:has l (sumT s) n with
   | true=>
     have c6:((0:Int)≤fidx (isId (true,sumT s,(n:Int))) l 0)=True:=eq_true (of_decide_eq_true hh)
     simp only [zz,zq,seval,zl,za,ze,zo,nzs,c6,inK,lo,hi]
     refine ⟨by omega,n+1,⟨fun m hm=>?_,by omega⟩,Ent.of ?_⟩
     · rcases Nat.lt_or_ge m n with hm' | hm'
       · exact hn m hm'
       · rw [show m=n by omega]; exact hh
     · simp only [zq,seval,zl,za,ze,zo,Int.natCast_add]
   | false=>
     have c6:((0:Int)≤fidx (isId (true,sumT s,(n:Int))) l 0)=False:=eq_false (of_decide_eq_false hh)
     have hfn:=freeN_of hn hh (by omega)
     rw [hfn]
     simp only [zz,zq,seval,zl,za,ze,zo,nzs,c6]
     have hxr : ∀ M',∀ x ∈ l,Meets Proofs.Tryz.prog 319 [itV x,itV (sumT s,(n:Int),s,1)] M' fun r _ _=>r = .v (.int .i64 (cmpT x (sumT s,(n:Int),s,1))):=fun M' x hx=>by
      obtain ⟨q1,q2⟩:=bag_rng h1 x hx
      exact Bg.cmp x (sumT s,(n:Int),s,1) M' ⟨q1,hrg,q2,by simp only; omega⟩
     refine CallK.lend (k:=192) rfl rfl rfl (fun _=>rfl) (fun v M3 hM3 hv=>bsB (α:=It) (fun x=>.int .i64 x.1) (fun x=>.int .i64 x.2.1) (fun x=>.string ⟨x.2.2.1.toArray⟩) (fun x=>.int .i64 x.2.2.2) (fun x=>cmpT x (sumT s,(n:Int),s,1)) 319 _ _ _ _ v l M3 hv (by omega) ⟨rfl,rfl,rfl,rfl⟩ (fun x hx=>hxr M3 x hx) (fun i j a b hij ha hb hc=>bag_mono h1 _ i j a b hij ha hb hc)) ?_
     have hbl:=bk_le (fun x=>cmpT x (sumT s,(n:Int),s,1)) l
     have hii:insI l (sumT s,(n:Int),s,1)=l.take (bk (fun x=>cmpT x (sumT s,(n:Int),s,1)) l)++(sumT s,(n:Int),s,1) :: l.drop (bk (fun x=>cmpT x (sumT s,(n:Int),s,1)) l):=rfl
     rw [hii]
     generalize bk (fun x=>cmpT x (sumT s,(n:Int),s,1)) l=bi at *
     generalize bf (fun x=>cmpT x (sumT s,(n:Int),s,1)) l=bF
     simp only [zz,zq,seval,zl,za,ze,zo,nzs]
     refine DrawK.held [80] (tk [0,1,2,5,7,6,8,9] (.one 3 (.one 4 (tk [10] (.one 11 (tk [12] .done)))))) (by kernel_rfl) (by kernel_rfl) fun xs=>?_
     simp only [zz,zq,seval,zl,za,ze,zo,nzs,se1,se2,tks]
     refine CallK.lendR2 (A:=fun s t=>[s,.v (.int .i64 bi),t]) 192 688 (fun s t s' t' ν ν' e1 e2=>by simp only [SV.vals,SV.val,e1,e2]) Ctx.id rfl rfl rfl rfl rfl (fun M6 h6=>insertB (l.map Bg.encT) [.int .i64 (sumT s),.int .i64 (n:Int),.string ⟨s.toArray⟩,.int .i64 1] bi M6 (by rw [List.length_map]; exact hbl) (by rw [List.length_map]; omega) (fun e he=>by
      obtain ⟨x,hx,rfl⟩:=List.mem_map.1 he
      exact ⟨rfl,oneCell_it x⟩) ⟨rfl,oneCell_it (sumT s,(n:Int),s,1)⟩) rfl ?_
     simp only [zz,zq,seval,zl,za,ze,zo,nzs,se1,se2,tks,putT,idS]
     refine .inr ⟨696,rfl,?_⟩
     simp [hget,List.map_take,List.map_drop,Bg.encT]
end Go.X.Bp

namespace Go.X.Bp
open Go Go.X Go.RowKit Go.X.Bg Go.X.Sb

def idIx (l:List It) (id:Id3):Int:=fidx (isId id) l 0
/-- one that is used once less -/
def lessL (l:List It) (i:Nat):List It:=if (atI l i).2.2.2 - 1=0 then l.take i++l.drop (i+1) else setR l i ((atI l i).2.2.2 - 1)
def lessG (l:List It) (id:Id3):List It×Int:=if idIx l id < 0 then ([],4) else (lessL l (idIx l id).toNat,0)
def dropS (l:List It) (id:Id3):List It×Int:=if bagE l≠0 then ([],bagE l) else lessG l id
theorem take_set_drop {α:Type} {l:List α} {i:Nat} (a:α) (h:i < l.length):(l.set i a).take i++(l.set i a).drop (i+1)=l.take i++l.drop (i+1):=by
 rw [List.take_set_of_le (Nat.le_refl _),List.drop_set_of_lt (by omega)]
theorem drop (y:Value) (l:List It) (id:Id3) (M:Mem) (hy:RowM M y 4 (l.map Bg.encT)) :
  Meets Proofs.Tryz.prog 278 [.v y,idS id] M (OwnR (fun s=>.tup [s,.v (.int .i64 (dropS l id).2)]) 4 ((dropS l id).1.map Bg.encT)):=by
 refine Meets.nilOr (Ctx.fst _) ?_
 refine Meets.of_body [0,1,3,4,5,6,7,8,12,18,34] Proofs.Tryz.func278 rfl (by kernel_rfl) rfl fun w=>?_
 generalize hc:dropS l id=c
 unfold dropS at hc
 have hC:=check y l M hy
 have hF:=Bg.find y l id M hy
 simp only [idV] at hF
 simp only [Proofs.Tryz.f278,idS,zz,zq,seval,zl,za,ze,zo,nzs]
 refine CallK.pure ⟨rfl,rfl⟩ rfl hC ?_
 by_cases h1:bagE l=0
 rotate_left
 · have c1:=eq_false h1
   rw [if_pos h1] at hc
   subst hc
   simp only [zz,zq,seval,zl,za,ze,zo,nzs,c1]
 rw [if_neg (fun h=>h h1)] at hc
 unfold lessG at hc
 have hl64:=bag_len h1
 simp only [zz,zq,seval,zl,za,ze,zo,nzs,h1]
 refine CallK.pure ⟨rfl,rfl⟩ rfl hF ?_
 rw [show fidx (isId id) l 0=idIx l id from rfl]
 rcases fidx_sp (isId id) l 0 with ⟨k1,_⟩ | ⟨j,x,k1,k2,k3,_⟩
 · replace k1:idIx l id = -1:=k1
   rw [k1,if_pos (by decide)] at hc
   subst hc
   rw [k1]
   simp only [zz,zq,seval,zl,za,ze,zo,nzs]
 rw [Nat.zero_add] at k1
 replace k1:idIx l id=(j:Int):=k1
 have hjl:=(List.getElem?_eq_some_iff.1 k2).1
 rw [k1,if_neg (by omega),zo] at hc
 unfold lessL at hc
 rw [atI_at k2] at hc
 rw [k1]
 have c3:((j:Int) < 0)=False:=eq_false (by omega)
 have hg:=getD_it k2
 have hset:=setR_map k2 (x.2.2.2 - 1)
 have hg2:=getD_it (setR_at k2 (x.2.2.2 - 1))
 have hln:=setR_len l j (x.2.2.2 - 1)
 have hrf:=(oneE_ok (bag_ok h1 x (List.mem_of_getElem? k2))).2.2
 simp only [zz,zq,seval,zl,za,ze,zo,nzs,c3]
 refine CallK.own Ctx.id rfl rfl (cloneB y l M hy (by omega)) rfl fun M1 hM1=>?_
 by_cases h3:x.2.2.2 - 1=0
 · have c4:=eq_true h3
   rw [if_pos h3] at hc
   subst hc
   simp only [zz,zq,seval,zl,za,ze,zo,nzs,c4,hg,hg2,hln,hset,List.getD_cons_zero,List.getD_cons_succ,List.length_map,inK,lo,hi]
   refine ⟨⟨by omega,by omega⟩,hjl,⟨by omega,by omega⟩,⟨by omega,by omega⟩,hjl,⟨by omega,by omega⟩,hjl,⟨by omega,by omega⟩,?_⟩
   refine CallK.lendR (A:=fun s=>[s,.v (.int .i64 j),.v (.int .i64 (j+1:Nat))]) 160 (Ctxs.cons0 _ rfl) Ctx.id rfl rfl rfl (fun M6 h6=>deleteB ((setR l j (x.2.2.2 - 1)).map Bg.encT) j (j+1) M6 (by omega) (by rw [List.length_map,hln]; omega) (by rw [List.length_map,hln]; omega)) rfl ?_
   simp only [zz,zq,seval,zl,za,ze,zo,nzs]
   refine .inr ⟨312,rfl,?_⟩
   have e:=take_set_drop (x.1,x.2.1,x.2.2.1,x.2.2.2 - 1) hjl
   have e2:setR l j (x.2.2.2 - 1)=l.set j (x.1,x.2.1,x.2.2.1,x.2.2.2 - 1):=by unfold setR; rw [atI_at k2]
   rw [← e,← e2,List.map_append,List.map_take,List.map_drop]
   rfl
 · have c4:=eq_false h3
   rw [if_neg h3] at hc
   subst hc
   simp only [zz,zq,seval,zl,za,ze,zo,nzs,c4,hg,hg2,hln,hset,List.getD_cons_zero,List.getD_cons_succ,List.length_map,inK,lo,hi]
   exact ⟨⟨by omega,by omega⟩,hjl,⟨by omega,by omega⟩,⟨by omega,by omega⟩,hjl,⟨by omega,by omega⟩,hjl,.inr ⟨160,rfl,rfl⟩⟩
end Go.X.Bp

namespace Go.X.Vo
open Go Go.X Go.RowKit Go.X.Bg Go.X.Nm Go.X.Bp

/-! ### right bags, told at once -/
abbrev Ky:=Int×Int×List UInt8
def kyT (x:It):Ky:=(x.1,x.2.1,x.2.2.1)
def kyR (a b:Ky):Prop:=(a.1 < b.1∨(a.1=b.1∧a.2.1 < b.2.1))∧a.2.2≠b.2.2
theorem kyR_trans1 {a b c:Ky} (h1:a.1 < b.1∨(a.1=b.1∧a.2.1 < b.2.1)) (h2:b.1 < c.1∨(b.1=c.1∧b.2.1 < c.2.1)):a.1 < c.1∨(a.1=c.1∧a.2.1 < c.2.1):=by omega
theorem bad_iff (p x:It):Bg.bad (some p) x=false↔((kyT p).1 < (kyT x).1∨((kyT p).1=(kyT x).1∧(kyT p).2.1 < (kyT x).2.1)):=by
 have:=@cmp_lt p x
 unfold Bg.bad kyT
 rw [decide_eq_false_iff_not]
 simp only
 omega
theorem goB_zero : ∀ (l pre:List It),(pre.map kyT).Pairwise kyR→(goB pre l=0↔(∀ x ∈ l,oneE x=0)∧((pre++l).map kyT).Pairwise kyR)
 | [],pre,hp=>by simp [goB,hp]
 | x :: r,pre,hp=>by
   rw [goB]
   by_cases h1:oneE x=0
   rotate_left
   · rw [if_pos h1]
     exact ⟨fun h=>absurd h h1,fun h=>absurd (h.1 x (by simp)) h1⟩
   rw [if_neg (fun h=>h h1)]
   have key:((pre++[x]).map kyT).Pairwise kyR↔(Bg.bad pre.getLast? x=false∧(pre.any fun y=>decide (y.2.2.1=x.2.2.1))=false):=by
    rw [List.map_append,List.pairwise_append]
    constructor
    · rintro ⟨_,_,h⟩
      refine ⟨?_,?_⟩
      · cases hg:pre.getLast? with
        | none=>rfl
        | some p=>
          rw [bad_iff]
          exact (h (kyT p) (List.mem_map_of_mem (List.mem_of_getLast? hg)) (kyT x) (by simp)).1
      · rw [List.any_eq_false]
        intro y hy
        have:=(h (kyT y) (List.mem_map_of_mem hy) (kyT x) (by simp)).2
        simpa [kyT] using this
    · rintro ⟨h2,h3⟩
      refine ⟨hp,List.pairwise_singleton _ _,fun a ha b hb=>?_⟩
      simp only [List.map_cons,List.map_nil,List.mem_singleton] at hb
      subst hb
      obtain ⟨y,hy,rfl⟩:=List.mem_map.1 ha
      rw [List.any_eq_false] at h3
      have h4:=h3 y hy
      refine ⟨?_,by simpa [kyT] using h4⟩
      cases hg:pre.getLast? with
      | none=>rw [List.getLast?_eq_none_iff] at hg; subst hg; cases hy
      | some p=>
        rw [hg,bad_iff] at h2
        obtain ⟨ini,hini⟩:=List.getLast?_eq_some_iff.1 hg
        subst hini
        rcases List.mem_append.1 hy with hy | hy
        · rw [List.map_append,List.pairwise_append] at hp
          exact kyR_trans1 (hp.2.2 (kyT y) (List.mem_map_of_mem hy) (kyT p) (by simp)).1 h2
        · rw [List.mem_singleton.1 hy]; exact h2
   by_cases h2:((pre++[x]).map kyT).Pairwise kyR
   · obtain ⟨k1,k2⟩:=key.1 h2
     rw [k1,k2,if_neg (by decide),if_neg (by decide),goB_zero r (pre++[x]) h2,List.append_assoc]
     exact ⟨fun ⟨a,b⟩=>⟨fun y hy=>by
      rcases List.mem_cons.1 hy with rfl | hy
      · exact h1
      · exact a y hy,b⟩,fun ⟨a,b⟩=>⟨fun y hy=>a y (by simp [hy]),b⟩⟩
   · refine ⟨fun h=>?_,fun ⟨_,h⟩=>?_⟩
     · split at h
       · cases h
       · rename_i a1
         split at h
         · cases h
         · rename_i a2
           exact absurd (key.2 ⟨eq_false_of_ne_true a1,eq_false_of_ne_true a2⟩) h2
     · refine absurd ?_ h2
       rw [show pre++x :: r=(pre++[x])++r by simp,List.map_append,List.pairwise_append] at h
       exact h.1
theorem bagE_iff (l:List It):bagE l=0↔l.length≤64∧(∀ x ∈ l,oneE x=0)∧(l.map kyT).Pairwise kyR:=by
 unfold bagE
 by_cases h:64 < l.length
 · rw [if_pos h]
   exact ⟨fun h=>(by cases h),fun h'=>by omega⟩
 · rw [if_neg h,goB_zero l [] .nil]
   exact ⟨fun h'=>⟨by omega,h'⟩,fun h'=>h'.2⟩
theorem setR_ky {l:List It} {j:Nat} {x:It} (h:l[j]? = some x) (r:Int):(setR l j r).map kyT=l.map kyT:=by
 unfold setR
 rw [atI_at h,List.map_set]
 apply List.ext_getElem?
 intro i
 rw [List.getElem?_set]
 split
 · rename_i e
   subst e
   have hjl:=(List.getElem?_eq_some_iff.1 h).1
   rw [List.length_map,if_pos hjl,List.getElem?_map,h]
   rfl
 · rfl
theorem setR_mem {l:List It} {j:Nat} {x:It} (h:l[j]? = some x) {r:Int} {y:It} (hy:y ∈ setR l j r):y ∈ l∨y=(x.1,x.2.1,x.2.2.1,r):=by
 unfold setR at hy
 rw [atI_at h] at hy
 exact List.mem_or_eq_of_mem_set hy
theorem oneE_ref {x:It} {r:Int} (h:oneE x=0) (h1:1≤r) (h2:r≤1000000):oneE (x.1,x.2.1,x.2.2.1,r)=0:=by
 obtain ⟨⟨a1,a2⟩,a3,_⟩:=oneE_ok h
 unfold oneE
 rw [if_neg (by simp only; omega),if_neg (by simp only; exact fun h=>h a2),if_neg (by simp only; omega)]
theorem bagE_less {l:List It} (h:bagE l=0) (j:Nat) (hj:j < l.length):bagE (lessL l j)=0:=by
 obtain ⟨x,hx⟩ : ∃ x,l[j]? = some x:=⟨_,List.getElem?_eq_getElem hj⟩
 rw [bagE_iff] at h ⊢
 obtain ⟨h1,h2,h3⟩:=h
 unfold lessL
 rw [atI_at hx]
 split
 · have hsub:(l.take j++l.drop (j+1)).Sublist l:=by
    conv=>rhs; rw [← List.take_append_drop j l]
    refine List.Sublist.append (List.Sublist.refl _) ?_
    rw [← List.drop_drop]
    exact List.drop_sublist _ _
   exact ⟨Nat.le_trans hsub.length_le h1,fun y hy=>h2 y (hsub.subset hy),h3.sublist (hsub.map kyT)⟩
 · rename_i h0
   have ho:=h2 x (List.mem_of_getElem? hx)
   have hr:=(oneE_ok ho).2.2
   refine ⟨by rw [setR_len]; exact h1,fun y hy=>?_,by rw [setR_ky hx]; exact h3⟩
   rcases setR_mem hx hy with hy | rfl
   · exact h2 y hy
   · exact oneE_ref ho (by omega) (by omega)
theorem bagE_nil:bagE []=0:=by decide
theorem bagE_lessG {l:List It} (h:bagE l=0) (id:Id3):bagE (lessG l id).1=0:=by
 unfold lessG
 split
 · exact bagE_nil
 · rename_i h1
   rcases fidx_sp (isId id) l 0 with ⟨k1,_⟩ | ⟨j,x,k1,k2,k3,_⟩
   · exact absurd (show idIx l id < 0 by unfold idIx; rw [k1]; decide) h1
   · have:idIx l id=(j:Int):=by unfold idIx; rw [k1,Nat.zero_add]
     rw [this,zo]
     exact bagE_less h j (List.getElem?_eq_some_iff.1 k2).1
/-! ### what deeds make -/
def hole:Id3:=(false,0,0)
def volAt (l:List Vol) (i:Nat):Vol:=(l[i]?).getD ([],[])
def setV (l:List Vol) (i a:Nat) (id:Id3):List Vol:=l.set i ((volAt l i).1,(volAt l i).2.set a id)
def idAt (l:List Vol) (i a:Nat):Id3:=((volAt l i).2[a]?).getD hole
theorem volAt_at {l:List Vol} {i:Nat} {x:Vol} (h:l[i]? = some x):volAt l i=x:=by unfold volAt; rw [h]; rfl
/-- a bag of which an id is used once less, if it is one -/
def lessId (bag:List It) (id:Id3):List It:=if id.1=true then (lessG bag id).1 else bag
def incId (bag:List It) (id:Id3):List It:=if 0≤idIx bag id then setR bag (idIx bag id).toNat ((atI bag (idIx bag id)).2.2.2+1) else bag
theorem bagE_lessId {l:List It} (h:bagE l=0) (id:Id3):bagE (lessId l id)=0:=by
 unfold lessId
 split
 · exact bagE_lessG h id
 · exact h
theorem bagE_lessAll : ∀ (ids:List Id3) {l:List It},bagE l=0→bagE (ids.foldl lessId l)=0
 | [],_,h=>h
 | id :: r,_,h=>bagE_lessAll r (bagE_lessId h id)
theorem dropS_ok {l:List It} (h:bagE l=0) (id:Id3):dropS l id=lessG l id:=if_neg (fun h'=>h' h)
abbrev St:=List It×List Vol
def zSt:St:=([],[])
def trimS (bag:List It) (l:List Vol) (i a:Nat):St:=(lessId bag (idAt l i a),setV l i a hole)
def writeS (bag:List It) (l:List Vol) (i a:Nat) (s:List UInt8):St×Int:=
 if (putG (lessId bag (idAt l i a)) s).2.2≠0 then (zSt,(putG (lessId bag (idAt l i a)) s).2.2) else (((putG (lessId bag (idAt l i a)) s).1,setV l i a (putG (lessId bag (idAt l i a)) s).2.1),0)
theorem setV_at {l:List Vol} {i:Nat} {x:Vol} (h:l[i]? = some x) (a:Nat) (id:Id3):setV l i a id=l.set i (x.1,x.2.set a id):=by unfold setV; rw [volAt_at h]
theorem setV_setV {l:List Vol} {i:Nat} (hi:i < l.length) (a:Nat) (id id':Id3):setV (setV l i a id) i a id'=setV l i a id':=by
 obtain ⟨x,hx⟩ : ∃ x,l[i]? = some x:=⟨_,List.getElem?_eq_getElem hi⟩
 have h2:(l.set i (x.1,x.2.set a id))[i]? = some (x.1,x.2.set a id):=by rw [List.getElem?_set_self hi]
 rw [setV_at hx,setV_at h2,List.set_set,List.set_set,setV_at hx]
abbrev cmpN (a b:List UInt8):Int:=Lib.compareBytes a b
theorem cmpN_lt : ∀ a b:List UInt8,cmpN a b < 0↔Op.bytesLess a b=true
 | [],[]=>by simp [cmpN,Lib.compareBytes,Op.bytesLess]
 | [],_ :: _=>by simp [cmpN,Lib.compareBytes,Op.bytesLess]
 | _ :: _,[]=>by simp [cmpN,Lib.compareBytes,Op.bytesLess]
 | x :: a,y :: b=>by
   have ih:=cmpN_lt a b
   simp only [cmpN,Lib.compareBytes,Op.bytesLess] at ih ⊢
   by_cases h1:x < y
   · simp [h1]
   · by_cases h2:y < x
     · have h3 : ¬ x=y:=fun e=>by subst e; exact h1 h2
       simp [h1,h2,h3]
     · have h3:x=y:=by
        have a1 : ¬ x.toNat < y.toNat:=fun h=>h1 (UInt8.lt_iff_toNat_lt.2 h)
        have a2 : ¬ y.toNat < x.toNat:=fun h=>h2 (UInt8.lt_iff_toNat_lt.2 h)
        exact UInt8.toNat_inj.1 (by omega)
       subst h3
       simp [h1,ih]
/-- a volume more, in its place -/
def insW (l:List WV) (x:WV):List WV:=l.take (Sb.bk (fun y=>cmpN y.2.1 x.2.1) l)++x :: l.drop (Sb.bk (fun y=>cmpN y.2.1 x.2.1) l)
def insV (l:List Vol) (x:Vol):List Vol:=l.take (Sb.bk (fun y=>cmpN y.1 x.1) l)++x :: l.drop (Sb.bk (fun y=>cmpN y.1 x.1) l)
theorem bk_map {α β:Type} (g:α→β) (cf:β→Int) : ∀ l:List α,Sb.bk cf (l.map g)=Sb.bk (fun x=>cf (g x)) l
 | []=>rfl
 | x :: l=>by simp only [List.map_cons,Sb.bk,bk_map g cf l]
theorem insW_map (l:List WV) (x:WV):(insW l x).map (·.2)=insV (l.map (·.2)) x.2:=by
 unfold insW insV
 rw [bk_map,List.map_append,List.map_cons,List.map_take,List.map_drop]
def freshE (l:List Vol) (n:List UInt8):Int:=if nmB n=false then 3 else if 0≤volIx l n then 5 else if 5 < l.length then 8 else 0
def makeS (bag:List It) (l:List Vol) (n:List UInt8) (k:Nat):St:=(bag,insV l (n,List.replicate k hole))
def delV (l:List Vol) (i:Nat):List Vol:=l.take i++l.drop (i+1)
def dropSt (bag:List It) (l:List Vol) (i:Nat):St:=((volAt l i).2.foldl lessId bag,delV l i)
def cloneS (bag:List It) (l:List Vol) (i:Nat) (to:List UInt8):St:=((volAt l i).2.foldl incId bag,insV l (to,(volAt l i).2))
/-- the answers -/
def makeA (bag:List It) (l:List Vol) (n:List UInt8) (k:Int):St×Int:=
 if stE bag l≠0 then (zSt,stE bag l) else if k < 1∨32 < k then (zSt,1) else if freshE l n≠0 then (zSt,freshE l n) else (makeS bag l n k.toNat,0)
def dropA (bag:List It) (l:List Vol) (n:List UInt8):St×Int:=
 if stE bag l≠0 then (zSt,stE bag l) else if volIx l n < 0 then (zSt,4) else (dropSt bag l (volIx l n).toNat,0)
def cloneA (bag:List It) (l:List Vol) (n to:List UInt8):St×Int:=
 if stE bag l≠0 then (zSt,stE bag l) else if volIx l n < 0 then (zSt,4) else if freshE l to≠0 then (zSt,freshE l to) else (cloneS bag l (volIx l n).toNat to,0)
def trimA (bag:List It) (l:List Vol) (n:List UInt8) (a:Int):St×Int:=
 if plE bag l n a≠0 then (zSt,plE bag l n a) else (trimS bag l (volIx l n).toNat a.toNat,0)
def writeA (bag:List It) (l:List Vol) (n:List UInt8) (a:Int) (s:List UInt8):St×Int:=
 if plE bag l n a≠0 then (zSt,plE bag l n a) else writeS bag l (volIx l n).toNat a.toNat s
/-! ### incId keeps what stands where -/
theorem incId_ky (bag:List It) (id:Id3):(incId bag id).map kyT=bag.map kyT:=by
 unfold incId
 split
 · rcases fidx_sp (isId id) bag 0 with ⟨k1,_⟩ | ⟨j,x,k1,k2,_⟩
   · rename_i h _; unfold idIx at h; rw [k1] at h; exact absurd h (by decide)
   · have:idIx bag id=(j:Int):=by unfold idIx; rw [k1,Nat.zero_add]
     rw [this,zo]
     exact setR_ky k2 _
 · rfl
theorem incId_ref {bag:List It} {id:Id3} {m:Int} (h : ∀ x ∈ bag,0≤x.2.2.2∧x.2.2.2≤m) : ∀ x ∈ incId bag id,0≤x.2.2.2∧x.2.2.2≤m+1:=fun x hx=>by
 unfold incId at hx
 split at hx
 · rcases fidx_sp (isId id) bag 0 with ⟨k1,_⟩ | ⟨j,y,k1,k2,_⟩
   · rename_i h _; unfold idIx at h; rw [k1] at h; exact absurd h (by decide)
   · have e:idIx bag id=(j:Int):=by unfold idIx; rw [k1,Nat.zero_add]
     rw [e,zo,atI_at k2] at hx
     have hy:=h y (List.mem_of_getElem? k2)
     rcases setR_mem k2 hx with hx | rfl
     · have:=h x hx; omega
     · simp only; omega
 · have:=h x hx; omega
theorem incIds_ref : ∀ (ids:List Id3) {bag:List It} {m:Int},(∀ x ∈ bag,0≤x.2.2.2∧x.2.2.2≤m) → ∀ x ∈ ids.foldl incId bag,0≤x.2.2.2∧x.2.2.2≤m+(ids.length:Int)
 | [],_,m,h=>by simpa using h
 | id :: r,bag,m,h=>fun x hx=>by
   have:=incIds_ref r (incId_ref h) x hx
   rw [List.length_cons]
   omega
theorem incIds_len : ∀ (ids:List Id3) (bag:List It),(ids.foldl incId bag).length=bag.length
 | [],_=>rfl
 | id :: r,bag=>by
   rw [List.foldl_cons,incIds_len r]
   have:=congrArg List.length (incId_ky bag id)
   rwa [List.length_map,List.length_map] at this
end Go.X.Vo

namespace Go.X.Bp
open Go Go.X Go.RowKit Go.X.Bg Go.X.Sb

theorem insI_cons (y:It) (r:List It) (x:It):insI (y :: r) x=if cmpT y x < 0 then y :: insI r x else x :: y :: r:=by
 unfold insI
 rw [show bk (fun z=>cmpT z x) (y :: r)=if cmpT y x < 0 then bk (fun z=>cmpT z x) r+1 else 0 from rfl]
 split <;> rfl
theorem insI_perm (x:It) : ∀ l:List It,(insI l x).Perm (l++[x])
 | []=>List.Perm.refl _
 | y :: r=>by
   rw [insI_cons]
   split
   · exact (insI_perm x r).cons y
   · exact (List.perm_append_singleton x (y :: r)).symm
theorem insI_srt (x:It) : ∀ l:List It,l.Pairwise (fun a b=>cmpT a b < 0)→(∀ y ∈ l,¬ (y.1=x.1∧y.2.1=x.2.1))→(insI l x).Pairwise (fun a b=>cmpT a b < 0)
 | [],_,_=>List.pairwise_singleton _ _
 | y :: r,h,hx=>by
   rw [insI_cons]
   obtain ⟨h1,h2⟩:=List.pairwise_cons.1 h
   split
   · rename_i hy
     refine List.pairwise_cons.2 ⟨fun z hz=>?_,insI_srt x r h2 (fun z hz=>hx z (by simp [hz]))⟩
     rcases List.mem_append.1 ((insI_perm x r).subset hz) with hz | hz
     · exact h1 z hz
     · rw [List.mem_singleton.1 hz]; exact hy
   · rename_i hy
     have hxy:cmpT x y < 0:=by
      have:=hx y (by simp)
      rw [cmp_lt] at *
      omega
     refine List.pairwise_cons.2 ⟨fun z hz=>?_,h⟩
     rcases List.mem_cons.1 hz with rfl | hz
     · exact hxy
     · exact cmp_trans hxy (h1 z hz)
end Go.X.Bp

namespace Go.X.Vo
open Go Go.X Go.RowKit Go.X.Bg Go.X.Nm Go.X.Bp
def ltW (a b:WV):Bool:=Op.bytesLess a.2.1 b.2.1
theorem insW_cons (y:WV) (r:List WV) (x:WV):insW (y :: r) x=if cmpN y.2.1 x.2.1 < 0 then y :: insW r x else x :: y :: r:=by
 unfold insW
 rw [show Sb.bk (fun z=>cmpN z.2.1 x.2.1) (y :: r)=if cmpN y.2.1 x.2.1 < 0 then Sb.bk (fun z:WV=>cmpN z.2.1 x.2.1) r+1 else 0 from rfl]
 split <;> rfl
theorem insW_perm (x:WV) : ∀ l:List WV,(insW l x).Perm (l++[x])
 | []=>List.Perm.refl _
 | y :: r=>by
   rw [insW_cons]
   split
   · exact (insW_perm x r).cons y
   · exact (List.perm_append_singleton x (y :: r)).symm
theorem insW_srt (x:WV) : ∀ l:List WV,l.Pairwise (fun a b=>ltW a b=true)→(∀ y ∈ l,y.2.1≠x.2.1)→(insW l x).Pairwise (fun a b=>ltW a b=true)
 | [],_,_=>List.pairwise_singleton _ _
 | y :: r,h,hx=>by
   rw [insW_cons]
   obtain ⟨h1,h2⟩:=List.pairwise_cons.1 h
   split
   · rename_i hy
     rw [cmpN_lt] at hy
     refine List.pairwise_cons.2 ⟨fun z hz=>?_,insW_srt x r h2 (fun z hz=>hx z (by simp [hz]))⟩
     rcases List.mem_append.1 ((insW_perm x r).subset hz) with hz | hz
     · exact h1 z hz
     · rw [List.mem_singleton.1 hz]; exact hy
   · rename_i hy
     rw [cmpN_lt,Bool.not_eq_true] at hy
     have hxy:ltW x y=true:=by
      have t:=less_tri x.2.1 y.2.1
      rw [hy,Bool.not_false,Bool.or_eq_true,decide_eq_true_eq] at t
      exact t.resolve_right (fun e=>hx y (by simp) e.symm)
     refine List.pairwise_cons.2 ⟨fun z hz=>?_,h⟩
     rcases List.mem_cons.1 hz with rfl | hz
     · exact hxy
     · exact less_trans hxy (h1 z hz)
end Go.X.Vo

