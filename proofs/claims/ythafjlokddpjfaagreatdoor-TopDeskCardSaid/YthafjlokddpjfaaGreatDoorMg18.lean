/- Contracts of functions and the logic that they are proved in (3 texts in one). Conditions: none. -/
import Derived.Test.YthafjlokddpjfaaGreatDoorMg16
import Derived.Test.YthafjlokddpjfaaGreatDoorMg17
import Derived.Shelf.SlSortFuncK.WholeK
import Derived.Shelf.GgSortFunc.Tiny
import Derived.Test.YthafjlokddpjfaaGreatDoorMg7
open Nat renaming reduceAdd→zx,reduceMul→zj,reduceDiv→zy,reduceEqDiff→zk,reduceLT→zw,reduceLeDiff→zb,reduceBEq→zg
open Int renaming reduceEq→zd,reduceNe→zf,reduceLT→zp,reduceLE→zm,reduceAdd→zh,reduceSub→zu,reduceMul→zt,reduceNeg→zn,reduceToNat→zc,cast_ofNat_Int→zl,natCast_zero→za,natCast_one→ze,toNat_natCast→zo
namespace Go.X.Bg
end Go.X.Bg
namespace Go.X.Nm
end Go.X.Nm
namespace Go.X.Bp
end Go.X.Bp
namespace Go.X.Sb
end Go.X.Sb
set_option linter.unusedSimpArgs false
set_option linter.unusedVariables false
set_option maxHeartbeats 4000000
set_option maxRecDepth 20000
namespace Go.X.Vo
open Go Go.X Go.RowKit Go.X.Bg Go.X.Nm Go.X.Bp

theorem oneVs {v:Value} (h:isSl v=true):oneV v=true:=by cases v <;> first | rfl | cases h
theorem RowF.nil_or {M:Mem} {v:Value} {sz:Nat} {es:List (List Value)} (h:RowF M v sz es):(v = .slice none 0 0∧es=[]) ∨ ∃ b cap,v = .slice (some ⟨b,0,none⟩) es.length cap:=by
 obtain ⟨_,h | ⟨b,cap,T,sp,rfl,_⟩⟩:=h
 · exact .inl h
 · exact .inr ⟨b,cap,rfl⟩
theorem stRD_ea {K:KP} {σ:Sig} {H:HS} {M:Mem} (d:Option Nat) (L:Option (Nat×Bool)) (st:Prop) (x:Value) (a b c:Nat) (y:Bool×SV):stRD d L st K σ H M (some (true,.ea x a b c)) (some y)=st:=by
 obtain ⟨g,y⟩:=y
 cases d <;> cases L <;> cases g <;> rfl
theorem rowOf_some (H:HS) (sz:Nat) (ad:Addr) (n c:Nat):rowOf H sz (.v (.slice (some ad) n c))=none:=rfl
def apartB (x y:Value):Prop:=∀ c,blk? x=some c→blk? y≠some c
theorem apartB.symm {x y:Value} (h:apartB x y):apartB y x:=fun c h1 h2=>h c h2 h1
theorem RowF.but {M M':Mem} {x u:Value} {sz:Nat} {es:List (List Value)} (h:RowF M u sz es) (hb:butB M M' x) (ha:apartB x u):RowF M' u sz es:=
 h.eqM fun c hc=>hb c fun e=>ha c e hc
theorem le_but {M0 M M':Mem} {x:Value} (h:M0.le M) (hf:freshB M0 x) (hb:butB M M' x):M0.le M':=fun c o hc=>by
 rw [hb c (fun e=>by have:=hf c e; rw [hc] at this; cases this)]
 exact h c o hc
/-- a new block is none of the known ones -/
theorem RowF.apart {M:Mem} {u y:Value} {sz:Nat} {es:List (List Value)} (h:RowF M u sz es) (hf:freshB M y):apartB y u:=fun c hc h2=>h.known h2 (hf c hc)
/-- a state, of which all blocks are new since M0 -/
structure StF (M0 M:Mem) (b v:Value) (bag:List It) (ws:List WV):Prop where
 bag:RowF M b 4 (bag.map Bg.encT)
 vols:RowF M v 2 (ws.map encV)
 blk : ∀ w ∈ ws,RowF M w.1 3 (w.2.2.map encI3)
 fr : ∀ x ∈ b :: v :: ws.map (·.1),freshB M0 x
 ap:(b :: v :: ws.map (·.1)).Pairwise apartB
section
variable {M0 M M':Mem} {b v:Value} {bag:List It} {ws:List WV}
theorem StF.volsM (h:StF M0 M b v bag ws):VolsM M v ws:=⟨h.vols.row,fun w hw=>(h.blk w hw).row⟩
theorem StF.le (h:StF M0 M b v bag ws) (hl:M.le M'):StF M0 M' b v bag ws:=⟨h.bag.le hl,h.vols.le hl,fun w hw=>(h.blk w hw).le hl,h.fr,h.ap⟩
theorem StF.fb (h:StF M0 M b v bag ws):freshB M0 b:=h.fr _ (by simp)
theorem StF.fv (h:StF M0 M b v bag ws):freshB M0 v:=h.fr _ (by simp)
theorem StF.fw (h:StF M0 M b v bag ws) {w:WV} (hw:w ∈ ws):freshB M0 w.1:=h.fr _ (by simp only [List.mem_cons,List.mem_map]; exact .inr (.inr ⟨w,hw,rfl⟩))
theorem StF.bv (h:StF M0 M b v bag ws):apartB b v:=(List.pairwise_cons.1 h.ap).1 _ (by simp)
theorem StF.bw (h:StF M0 M b v bag ws) {w:WV} (hw:w ∈ ws):apartB b w.1:=(List.pairwise_cons.1 h.ap).1 _ (by simp only [List.mem_cons,List.mem_map]; exact .inr ⟨w,hw,rfl⟩)
theorem StF.vw (h:StF M0 M b v bag ws) {w:WV} (hw:w ∈ ws):apartB v w.1:=(List.pairwise_cons.1 (List.pairwise_cons.1 h.ap).2).1 _ (List.mem_map.2 ⟨w,hw,rfl⟩)
theorem StF.ww (h:StF M0 M b v bag ws) {i j:Nat} {x y:WV} (hx:ws[i]? = some x) (hy:ws[j]? = some y) (hij:i≠j):apartB x.1 y.1:=by
 have hp:=(List.pairwise_cons.1 (List.pairwise_cons.1 h.ap).2).2
 rw [List.pairwise_iff_getElem] at hp
 have hil:=(List.getElem?_eq_some_iff.1 hx).1
 have hjl:=(List.getElem?_eq_some_iff.1 hy).1
 have ex:ws[i]=x:=(List.getElem?_eq_some_iff.1 hx).2
 have ey:ws[j]=y:=(List.getElem?_eq_some_iff.1 hy).2
 rcases Nat.lt_or_ge i j with h1 | h1
 · have:=hp i j (by rw [List.length_map]; omega) (by rw [List.length_map]; omega) h1
   rw [List.getElem_map,List.getElem_map,ex,ey] at this
   exact this
 · have:=hp j i (by rw [List.length_map]; omega) (by rw [List.length_map]; omega) (by omega)
   rw [List.getElem_map,List.getElem_map,ex,ey] at this
   exact this.symm
/-- the blocks of a volume are other ones -/
theorem StF.turnB (h:StF M0 M b v bag ws) {i:Nat} {x:WV} {ids:List Id3} (hx:ws[i]? = some x) (hb:butB M M' x.1) (hr:RowF M' x.1 3 (ids.map encI3)):StF M0 M' b v bag (ws.set i (x.1,x.2.1,ids)):=by
 have hxm:=List.mem_of_getElem? hx
 have hil:=(List.getElem?_eq_some_iff.1 hx).1
 have e1:(ws.set i (x.1,x.2.1,ids)).map encV=ws.map encV:=by
  rw [List.map_set]
  apply List.ext_getElem?
  intro j
  rw [List.getElem?_set]
  split
  · rename_i e
    subst e
    rw [List.length_map,if_pos hil,List.getElem?_map,hx]
    rfl
  · rfl
 have e2:(ws.set i (x.1,x.2.1,ids)).map (·.1)=ws.map (·.1):=by
  rw [List.map_set]
  apply List.ext_getElem?
  intro j
  rw [List.getElem?_set]
  split
  · rename_i e
    subst e
    rw [List.length_map,if_pos hil,List.getElem?_map,hx]
    rfl
  · rfl
 refine ⟨RowF.but h.bag hb (h.bw hxm).symm,by rw [e1]; exact RowF.but h.vols hb (h.vw hxm).symm,fun w hw=>?_,by rw [e2]; exact h.fr,by rw [e2]; exact h.ap⟩
 obtain ⟨j,hj⟩:=List.mem_iff_getElem?.1 hw
 rw [List.getElem?_set] at hj
 split at hj
 · rename_i e
   cases hj
   exact hr
 · rename_i e
   exact RowF.but (h.blk w (List.mem_of_getElem? hj)) hb (h.ww hx hj e)
/-- the bag is another one -/
theorem StF.turnBag (h:StF M0 M b v bag ws) {bag':List It} (hb:butB M M' b) (hr:RowF M' b 4 (bag'.map Bg.encT)):StF M0 M' b v bag' ws:=
 ⟨hr,RowF.but h.vols hb h.bv,fun w hw=>RowF.but (h.blk w hw) hb (h.bw hw),h.fr,h.ap⟩
end
/-- .. what stays known beside the row of volumes -/
theorem StF.offV {M0 M M':Mem} {b v:Value} {bag:List It} {ws:List WV} (h:StF M0 M b v bag ws) (hb:butB M M' v):RowF M' b 4 (bag.map Bg.encT) ∧ ∀ w ∈ ws,RowF M' w.1 3 (w.2.2.map encI3):=
 ⟨RowF.but h.bag hb h.bv.symm,fun w hw=>RowF.but (h.blk w hw) hb (h.vw hw)⟩
/-! ### contracts that hand back a state -/
def StM (T:SV→SV) (A:St):RP:=fun r _ M=>∃ (b v:Value) (ws:List WV),r=T (stV b v)∧ws.map (·.2)=A.2∧RowM M b 4 (A.1.map Bg.encT)∧VolsM M v ws
def StK (M0:Mem) (T:SV→SV) (A:St):RP:=fun r _ M=>∃ (b v:Value) (ws:List WV),r=T (stV b v)∧ws.map (·.2)=A.2∧StF M0 M b v A.1 ws
def IsRowF (M0:Mem) (H:HS) (M:Mem) (s:SV) (sz:Nat) (es:List (List Value)):Prop:=
 match s with
 | .v x=>RowF M x sz es∧freshB M0 x
 | .own k=>hget H k=some (.row sz es)
 | _=>False
def known:SV→List Value
 | .v x=>[x]
 | _=>[]
/-- .. whose rows may still be the call's own -/
def StO (T:SV→SV) (A:St):RP:=fun r H M=>∃ (s1 s2:SV) (ws:List WV),r=T (.agg [s1,s2])∧ws.map (·.2)=A.2∧(∀ k,s1 = .own k→s2 ≠ .own k)∧(IsRow H M s1 4 (A.1.map Bg.encT)∧IsRow H M s2 2 (ws.map encV)) ∧ ∀ w ∈ ws,RowM M w.1 3 (w.2.2.map encI3)
def StKO (M0:Mem) (T:SV→SV) (A:St):RP:=fun r H M=>∃ (s1 s2:SV) (ws:List WV),r=T (.agg [s1,s2])∧ws.map (·.2)=A.2∧(∀ k,s1 = .own k→s2 ≠ .own k)∧(IsRowF M0 H M s1 4 (A.1.map Bg.encT)∧IsRowF M0 H M s2 2 (ws.map encV))∧(∀ w ∈ ws,RowF M w.1 3 (w.2.2.map encI3)∧freshB M0 w.1)∧(known s1++known s2++ws.map (·.1)).Pairwise apartB
section
variable {E:Env} {σ:Sig} {H:HS} {M:Mem} {a:Act} {w:World} {ν:Nat→Value} {K:KP} {P:Program} {f:FuncId} {l:List SV}
theorem IsRow_settle {E:Env} {H:HS} {M:Mem} {w:World} {ν:Nat→Value} {s:SV} {sz:Nat} {es:List (List Value)} (hh:Heap E ν H M w) (h:IsRow H M s sz es) :
  ∃ x M' H',s.val ν=x∧M.le M'∧RowM M' x sz es∧Heap E ν H' M' w ∧ ∀ (k:Nat) (p:Nat×List (List Value)),s ≠ .own k→hget H k=some (.row p.1 p.2)→hget H' k=some (.row p.1 p.2):=by
 cases s with
 | v x=>exact ⟨x,M,H,rfl,Mem.le.refl M,h,hh,fun _ _ _ h=>h⟩
 | own k=>
   obtain ⟨M',h1,h2,h3⟩:=pub_heap hh h
   exact ⟨_,M',_,rfl,h1,h2,h3,fun j p hj hp=>hget_hpub (p:=.row p.1 p.2) (fun e=>hj (by rw [e])) hp⟩
 | _=>exact h.elim
theorem Meets.settleM {T:SV→SV} {A:St} (hT:Ctx T) (h:Meets P f l M (StO T A)):Meets P f l M (StM T A):=by
 refine ⟨h.1,fun w hw=>(h.2 w hw).mono ?_⟩
 rintro e w' ⟨s,H',M',ν',rfl,hh,s1,s2,ws,rfl,h1,h2,⟨h3,h4⟩,h5⟩
 obtain ⟨x1,M1,H1,e1,l1,r1,g1,k1⟩:=IsRow_settle hh h3
 have h4':IsRow H1 M1 s2 2 (ws.map encV):=by
  cases s2 with
  | v x=>exact RowM.le h4 l1
  | own k=>exact k1 k (2,_) (fun e=>h2 k e rfl) h4
  | _=>exact h4.elim
 obtain ⟨x2,M2,H2,e2,l2,r2,g2,_⟩:=IsRow_settle g1 h4'
 refine ⟨T (stV x1 x2),H2,M2,ν',?_,g2,x1,x2,ws,rfl,h1,r1.le l2,r2,fun w hw=>(h5 w hw).le (l1.trans l2)⟩
 rw [hT (.agg [s1,s2]) (stV x1 x2) ν' ν' (by simp only [stV,SV.val,SV.vals,e1,e2])]
theorem IsRowF_settle {E:Env} {H:HS} {M:Mem} {w:World} {ν:Nat→Value} {s:SV} {sz:Nat} {es:List (List Value)} (hh:Heap E ν H M w) (h:IsRowF E.M0 H M s sz es) :
  ∃ x M' H',s.val ν=x∧M.le M'∧RowF M' x sz es∧freshB E.M0 x∧(known s=[x]∨(known s=[]∧freshB M x))∧Heap E ν H' M' w ∧ ∀ (k:Nat) (p:Nat×List (List Value)),s ≠ .own k→hget H k=some (.row p.1 p.2)→hget H' k=some (.row p.1 p.2):=by
 cases s with
 | v x=>exact ⟨x,M,H,rfl,Mem.le.refl M,h.1,h.2,.inl rfl,hh,fun _ _ _ h=>h⟩
 | own k=>
   obtain ⟨M',h1,h2,h3,h4⟩:=pub_heapF hh h
   exact ⟨_,M',_,rfl,h1,h2,h3.of_le hh.le0,.inr ⟨rfl,h3⟩,h4,fun j p hj hp=>hget_hpub (p:=.row p.1 p.2) (fun e=>hj (by rw [e])) hp⟩
 | _=>exact h.elim
theorem Meets.settleF {T:SV→SV} {A:St} (hT:Ctx T) (h:Meets P f l M (StKO M T A)):Meets P f l M (StK M T A):=by
 refine ⟨h.1,fun w hw=>(h.2 w hw).mono ?_⟩
 rintro e w' ⟨s,H',M',ν',rfl,hh,s1,s2,ws,rfl,h1,h2,⟨h3,h4⟩,h5,h6⟩
 obtain ⟨x1,M1,H1,e1,l1,r1,f1,c1,g1,k1⟩:=IsRowF_settle hh h3
 have h4':IsRowF M H1 M1 s2 2 (ws.map encV):=by
  cases s2 with
  | v x=>exact ⟨RowF.le h4.1 l1,h4.2⟩
  | own k=>exact k1 k (2,_) (fun e=>h2 k e rfl) h4
  | _=>exact h4.elim
 obtain ⟨x2,M2,H2,e2,l2,r2,f2,c2,g2,_⟩:=IsRowF_settle g1 h4'
 refine ⟨T (stV x1 x2),H2,M2,ν',?_,g2,x1,x2,ws,rfl,h1,?_⟩
 · rw [hT (.agg [s1,s2]) (stV x1 x2) ν' ν' (by simp only [stV,SV.val,SV.vals,e1,e2])]
 have hk1 : ∀ y ∈ known s1,y=x1:=fun y hy=>by
  rcases c1 with c1 | ⟨c1,_⟩ <;> rw [c1] at hy
  · exact List.mem_singleton.1 hy
  · cases hy
 have hws : ∀ y ∈ ws.map (·.1),∃ w ∈ ws,y=w.1:=fun y hy=>by
  obtain ⟨w,hw,rfl⟩:=List.mem_map.1 hy
  exact ⟨w,hw,rfl⟩
 rw [List.append_assoc,List.pairwise_append,List.pairwise_append] at h6
 obtain ⟨_,⟨_,p3,p2⟩,p1⟩:=h6
 refine ⟨r1.le l2,r2,fun w hw=>(h5 w hw).1.le (l1.trans l2),fun y hy=>?_,?_⟩
 · simp only [List.mem_cons] at hy
   rcases hy with rfl | rfl | hy
   · exact f1
   · exact f2
   · obtain ⟨w,hw,rfl⟩:=hws y hy
     exact (h5 w hw).2
 · have q2 : ∀ y ∈ ws.map (·.1),apartB x2 y:=fun y hy=>by
    obtain ⟨w,hw,rfl⟩:=hws y hy
    rcases c2 with c2 | ⟨_,c2⟩
    · exact p2 x2 (by rw [c2]; simp) w.1 hy
    · exact RowF.apart ((h5 w hw).1.le l1) c2
   have q1 : ∀ y ∈ ws.map (·.1),apartB x1 y:=fun y hy=>by
    obtain ⟨w,hw,rfl⟩:=hws y hy
    rcases c1 with c1 | ⟨_,c1⟩
    · exact p1 x1 (by rw [c1]; simp) w.1 (by simp [hy])
    · exact RowF.apart (h5 w hw).1 c1
   have q0:apartB x1 x2:=by
    rcases c2 with c2 | ⟨_,c2⟩
    · rcases c1 with c1 | ⟨_,c1⟩
      · exact p1 x1 (by rw [c1]; simp) x2 (by rw [c2]; simp)
      · have:IsRowF M H' M' s2 2 (ws.map encV):=h4
        cases s2 with
        | v y=>
          simp only [known,List.cons.injEq,and_true] at c2
          subst c2
          exact RowF.apart h4.1 c1
        | _=>cases c2
    · exact (RowF.apart r1 c2).symm
   refine List.pairwise_cons.2 ⟨fun y hy=>?_,List.pairwise_cons.2 ⟨q2,p3⟩⟩
   rcases List.mem_cons.1 hy with rfl | hy
   · exact q0
   · exact q1 y hy
/-- calls that hand back a state -/
theorem CallK.stM {d:Nat} {T:SV→SV} {A:St} (hT : ∀ b v,(T (stV b v)).conc=true) (hl:SV.concs l=true) (hd:decide (d < E.N)=true) (h:Meets E.P f l M (StM T A))
  (hk : ∀ b v ws M',M.le M'→ws.map (·.2)=A.2→RowM M' b 4 (A.1.map Bg.encT)→VolsM M' v ws→K ((d,true,T (stV b v)) :: σ) H M'):CallK E f l d K σ H M:=by
 refine CallK.res (R:=fun r M'=>∃ (b v:Value) (ws:List WV),r=T (stV b v)∧ws.map (·.2)=A.2∧RowM M' b 4 (A.1.map Bg.encT)∧VolsM M' v ws) hl hd h (fun r M'=>?_) (fun r M' hM=>?_)
 · rintro ⟨b,v,ws,rfl,_⟩
   exact hT b v
 · rintro ⟨b,v,ws,rfl,h1,h2,h3⟩
   exact hk b v ws M' hM h1 h2 h3
theorem CallK.stF {d:Nat} {T:SV→SV} {A:St} (hT : ∀ b v,(T (stV b v)).conc=true) (hl:SV.concs l=true) (hd:decide (d < E.N)=true) (h:Meets E.P f l M (StK M T A))
  (hk : ∀ b v ws M',M.le M'→ws.map (·.2)=A.2→StF M M' b v A.1 ws→K ((d,true,T (stV b v)) :: σ) H M'):CallK E f l d K σ H M:=by
 refine CallK.res (R:=fun r M'=>∃ (b v:Value) (ws:List WV),r=T (stV b v)∧ws.map (·.2)=A.2∧StF M M' b v A.1 ws) hl hd h (fun r M'=>?_) (fun r M' hM=>?_)
 · rintro ⟨b,v,ws,rfl,_⟩
   exact hT b v
 · rintro ⟨b,v,ws,rfl,h1,h2⟩
   exact hk b v ws M' hM h1 h2
/-- a call whose row is known at once, and new -/
theorem CallK.rowF {d sz:Nat} {T:SV→SV} {es:List (List Value)} (hT:Ctx T) (hl:SV.concs l=true) (hd:decide (d < E.N)=true) (h:Meets E.P f l M (OwnR T sz es))
  (hk : ∀ v M',M.le M'→RowF M' v sz es→freshB M v→K ((d,true,T (.v v)) :: σ) H M'):CallK E f l d K σ H M:=by
 intro ν a w hs hh
 refine .inl ⟨h.1,?_⟩
 rw [SV.concs_vals (ν:=ν0) (ν':=ν) l hl]
 refine (h.2 w hh.mem).mono ?_
 rintro e w' ⟨s,H',M',ν',rfl,hh',k,rfl,hR⟩
 obtain ⟨M'',h1,h2,h3,h4⟩:=pub_heapF hh' hR
 exact ⟨_,rfl,_,_,_,⟨ν,hs.put (of_decide_eq_true hd) (by rw [cond_true]; exact hT _ (.v (ν' k)) _ _ rfl),hh.call h4⟩,hk (ν' k) M'' h4.le0 h2 (h3.of_le hh'.le0)⟩
end
theorem StK.weak {M0 M:Mem} {T:SV→SV} {A:St} {r:SV} {H:HS} (h:StK M0 T A r H M):StM T A r H M:=by
 obtain ⟨b,v,ws,h1,h2,h3⟩:=h
 exact ⟨b,v,ws,h1,h2,h3.bag.row,h3.volsM⟩
theorem zero_stK (M0 M:Mem):StF M0 M (.slice none 0 0) (.slice none 0 0) [] []:=by
 refine ⟨⟨fun e he=>(by cases he),.inl ⟨rfl,rfl⟩⟩,⟨fun e he=>(by cases he),.inl ⟨rfl,rfl⟩⟩,fun w hw=>(by cases hw),fun x hx c hc=>?_,List.pairwise_cons.2 ⟨fun x hx c hc=>(by cases hc),List.pairwise_cons.2 ⟨fun x hx c hc=>(by cases hc),.nil⟩⟩⟩
 simp only [List.map_nil,List.mem_cons,List.not_mem_nil,or_false] at hx
 rcases hx with rfl | rfl <;> cases hc
theorem zero_volsM (M:Mem):RowM M (.slice none 0 0) 4 (([]:List It).map Bg.encT)∧VolsM M (.slice none 0 0) []:=⟨RowM.nil M 4,RowM.nil M 2,fun w hw=>(by cases hw)⟩
end Go.X.Vo

namespace Go.X
open Go Go.RowKit
section
variable {E:Env} {σ:Sig} {H:HS} {M:Mem} {a:Act} {w:World} {ν:Nat→Value} {K:KP} {o:Oper}

theorem flat_len {α:Type} {enc:α→List Value} {k:Nat} (hk : ∀ x,(enc x).length=k) (l:List α):((l.map enc).flatten).length=l.length * k:=by
 rw [List.length_flatten,List.map_map]
 have:(List.length ∘ enc)=fun _=>k:=funext fun x=>hk x
 rw [this,List.map_const',List.sum_replicate_nat]
theorem Meets.closeR {P:Program} {f:FuncId} {args:List SV} {T:SV→SV} {sz:Nat} {es:List (List Value)} (hT:Ctx T) (hes : ∀ e ∈ es,e.length=sz ∧ ∀ c ∈ e,c.oneCell'=true)
  (h:Meets P f args M (fun r H' M'=>(r=T (.v (.slice none 0 0))∧es=[])∨OwnR T sz es r H' M'∨OpenR T sz es r H' M')):Meets P f args M (OwnR T sz es):=by
 refine ⟨h.1,fun w hw=>(h.2 w hw).mono ?_⟩
 rintro e w' ⟨s,H',M',ν',rfl,hh',hcs⟩
 rcases (show OpenR T sz es s H' M'∨(s=T (.v (.slice none 0 0))∧es=[])∨OwnR T sz es s H' M' from hcs.elim (fun h=>.inr (.inl h)) (fun h=>h.elim (fun h=>.inr (.inr h)) .inl)) with ⟨b,k,cap,sp,rfl,hk,h1,h2,h3⟩ | ⟨rfl,rfl⟩ | hO
 · obtain ⟨⟨b',T',e1,e2⟩,e3⟩:=hh'.holds _ (hget_mem hk)
   have e4:=e3 _ rfl
   simp only at e1 e4
   rw [e4] at e1
   cases e1
   rw [opn_vals] at e2
   refine ⟨T (.own 0),[(0,.row sz es)],M',fun _=>.slice (some ⟨b,0,none⟩) es.length cap,by rw [hT (.v _) (.own 0) ν' (fun _=>.slice (some ⟨b,0,none⟩) es.length cap) rfl],⟨fun p hp=>?_,by simp [fp,blk?],fun c hc=>?_,hh'.mem,hh'.below,hh'.le0,hh'.fresh,fun _=>rfl⟩,0,rfl,rfl⟩
   · simp only [List.mem_singleton] at hp
     subst hp
     exact ⟨hes,.inr ⟨b,cap,T',sp,rfl,h1,h2,h3,e2⟩⟩
   · simp only [fp,List.filterMap_cons,List.filterMap_nil,blk?,List.mem_singleton] at hc
     subst hc
     exact hh'.apart c (List.mem_filterMap.2 ⟨_,hget_mem hk,by rw [e4]; rfl⟩)
 · refine ⟨T (.own 0),[(0,.row sz [])],M',fun _=>.slice none 0 0,by rw [hT (.v _) (.own 0) ν' (fun _=>.slice none 0 0) rfl],⟨fun p hp=>?_,by simp [fp,blk?],fun c hc=>by simp [fp,blk?] at hc,hh'.mem,hh'.below,hh'.le0,hh'.fresh,fun _=>rfl⟩,0,rfl,rfl⟩
   simp only [List.mem_singleton] at hp
   subst hp
   exact ⟨hes,.inl ⟨rfl,rfl⟩⟩
 · exact ⟨s,H',M',ν',rfl,hh',hO⟩
end
end Go.X

namespace Go.X.Vo
open Go Go.X Go.RowKit Go.X.Bg Go.X.Nm Go.X.Bp Go.X.Sb

theorem insertV (es:List (List Value)) (x:List Value) (i:Nat) (M:Mem) (hin:i≤es.length) (hb:es.length≤1000000) (hes : ∀ e ∈ es,e.length=2 ∧ ∀ c ∈ e,c.oneCell'=true) (hx:x.length=2 ∧ ∀ c ∈ x,c.oneCell'=true) :
  MeetsH Proofs.Tryz.prog 326 [.own 8000,.v (.int .i64 i),.own 8008] [(8000,.row 2 es),(8008,.row 2 [x])] M (OwnR (fun s=>s) 2 (es.take i++x :: es.drop i)):=by
 refine MeetsH.closeR Ctx.id (fun e he=>?_) ?_
 · rcases List.mem_append.1 he with he | he
   · exact hes e (List.mem_of_mem_take he)
   · rcases List.mem_cons.1 he with rfl | he
     · exact hx
     · exact hes e (List.mem_of_mem_drop he)
 refine MeetsH.of_bodyS Proofs.Tryz.func326 rfl (by kernel_rfl) fun w M0=>?_
 refine CodeK.openRow (k:=8000) 1002 rfl (fun _=>rfl) (fun he=>?_) (fun b cap sp h1 h2=>?_)
 · subst he
   have e1:i=0:=by simpa using hin
   subst e1
   refine CodeK.ofW (live:=[0,1,2,6,7,8,9,16,22,31,68]) ?_
   simp only [Proofs.Tryz.f326,zz,zq,↓reduceIte,zx,zj,zy,zk,zw,zb,reduceCtorEq,zd,zf,zp,zm,zh,zu,zt,zn,zc,zl,za,ze,zo,zg,sp1,sp2,sp3,nzs,lenV,capV,isSl]
   exact .inr ⟨200,rfl,rfl⟩
 refine CodeK.ofW (live:=[0,1,2,6,7,8,9,16,22,31,68]) ?_
 have hm:(cap:Int)≤9223372036854775807:=by have:=h1.2.1; simp only [maxLen] at this; omega
 by_cases hn:i=es.length
 · have c1:((i:Int)=(es.length:Int))=True:=eq_true (by omega)
   simp only [Proofs.Tryz.f326,zz,zq,↓reduceIte,zx,zj,zy,zk,zw,zb,reduceCtorEq,zd,zf,zp,zm,zh,zu,zt,zn,zc,zl,za,ze,zo,zg,sp1,sp2,sp3,nzs,lenV,capV,isSl,c1]
   refine ⟨⟨⟨by omega,by omega⟩,by omega⟩,show OpK _ _ _ _ _ _ from OpK.reown (es:=es) (sp:=sp) (cap:=cap) (b:=b) 23 8016 1003 rfl rfl rfl h1 h2 rfl (OpK.step ?_)⟩
   simp only [zz,zq,↓reduceIte,zx,zj,zy,zk,zw,zb,reduceCtorEq,zd,zf,zp,zm,zh,zu,zt,zn,zc,zl,za,ze,zo,zg,sp1,sp2,sp3,nzs]
   refine ⟨⟨by omega,by omega⟩,.inr ⟨200,rfl,?_⟩⟩
   simp [hn]
 have c1:((i:Int)=(es.length:Int))=False:=eq_false (by omega)
 have hlen : ∀ e ∈ es,e.length=2:=fun e he=>(hes e he).1
 have hfl:=flatten_len hlen
 have hft:=flatten_len (fun e he=>hlen e (List.mem_of_mem_take (i:=i) he))
 have hfd:=flatten_len (fun e he=>hlen e (List.mem_of_mem_drop (i:=i) he))
 rw [List.length_take,Nat.min_eq_left hin] at hft
 rw [List.length_drop] at hfd
 have hol : ∀ u ∈ (es.drop i).flatten,u.oneCell'=true:=fun u hu=>by
  obtain ⟨e,he,hu⟩:=List.mem_flatten.1 hu
  exact (hes e (List.mem_of_mem_drop he)).2 u hu
 have htl:es.flatten.take (i * 2)=(es.take i).flatten:=flat_take hlen i
 have hdl:es.flatten.drop (i * 2)=(es.drop i).flatten:=flat_drop hlen i
 by_cases hr:es.length+1 > cap
 · have c2:((cap:Int) < (es.length:Int)+1)=True:=eq_true (by omega)
   simp only [Proofs.Tryz.f326,zz,zq,↓reduceIte,zx,zj,zy,zk,zw,zb,reduceCtorEq,zd,zf,zp,zm,zh,zu,zt,zn,zc,zl,za,ze,zo,zg,sp1,sp2,sp3,nzs,lenV,capV,isSl,c1,inK,lo,hi]
   refine ⟨⟨⟨by omega,by omega⟩,by omega⟩,⟨by omega,by omega⟩,⟨rfl,OpK.cap (e:=68) rfl rfl rfl (by kernel_rfl) rfl rfl ?_⟩⟩
   simp only [zz,zq,↓reduceIte,zx,zj,zy,zk,zw,zb,reduceCtorEq,zd,zf,zp,zm,zh,zu,zt,zn,zc,zl,za,ze,zo,zg,sp1,sp2,sp3,nzs,lenV,capV,isSl,c1,c2,inK,lo,hi,subV_open0]
   have em:(es.length:Int)+1 - (i:Int)=((es.length+1 - i:Nat):Int):=by omega
   simp only [em]
   refine ⟨⟨by omega,by omega⟩,⟨by omega,by omega⟩,⟨by omega,by omega⟩,show OpK _ _ _ _ _ _ from OpK.appMake (base:=some ⟨b,0,none⟩) (n:=i) (m:=es.length+1 - i) (c:=cap) (olds:=(es.take i).flatten) rfl rfl rfl sl28 (kn:=.i64) (by kernel_rfl) rfl rfl
    (.inr ⟨⟨b,0,none⟩,rfl,hft,Reads.sub (k:=8016) (cs:=es.flatten++sp) rfl fun j u hj=>get_of_take htl.symm hj⟩) (by omega) (by decide) rfl (by omega) (by omega) (by simp [hdel,hNoKey,poNoKey,opn_noKeys]) fun b2 cap2 tp2 q1 q2 q3=>?_⟩
   have eim:i+(es.length+1 - i)=es.length+1:=by omega
   rw [eim] at q1 q3
   have hz:(List.replicate (es.length+1 - i) [Value.string ⟨([]:List UInt8).toArray⟩,Value.slice none 0 0]).flatten.length=(es.length+1 - i) * 2:=by simp
   have d1:(cap2=i)=False:=eq_false (by omega)
   simp only [zz,zq,↓reduceIte,zx,zj,zy,zk,zw,zb,reduceCtorEq,zd,zf,zp,zm,zh,zu,zt,zn,zc,zl,za,ze,zo,zg,sp1,sp2,sp3,nzs,lenV,capV,isSl,inK,lo,hi,subV_open b2 (es.length+1) cap2 2 i,eim,d1]
   refine ⟨⟨by omega,by omega⟩,⟨rfl,OpK.openRow (k:=8008) 1003 rfl (fun _=>by simp [hpub,poPub,hNoKey,poNoKey,opn_noKeys,opn_pubs]) (fun h=>by cases h) fun b3 cap3 tp3 r1 r2=>?_⟩⟩
   simp only [zz,zq,↓reduceIte,zx,zj,zy,zk,zw,zb,reduceCtorEq,zd,zf,zp,zm,zh,zu,zt,zn,zc,zl,za,ze,zo,zg,sp1,sp2,sp3,nzs,so0]
   refine OpK.copyIn (k:=320) (cs:=(es.take i).flatten++(List.replicate (es.length+1 - i) [Value.string ⟨([]:List UInt8).toArray⟩,Value.slice none 0 0]).flatten++tp2) (news:=x) (m:=1) (ad:=⟨b3,0,none⟩) rfl rfl sl28 rfl rfl rfl ?_ (Reads.sub (k:=8024) (cs:=[x].flatten++tp3) rfl fun j u hj=>?_) hx.2 ?_ ?_
   · rw [hx.1]
     have:Nat.min 1 (es.length+1 - i)=1:=Nat.min_eq_left (by omega)
     rw [this]
   · rw [Nat.zero_add,List.getElem?_append_left (by have:=(List.getElem?_eq_some_iff.1 hj).1; simpa using this)]
     simpa using hj
   · rw [List.length_append,List.length_append,hft,hz,hx.1]
     omega
   rw [← hft,List.append_assoc,putV_keep]
   generalize hR:((List.replicate (es.length+1 - i) [Value.string ⟨([]:List UInt8).toArray⟩,Value.slice none 0 0]).flatten++tp2).drop x.length=R
   have hRl:R.length=(cap2 - i - 1) * 2:=by rw [← hR,List.length_drop,List.length_append,hz,hx.1,q3]; omega
   simp only [putD,zz,zq,↓reduceIte,zx,zj,zy,zk,zw,zb,reduceCtorEq,zd,zf,zp,zm,zh,zu,zt,zn,zc,zl,za,ze,zo,zg,sp1,sp2,sp3,nzs,so0]
   refine DrawK.tail 8 (by kernel_rfl) (by kernel_rfl) ?_
   have d2:(cap2=i+1)=False:=eq_false (by omega)
   have d3:(cap=i)=False:=eq_false (by omega)
   have e4:((i:Int)+1).toNat=i+1:=by omega
   simp only [zz,zq,↓reduceIte,zx,zj,zy,zk,zw,zb,reduceCtorEq,zd,zf,zp,zm,zh,zu,zt,zn,zc,zl,za,ze,zo,zg,sp1,sp2,sp3,nzs,lenV,capV,isSl,inK,lo,hi,e4,subV_open b2 (es.length+1) cap2 2 (i+1),subV_open b es.length cap 2 i,d2,d3]
   refine ⟨⟨by omega,by omega⟩,⟨⟨by omega,by omega⟩,by omega⟩,⟨⟨by omega,by omega⟩,by omega⟩,⟨rfl,OpK.copyIn (k:=320) (cs:=(es.take i).flatten++(x++R)) (news:=(es.drop i).flatten) (m:=es.length - i) (ad:=⟨b,i * 2,none⟩) rfl rfl sl28 rfl rfl rfl ?_ (Reads.sub (k:=8016) (cs:=es.flatten++sp) rfl fun j u hj=>get_of_drop hdl.symm hj) hol ?_ ?_⟩⟩
   · have:Nat.min (es.length - i) (es.length+1 - (i+1))=es.length - i:=Nat.min_eq_left (by omega)
     rw [this,hfd]
   · rw [List.length_append,List.length_append,hft,hfd,hRl,hx.1]
     omega
   have eo:(i+1) * 2=((es.take i).flatten++x).length:=by rw [List.length_append,hft,hx.1]; omega
   rw [eo,← List.append_assoc,putV_keep]
   have ef:(es.take i).flatten++x++((es.drop i).flatten++R.drop (es.drop i).flatten.length)=(es.take i++x :: es.drop i).flatten++R.drop (es.drop i).flatten.length:=by simp
   rw [ef]
   have hl2:(es.take i++x :: es.drop i).length=es.length+1:=by simp; omega
   simp only [putD,zz,zq,↓reduceIte,zx,zj,zy,zk,zw,zb,reduceCtorEq,zd,zf,zp,zm,zh,zu,zt,zn,zc,zl,za,ze,zo,zg,sp1,sp2,sp3,nzs,so0]
   refine .inl ⟨b2,320,cap2,R.drop (es.drop i).flatten.length,by rw [hl2],rfl,by omega,q2,?_⟩
   rw [List.length_drop,hRl,hfd,hl2]
   omega
 · have c2:((cap:Int) < (es.length:Int)+1)=False:=eq_false (by omega)
   have e3:((es.length:Int)+1).toNat=es.length+1:=by omega
   have e4:((i:Int)+1).toNat=i+1:=by omega
   have d1:(cap=i+1)=False:=eq_false (by omega)
   simp only [Proofs.Tryz.f326,zz,zq,↓reduceIte,zx,zj,zy,zk,zw,zb,reduceCtorEq,zd,zf,zp,zm,zh,zu,zt,zn,zc,zl,za,ze,zo,zg,sp1,sp2,sp3,nzs,lenV,capV,isSl,c1,inK,lo,hi]
   refine ⟨⟨⟨by omega,by omega⟩,by omega⟩,⟨by omega,by omega⟩,⟨rfl,OpK.cap (e:=68) rfl rfl rfl (by kernel_rfl) rfl rfl ?_⟩⟩
   simp only [zz,zq,↓reduceIte,zx,zj,zy,zk,zw,zb,reduceCtorEq,zd,zf,zp,zm,zh,zu,zt,zn,zc,zl,za,ze,zo,zg,sp1,sp2,sp3,nzs,lenV,capV,isSl,c1,c2,inK,lo,hi,subV_open0,e3,e4,subV_open b (es.length+1) cap 2 (i+1),d1]
   refine ⟨⟨by omega,by omega⟩,⟨by omega,by omega⟩,⟨by omega,by omega⟩,⟨⟨by omega,by omega⟩,by omega⟩,CallK.openRow (k:=8008) 1003 rfl (fun _=>by simp [hpub,poPub,hNoKey,poNoKey,opn_noKeys,opn_pubs]) (fun h=>by cases h) (fun b3 cap3 tp3 r1 r2=>?_) (fun _=>rfl)⟩
   simp only [zz,zq,↓reduceIte,zx,zj,zy,zk,zw,zb,reduceCtorEq,zd,zf,zp,zm,zh,zu,zt,zn,zc,zl,za,ze,zo,zg,sp1,sp2,sp3,nzs,so0]
   refine CallK.overlaps (k:=8024) (k2:=8016) (cs:=[x].flatten++tp3) (cs2:=es.flatten++sp) (tS:=28) (tR:=4) (e:=68) (sz:=2) rfl (by kernel_rfl) Proofs.Tryz.sizeOf68 (fun w x y v h=>by rw [run_callFunc_extern Proofs.Tryz.func341 (by kernel_rfl) (by kernel_rfl) (by kernel_rfl) (e:=Extern.SlicesOverlaps.overlaps #[28,28] #[4]) (by kernel_rfl),h]; rfl) rfl rfl rfl ?_ ?_
   · rw [List.length_append,hfl]; omega
   simp only [zz,zq,↓reduceIte,zx,zj,zy,zk,zw,zb,reduceCtorEq,zd,zf,zp,zm,zh,zu,zt,zn,zc,zl,za,ze,zo,zg,sp1,sp2,sp3,nzs,so0]
   refine DrawK.tail 8 (by kernel_rfl) (by kernel_rfl) ?_
   have d3:(cap=i)=False:=eq_false (by omega)
   simp only [zz,zq,↓reduceIte,zx,zj,zy,zk,zw,zb,reduceCtorEq,zd,zf,zp,zm,zh,zu,zt,zn,zc,zl,za,ze,zo,zg,sp1,sp2,sp3,nzs,lenV,capV,isSl,inK,lo,hi,e4,subV_open b (es.length+1) cap 2 (i+1),subV_open b (es.length+1) cap 2 i,d1,d3]
   refine ⟨⟨by omega,by omega⟩,⟨⟨by omega,by omega⟩,by omega⟩,⟨⟨by omega,by omega⟩,by omega⟩,⟨rfl,OpK.copyIn (k:=8016) (cs:=es.flatten++sp) (news:=(es.drop i).flatten) (m:=es.length+1 - i) (ad:=⟨b,i * 2,none⟩) rfl rfl sl28 rfl rfl rfl ?_ (Reads.sub (k:=8016) (cs:=es.flatten++sp) rfl fun j u hj=>get_of_drop hdl.symm hj) hol ?_ ?_⟩⟩
   · have:Nat.min (es.length+1 - i) (es.length+1 - (i+1))=es.length - i:=by
      rw [show es.length+1 - (i+1)=es.length - i by omega]
      exact Nat.min_eq_right (by omega)
     rw [this,hfd]
   · rw [List.length_append,hfl,hfd]
     omega
   simp only [putD,zz,zq,↓reduceIte,zx,zj,zy,zk,zw,zb,reduceCtorEq,zd,zf,zp,zm,zh,zu,zt,zn,zc,zl,za,ze,zo,zg,sp1,sp2,sp3,nzs,so0,lenV,capV,isSl,subV_open b (es.length+1) cap 2 i,d3]
   have hcl:(putV (es.flatten++sp) ((i+1) * 2) (es.drop i).flatten).length=(es.flatten++sp).length:=by
    unfold putV
    rw [List.length_append,List.length_append,List.length_take,List.length_drop,List.length_append,hfl,hfd]
    omega
   refine ⟨⟨by omega,by omega⟩,⟨rfl,OpK.copyIn (k:=8016) (cs:=putV (es.flatten++sp) ((i+1) * 2) (es.drop i).flatten) (news:=x) (m:=1) (ad:=⟨b3,0,none⟩) rfl rfl sl28 rfl rfl rfl ?_ (Reads.sub (k:=8024) (cs:=[x].flatten++tp3) rfl fun j u hj=>?_) hx.2 ?_ ?_⟩⟩
   · rw [hx.1]
     have:Nat.min 1 (es.length+1 - i)=1:=Nat.min_eq_left (by omega)
     rw [this]
   · rw [Nat.zero_add,List.getElem?_append_left (by have:=(List.getElem?_eq_some_iff.1 hj).1; simpa using this)]
     simpa using hj
   · rw [hcl,List.length_append,hfl,hx.1]
     omega
   have hps:=putV_shift (es.flatten++sp) (es.drop i).flatten x (i * 2) (by rw [List.length_append,hfl,hx.1]; omega)
   rw [hx.1,show i * 2+2=(i+1) * 2 by omega,List.take_append_of_le_length (by omega),htl] at hps
   rw [hps]
   have ef:(es.take i).flatten++x++((es.drop i).flatten++(es.flatten++sp).drop ((i+1) * 2+(es.drop i).flatten.length))=(es.take i++x :: es.drop i).flatten++(es.flatten++sp).drop ((i+1) * 2+(es.drop i).flatten.length):=by simp
   rw [ef]
   have hl2:(es.take i++x :: es.drop i).length=es.length+1:=by simp; omega
   simp only [putD,zz,zq,↓reduceIte,zx,zj,zy,zk,zw,zb,reduceCtorEq,zd,zf,zp,zm,zh,zu,zt,zn,zc,zl,za,ze,zo,zg,sp1,sp2,sp3,nzs,so0]
   refine .inl ⟨b,8016,cap,_,by rw [hl2],rfl,by omega,h1.2.1,?_⟩
   rw [List.length_drop,List.length_append,hfl,hfd,hl2,h1.2.2]
   omega

theorem bsV {α:Type} (q0 q1:α→Value) (cf:α→Int) (f:Nat) (t0 t1 y:Value) (l:List α) (M:Mem) (hy:RowM M y 2 (l.map fun x=>[q0 x,q1 x])) (hb:l.length≤1000000)
  (ht:t0.oneCell'=true∧t1.oneCell'=true)
  (hf : ∀ x ∈ l,Meets Proofs.Tryz.prog f [.agg [.v (q0 x),.v (q1 x)],.agg [.v t0,.v t1]] M fun r _ _=>r = .v (.int .i64 (cf x)))
  (hmono : ∀ (i j:Nat) (x y:α),i≤j→l[i]? = some x→l[j]? = some y→cf y < 0→cf x < 0) :
  Meets Proofs.Tryz.prog 323 [.v y,.agg [.v t0,.v t1],.fn f []] M fun r _ _=>r = .tup [.v (.int .i64 (bk cf l)),.v (.bool (bf cf l))]:=by
 refine Meets.of_body [0,1,2,4,6,7,8,9,10,11,17,31] Proofs.Tryz.func323 rfl (by kernel_rfl) rfl fun w=>?_
 simp only [Proofs.Tryz.f323,zz,zq,↓reduceIte,zx,zj,zy,zk,zw,zb,reduceCtorEq,zd,zf,zp,zm,zh,zu,zt,zn,zc,zl,za,ze,zo,zg,nzs,hy.len,hy.sl,List.length_map]
 refine LoopK.go (X:=Nat×Nat) (fun x=>([(0,true,.v y),(2,true,.fn f []),(4,true,.ptr 32 0 0 0),(8,true,.v (.int .i64 l.length)),(9,true,.v (.int .i64 x.1)),(10,true,.v (.int .i64 x.2))],[(32,.box [.v t0,.v t1] none)],M))
  (fun x=>(x.1≤x.2∧x.2≤l.length)∧(∀ q x',q < x.1→l[q]? = some x'→cf x' < 0) ∧ ∀ q x',x.2≤q→l[q]? = some x'→0≤cf x') (fun x=>x.2 - x.1) (0,l.length)
  ⟨⟨by simp,by simp⟩,fun q x' hq=>by simp at hq,fun q x' hq hx=>by rw [List.getElem?_eq_none (by simpa using hq)] at hx; cases hx⟩ (Ent.of ?_) ?_
 · simp only [zq,↓reduceIte,zx,zj,zy,zk,zw,zb,reduceCtorEq,zd,zf,zp,zm,zh,zu,zt,zn,zc,zl,za,ze,zo,zg,za]
 rintro ⟨i,j⟩ ⟨⟨h1,h2⟩,h3,h4⟩
 simp only at h1 h2 h3 h4
 by_cases hij:i < j
 · have c1:((i:Int) < (j:Int))=True:=eq_true (by omega)
   have w1:IntKind.wrap .u64 ((i:Int)+(j:Int))=(i:Int)+(j:Int):=wrap_in ⟨by simp only [lo]; omega,by simp only [hi]; omega⟩
   have w2:IntKind.wrap .i64 (((i:Int)+(j:Int)) / 2 ^ 1)=(((i+j) / 2:Nat):Int):=by
    rw [show (2:Int) ^ 1=2 from rfl,wrap_in]
    · omega
    · exact ⟨by simp only [lo]; omega,by simp only [hi]; omega⟩
   have hh:(i+j) / 2 < l.length:=by omega
   obtain ⟨x,hx,_⟩:=l_drop_at (l:=l) hh
   have g0:=hy.cell (i:=(i+j) / 2) (e:=[q0 x,q1 x]) (by rw [List.getElem?_map,hx]; rfl) (off:=0) (by omega)
   have g1:=hy.cell (i:=(i+j) / 2) (e:=[q0 x,q1 x]) (by rw [List.getElem?_map,hx]; rfl) (off:=1) (by omega)
   have i0:=hy.ix (i:=(((i+j) / 2:Nat):Int)) (by omega) (by rw [List.length_map]; omega)
   simp only [List.getD_cons_zero,List.getD_cons_succ] at g0 g1
   generalize hhd:(i+j) / 2=h at *
   simp only [zz,zq,↓reduceIte,zx,zj,zy,zk,zw,zb,reduceCtorEq,zd,zf,zp,zm,zh,zu,zt,zn,zc,zl,za,ze,zo,zg,nzs,c1,w1,w2,inK,lo,hi]
   refine ⟨by omega,by decide,DrawK.quiet (by kernel_rfl) (by kernel_rfl) ?_⟩
   simp only [zz,zq,↓reduceIte,zx,zj,zy,zk,zw,zb,reduceCtorEq,zd,zf,zp,zm,zh,zu,zt,zn,zc,zl,za,ze,zo,zg,nzs,i0,i0.2,g0.1,g0.2.1,g1.1,g1.2.1]
   refine ⟨_,⟨⟨rfl,rfl⟩,hf x (List.mem_of_getElem? hx)⟩,?_⟩
   by_cases hc:cf x < 0
   · have c2:(cf x < 0)=True:=eq_true hc
     simp only [zz,zq,↓reduceIte,zx,zj,zy,zk,zw,zb,reduceCtorEq,zd,zf,zp,zm,zh,zu,zt,zn,zc,zl,za,ze,zo,zg,nzs,c2,inK,lo,hi]
     refine ⟨by omega,(h+1,j),⟨⟨⟨by simp only; omega,h2⟩,fun q x' hq hx'=>hmono q h x' x (by simp only at hq; omega) hx' hx hc,h4⟩,by simp only; omega⟩,Ent.of ?_⟩
     simp only [zq,↓reduceIte,zx,zj,zy,zk,zw,zb,reduceCtorEq,zd,zf,zp,zm,zh,zu,zt,zn,zc,zl,za,ze,zo,zg,Int.natCast_add]
   · have c2:(cf x < 0)=False:=eq_false hc
     simp only [zz,zq,↓reduceIte,zx,zj,zy,zk,zw,zb,reduceCtorEq,zd,zf,zp,zm,zh,zu,zt,zn,zc,zl,za,ze,zo,zg,nzs,c2,inK,lo,hi]
     refine ⟨(i,h),⟨⟨⟨by simp only; omega,by simp only; omega⟩,h3,fun q x' hq hx'=>Int.not_lt.1 fun hc'=>hc (hmono h q x x' hq hx hx' hc')⟩,by simp only; omega⟩,Ent.of ?_⟩
     simp only [zq,↓reduceIte,zx,zj,zy,zk,zw,zb,reduceCtorEq,zd,zf,zp,zm,zh,zu,zt,zn,zc,zl,za,ze,zo,zg]
 · have c1:((i:Int) < (j:Int))=False:=eq_false (by omega)
   have ej:i=j:=by omega
   subst ej
   have hbk:bk cf l=i:=bk_eq cf l i h2 h3 (fun x hx=>Int.not_lt.2 (h4 i x (Nat.le_refl _) hx))
   simp only [zz,zq,↓reduceIte,zx,zj,zy,zk,zw,zb,reduceCtorEq,zd,zf,zp,zm,zh,zu,zt,zn,zc,zl,za,ze,zo,zg,nzs,c1]
   refine DrawK.quiet (by kernel_rfl) (by kernel_rfl) ?_
   by_cases hil:i < l.length
   · have c2:((i:Int) < (l.length:Int))=True:=eq_true (by omega)
     obtain ⟨x,hx,_⟩:=l_drop_at (l:=l) hil
     have g0:=hy.cell (i:=i) (e:=[q0 x,q1 x]) (by rw [List.getElem?_map,hx]; rfl) (off:=0) (by omega)
     have g1:=hy.cell (i:=i) (e:=[q0 x,q1 x]) (by rw [List.getElem?_map,hx]; rfl) (off:=1) (by omega)
     have i0:=hy.ix (i:=(i:Int)) (by omega) (by rw [List.length_map]; omega)
     simp only [List.getD_cons_zero,List.getD_cons_succ] at g0 g1
     have hbf:bf cf l=decide (cf x=0):=by simp only [bf,hbk,hx]
     simp only [zz,zq,↓reduceIte,zx,zj,zy,zk,zw,zb,reduceCtorEq,zd,zf,zp,zm,zh,zu,zt,zn,zc,zl,za,ze,zo,zg,nzs,c2,i0,i0.2,g0.1,g0.2.1,g1.1,g1.2.1]
     refine ⟨_,⟨⟨rfl,rfl⟩,hf x (List.mem_of_getElem? hx)⟩,?_⟩
     simp only [zz,zq,↓reduceIte,zx,zj,zy,zk,zw,zb,reduceCtorEq,zd,zf,zp,zm,zh,zu,zt,zn,zc,zl,za,ze,zo,zg,nzs,hbk,hbf]
   · have c2:((i:Int) < (l.length:Int))=False:=eq_false (by omega)
     have hbf:bf cf l=false:=by simp only [bf,hbk,List.getElem?_eq_none (show l.length≤i by omega)]
     simp only [zz,zq,↓reduceIte,zx,zj,zy,zk,zw,zb,reduceCtorEq,zd,zf,zp,zm,zh,zu,zt,zn,zc,zl,za,ze,zo,zg,nzs,c2,hbk,hbf]
     refine ⟨.v (.int .i64 0),?_⟩
     simp only [zz,zq,↓reduceIte,zx,zj,zy,zk,zw,zb,reduceCtorEq,zd,zf,zp,zm,zh,zu,zt,zn,zc,zl,za,ze,zo,zg,nzs,c2,hbk,hbf]

theorem deleteV (es:List (List Value)) (i j:Nat) (M:Mem) (hij:i≤j) (hj:j≤es.length) (hb:es.length≤1000000) :
  MeetsH Proofs.Tryz.prog 279 [.own 8000,.v (.int .i64 i),.v (.int .i64 j)] [(8000,.row 2 es)] M (OwnR (fun s=>s) 2 (es.take i++es.drop j)):=by
 refine MeetsH.openRow (A:=fun s=>[s,.v (.int .i64 i),.v (.int .i64 j)]) 8000 (Ctxs.cons0 _ rfl) (fun he=>?_) (fun b cap sp h1 h2 h3 h4=>MeetsH.closeR Ctx.id (fun e he=>?_) ?_) ⟨_,Proofs.Tryz.func279,by kernel_rfl,by kernel_rfl⟩
 · subst he
   have e1:i=0:=by simp at hj; omega
   have e2:j=0:=by simpa using hj
   subst e1 e2
   refine MeetsH.closeR Ctx.id (fun e he=>by cases he) ?_
   refine MeetsH.of_body [0,1,2,6,7,16] Proofs.Tryz.func279 rfl (by kernel_rfl) fun w M0=>?_
   simp only [Proofs.Tryz.f279,zz,zq,↓reduceIte,zx,zj,zy,zk,zw,zb,reduceCtorEq,zd,zf,zp,zm,zh,zu,zt,zn,zc,zl,za,ze,zo,zg,lenV,capV,isSl]
   exact .inr trivial
 · rcases List.mem_append.1 he with he | he
   · exact h4 e (List.mem_of_mem_take he)
   · exact h4 e (List.mem_of_mem_drop he)
 refine MeetsH.of_body [0,1,2,6,7,16] Proofs.Tryz.func279 rfl (by kernel_rfl) fun w M0=>?_
 have hm:(cap:Int)≤9223372036854775807:=by simp only [maxLen] at h2; omega
 by_cases h0:i=j
 · subst h0
   have c1:((i:Int)=(i:Int))=True:=eq_true rfl
   simp only [Proofs.Tryz.f279,zz,zq,↓reduceIte,zx,zj,zy,zk,zw,zb,reduceCtorEq,zd,zf,zp,zm,zh,zu,zt,zn,zc,zl,za,ze,zo,zg,lenV,capV,isSl,c1]
   exact ⟨⟨by omega,by omega,by omega⟩,.inl ⟨b,8000,cap,sp,by simp,by rw [List.take_append_drop]; rfl,by simpa using h1,h2,by simpa using h3⟩⟩
 have c1:((i:Int)=(j:Int))=False:=eq_false (by omega)
 simp only [Proofs.Tryz.f279,zz,zq,↓reduceIte,zx,zj,zy,zk,zw,zb,reduceCtorEq,zd,zf,zp,zm,zh,zu,zt,zn,zc,zl,za,ze,zo,zg,lenV,capV,isSl,c1]
 refine ⟨⟨by omega,by omega,by omega⟩,DrawK.tail 6 (by kernel_rfl) (by kernel_rfl) ?_⟩
 have hlen : ∀ e ∈ es,e.length=2:=fun e he=>(h4 e he).1
 have hfl:=flatten_len hlen
 have hfd:=flatten_len (fun e he=>hlen e (List.mem_of_mem_drop (i:=j) he))
 have hft:=flatten_len (fun e he=>hlen e (List.mem_of_mem_take (i:=i) he))
 rw [List.length_drop] at hfd
 rw [List.length_take,Nat.min_eq_left (by omega)] at hft
 simp only [zz,zq,↓reduceIte,zx,zj,zy,zk,zw,zb,reduceCtorEq,zd,zf,zp,zm,zh,zu,zt,zn,zc,zl,za,ze,zo,zg,lenV,capV,isSl,nzs,subV_open0,subV_open b es.length cap 2 j]
 refine ⟨by omega,⟨by omega,by omega⟩,OpK.appIn (e2:=68) (k:=8000) (cs:=es.flatten++sp) (m:=es.length - j) (news:=(es.drop j).flatten) rfl rfl rfl sl28 (by kernel_rfl) rfl rfl rfl hfd (Reads.sub (k:=8000) (cs:=es.flatten++sp) rfl fun q u hq=>?_) (fun u hu=>?_) (by omega) ?_ ?_⟩
 · by_cases hc:cap=j
   · rw [List.drop_of_length_le (by omega)] at hq
     simp at hq
   · rw [if_neg hc]
     exact get_of_drop (flat_drop hlen j).symm hq
 · obtain ⟨e,he,hu⟩:=List.mem_flatten.1 hu
   exact (h4 e (List.mem_of_mem_drop he)).2 u hu
 · rw [hfd,List.length_append,hfl]
   omega
 have hp:putV (es.flatten++sp) (0+i * 2) (es.drop j).flatten=(es.take i++es.drop j).flatten++(es.flatten++sp).drop (i * 2+(es.drop j).flatten.length):=by
  unfold putV
  rw [Nat.zero_add,List.take_append_of_le_length (by omega),flat_take hlen,List.flatten_append]
 have hl2:(es.take i++es.drop j).length=i+(es.length - j):=by rw [List.length_append,List.length_take,List.length_drop,Nat.min_eq_left (by omega)]
 have hf2:(es.take i++es.drop j).flatten.length=(i+(es.length - j)) * 2:=by rw [List.flatten_append,List.length_append,hft,hfd]; omega
 rw [hp]
 generalize hsp:(es.flatten++sp).drop (i * 2+(es.drop j).flatten.length)=sp1
 have hsl:sp1.length=(cap - (i+(es.length - j))) * 2:=by rw [← hsp,List.length_drop,List.length_append,hfl,hfd]; omega
 generalize hes':es.take i++es.drop j=es' at *
 simp only [zz,zq,↓reduceIte,zx,zj,zy,zk,zw,zb,reduceCtorEq,zd,zf,zp,zm,zh,zu,zt,zn,zc,zl,za,ze,zo,zg,lenV,capV,isSl,nzs,subV_open]
 refine ⟨⟨by omega,by omega⟩,⟨rfl,OpK.clearIn (k:=8000) rfl rfl sl28 rfl rfl rfl rfl ?_ ?_⟩⟩
 · rw [List.length_append,hf2]
   split <;> omega
 have hp2 : ∃ sp2:List Value,sp2.length=sp1.length∧putV (es'.flatten++sp1) (if cap=i+(es.length - j) then 0 else (i+(es.length - j)) * 2) (List.replicate (es.length - (i+(es.length - j))) [Value.string ⟨([]:List UInt8).toArray⟩,Value.slice none 0 0]).flatten=es'.flatten++sp2:=by
  by_cases hc:cap=i+(es.length - j)
  · have:es.length - (i+(es.length - j))=0:=by omega
    exact ⟨sp1,rfl,by rw [this,List.replicate_zero,List.flatten_nil,putV_nil]⟩
  · rw [if_neg hc,← hf2,putV_keep]
    refine ⟨_,?_,rfl⟩
    rw [List.length_append,List.length_drop,hsl]
    simp
    omega
 obtain ⟨sp2,hs2,hp2⟩:=hp2
 rw [hp2]
 simp only [zz,zq,↓reduceIte,zx,zj,zy,zk,zw,zb,reduceCtorEq,zd,zf,zp,zm,zh,zu,zt,zn,zc,zl,za,ze,zo,zg,lenV,capV,isSl,nzs]
 exact .inl ⟨b,8000,cap,sp2,by rw [hl2],rfl,by omega,h2,by rw [hs2,hsl,hl2]⟩

end Go.X.Vo

