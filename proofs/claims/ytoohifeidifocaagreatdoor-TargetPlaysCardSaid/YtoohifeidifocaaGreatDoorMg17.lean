/- Contracts of functions and the logic that they are proved in (2 texts in one). Conditions: none. -/
import Derived.Test.YtoohifeidifocaaGreatDoorMg15
import Derived.Test.YtoohifeidifocaaGreatDoorMg16
import Derived.Shelf.SlSortFuncK.WholeK
import Derived.Shelf.GgSortFunc.Tiny
import Derived.Test.YtoohifeidifocaaGreatDoorMg10
namespace Go.X.Bg
end Go.X.Bg
namespace Go.X.Nm
end Go.X.Nm
namespace Go.X.Bp
end Go.X.Bp
set_option linter.unusedSimpArgs false
set_option linter.unusedVariables false
set_option maxHeartbeats 4000000
set_option maxRecDepth 20000
namespace Go.X.Vo
open Go Go.X Go.RowKit Go.X.Bg Go.X.Nm Go.X.Bp

theorem oneVs {v:Value} (h:isSl v=true):oneV v=true:=by cases v <;> first | rfl | cases h
theorem RowF.nil_or {M:Mem} {v:Value} {sz:Nat} {es:List (List Value)} (h:RowF M v sz es):(v = .slice none 0 0∧es=[]) ∨ ∃ b cap,v = .slice (some ⟨b,0,none⟩) es.length cap:=by
  obtain ⟨_,h | ⟨b,cap,T,sp,rfl,_⟩⟩:=h
  · exact .inl h
  · exact .inr ⟨b,cap,rfl⟩
theorem stRD_ea {K:KP} {σ:Sig} {H:HS} {M:Mem} (d:Option Nat) (L:Option (Nat×Bool)) (st:Prop) (x:Value) (a b c:Nat) (y:Bool×SV):stRD d L st K σ H M (some (true,.ea x a b c)) (some y)=st:=by
  obtain ⟨g,y⟩:=y
  cases d <;> cases L <;> cases g <;> rfl
theorem rowOf_some (H:HS) (sz:Nat) (ad:Addr) (n c:Nat):rowOf H sz (.v (.slice (some ad) n c))=none:=rfl
def apartB (x y:Value):Prop:=∀ c,blk? x=some c→blk? y≠some c
theorem apartB.symm {x y:Value} (h:apartB x y):apartB y x:=fun c h1 h2=>h c h2 h1
theorem RowF.but {M M':Mem} {x u:Value} {sz:Nat} {es:List (List Value)} (h:RowF M u sz es) (hb:butB M M' x) (ha:apartB x u):RowF M' u sz es:=
  h.eqM fun c hc=>hb c fun e=>ha c e hc
theorem le_but {M0 M M':Mem} {x:Value} (h:M0.le M) (hf:freshB M0 x) (hb:butB M M' x):M0.le M':=fun c o hc=>by
  rw [hb c (fun e=>by have:=hf c e; rw [hc] at this; cases this)]
  exact h c o hc
/-- a new block is none of the known ones -/
theorem RowF.apart {M:Mem} {u y:Value} {sz:Nat} {es:List (List Value)} (h:RowF M u sz es) (hf:freshB M y):apartB y u:=fun c hc h2=>h.known h2 (hf c hc)
/-- a state, of which all blocks are new since M0 -/
structure StF (M0 M:Mem) (b v:Value) (bag:List It) (ws:List WV):Prop where
  bag:RowF M b 4 (bag.map Bg.encT)
  vols:RowF M v 2 (ws.map encV)
  blk : ∀ w ∈ ws,RowF M w.1 3 (w.2.2.map encI3)
  fr : ∀ x ∈ b :: v :: ws.map (·.1),freshB M0 x
  ap:(b :: v :: ws.map (·.1)).Pairwise apartB
section
variable {M0 M M':Mem} {b v:Value} {bag:List It} {ws:List WV}
theorem StF.volsM (h:StF M0 M b v bag ws):VolsM M v ws:=⟨h.vols.row,fun w hw=>(h.blk w hw).row⟩
theorem StF.le (h:StF M0 M b v bag ws) (hl:M.le M'):StF M0 M' b v bag ws:=⟨h.bag.le hl,h.vols.le hl,fun w hw=>(h.blk w hw).le hl,h.fr,h.ap⟩
theorem StF.fb (h:StF M0 M b v bag ws):freshB M0 b:=h.fr _ (by simp)
theorem StF.fv (h:StF M0 M b v bag ws):freshB M0 v:=h.fr _ (by simp)
theorem StF.fw (h:StF M0 M b v bag ws) {w:WV} (hw:w ∈ ws):freshB M0 w.1:=h.fr _ (by simp only [List.mem_cons,List.mem_map]; exact .inr (.inr ⟨w,hw,rfl⟩))
theorem StF.bv (h:StF M0 M b v bag ws):apartB b v:=(List.pairwise_cons.1 h.ap).1 _ (by simp)
theorem StF.bw (h:StF M0 M b v bag ws) {w:WV} (hw:w ∈ ws):apartB b w.1:=(List.pairwise_cons.1 h.ap).1 _ (by simp only [List.mem_cons,List.mem_map]; exact .inr ⟨w,hw,rfl⟩)
theorem StF.vw (h:StF M0 M b v bag ws) {w:WV} (hw:w ∈ ws):apartB v w.1:=(List.pairwise_cons.1 (List.pairwise_cons.1 h.ap).2).1 _ (List.mem_map.2 ⟨w,hw,rfl⟩)
theorem StF.ww (h:StF M0 M b v bag ws) {i j:Nat} {x y:WV} (hx:ws[i]? = some x) (hy:ws[j]? = some y) (hij:i≠j):apartB x.1 y.1:=by
  have hp:=(List.pairwise_cons.1 (List.pairwise_cons.1 h.ap).2).2
  rw [List.pairwise_iff_getElem] at hp
  have hil:=(List.getElem?_eq_some_iff.1 hx).1
  have hjl:=(List.getElem?_eq_some_iff.1 hy).1
  have ex:ws[i]=x:=(List.getElem?_eq_some_iff.1 hx).2
  have ey:ws[j]=y:=(List.getElem?_eq_some_iff.1 hy).2
  rcases Nat.lt_or_ge i j with h1 | h1
  · have:=hp i j (by rw [List.length_map]; omega) (by rw [List.length_map]; omega) h1
    rw [List.getElem_map,List.getElem_map,ex,ey] at this
    exact this
  · have:=hp j i (by rw [List.length_map]; omega) (by rw [List.length_map]; omega) (by omega)
    rw [List.getElem_map,List.getElem_map,ex,ey] at this
    exact this.symm
/-- the blocks of a volume are other ones -/
theorem StF.turnB (h:StF M0 M b v bag ws) {i:Nat} {x:WV} {ids:List Id3} (hx:ws[i]? = some x) (hb:butB M M' x.1) (hr:RowF M' x.1 3 (ids.map encI3)):StF M0 M' b v bag (ws.set i (x.1,x.2.1,ids)):=by
  have hxm:=List.mem_of_getElem? hx
  have hil:=(List.getElem?_eq_some_iff.1 hx).1
  have e1:(ws.set i (x.1,x.2.1,ids)).map encV=ws.map encV:=by
    rw [List.map_set]
    apply List.ext_getElem?
    intro j
    rw [List.getElem?_set]
    split
    · rename_i e
      subst e
      rw [List.length_map,if_pos hil,List.getElem?_map,hx]
      rfl
    · rfl
  have e2:(ws.set i (x.1,x.2.1,ids)).map (·.1)=ws.map (·.1):=by
    rw [List.map_set]
    apply List.ext_getElem?
    intro j
    rw [List.getElem?_set]
    split
    · rename_i e
      subst e
      rw [List.length_map,if_pos hil,List.getElem?_map,hx]
      rfl
    · rfl
  refine ⟨RowF.but h.bag hb (h.bw hxm).symm,by rw [e1]; exact RowF.but h.vols hb (h.vw hxm).symm,fun w hw=>?_,by rw [e2]; exact h.fr,by rw [e2]; exact h.ap⟩
  obtain ⟨j,hj⟩:=List.mem_iff_getElem?.1 hw
  rw [List.getElem?_set] at hj
  split at hj
  · rename_i e
    cases hj
    exact hr
  · rename_i e
    exact RowF.but (h.blk w (List.mem_of_getElem? hj)) hb (h.ww hx hj e)
/-- the bag is another one -/
theorem StF.turnBag (h:StF M0 M b v bag ws) {bag':List It} (hb:butB M M' b) (hr:RowF M' b 4 (bag'.map Bg.encT)):StF M0 M' b v bag' ws:=
  ⟨hr,RowF.but h.vols hb h.bv,fun w hw=>RowF.but (h.blk w hw) hb (h.bw hw),h.fr,h.ap⟩
end
/-- .. what stays known beside the row of volumes -/
theorem StF.offV {M0 M M':Mem} {b v:Value} {bag:List It} {ws:List WV} (h:StF M0 M b v bag ws) (hb:butB M M' v):RowF M' b 4 (bag.map Bg.encT) ∧ ∀ w ∈ ws,RowF M' w.1 3 (w.2.2.map encI3):=
  ⟨RowF.but h.bag hb h.bv.symm,fun w hw=>RowF.but (h.blk w hw) hb (h.vw hw)⟩
/-! ### contracts that hand back a state -/
def StM (T:SV→SV) (A:St):RP:=fun r _ M=>∃ (b v:Value) (ws:List WV),r=T (stV b v)∧ws.map (·.2)=A.2∧RowM M b 4 (A.1.map Bg.encT)∧VolsM M v ws
def StK (M0:Mem) (T:SV→SV) (A:St):RP:=fun r _ M=>∃ (b v:Value) (ws:List WV),r=T (stV b v)∧ws.map (·.2)=A.2∧StF M0 M b v A.1 ws
def IsRowF (M0:Mem) (H:HS) (M:Mem) (s:SV) (sz:Nat) (es:List (List Value)):Prop:=
  match s with
  | .v x=>RowF M x sz es∧freshB M0 x
  | .own k=>hget H k=some (.row sz es)
  | _=>False
def known:SV→List Value
  | .v x=>[x]
  | _=>[]
/-- .. whose rows may still be the call's own -/
def StO (T:SV→SV) (A:St):RP:=fun r H M=>∃ (s1 s2:SV) (ws:List WV),r=T (.agg [s1,s2])∧ws.map (·.2)=A.2∧(∀ k,s1 = .own k→s2 ≠ .own k)∧(IsRow H M s1 4 (A.1.map Bg.encT)∧IsRow H M s2 2 (ws.map encV)) ∧ ∀ w ∈ ws,RowM M w.1 3 (w.2.2.map encI3)
def StKO (M0:Mem) (T:SV→SV) (A:St):RP:=fun r H M=>∃ (s1 s2:SV) (ws:List WV),r=T (.agg [s1,s2])∧ws.map (·.2)=A.2∧(∀ k,s1 = .own k→s2 ≠ .own k)∧(IsRowF M0 H M s1 4 (A.1.map Bg.encT)∧IsRowF M0 H M s2 2 (ws.map encV))∧(∀ w ∈ ws,RowF M w.1 3 (w.2.2.map encI3)∧freshB M0 w.1)∧(known s1++known s2++ws.map (·.1)).Pairwise apartB
section
variable {E:Env} {σ:Sig} {H:HS} {M:Mem} {a:Act} {w:World} {ν:Nat→Value} {K:KP} {P:Program} {f:FuncId} {l:List SV}
theorem IsRow_settle {E:Env} {H:HS} {M:Mem} {w:World} {ν:Nat→Value} {s:SV} {sz:Nat} {es:List (List Value)} (hh:Heap E ν H M w) (h:IsRow H M s sz es) :
    ∃ x M' H',s.val ν=x∧M.le M'∧RowM M' x sz es∧Heap E ν H' M' w ∧ ∀ (k:Nat) (p:Nat×List (List Value)),s ≠ .own k→hget H k=some (.row p.1 p.2)→hget H' k=some (.row p.1 p.2):=by
  cases s with
  | v x=>exact ⟨x,M,H,rfl,Mem.le.refl M,h,hh,fun _ _ _ h=>h⟩
  | own k=>
    obtain ⟨M',h1,h2,h3⟩:=pub_heap hh h
    exact ⟨_,M',_,rfl,h1,h2,h3,fun j p hj hp=>hget_hpub (p:=.row p.1 p.2) (fun e=>hj (by rw [e])) hp⟩
  | _=>exact h.elim
theorem Meets.settleM {T:SV→SV} {A:St} (hT:Ctx T) (h:Meets P f l M (StO T A)):Meets P f l M (StM T A):=by
  refine ⟨h.1,fun w hw=>(h.2 w hw).mono ?_⟩
  rintro e w' ⟨s,H',M',ν',rfl,hh,s1,s2,ws,rfl,h1,h2,⟨h3,h4⟩,h5⟩
  obtain ⟨x1,M1,H1,e1,l1,r1,g1,k1⟩:=IsRow_settle hh h3
  have h4':IsRow H1 M1 s2 2 (ws.map encV):=by
    cases s2 with
    | v x=>exact RowM.le h4 l1
    | own k=>exact k1 k (2,_) (fun e=>h2 k e rfl) h4
    | _=>exact h4.elim
  obtain ⟨x2,M2,H2,e2,l2,r2,g2,_⟩:=IsRow_settle g1 h4'
  refine ⟨T (stV x1 x2),H2,M2,ν',?_,g2,x1,x2,ws,rfl,h1,r1.le l2,r2,fun w hw=>(h5 w hw).le (l1.trans l2)⟩
  rw [hT (.agg [s1,s2]) (stV x1 x2) ν' ν' (by simp only [stV,SV.val,SV.vals,e1,e2])]
theorem IsRowF_settle {E:Env} {H:HS} {M:Mem} {w:World} {ν:Nat→Value} {s:SV} {sz:Nat} {es:List (List Value)} (hh:Heap E ν H M w) (h:IsRowF E.M0 H M s sz es) :
    ∃ x M' H',s.val ν=x∧M.le M'∧RowF M' x sz es∧freshB E.M0 x∧(known s=[x]∨(known s=[]∧freshB M x))∧Heap E ν H' M' w ∧ ∀ (k:Nat) (p:Nat×List (List Value)),s ≠ .own k→hget H k=some (.row p.1 p.2)→hget H' k=some (.row p.1 p.2):=by
  cases s with
  | v x=>exact ⟨x,M,H,rfl,Mem.le.refl M,h.1,h.2,.inl rfl,hh,fun _ _ _ h=>h⟩
  | own k=>
    obtain ⟨M',h1,h2,h3,h4⟩:=pub_heapF hh h
    exact ⟨_,M',_,rfl,h1,h2,h3.of_le hh.le0,.inr ⟨rfl,h3⟩,h4,fun j p hj hp=>hget_hpub (p:=.row p.1 p.2) (fun e=>hj (by rw [e])) hp⟩
  | _=>exact h.elim
theorem Meets.settleF {T:SV→SV} {A:St} (hT:Ctx T) (h:Meets P f l M (StKO M T A)):Meets P f l M (StK M T A):=by
  refine ⟨h.1,fun w hw=>(h.2 w hw).mono ?_⟩
  rintro e w' ⟨s,H',M',ν',rfl,hh,s1,s2,ws,rfl,h1,h2,⟨h3,h4⟩,h5,h6⟩
  obtain ⟨x1,M1,H1,e1,l1,r1,f1,c1,g1,k1⟩:=IsRowF_settle hh h3
  have h4':IsRowF M H1 M1 s2 2 (ws.map encV):=by
    cases s2 with
    | v x=>exact ⟨RowF.le h4.1 l1,h4.2⟩
    | own k=>exact k1 k (2,_) (fun e=>h2 k e rfl) h4
    | _=>exact h4.elim
  obtain ⟨x2,M2,H2,e2,l2,r2,f2,c2,g2,_⟩:=IsRowF_settle g1 h4'
  refine ⟨T (stV x1 x2),H2,M2,ν',?_,g2,x1,x2,ws,rfl,h1,?_⟩
  · rw [hT (.agg [s1,s2]) (stV x1 x2) ν' ν' (by simp only [stV,SV.val,SV.vals,e1,e2])]
  have hk1 : ∀ y ∈ known s1,y=x1:=fun y hy=>by
    rcases c1 with c1 | ⟨c1,_⟩ <;> rw [c1] at hy
    · exact List.mem_singleton.1 hy
    · cases hy
  have hws : ∀ y ∈ ws.map (·.1),∃ w ∈ ws,y=w.1:=fun y hy=>by
    obtain ⟨w,hw,rfl⟩:=List.mem_map.1 hy
    exact ⟨w,hw,rfl⟩
  rw [List.append_assoc,List.pairwise_append,List.pairwise_append] at h6
  obtain ⟨_,⟨_,p3,p2⟩,p1⟩:=h6
  refine ⟨r1.le l2,r2,fun w hw=>(h5 w hw).1.le (l1.trans l2),fun y hy=>?_,?_⟩
  · simp only [List.mem_cons] at hy
    rcases hy with rfl | rfl | hy
    · exact f1
    · exact f2
    · obtain ⟨w,hw,rfl⟩:=hws y hy
      exact (h5 w hw).2
  · have q2 : ∀ y ∈ ws.map (·.1),apartB x2 y:=fun y hy=>by
      obtain ⟨w,hw,rfl⟩:=hws y hy
      rcases c2 with c2 | ⟨_,c2⟩
      · exact p2 x2 (by rw [c2]; simp) w.1 hy
      · exact RowF.apart ((h5 w hw).1.le l1) c2
    have q1 : ∀ y ∈ ws.map (·.1),apartB x1 y:=fun y hy=>by
      obtain ⟨w,hw,rfl⟩:=hws y hy
      rcases c1 with c1 | ⟨_,c1⟩
      · exact p1 x1 (by rw [c1]; simp) w.1 (by simp [hy])
      · exact RowF.apart (h5 w hw).1 c1
    have q0:apartB x1 x2:=by
      rcases c2 with c2 | ⟨_,c2⟩
      · rcases c1 with c1 | ⟨_,c1⟩
        · exact p1 x1 (by rw [c1]; simp) x2 (by rw [c2]; simp)
        · have:IsRowF M H' M' s2 2 (ws.map encV):=h4
          cases s2 with
          | v y=>
            simp only [known,List.cons.injEq,and_true] at c2
            subst c2
            exact RowF.apart h4.1 c1
          | _=>cases c2
      · exact (RowF.apart r1 c2).symm
    refine List.pairwise_cons.2 ⟨fun y hy=>?_,List.pairwise_cons.2 ⟨q2,p3⟩⟩
    rcases List.mem_cons.1 hy with rfl | hy
    · exact q0
    · exact q1 y hy
/-- calls that hand back a state -/
theorem CallK.stM {d:Nat} {T:SV→SV} {A:St} (hT : ∀ b v,(T (stV b v)).conc=true) (hl:SV.concs l=true) (hd:decide (d < E.N)=true) (h:Meets E.P f l M (StM T A))
    (hk : ∀ b v ws M',M.le M'→ws.map (·.2)=A.2→RowM M' b 4 (A.1.map Bg.encT)→VolsM M' v ws→K ((d,true,T (stV b v)) :: σ) H M'):CallK E f l d K σ H M:=by
  refine CallK.res (R:=fun r M'=>∃ (b v:Value) (ws:List WV),r=T (stV b v)∧ws.map (·.2)=A.2∧RowM M' b 4 (A.1.map Bg.encT)∧VolsM M' v ws) hl hd h (fun r M'=>?_) (fun r M' hM=>?_)
  · rintro ⟨b,v,ws,rfl,_⟩
    exact hT b v
  · rintro ⟨b,v,ws,rfl,h1,h2,h3⟩
    exact hk b v ws M' hM h1 h2 h3
theorem CallK.stF {d:Nat} {T:SV→SV} {A:St} (hT : ∀ b v,(T (stV b v)).conc=true) (hl:SV.concs l=true) (hd:decide (d < E.N)=true) (h:Meets E.P f l M (StK M T A))
    (hk : ∀ b v ws M',M.le M'→ws.map (·.2)=A.2→StF M M' b v A.1 ws→K ((d,true,T (stV b v)) :: σ) H M'):CallK E f l d K σ H M:=by
  refine CallK.res (R:=fun r M'=>∃ (b v:Value) (ws:List WV),r=T (stV b v)∧ws.map (·.2)=A.2∧StF M M' b v A.1 ws) hl hd h (fun r M'=>?_) (fun r M' hM=>?_)
  · rintro ⟨b,v,ws,rfl,_⟩
    exact hT b v
  · rintro ⟨b,v,ws,rfl,h1,h2⟩
    exact hk b v ws M' hM h1 h2
/-- a call whose row is known at once, and new -/
theorem CallK.rowF {d sz:Nat} {T:SV→SV} {es:List (List Value)} (hT:Ctx T) (hl:SV.concs l=true) (hd:decide (d < E.N)=true) (h:Meets E.P f l M (OwnR T sz es))
    (hk : ∀ v M',M.le M'→RowF M' v sz es→freshB M v→K ((d,true,T (.v v)) :: σ) H M'):CallK E f l d K σ H M:=by
  intro ν a w hs hh
  refine .inl ⟨h.1,?_⟩
  rw [SV.concs_vals (ν:=ν0) (ν':=ν) l hl]
  refine (h.2 w hh.mem).mono ?_
  rintro e w' ⟨s,H',M',ν',rfl,hh',k,rfl,hR⟩
  obtain ⟨M'',h1,h2,h3,h4⟩:=pub_heapF hh' hR
  exact ⟨_,rfl,_,_,_,⟨ν,hs.put (of_decide_eq_true hd) (by rw [cond_true]; exact hT _ (.v (ν' k)) _ _ rfl),hh.call h4⟩,hk (ν' k) M'' h4.le0 h2 (h3.of_le hh'.le0)⟩
end
theorem StK.weak {M0 M:Mem} {T:SV→SV} {A:St} {r:SV} {H:HS} (h:StK M0 T A r H M):StM T A r H M:=by
  obtain ⟨b,v,ws,h1,h2,h3⟩:=h
  exact ⟨b,v,ws,h1,h2,h3.bag.row,h3.volsM⟩
theorem zero_stK (M0 M:Mem):StF M0 M (.slice none 0 0) (.slice none 0 0) [] []:=by
  refine ⟨⟨fun e he=>(by cases he),.inl ⟨rfl,rfl⟩⟩,⟨fun e he=>(by cases he),.inl ⟨rfl,rfl⟩⟩,fun w hw=>(by cases hw),fun x hx c hc=>?_,List.pairwise_cons.2 ⟨fun x hx c hc=>(by cases hc),List.pairwise_cons.2 ⟨fun x hx c hc=>(by cases hc),.nil⟩⟩⟩
  simp only [List.map_nil,List.mem_cons,List.not_mem_nil,or_false] at hx
  rcases hx with rfl | rfl <;> cases hc
theorem zero_volsM (M:Mem):RowM M (.slice none 0 0) 4 (([]:List It).map Bg.encT)∧VolsM M (.slice none 0 0) []:=⟨RowM.nil M 4,RowM.nil M 2,fun w hw=>(by cases hw)⟩
end Go.X.Vo

namespace Go.X
open Go Go.RowKit
section
variable {E:Env} {σ:Sig} {H:HS} {M:Mem} {a:Act} {w:World} {ν:Nat→Value} {K:KP} {o:Oper}

/-- an interface that holds a known value -/
theorem OpK.mkIface {t:TypeId} {x:Operand} {d:Nat} {y:Value} (ho:o.op = .makeInterface t x) (hd:o.dst=some d) (hx:opv σ x=some (true,.v y)) (hN:decide (d < E.N)=true) (hpk:E.P.packed t=false)
    (hu : ∃ e,E.P.underlying t=some (.slice e))
    (hK:K ((d,true,.v (.iface t y)) :: σ) H M):OpK E o K σ H M:=by
  refine opK_of fun ν a w hs hh=>?_
  have ex:=hs.opv hx rfl
  simp only [SV.val] at ex
  obtain ⟨e,hu⟩:=hu
  refine ⟨.iface t y,w,?_,_,_,_,⟨ν,?_,hh⟩,hK⟩
  · simp [execOp,ho,ex,Instr.makeInterface,run_underlying hu]
  · rw [hd]
    exact hs.put (of_decide_eq_true hN) rfl

theorem flat_get {α:Type} [Inhabited α] {enc:α→List Value} {k:Nat} (hk : ∀ x,(enc x).length=k) : ∀ (l:List α) (t:Nat),t < l.length * k→((l.map enc).flatten)[t]? = some ((enc l.toArray[t / k]!)[t % k]!)
  | [],t,h=>by simp at h
  | x :: r,t,h=>by
    have hx:=hk x
    rw [List.map_cons,List.flatten_cons]
    rcases Nat.lt_or_ge t k with ht | ht
    · rw [List.getElem?_append_left (by omega),Nat.div_eq_of_lt ht,Nat.mod_eq_of_lt ht]
      simp [hx,ht]
    · have hk0:0 < k:=by
        rcases Nat.eq_zero_or_pos k with e | e
        · subst e; simp at h
        · exact e
      rw [List.getElem?_append_right (by omega),hx]
      have e1:t / k=(t - k) / k+1:=by rw [Nat.div_eq_sub_div hk0 ht]
      have e2:t % k=(t - k) % k:=Nat.mod_eq_sub_mod ht
      rw [List.length_cons,Nat.add_mul,Nat.one_mul] at h
      rw [flat_get hk r (t - k) (by omega),e1,e2]
      simp
theorem flatK_flat {α:Type} [Inhabited α] {enc:α→List Value} {k:Nat} (hk : ∀ x,(enc x).length=k) (d:Array α):(Sort.flatK enc k d).toList=(d.toList.map enc).flatten:=by
  have hl:((d.toList.map enc).flatten).length=d.size * k:=by
    rw [List.length_flatten,List.map_map]
    have:(List.length ∘ enc)=fun _=>k:=funext fun x=>hk x
    rw [this,List.map_const',List.sum_replicate_nat,Array.length_toList]
  apply List.ext_getElem?
  intro t
  rcases Nat.lt_or_ge t (d.size * k) with h | h
  · rw [flat_get hk _ t (by simpa using h)]
    simp [Sort.flatK,h]
  · rw [List.getElem?_eq_none (by simpa using h),List.getElem?_eq_none (by omega)]
theorem flat_len {α:Type} {enc:α→List Value} {k:Nat} (hk : ∀ x,(enc x).length=k) (l:List α):((l.map enc).flatten).length=l.length * k:=by
  rw [List.length_flatten,List.map_map]
  have:(List.length ∘ enc)=fun _=>k:=funext fun x=>hk x
  rw [this,List.map_const',List.sum_replicate_nat]
theorem putCells_flat {F:Array Value} {c:List Value} {sp:List Value} (h:F.size=c.length):Sort.putCells id 0 F (c++sp).toArray=(F.toList++sp).toArray:=by
  apply Array.ext_getElem?
  intro t
  simp only [Sort.putCells,Array.getElem?_mapIdx,List.getElem?_toArray]
  rcases Nat.lt_or_ge t F.size with h' | h'
  · rw [List.getElem?_append_left (by omega),List.getElem?_append_left (by simpa using h'),List.getElem?_eq_getElem (by omega)]
    simp [h']
  · rw [List.getElem?_append_right (by omega),List.getElem?_append_right (by simpa using h')]
    simp only [Array.length_toList,h]
    cases hx:sp[t - c.length]? with
    | none=>rfl
    | some y=>
      have : ¬ t < c.length:=by omega
      simp [this,h]
theorem hset_self {p:PO} {k:Nat} : ∀ {H:HS},hget H k=some p→hset k p H=H
  | [],h=>by cases h
  | (j,q) :: H,h=>by
    simp only [hget] at h
    simp only [hset]
    by_cases e:k=j
    · rw [if_pos e] at h
      cases h
      rw [if_pos e.symm]
    · rw [if_neg e] at h
      rw [if_neg (fun e'=>e e'.symm),hset_self h]

/-- what a comparison does in every world where it finds the row and the box -/
def LessC {α:Type} [Inhabited α] (P:Program) (g:Nat) (enc:α→List Value) (k:Nat) (lt:α→α→Bool) (size:Nat):Prop:=
  ∀ (W:World) (Bs blk c:Nat) (dk:Array α),dk.size=size→W.cell? ⟨Bs,0,none⟩=some (.slice (some ⟨blk,0,none⟩) size c)→(∀ t u,t < size→u < k→W.cell? ⟨blk,0+t * k+u,none⟩=some ((enc dk[t]!)[u]!)) →
    ∀ i j:Nat,i < size→j < size→Calls P g #[.int .i64 i,.int .i64 j,.pointer (some ⟨Bs,0,none⟩)] W fun e w'=>e = .returned (.bool (lt dk[i]! dk[j]!)) ∧ ∃ q,w'=W.drewN q
/-- what sort.Slice does -/
def SortC {α:Type} [Inhabited α] (P:Program) (f g t:Nat) (enc:α→List Value) (k:Nat) (lt:α→α→Bool):Prop:=
  (∀ (p:Option Addr) (n c:Nat),n≤1 → ∀ (lb:Array Value) (w:World),Calls P f #[.iface t (.slice p n c),.func (.func g) #[] lb] w fun e w'=>e = .returned (.tuple #[]) ∧ ∃ os,w'=Sort.grow w os) ∧
  ∀ (blk c:Nat) (d:Array α),2≤d.size→d.size < 4611686018427387904 → ∀ (lb:Array Value) (w:World),Proofs.LessReadsK P g lb enc k lt blk 0 d.size w→Sort.HoldsK enc k w blk 0 d→blk < w.heap.size →
    Calls P f #[.iface t (.slice (some ⟨blk,0,none⟩) d.size c),.func (.func g) #[] lb] w fun e w'=>e = .returned (.tuple #[]) ∧ ∃ d' n os,Sort.PermIn 0 d.size d d'∧Sort.SortedIn lt 0 d.size d'∧w'=Sort.grow (Sort.putRowK enc k (Sort.ahead w n) blk 0 d') os
theorem below_grow (w:World) (os:Array Obj) (n:Nat):Below w.heap.size w (Sort.grow (Sort.ahead w n) os):=⟨rfl,rfl,rfl,by simp [Sort.grow],fun k hk=>Array.getElem?_append_left hk⟩
theorem CallK.sortRow {α:Type} [Inhabited α] {f d g t:Nat} (kr kb:Nat) (enc:α→List Value) (k:Nat) (lt:α→α→Bool) (l:List α) {b cap:Nat} {sp:List Value} {tb:Option Value}
    (hk:hget H kr=some (.box (opn ((l.map enc).flatten++sp)) (some (ptrV b)))) (hkb:hget H kb=some (.box [.v (.slice (some ⟨b,0,none⟩) l.length cap)] tb)) (hne:decide (kb≠kr)=true)
    (henc : ∀ x,(enc x).length=k) (hd:decide (d < E.N)=true) (hsz:l.length < 4611686018427387904) (hcl : ∃ fn,E.P.funcs[f]? = some fn∧(fn.name == "runtime.NumGoroutine")=false∧fn.body.isNone=false)
    (hS:SortC E.P f g t enc k lt) (hL:LessC E.P g enc k lt l.length)
    (hK : ∀ l':List α,l'.Perm l→l'.Pairwise (fun x y=>lt y x=false)→K ((d,true,.v (.tuple #[])) :: σ) (hset kr (.box (opn ((l'.map enc).flatten++sp)) (some (ptrV b))) H) M) :
    CallK E f [.v (.iface t (.slice (some ⟨b,0,none⟩) l.length cap)),.fn g [.ptr kb 0 0 0]] d K σ H M:=by
  intro ν a w hs hh
  refine .inl ⟨hcl,?_⟩
  obtain ⟨⟨b',T,e1,e2⟩,e3⟩:=hh.holds _ (hget_mem hk)
  have e4:=e3 _ rfl
  simp only at e1 e4
  rw [e4] at e1
  cases e1
  rw [opn_vals] at e2
  obtain ⟨⟨bb,T',f1,f2⟩,_⟩:=hh.holds _ (hget_mem hkb)
  simp only [SV.vals,SV.val] at f1 f2
  have hbb:bb≠b:=by
    rintro rfl
    exact blk_ne hh hk (b:=bb) (by rw [e4]; rfl) _ (hget_mem hkb) (of_decide_eq_true hne) (by simp only [f1]; rfl)
  have hlt:b < w.heap.size:=(Array.getElem?_eq_some_iff.1 e2).1
  have hltb:bb < w.heap.size:=(Array.getElem?_eq_some_iff.1 f2).1
  have hv:(SV.vals ν [.v (.iface t (.slice (some ⟨b,0,none⟩) l.length cap)),.fn g [.ptr kb 0 0 0]]).toArray = #[.iface t (.slice (some ⟨b,0,none⟩) l.length cap),.func (.func g) #[] #[.pointer (some ⟨bb,0,none⟩)]]:=by
    simp [SV.vals,SV.val,f1,bOf]
  rw [hv]
  have hfin : ∀ l':List α,l'.Perm l→l'.Pairwise (fun x y=>lt y x=false) → ∀ w',Heap E ν (hset kr (.box (opn ((l'.map enc).flatten++sp)) (some (ptrV b))) H) M w' →
      ∃ σ' H' M',Rep E σ' H' M' (a.put (some d) (.tuple #[])) w'∧K σ' H' M':=fun l' h1 h2 w' h3=>⟨_,_,_,⟨ν,hs.put (of_decide_eq_true hd) rfl,h3⟩,hK l' h1 h2⟩
  rcases Nat.lt_or_ge 1 l.length with h2 | h1
  rotate_left
  · refine (hS.1 (some ⟨b,0,none⟩) l.length cap h1 #[.pointer (some ⟨bb,0,none⟩)] w).mono ?_
    rintro e w' ⟨rfl,os,rfl⟩
    refine ⟨_,rfl,hfin l (List.Perm.refl l) ?_ _ ?_⟩
    · match l,h1 with
      | [],_=>exact .nil
      | [x],_=>exact List.pairwise_singleton _ _
    · have:=hh.grow (below_grow w os 0)
      have hs2:hset kr (.box (opn ((l.map enc).flatten++sp)) (some (ptrV b))) H=H:=hset_self hk
      rw [hs2]
      exact this
  · have hH:Sort.HoldsK enc k w b 0 l.toArray:=fun j hj=>by
      have hf:=flatK_flat henc l.toArray
      have hj2:j < (Sort.flatK enc k l.toArray).toList.length:=by simpa using hj
      have hx:((l.map enc).flatten++sp)[j]? = some ((Sort.flatK enc k l.toArray)[j]!):=by
        rw [show (l.map enc).flatten=(Sort.flatK enc k l.toArray).toList from hf.symm,List.getElem?_append_left hj2,Array.getElem?_toList,getElem!_pos _ j (by simpa using hj)]
        exact Array.getElem?_eq_getElem _
      refine ⟨?_,?_⟩
      · rw [cell_of_heap e2,Nat.zero_add]
        exact hx
      · simp [World.frozen?,e2]
    have hless:Proofs.LessReadsK E.P g #[.pointer (some ⟨bb,0,none⟩)] enc k lt b 0 l.toArray.size w:=by
      intro m os dk hs i j hi hj
      have e:Proofs.sortWorldK enc k w b 0 m dk os=Sort.putRowK enc k (Sort.grow (Sort.ahead w m) os) b 0 dk:=by
        unfold Proofs.sortWorldK; rw [Sort.putRowK_grow _ _ (Sort.ahead w m) _ b 0 _ hlt]
      have hHg:Sort.HoldsK enc k (Sort.grow (Sort.ahead w m) os) b 0 l.toArray:=Sort.holdsK_grow _ _ _ _ b 0 _ hlt (Sort.holdsK_ahead _ _ _ _ _ _ _ hH)
      refine hL _ bb b cap dk (by simpa using hs) ?_ (fun t u ht hu=>?_) i j (by simpa using hi) (by simpa using hj)
      · rw [e,Sort.cell?_putRowK_other _ _ _ b 0 dk _ (by exact hbb),Sort.cell?_grow _ _ _ (by exact hltb)]
        show w.cell? ⟨bb,0,none⟩=_
        rw [cell_of_heap f2]
        rfl
      · rw [e]
        exact ((Sort.holdsK_putRowK _ _ _ b 0 l.toArray dk hHg hs).cell (i:=t) (c:=u) (by rw [hs]; simpa using ht) hu).1
    refine (hS.2 b cap l.toArray (by simp only [List.size_toArray]; omega) (by simpa using hsz) #[.pointer (some ⟨bb,0,none⟩)] w hless hH hlt).mono ?_
    rintro e w' ⟨rfl,d',n,os,hp,hso,rfl⟩
    have hsd:d'.size=l.length:=by simpa using hp.1
    refine ⟨_,rfl,hfin d'.toList ?_ ?_ _ ?_⟩
    · have:=hp.2.2
      rw [Array.extract_eq_self_of_le (by rw [hsd]; simp),Array.extract_eq_self_of_le (by simp)] at this
      exact this
    · rw [List.pairwise_iff_getElem]
      intro i j hi hj hij
      have:=hso i j (Nat.zero_le _) hij (by simpa [hsd] using hj)
      rw [getElem!_pos _ i (by simpa using hi),getElem!_pos _ j (by simpa using hj)] at this
      simpa using this
    · have hF:(Sort.flatK enc k d').size=((l.map enc).flatten).length:=by rw [flat_len henc,Sort.size_flatK,hsd]
      have hpw:Heap E ν (hset kr (.box (opn ((d'.toList.map enc).flatten++sp)) (some (ptrV b))) H) M (Sort.putRowK enc k w b 0 d'):=by
        refine hh.upd hk (b:=b) (by rw [e4]; rfl) (fun j hj=>?_) ?_ ⟨rfl,rfl,rfl⟩ ⟨⟨b,T,e4,?_⟩,fun v hv=>?_⟩
        · simp only [Sort.putRowK,Sort.putRow,Sort.mapBlock,Array.getElem?_modify]
          rw [if_neg (fun h=>hj h.symm)]
        · simp [Sort.putRowK,Sort.putRow,Sort.mapBlock]
        · rw [opn_vals]
          simp only [Sort.putRowK,Sort.putRow,Sort.mapBlock,Array.getElem?_modify,e2,if_true,Option.map_some,Sort.onCells]
          rw [putCells_flat hF,flatK_flat henc]
        · cases hv
          exact e4
      exact hpw.grow (w':=Sort.grow (Sort.putRowK enc k (Sort.ahead w n) b 0 d') os) (below_grow (Sort.putRowK enc k w b 0 d') os n)
theorem Meets.closeR {P:Program} {f:FuncId} {args:List SV} {T:SV→SV} {sz:Nat} {es:List (List Value)} (hT:Ctx T) (hes : ∀ e ∈ es,e.length=sz ∧ ∀ c ∈ e,c.oneCell'=true)
    (h:Meets P f args M (fun r H' M'=>(r=T (.v (.slice none 0 0))∧es=[])∨OwnR T sz es r H' M'∨OpenR T sz es r H' M')):Meets P f args M (OwnR T sz es):=by
  refine ⟨h.1,fun w hw=>(h.2 w hw).mono ?_⟩
  rintro e w' ⟨s,H',M',ν',rfl,hh',hcs⟩
  rcases (show OpenR T sz es s H' M'∨(s=T (.v (.slice none 0 0))∧es=[])∨OwnR T sz es s H' M' from hcs.elim (fun h=>.inr (.inl h)) (fun h=>h.elim (fun h=>.inr (.inr h)) .inl)) with ⟨b,k,cap,sp,rfl,hk,h1,h2,h3⟩ | ⟨rfl,rfl⟩ | hO
  · obtain ⟨⟨b',T',e1,e2⟩,e3⟩:=hh'.holds _ (hget_mem hk)
    have e4:=e3 _ rfl
    simp only at e1 e4
    rw [e4] at e1
    cases e1
    rw [opn_vals] at e2
    refine ⟨T (.own 0),[(0,.row sz es)],M',fun _=>.slice (some ⟨b,0,none⟩) es.length cap,by rw [hT (.v _) (.own 0) ν' (fun _=>.slice (some ⟨b,0,none⟩) es.length cap) rfl],⟨fun p hp=>?_,by simp [fp,blk?],fun c hc=>?_,hh'.mem,hh'.below,hh'.le0,hh'.fresh,fun _=>rfl⟩,0,rfl,rfl⟩
    · simp only [List.mem_singleton] at hp
      subst hp
      exact ⟨hes,.inr ⟨b,cap,T',sp,rfl,h1,h2,h3,e2⟩⟩
    · simp only [fp,List.filterMap_cons,List.filterMap_nil,blk?,List.mem_singleton] at hc
      subst hc
      exact hh'.apart c (List.mem_filterMap.2 ⟨_,hget_mem hk,by rw [e4]; rfl⟩)
  · refine ⟨T (.own 0),[(0,.row sz [])],M',fun _=>.slice none 0 0,by rw [hT (.v _) (.own 0) ν' (fun _=>.slice none 0 0) rfl],⟨fun p hp=>?_,by simp [fp,blk?],fun c hc=>by simp [fp,blk?] at hc,hh'.mem,hh'.below,hh'.le0,hh'.fresh,fun _=>rfl⟩,0,rfl,rfl⟩
    simp only [List.mem_singleton] at hp
    subst hp
    exact ⟨hes,.inl ⟨rfl,rfl⟩⟩
  · exact ⟨s,H',M',ν',rfl,hh',hO⟩
end
end Go.X

