/- Contracts of functions and the logic that they are proved in (5 texts in one). Conditions: none. -/
import Derived.Test.YthafjlokddpjfaaGreatDoorMg13
open Go.Proofs.Tryz renaming prog → qz
open Int renaming cast_ofNat_Int→zl,natCast_zero→za,natCast_one→ze,toNat_natCast→zo
namespace Go.X.Bg
end Go.X.Bg
namespace Go.X.Nm
end Go.X.Nm
set_option linter.unusedSimpArgs false
set_option linter.unusedVariables false
set_option maxHeartbeats 4000000
set_option maxRecDepth 20000
namespace Go.X.Vo
open Go Go.X Go.RowKit Go.X.Bg Go.X.Nm

theorem goV_ok (bag:List It) : ∀ (p:Option (List UInt8)) (l:List Vol),goV bag p l=0 → ∀ v ∈ l,v.2.length≤32∧nmB v.1=true∧goI bag v.2=0
 | _,[],_,v,hv=>by cases hv
 | p,x :: r,h,v,hv=>by
   rw [goV] at h
   split at h
   · cases h
   rename_i h1
   split at h
   · cases h
   rename_i h2
   split at h
   · rename_i h3; exact absurd h h3
   rename_i h3
   rcases List.mem_cons.1 hv with rfl | hv
   · refine ⟨by omega,?_,Decidable.of_not_not h3⟩
     cases hn:nmB v.1 with
     | true=>rfl
     | false=>exact absurd (.inl hn) h1
   · exact goV_ok bag _ r h v hv
theorem volsE_ok {bag:List It} {l:List Vol} (h:volsE bag l=0):l.length≤6 ∧ ∀ v ∈ l,v.2.length≤32∧nmB v.1=true∧goI bag v.2=0:=by
 unfold volsE at h
 split at h
 · cases h
 · exact ⟨by omega,goV_ok bag none l h⟩
/-- how often each id stands -/
def idsOf (l:List Vol):List Id3:=l.flatMap (·.2)
def cntB (bag:List It) (ids:List Id3):Bool:=bag.all fun x=>decide (((ids.count (true,x.1,x.2.1):Nat):Int)=x.2.2.2)
def stE (bag:List It) (l:List Vol):Int:=if bagE bag≠0 then bagE bag else if volsE bag l≠0 then volsE bag l else if cntB bag (idsOf l)=false then 11 else 0
theorem stE_ok {bag:List It} {l:List Vol} (h:stE bag l=0):bagE bag=0∧volsE bag l=0∧cntB bag (idsOf l)=true:=by
 unfold stE at h
 split at h
 · rename_i h1; exact absurd h h1
 rename_i h1
 split at h
 · rename_i h2; exact absurd h h2
 rename_i h2
 split at h
 · cases h
 rename_i h3
 exact ⟨Decidable.of_not_not h1,Decidable.of_not_not h2,by simpa using h3⟩
theorem idsOf_len {l:List Vol} (h:l.length≤6) (h2 : ∀ v ∈ l,v.2.length≤32):(idsOf l).length≤192:=by
 have : ∀ l:List Vol,(∀ v ∈ l,v.2.length≤32)→(idsOf l).length≤32 * l.length:=fun l=>by
  induction l with
  | nil=>intro _; exact Nat.zero_le _
  | cons v l ih=>
    intro h
    have:=ih (fun w hw=>h w (List.mem_cons_of_mem _ hw))
    have:=h v (List.mem_cons_self ..)
    unfold idsOf at *
    rw [List.flatMap_cons,List.length_append,List.length_cons]
    omega
 have:=this l h2
 omega
def CntM (es:List (Id3×Value)) (L:List Id3):Prop:=∀ id,((fnd id es 0).map (·.2)).getD (.int .i64 0) = .int .i64 ((L.count id:Nat):Int)
theorem CntM.nil:CntM [] []:=fun _=>rfl
theorem CntM.upd {es:List (Id3×Value)} {L:List Id3} (h:CntM es L) (y:Id3):CntM (upd y (.int .i64 (((L.count y:Nat):Int)+1)) es) (L++[y]):=fun id=>by
 rw [fnd_upd]
 by_cases hy:id=y
 · rw [if_pos hy,hy,List.count_append]
   simp
 · rw [if_neg hy,h id,List.count_append]
   have:List.count id [y]=0:=by simp [List.count_cons,Ne.symm hy]
   rw [this]
   rfl

theorem ens_get {α:Type} [DecidableEq α] (a:α) (z:Value) (l:List (α×Value)):((fnd a (ens a z l) 0).map (·.2)).getD z=((fnd a l 0).map (·.2)).getD z:=by
 unfold ens
 rcases fnd_spec a l 0 with ⟨h1,_⟩ | ⟨j,v,h1,h2⟩
 · rw [h1]
   simp only
   rw [fnd_app,h1]
   simp [fnd]
 · rw [h1]
   simp only
   rw [h1]

theorem vcheck (b v:Value) (bag:List It) (ws:List WV) (M:Mem) (hb:RowM M b 4 (bag.map Bg.encT)) (hv:VolsM M v ws) :
  Meets qz 271 [stV b v] M fun r _ _=>r = .v (.int .i64 (stE bag (ws.map (·.2)))):=by
 refine Meets.of_body [0,1,2,3,4,5,7,9,11,16,21,25,26,27,28,32,33,34,35,47,48,49,50,62] Proofs.Tryz.func271 rfl (by kernel_rfl) rfl fun w=>?_
 generalize hc:stE bag (ws.map (·.2))=c
 unfold stE at hc
 have hC:=check b bag M hb
 have hV:=volumes b v bag ws M hb hv
 simp only [stV] at hV
 simp only [Proofs.Tryz.f271,stV,zz,zq,seval,zl,za,ze,zo,nzs]
 refine CallK.pure ⟨rfl,rfl⟩ rfl hC ?_
 by_cases h1:bagE bag=0
 rotate_left
 · have c1:=eq_false h1
   rw [if_pos h1] at hc
   subst hc
   simp only [zz,zq,seval,zl,za,ze,zo,nzs,c1]
 rw [if_neg (fun h=>h h1)] at hc
 simp only [zz,zq,seval,zl,za,ze,zo,nzs,h1]
 refine CallK.pure ⟨rfl,rfl⟩ rfl hV ?_
 by_cases h2:volsE bag (ws.map (·.2))=0
 rotate_left
 · have c1:=eq_false h2
   rw [if_pos h2] at hc
   subst hc
   simp only [zz,zq,seval,zl,za,ze,zo,nzs,c1]
 rw [if_neg (fun h=>h h2)] at hc
 obtain ⟨hl6,hl32⟩:=volsE_ok h2
 rw [List.length_map] at hl6
 have hlv : ∀ x ∈ ws,x.2.2.length≤32:=fun x hx=>(hl32 x.2 (List.mem_map_of_mem hx)).1
 have hall : ∀ n,(idsOf ((ws.take n).map (·.2))).length≤192:=fun n=>idsOf_len (by rw [List.length_map,List.length_take]; omega) (fun u hu=>by
  obtain ⟨x,hx,rfl⟩:=List.mem_map.1 hu
  exact hlv x (List.mem_of_mem_take hx))
 simp only [zz,zq,seval,zl,za,ze,zo,nzs,h2]
 refine ⟨rfl,OpK.makeMap rfl rfl rfl rfl ?_⟩
 simp only [zz,zq,seval,zl,za,ze,zo,nzs,hdel,hv.row.len,hv.row.sl,List.length_map]
 refine LoopK.go (X:=Nat×Nat×List (Id3×Value)) (fun x=>([(0,true,.agg [.v b,.v v]),(1,true,.ptr 8 0 0 0),(2,true,.v (.int .i64 0)),(5,true,.own 184),(25,true,.v v),(26,true,.v (.int .i64 ws.length)),(27,true,.v (.int .i64 x.2.1))],[(184,.mp (encL encId x.2.2)),(8,.box [.v b,.v v] none)],M))
  (fun x=>x.1+x.2.1=ws.length∧CntM x.2.2 (idsOf ((ws.take x.2.1).map (·.2)))) (fun x=>x.1) (ws.length,0,[]) ⟨rfl,CntM.nil⟩ (Ent.of ?_) ?_
 · simp only [zq,seval,zl,za,ze,zo,encL,List.map_nil,za]
 rintro ⟨f,i,es⟩ ⟨n1,n2⟩
 simp only at n1 n2
 by_cases hil:i < ws.length
 · have d1:((i:Int) < (ws.length:Int))=True:=eq_true (by omega)
   obtain ⟨x,hx,hd⟩:=l_drop_at (l:=ws) (i:=i) hil
   obtain ⟨g0,g1,i0⟩:=vol_at hv hx
   have hblk:=hv.blk x (List.mem_of_getElem? hx)
   have hx32:=hlv x (List.mem_of_getElem? hx)
   have htk:idsOf ((ws.take (i+1)).map (·.2))=idsOf ((ws.take i).map (·.2))++x.2.2:=by
    rw [List.take_add_one,hx]
    unfold idsOf
    simp
   have hln:=hall i
   generalize hL:idsOf ((ws.take i).map (·.2))=L at *
   simp only [zz,zq,seval,zl,za,ze,zo,nzs,d1,hv.row.len,hv.row.sl,List.length_map,i0,i0.2,g0.1,g0.2,g1.1,g1.2,hblk.one,hblk.len,hblk.sl]
   refine LoopK.go (X:=Nat×Nat×List (Id3×Value)) (fun z=>([(0,true,.agg [.v b,.v v]),(1,true,.ptr 8 0 0 0),(2,true,.v (.int .i64 0)),(5,true,.own 184),(25,true,.v v),(26,true,.v (.int .i64 ws.length)),(27,true,.v (.int .i64 i)),(32,true,.v x.1),(33,true,.v (.int .i64 x.2.2.length)),(34,true,.v (.int .i64 z.2.1))],[(184,.mp (encL encId z.2.2)),(8,.box [.v b,.v v] none)],M))
    (fun z=>z.1+z.2.1=x.2.2.length∧CntM z.2.2 (L++x.2.2.take z.2.1)) (fun z=>z.1) (x.2.2.length,0,es) ⟨rfl,by simpa using n2⟩ (Ent.of ?_) ?_
   · simp only [zq,seval,zl,za,ze,zo,za]
   rintro ⟨f2,j,es2⟩ ⟨m1,m2⟩
   simp only at m1 m2
   by_cases hjl:j < x.2.2.length
   · have d3:((j:Int) < (x.2.2.length:Int))=True:=eq_true (by omega)
     obtain ⟨y,hy,hd2⟩:=l_drop_at (l:=x.2.2) (i:=j) hjl
     obtain ⟨y0,y1,y2,yi⟩:=id_at hblk hy
     have hcy:=m2 y
     have hcl:(L++x.2.2.take j).count y≤300:=Nat.le_trans List.count_le_length (by rw [List.length_append,List.length_take]; omega)
     have hup:=CntM.upd m2 y
     rw [List.append_assoc,show x.2.2.take j++[y]=x.2.2.take (j+1) by rw [List.take_add_one,hy]; rfl] at hup
     generalize hq:(L++x.2.2.take j).count y=q at *
     obtain ⟨v0,hj1,_⟩:=ens_at y (.int .i64 0) es2
     have hj2:=ens_set y (.int .i64 0) (.int .i64 ((q:Int)+1)) es2
     simp only [zz,zq,seval,zl,za,ze,zo,nzs,d3,yi,yi.2,y0.1,y0.2,y1.1,y1.2,y2.1,y2.2]
     have hey:=ens_get y (.int .i64 0) es2
     rw [hcy] at hey
     refine DrawK.held [72] (tk [0,1] (.two 2 (tk [3] (.one 4 (tk [5] (.one 6 .done)))) 4 (tk [5] (.one 2 (tk [3] (.one 6 .done)))))) (by kernel_rfl) (by kernel_rfl) fun xs=>?_
     simp only [zz,zq,seval,zl,za,ze,zo,nzs,se1,se2,tks,st1]
     refine ⟨⟨rfl,OpK.lookup KeyT.id (key:=y) (kt:=178) (et:=3) (z:=.int .i64 0) rfl rfl rfl (by kernel_rfl) Proofs.Tryz.zeroValue3 rfl rfl (fun _=>rfl) rfl ?_⟩,⟨rfl,OpK.mapEntry KeyT.id (key:=y) (kt:=178) (et:=3) (z:=.int .i64 0) rfl rfl rfl (by kernel_rfl) Proofs.Tryz.zeroValue3 rfl rfl (fun _=>rfl) rfl ?_⟩⟩
     · rw [hcy]
       simp only [zz,zq,seval,zl,za,ze,zo,nzs,se1,se2,tks,st1,inK,lo,hi]
       refine ⟨by omega,rfl,OpK.mapEntry KeyT.id (key:=y) (kt:=178) (et:=3) (z:=.int .i64 0) rfl rfl rfl (by kernel_rfl) Proofs.Tryz.zeroValue3 rfl rfl (fun _=>rfl) rfl ?_⟩
       rw [hcy]
       simp only [zz,zq,seval,zl,za,ze,zo,nzs,se1,se2,tks,st1]
       refine ⟨rfl,?_⟩
       refine OpK.entryStore (enc:=encId) (key:=y) rfl rfl rfl rfl rfl rfl hj1 ?_
       rw [hj2]
       simp only [zz,zq,seval,zl,za,ze,zo,nzs,se1,se2,tks,st1,inK,lo,hi]
       refine ⟨by omega,(f2 - 1,j+1,upd y (.int .i64 ((q:Int)+1)) es2),⟨⟨by simp only; omega,hup⟩,by simp only; omega⟩,Ent.heap (HEnt.untie (k:=8) rfl) (Ent.of ?_)⟩
       simp only [zq,seval,zl,za,ze,zo,hset,Int.natCast_add]
     · rw [hcy]
       simp only [zz,zq,seval,zl,za,ze,zo,nzs,se1,se2,tks,st1,inK,lo,hi]
       refine ⟨rfl,OpK.lookup KeyT.id (key:=y) (kt:=178) (et:=3) (z:=.int .i64 0) rfl rfl rfl (by kernel_rfl) Proofs.Tryz.zeroValue3 rfl rfl (fun _=>rfl) rfl ?_⟩
       rw [hey]
       simp only [zz,zq,seval,zl,za,ze,zo,nzs,se1,se2,tks,st1,inK,lo,hi]
       refine ⟨by omega,rfl,?_⟩
       refine OpK.entryStore (enc:=encId) (key:=y) rfl rfl rfl rfl rfl rfl hj1 ?_
       rw [hj2]
       simp only [zz,zq,seval,zl,za,ze,zo,nzs,se1,se2,tks,st1,inK,lo,hi]
       refine ⟨by omega,(f2 - 1,j+1,upd y (.int .i64 ((q:Int)+1)) es2),⟨⟨by simp only; omega,hup⟩,by simp only; omega⟩,Ent.heap (HEnt.untie (k:=8) rfl) (Ent.of ?_)⟩
       simp only [zq,seval,zl,za,ze,zo,hset,Int.natCast_add]
   · have d3:((j:Int) < (x.2.2.length:Int))=False:=eq_false (by omega)
     rw [List.take_of_length_le (by omega)] at m2
     simp only [zz,zq,seval,zl,za,ze,zo,nzs,d3,inK,lo,hi]
     refine ⟨by omega,(f - 1,i+1,es2),⟨⟨by simp only; omega,by simp only [htk]; exact m2⟩,by simp only; omega⟩,Ent.of ?_⟩
     simp only [zq,seval,zl,za,ze,zo,Int.natCast_add]
 have d1:((i:Int) < (ws.length:Int))=False:=eq_false (by omega)
 rw [List.take_of_length_le (by omega)] at n2
 have hyl:=hb.len_le
 rw [List.length_map] at hyl
 simp only [zz,zq,seval,zl,za,ze,zo,nzs,d1,hb.len,hb.sl,List.length_map]
 generalize hcb:cntB bag (idsOf (ws.map (·.2)))=cb at hc
 refine LoopK.go (X:=Nat×Nat) (fun z=>([(0,true,.agg [.v b,.v v]),(1,true,.ptr 8 0 0 0),(2,true,.v (.int .i64 0)),(5,true,.own 184),(47,true,.v b),(48,true,.v (.int .i64 bag.length)),(49,true,.v (.int .i64 z.2))],[(184,.mp (encL encId es)),(8,.box [.v b,.v v] none)],M))
  (fun z=>z.1+z.2=bag.length∧cntB (bag.drop z.2) (idsOf (ws.map (·.2)))=cb) (fun z=>z.1) (bag.length,0) ⟨rfl,hcb⟩ (Ent.of ?_) ?_
 · simp only [zq,seval,zl,za,ze,zo,za]
 rintro ⟨f3,k⟩ ⟨q1,q2⟩
 simp only at q1 q2
 by_cases hkl:k < bag.length
 rotate_left
 · have d3:((k:Int) < (bag.length:Int))=False:=eq_false (by omega)
   rw [List.drop_eq_nil_of_le (by omega)] at q2
   have:cb=true:=q2.symm
   subst this
   rw [if_neg (fun h=>by cases h)] at hc
   subst hc
   simp only [zz,zq,seval,zl,za,ze,zo,nzs,d3]
 have d3:((k:Int) < (bag.length:Int))=True:=eq_true (by omega)
 obtain ⟨y,hy,hd2⟩:=l_drop_at (l:=bag) (i:=k) hkl
 obtain ⟨⟨y0,y1⟩,⟨y2,y3⟩,yi⟩:=it_at hb hy
 have hcy:=n2 (true,y.1,y.2.1)
 unfold cntB at q2
 rw [hd2,List.all_cons] at q2
 simp only [zz,zq,seval,zl,za,ze,zo,nzs,d3,yi,yi.2,y0.1,y0.2,y1.1,y1.2,y2.1,y2.2,y3.1,y3.2]
 refine DrawK.held [88] (tk [0,1,3,7,2,4,8,5] (.one 6 (tk [9] .done))) (by kernel_rfl) (by kernel_rfl) fun xs=>?_
 simp only [zz,zq,seval,zl,za,ze,zo,nzs,se1,se2,tks,st1]
 refine ⟨rfl,OpK.lookup KeyT.id (key:=(true,y.1,y.2.1)) (kt:=178) (et:=3) (z:=.int .i64 0) rfl rfl rfl (by kernel_rfl) Proofs.Tryz.zeroValue3 rfl rfl (fun _=>rfl) rfl ?_⟩
 rw [hcy]
 generalize hcnt:((idsOf (ws.map (·.2))).count (true,y.1,y.2.1):Nat)=cn at *
 by_cases heq:(cn:Int)=y.2.2.2
 · have d4:=eq_true heq
   rw [decide_eq_true heq,Bool.true_and] at q2
   simp only [zz,zq,seval,zl,za,ze,zo,nzs,se1,se2,tks,st1,d4,inK,lo,hi]
   refine ⟨by omega,(f3 - 1,k+1),⟨⟨by simp only; omega,q2⟩,by simp only; omega⟩,Ent.heap (HEnt.untie (k:=8) rfl) (Ent.of ?_)⟩
   simp only [zq,seval,zl,za,ze,zo,hset,Int.natCast_add]
 · have d4:=eq_false heq
   rw [decide_eq_false heq,Bool.false_and] at q2
   subst q2
   rw [if_pos rfl] at hc
   subst hc
   simp only [zz,zq,seval,zl,za,ze,zo,nzs,se1,se2,tks,st1,d4]
end Go.X.Vo

namespace Go.X.Vo
open Go Go.X Go.RowKit Go.X.Bg Go.X.Nm

theorem less_tri : ∀ a b:List UInt8,(Op.bytesLess a b || decide (a=b)) = !(Op.bytesLess b a)
 | [],[]=>rfl
 | [],_ :: _=>by simp [Op.bytesLess]
 | _ :: _,[]=>by simp [Op.bytesLess]
 | x :: a,y :: b=>by
   have ih:=less_tri a b
   simp only [Op.bytesLess]
   by_cases h:x=y
   · subst h
     have h1 : ¬ x < x:=UInt8.lt_irrefl x
     simp [h1,ih]
   · have h' : ¬ y=x:=fun e=>h e.symm
     have hb:(x == y)=false:=by simpa using h
     have hb':(y == x)=false:=by simpa using h'
     rw [hb,hb']
     have hd:decide (x :: a=y :: b)=false:=decide_eq_false (fun e=>h (List.cons.inj e).1)
     rw [hd]
     simp only [Bool.false_and,Bool.or_false]
     rcases Nat.lt_or_ge x.toNat y.toNat with hl | hl
     · have h1:x < y:=UInt8.lt_iff_toNat_lt.2 hl
       have h2 : ¬ y < x:=fun e=>by have:=UInt8.lt_iff_toNat_lt.1 e; omega
       simp [h1,h2]
     · have h1 : ¬ x < y:=fun e=>by have:=UInt8.lt_iff_toNat_lt.1 e; omega
       have h2:y < x:=UInt8.lt_iff_toNat_lt.2 (by
        have:x.toNat≠y.toNat:=fun e=>h (UInt8.toNat_inj.1 e)
        omega)
       simp [h1,h2]
end Go.X.Vo

namespace Go.X.Vo
open Go Go.X Go.RowKit Go.X.Bg Go.X.Nm

theorem idxV {α:Type} (q0 q1:α→Value) (p:α→Bool) (f:Nat) (caps:List SV) (hcaps:SV.concs caps=true) (y:Value) (l:List α) (M:Mem) (hy:RowM M y 2 (l.map (fun x=>[q0 x,q1 x])))
  (hf : ∀ x ∈ l,Meets qz f (.agg [.v (q0 x),.v (q1 x)] :: caps) M fun r _ _=>r = .v (.bool (p x))) :
  Meets qz 316 [.v y,.fn f caps] M fun r _ _=>r = .v (.int .i64 (fidx p l 0)):=by
 refine Meets.of_body [0,1,4,5,7,8,9,16] Proofs.Tryz.func316 rfl (by kernel_rfl) (by simp only [SV.concs,SV.conc,hcaps,Bool.and_self]) fun w=>?_
 generalize hc:fidx p l 0=c
 have hyl:=hy.len_le
 rw [List.length_map] at hyl
 simp only [Proofs.Tryz.f316,zz,zq,seval,zl,za,ze,zo,hy.len,hy.sl,List.length_map]
 refine LoopK.go (X:=Nat×Nat) (fun x=>([(0,true,.v y),(1,true,.fn f caps),(7,true,.v (.int .i64 l.length)),(8,true,.v (.int .i64 x.2))],[],M))
  (fun x=>x.1+x.2=l.length∧fidx p (l.drop x.2) x.2=c) (fun x=>x.1) (l.length,0) ⟨rfl,hc⟩ (Ent.of ?_) ?_
 · simp only [zq,seval,zl,za,ze,zo]
 rintro ⟨fu,i⟩ ⟨h1,h2⟩
 simp only at h1 h2
 by_cases hil:i < l.length
 · have c1:((i:Int) < (l.length:Int))=True:=eq_true (by omega)
   obtain ⟨a,hx,hd⟩:=l_drop_at (l:=l) (i:=i) hil
   rw [hd] at h2
   simp only [fidx] at h2
   have g0:=hy.cell (i:=i) (e:=[q0 a,q1 a]) (by rw [List.getElem?_map,hx]; rfl) (off:=0) (by omega)
   have g1:=hy.cell (i:=i) (e:=[q0 a,q1 a]) (by rw [List.getElem?_map,hx]; rfl) (off:=1) (by omega)
   have i0:=hy.ix (i:=(i:Int)) (by omega) (by rw [List.length_map]; omega)
   simp only [List.getD_cons_zero,List.getD_cons_succ] at g0 g1
   simp only [zz,zq,seval,zl,za,ze,zo,nzs,c1,hy.len,hy.sl,List.length_map,i0,i0.2,g0.1,g0.2.1,g1.1,g1.2.1]
   refine CallK.pure ⟨by simp only [SV.concs,SV.conc,hcaps,Bool.and_self],rfl⟩ rfl (hf a (List.mem_of_getElem? hx)) ?_
   cases hp:p a with
   | true=>
     rw [hp,if_pos rfl] at h2
     subst h2
     simp only [zz,zq,seval,zl,za,ze,zo,nzs]
   | false=>
     rw [hp,if_neg (by simp)] at h2
     simp only [zz,zq,seval,zl,za,ze,zo,nzs,inK,lo,hi]
     refine ⟨by omega,(fu - 1,i+1),⟨⟨by simp only; omega,h2⟩,by simp only; omega⟩,Ent.of ?_⟩
     simp only [zq,seval,zl,za,ze,zo,Int.natCast_add]
 · have c1:((i:Int) < (l.length:Int))=False:=eq_false (by omega)
   have hd:l.drop i=[]:=List.drop_eq_nil_of_le (by omega)
   rw [hd] at h2
   simp only [fidx] at h2
   subst h2
   simp only [zz,zq,seval,zl,za,ze,zo,c1]

theorem cloneI (u:Value) (l:List (Bool×Int×Int)) (M:Mem) (hu:RowM M u 3 (l.map encI3)) (hb:l.length≤1000000) :
  Meets qz 148 [.v u] M (OwnR (fun s=>s) 3 (l.map encI3)):=by
 obtain ⟨r1,r2⟩:=hu.rows (by omega)
 cases hs:someV u with
 | true=>
   refine Meets.of_body [0,2,4] Proofs.Tryz.func148 rfl (by kernel_rfl) rfl fun w=>?_
   simp only [Proofs.Tryz.f148,zz,zq,seval,zl,za,ze,zo,hu.sl,hs,r1,List.length_map]
   exact ⟨⟨by omega,r2⟩,56,rfl,rfl⟩
 | false=>
   have hn:l=[]:=by
    cases l with
    | nil=>rfl
    | cons a r=>have:=hu.2.1 (by simp); rw [hs] at this; cases this
   subst hn
   refine Meets.nilOwn ?_
   refine Meets.of_body [0,2,4] Proofs.Tryz.func148 rfl (by kernel_rfl) rfl fun w=>?_
   simp only [Proofs.Tryz.f148,zz,zq,seval,zl,za,ze,zo,hu.sl,hs]

def volIx (l:List Vol) (n:List UInt8):Int:=fidx (fun v:Vol=>decide (v.1=n)) l 0
theorem volIx_ws (ws:List WV) (n:List UInt8):volIx (ws.map (·.2)) n=fidx (fun w:WV=>decide (w.2.1=n)) ws 0:=fidx_map (fun w:WV=>w.2) _ ws 0
theorem volIx_sp (l:List Vol) (n:List UInt8):(volIx l n = -1 ∧ ∀ x ∈ l,x.1≠n) ∨ ∃ j x,volIx l n=((j:Nat):Int)∧l[j]? = some x∧x.1=n:=by
 rcases fidx_sp (fun v:Vol=>decide (v.1=n)) l 0 with ⟨h1,h2⟩ | ⟨j,x,h1,h2,h3,_⟩
 · exact .inl ⟨h1,fun x hx=>of_decide_eq_false (h2 x hx)⟩
 · exact .inr ⟨j,x,by rw [volIx,h1,Nat.zero_add],h2,of_decide_eq_true h3⟩
theorem volIx_at {ws:List WV} {n:List UInt8} (h : ¬ volIx (ws.map (·.2)) n < 0) : ∃ (j:Nat) (x:WV),volIx (ws.map (·.2)) n=(j:Int)∧ws[j]? = some x∧x.2.1=n∧(ws.map (·.2))[j]? = some x.2:=by
 rcases volIx_sp (ws.map (·.2)) n with ⟨h1,_⟩ | ⟨j,x,h1,h2,h3⟩
 · rw [h1] at h; exact absurd (by decide) h
 · have h2':=h2
   rw [List.getElem?_map,Option.map_eq_some_iff] at h2
   obtain ⟨y,hy,rfl⟩:=h2
   exact ⟨j,y,h1,hy,h3,h2'⟩
/-- the blocks of the volume of a name -/
def blks (l:List Vol) (n:List UInt8):List Id3:=((l[(volIx l n).toNat]?).map (·.2)).getD []
theorem blks_at {l:List Vol} {n:List UInt8} {j:Nat} {x:Vol} (h1:volIx l n=(j:Int)) (h2:l[j]? = some x):blks l n=x.2:=by
 unfold blks
 rw [h1,zo,h2]
 rfl
theorem findC1 (bb:Nat) (n:List UInt8) (x:WV) (M:Mem) (h:BoxM M bb [.string ⟨n.toArray⟩]):Meets qz 317 [.agg [.v (.string ⟨x.2.1.toArray⟩),.v x.1],.v (ptrV bb)] M fun r _ _=>r = .v (.bool (decide (x.2.1=n))):=by
 refine Meets.of_body [0,1,2,3] Proofs.Tryz.func317 rfl (by kernel_rfl) rfl fun w=>?_
 have g0:=h.at (j:=0) rfl
 simp only [Proofs.Tryz.f317,zz,zq,seval,zl,za,ze,zo,nzs,g0.1,g0.2,List.toArray_eq_iff]
theorem find (b v:Value) (ws:List WV) (n:List UInt8) (M:Mem) (hv:VolsM M v ws) :
  Meets qz 272 [stV b v,.v (.string ⟨n.toArray⟩)] M fun r _ _=>r = .v (.int .i64 (volIx (ws.map (·.2)) n)):=by
 refine Meets.of_body [0,1,2,3,4] Proofs.Tryz.func272 rfl (by kernel_rfl) rfl fun w=>?_
 rw [volIx_ws]
 simp only [Proofs.Tryz.f272,stV,zz,zq,seval,zl,za,ze,zo,nzs]
 refine stepK.mkFn rfl rfl ?_
 simp only [zz,zq,seval,zl,za,ze,zo,nzs]
 refine CallK.pubB (k:=24) rfl rfl fun bb M2 hM2 hb2=>?_
 simp only [shA1,shA2,zz,zq,seval,zl,za,ze,zo]
 refine CallK.pure ⟨rfl,rfl⟩ rfl (idxV (α:=WV) (fun x=>.string ⟨x.2.1.toArray⟩) (fun x=>x.1) (fun w=>decide (w.2.1=n)) _ _ rfl _ ws M2 (hv.row.le hM2) (fun z _=>findC1 bb n z M2 hb2)) ?_
 simp only [zz,zq,seval,zl,za,ze,zo,nzs]
end Go.X.Vo

namespace Go.X.Vo
open Go Go.X Go.RowKit Go.X.Bg Go.X.Nm

/-- what vol.place answers -/
def plE (bag:List It) (l:List Vol) (n:List UInt8) (at':Int):Int:=if stE bag l≠0 then stE bag l else if volIx l n < 0 then 4 else if at' < 0∨((blks l n).length:Int)≤at' then 1 else 0
def plI (bag:List It) (l:List Vol) (n:List UInt8) (at':Int):Int:=if plE bag l n at'=0 then volIx l n else 0
theorem plE_ok {bag:List It} {l:List Vol} {n:List UInt8} {a:Int} (h:plE bag l n a=0):stE bag l=0 ∧ ¬ volIx l n < 0∧0≤a∧a < ((blks l n).length:Int):=by
 unfold plE at h
 split at h
 · rename_i h1; exact absurd h h1
 rename_i h1
 split at h
 · cases h
 rename_i h2
 split at h
 · cases h
 rename_i h3
 exact ⟨Decidable.of_not_not h1,h2,by omega,by omega⟩
theorem place (b v:Value) (bag:List It) (ws:List WV) (n:List UInt8) (a:Int) (M:Mem) (hb:RowM M b 4 (bag.map Bg.encT)) (hv:VolsM M v ws) :
  Meets qz 220 [stV b v,.v (.string ⟨n.toArray⟩),.v (.int .i64 a)] M fun r _ _=>r = .tup [.v (.int .i64 (plI bag (ws.map (·.2)) n a)),.v (.int .i64 (plE bag (ws.map (·.2)) n a))]:=by
 refine Meets.of_body [0,1,2,3,6,7,8,9,13,19,32] Proofs.Tryz.func220 rfl (by kernel_rfl) rfl fun w=>?_
 have hC:=vcheck b v bag ws M hb hv
 have hF:=find b v ws n M hv
 unfold plI
 generalize hE:plE bag (ws.map (·.2)) n a=e
 unfold plE at hE
 simp only [stV] at hC hF
 simp only [Proofs.Tryz.f220,stV,zz,zq,seval,zl,za,ze,zo,nzs]
 refine CallK.pure ⟨rfl,rfl⟩ rfl hC ?_
 by_cases h1:stE bag (ws.map (·.2))=0
 rotate_left
 · have c1:=eq_false h1
   rw [if_pos h1] at hE
   subst hE
   rw [if_neg h1]
   simp only [zz,zq,seval,zl,za,ze,zo,nzs,c1]
 rw [if_neg (fun h=>h h1)] at hE
 simp only [zz,zq,seval,zl,za,ze,zo,nzs,h1]
 refine CallK.pure ⟨rfl,rfl⟩ rfl hF ?_
 by_cases h2:volIx (ws.map (·.2)) n < 0
 · have c2:=eq_true h2
   rw [if_pos h2] at hE
   subst hE
   simp only [zz,zq,seval,zl,za,ze,zo,nzs,c2]
 have c2:=eq_false h2
 rw [if_neg h2] at hE
 obtain ⟨j,x,k1,k2,k3,k4⟩:=volIx_at h2
 rw [blks_at k1 k4] at hE
 obtain ⟨g0,g1,i0⟩:=vol_at hv k2
 have hblk:=hv.blk x (List.mem_of_getElem? k2)
 rw [k1] at c2 ⊢
 by_cases h3:a < 0
 · have c3:=eq_true h3
   rw [if_pos (.inl h3)] at hE
   subst hE
   simp only [zz,zq,seval,zl,za,ze,zo,nzs,c2,c3]
 have c3:=eq_false h3
 by_cases h4:(x.2.2.length:Int)≤a
 · have c4:=eq_true h4
   rw [if_pos (.inr h4)] at hE
   subst hE
   simp only [zz,zq,seval,zl,za,ze,zo,nzs,c2,c3,i0,i0.2,g1.1,g1.2,hblk.len,hblk.sl,List.length_map,c4]
 · have c4:=eq_false h4
   rw [if_neg (by omega)] at hE
   subst hE
   simp only [zz,zq,seval,zl,za,ze,zo,nzs,c2,c3,i0,i0.2,g1.1,g1.2,hblk.len,hblk.sl,List.length_map,c4,if_true]
/-- the text of an id -/
def txtId (bag:List It) (id:Id3):List UInt8:=((bag[(fidx (isId id) bag 0).toNat]?).map (·.2.2.1)).getD []
def getE (bag:List It) (id:Id3):Int:=if bagE bag≠0 then bagE bag else if fidx (isId id) bag 0 < 0 then 4 else 0
theorem get (b:Value) (bag:List It) (id:Id3) (M:Mem) (hb:RowM M b 4 (bag.map Bg.encT)) :
  Meets qz 221 [.v b,idV id] M fun r _ _=>r = .tup [.v (.string ⟨(if getE bag id=0 then txtId bag id else []).toArray⟩),.v (.int .i64 (getE bag id))]:=by
 refine Meets.of_body [0,1,3,4,5,6,7,11,17] Proofs.Tryz.func221 rfl (by kernel_rfl) rfl fun w=>?_
 have hC:=check b bag M hb
 have hF:=Bg.find b bag id M hb
 generalize hE:getE bag id=e
 unfold getE at hE
 simp only [idV] at hF
 simp only [Proofs.Tryz.f221,idV,zz,zq,seval,zl,za,ze,zo,nzs]
 refine CallK.pure ⟨rfl,rfl⟩ rfl hC ?_
 by_cases h1:bagE bag=0
 rotate_left
 · have c1:=eq_false h1
   rw [if_pos h1] at hE
   subst hE
   rw [if_neg h1]
   simp only [zz,zq,seval,zl,za,ze,zo,nzs,c1]
 rw [if_neg (fun h=>h h1)] at hE
 simp only [zz,zq,seval,zl,za,ze,zo,nzs,h1]
 refine CallK.pure ⟨rfl,rfl⟩ rfl hF ?_
 by_cases h2:fidx (isId id) bag 0 < 0
 · have c2:=eq_true h2
   rw [if_pos h2] at hE
   subst hE
   simp only [zz,zq,seval,zl,za,ze,zo,nzs,c2]
 have c2:=eq_false h2
 rw [if_neg h2] at hE
 subst hE
 rcases fidx_sp (isId id) bag 0 with ⟨h3,_⟩ | ⟨j,x,k1,k2,k3,_⟩
 · rw [h3] at h2; exact absurd (by decide) h2
 rw [Nat.zero_add] at k1
 obtain ⟨⟨y0,y1⟩,⟨y2,y3⟩,yi⟩:=it_at hb k2
 have ht:txtId bag id=x.2.2.1:=by unfold txtId; rw [k1,zo,k2]; rfl
 rw [ht]
 rw [k1] at c2 ⊢
 simp only [zz,zq,seval,zl,za,ze,zo,nzs,c2,yi,yi.2,y2.1,y2.2,if_true]
/-- what vol.Read answers -/
def rdId (l:List Vol) (n:List UInt8) (a:Int):Id3:=((blks l n)[a.toNat]?).getD (false,0,0)
def rdS (bag:List It) (l:List Vol) (n:List UInt8) (a:Int):List UInt8:=if plE bag l n a=0 then (if (rdId l n a).1=true then txtId bag (rdId l n a) else []) else []
theorem goI_ok {bag:List It} : ∀ {l:List Id3},goI bag l=0 → ∀ id ∈ l,idE bag id=0
 | [],_,id,h=>by cases h
 | x :: r,h,id,hm=>by
   rw [goI] at h
   split at h
   · rename_i h1; exact absurd h h1
   · rename_i h1
     rcases List.mem_cons.1 hm with rfl | hm
     · exact Decidable.of_not_not h1
     · exact goI_ok h id hm
theorem idE_is {bag:List It} {id:Id3} (h:idE bag id=0) (hi:id.1=true) : ¬ fidx (isId id) bag 0 < 0:=by
 intro h1
 unfold idE at h
 rw [if_neg (fun e=>by rw [hi] at e; cases e.1),if_pos ⟨hi,h1⟩] at h
 cases h
theorem read (b v:Value) (bag:List It) (ws:List WV) (n:List UInt8) (a:Int) (M:Mem) (hb:RowM M b 4 (bag.map Bg.encT)) (hv:VolsM M v ws) :
  Meets qz 173 [stV b v,.v (.string ⟨n.toArray⟩),.v (.int .i64 a)] M fun r _ _=>r = .tup [.v (.string ⟨(rdS bag (ws.map (·.2)) n a).toArray⟩),.v (.int .i64 (plE bag (ws.map (·.2)) n a))]:=by
 refine Meets.of_body [0,1,2,3,6,7,8,9,10,19,32] Proofs.Tryz.func173 rfl (by kernel_rfl) rfl fun w=>?_
 have hP:=place b v bag ws n a M hb hv
 unfold plI at hP
 unfold rdS
 simp only [stV] at hP
 simp only [Proofs.Tryz.f173,stV,zz,zq,seval,zl,za,ze,zo,nzs]
 refine CallK.pure ⟨rfl,rfl⟩ rfl hP ?_
 by_cases h1:plE bag (ws.map (·.2)) n a=0
 rotate_left
 · have c1:=eq_false h1
   simp only [zz,zq,seval,zl,za,ze,zo,nzs,c1]
 obtain ⟨hs,h2,h3,h4⟩:=plE_ok h1
 obtain ⟨j,x,k1,k2,k3,k4⟩:=volIx_at h2
 have hbk:=blks_at k1 k4
 rw [hbk] at h4
 obtain ⟨g0,g1,i0⟩:=vol_at hv k2
 have hblk:=hv.blk x (List.mem_of_getElem? k2)
 obtain ⟨m,rfl⟩ : ∃ m:Nat,a=m:=⟨a.toNat,by omega⟩
 obtain ⟨id,hid,_⟩:=l_drop_at (l:=x.2.2) (i:=m) (by omega)
 obtain ⟨y0,y1,y2,yi⟩:=id_at hblk hid
 have hrd:rdId (ws.map (·.2)) n (m:Int)=id:=by unfold rdId; rw [hbk,zo,hid]; rfl
 obtain ⟨hB,hV,_⟩:=stE_ok hs
 have hgo:=goI_ok ((volsE_ok hV).2 x.2 (List.mem_of_getElem? k4)).2.2 id (List.mem_of_getElem? hid)
 have hG:=get b bag id M hb
 simp only [idV] at hG
 rw [h1,k1,hrd]
 obtain ⟨q0,q1,q2⟩:=id
 simp only at y0 y1 y2 hG
 cases q0 with
 | false=>simp only [zz,zq,seval,zl,za,ze,zo,nzs,i0,i0.2,g1.1,g1.2,yi,yi.2,y0.1,y0.2,y1.1,y1.2,y2.1,y2.2,if_true]
 | true=>
   have hE:getE bag (true,q1,q2)=0:=by unfold getE; rw [if_neg (fun h=>h hB),if_neg (idE_is hgo rfl)]
   rw [hE,if_pos rfl] at hG
   simp only [zz,zq,seval,zl,za,ze,zo,nzs,i0,i0.2,g1.1,g1.2,yi,yi.2,y0.1,y0.2,y1.1,y1.2,y2.1,y2.2,if_true]
   refine CallK.pure ⟨rfl,rfl⟩ rfl hG ?_
   simp only [zz,zq,seval,zl,za,ze,zo,nzs]
end Go.X.Vo

namespace Go.X.Vo
open Go Go.X Go.RowKit Go.X.Bg Go.X.Nm

theorem less_trans : ∀ {a b c:List UInt8},Op.bytesLess a b=true→Op.bytesLess b c=true→Op.bytesLess a c=true
 | _,_,[],_,h=>by cases ‹List UInt8› <;> simp [Op.bytesLess] at h
 | _,[],_ :: _,h,_=>by cases ‹List UInt8› <;> simp [Op.bytesLess] at h
 | [],_ :: _,_ :: _,_,_=>rfl
 | x :: a,y :: b,z :: c,h1,h2=>by
   simp only [Op.bytesLess,Bool.or_eq_true,decide_eq_true_eq,Bool.and_eq_true,beq_iff_eq] at h1 h2 ⊢
   rcases h1 with h1 | ⟨rfl,h1⟩
   · rcases h2 with h2 | ⟨rfl,h2⟩
     · exact .inl (UInt8.lt_trans h1 h2)
     · exact .inl h1
   · rcases h2 with h2 | ⟨rfl,h2⟩
     · exact .inl h2
     · exact .inr ⟨rfl,less_trans h1 h2⟩
theorem goV_srt (bag:List It) : ∀ (p:Option (List UInt8)) (l:List Vol),goV bag p l=0→(∀ q,p=some q → ∀ v ∈ l,Op.bytesLess q v.1=true)∧l.Pairwise (fun a b=>Op.bytesLess a.1 b.1=true)
 | _,[],_=>⟨fun q _ v hv=>(List.not_mem_nil hv).elim,.nil⟩
 | p,x :: r,h=>by
   rw [goV] at h
   split at h
   · cases h
   rename_i h1
   split at h
   · cases h
   split at h
   · rename_i h3; exact absurd h h3
   obtain ⟨i1,i2⟩:=goV_srt bag (some x.1) r h
   have hx:=i1 x.1 rfl
   refine ⟨fun q hq v hv=>?_,List.pairwise_cons.2 ⟨hx,i2⟩⟩
   subst hq
   have hqx:Op.bytesLess q x.1=true:=by
    have:nameBad (some q) x.1=false:=by
     cases hb:nameBad (some q) x.1 with
     | false=>rfl
     | true=>exact absurd (.inr hb) h1
    simpa [nameBad] using this
   rcases List.mem_cons.1 hv with rfl | hv
   · exact hqx
   · exact less_trans hqx (hx v hv)
theorem vols_srt {bag:List It} {l:List Vol} (h:volsE bag l=0):l.Pairwise (fun a b=>Op.bytesLess a.1 b.1=true):=by
 unfold volsE at h
 split at h
 · cases h
 · exact (goV_srt bag none l h).2
theorem goB_ok : ∀ {l:List It} {pre:List It},goB pre l=0 → ∀ x ∈ l,oneE x=0
 | [],_,_,x,hx=>(List.not_mem_nil hx).elim
 | y :: r,pre,h,x,hx=>by
   rw [goB] at h
   split at h
   · rename_i h1; exact absurd h h1
   rename_i h1
   split at h
   · cases h
   split at h
   · cases h
   rcases List.mem_cons.1 hx with rfl | hx
   · exact Decidable.of_not_not h1
   · exact goB_ok h x hx
theorem bagE_ok {l:List It} (h:bagE l=0):l.length≤64 ∧ ∀ x ∈ l,oneE x=0:=by
 unfold bagE at h
 split at h
 · cases h
 · exact ⟨by omega,goB_ok h⟩
/-- what stands in a place, told -/
def tE (bag:List It) (id:Id3):List UInt8:=if id.1=true then 43 :: txtId bag id else [45]
/-- a map of names to the slices of what stands there -/
def TxtM (bag:List It) (ws:List WV) (es:List (List UInt8×Value)) (M:Mem):Prop:=
 es.length=ws.length ∧ ∀ (i:Nat) (x:WV),ws[i]? = some x → ∃ u,es[i]? = some (x.2.1,u)∧RowM M u 1 ((x.2.2.map (tE bag)).map encS)
theorem TxtM.le {bag:List It} {ws:List WV} {es:List (List UInt8×Value)} {M M':Mem} (h:TxtM bag ws es M) (hl:M.le M'):TxtM bag ws es M':=
 ⟨h.1,fun i x hx=>by obtain ⟨u,h1,h2⟩:=h.2 i x hx; exact ⟨u,h1,h2.le hl⟩⟩
end Go.X.Vo

