/- Contracts of functions and the logic that they are proved in (4 texts in one). Conditions: none. -/
import Derived.Test.YtoohifeidifocaaGreatDoorMg16
import Derived.Test.YtoohifeidifocaaGreatDoorMg21
import Derived.Test.YtoohifeidifocaaGreatDoorMg22
import Derived.Test.YtoohifeidifocaaGreatDoorMg19
import Derived.Test.YtoohifeidifocaaGreatDoorMg13
import Derived.Test.YtoohifeidifocaaGreatDoorMg6
open Nat renaming reduceAdd→zx,reduceMul→zj,reduceDiv→zy,reduceEqDiff→zk,reduceLT→zw,reduceLeDiff→zb,reduceBEq→zg
open Int renaming reduceEq→zd,reduceNe→zf,reduceLT→zp,reduceLE→zm,reduceAdd→zh,reduceSub→zu,reduceMul→zt,reduceNeg→zn,reduceToNat→zc,cast_ofNat_Int→zl,natCast_zero→za,natCast_one→ze,toNat_natCast→zo
namespace Go.X.Bg
end Go.X.Bg
namespace Go.X.Nm
end Go.X.Nm
namespace Go.X.Bp
end Go.X.Bp
namespace Go.X.Sb
end Go.X.Sb
namespace Go.X.Pol
end Go.X.Pol
namespace Go.X.Pl
end Go.X.Pl
namespace Go.X.Rp
end Go.X.Rp
namespace Go.X.Pd
end Go.X.Pd
namespace Go.X.Md
end Go.X.Md
namespace Go.X.Mv
end Go.X.Mv
namespace Go.X.Pt
end Go.X.Pt
set_option linter.unusedSimpArgs false
set_option linter.unusedVariables false
set_option maxHeartbeats 4000000
set_option maxRecDepth 20000
namespace Go.X.Vo
open Go Go.X Go.RowKit Go.X.Bg Go.X.Nm Go.X.Bp Go.X.Sb

/-- a deed -/
abbrev OpT:=Int×List UInt8×List UInt8×Int×List UInt8
def opT (o:OpT):SV:=.agg [.v (.int .i64 o.1),.v (.string ⟨o.2.1.toArray⟩),.v (.string ⟨o.2.2.1.toArray⟩),.v (.int .i64 o.2.2.2.1),.v (.string ⟨o.2.2.2.2.toArray⟩)]
def doA (bag:List It) (l:List Vol) (o:OpT):St×Int:=
  if o.1=1 then makeA bag l o.2.1 o.2.2.2.1 else if o.1=2 then dropA bag l o.2.1 else if o.1=5 then cloneA bag l o.2.1 o.2.2.1 else if o.1=4 then trimA bag l o.2.1 o.2.2.2.1 else writeA bag l o.2.1 o.2.2.2.1 o.2.2.2.2
theorem doA_right (bag:List It) (l:List Vol) (o:OpT):stE (doA bag l o).1.1 (doA bag l o).1.2=0:=by
  unfold doA
  split
  · exact makeA_right _ _ _ _
  split
  · exact dropA_right _ _ _
  split
  · exact cloneA_right _ _ _ _
  split
  · exact trimA_right _ _ _ _
  · exact writeA_right _ _ _ _ _
theorem doA_bad {bag:List It} {l:List Vol} (o:OpT) (h:stE bag l≠0):doA bag l o=(zSt,stE bag l):=by
  unfold doA makeA dropA cloneA trimA writeA plE
  simp only [h,ne_eq,not_false_eq_true,if_true,ite_self]
theorem doA_none {bag:List It} {l:List Vol} (o:OpT) (h:stE bag l=0) (h1:o.1≠1) (h2:volIx l o.2.1 < 0):doA bag l o=(zSt,4):=by
  unfold doA dropA cloneA trimA writeA plE
  simp [h,h1,h2]
/-- a volume whose first blocks are holes -/
def holesV (l:List Vol) (i j:Nat):List Vol:=l.set i ((volAt l i).1,List.replicate j hole++(volAt l i).2.drop j)
theorem holes_at {l:List Vol} {i:Nat} {x:Vol} (h:l[i]? = some x) (j:Nat):(holesV l i j)[i]? = some (x.1,List.replicate j hole++x.2.drop j):=by
  unfold holesV
  rw [volAt_at h,List.getElem?_set_self (List.getElem?_eq_some_iff.1 h).1]
theorem holes_zero {l:List Vol} {i:Nat} {x:Vol} (h:l[i]? = some x):holesV l i 0=l:=by
  unfold holesV
  rw [volAt_at h]
  exact set_same h
theorem holes_len {l:List Vol} {i j:Nat}:(holesV l i j).length=l.length:=by unfold holesV; rw [List.length_set]
theorem trim_holes {l:List Vol} {i j:Nat} {x:Vol} {y:Id3} (h:l[i]? = some x) (hy:x.2[j]? = some y) (bag:List It) :
    trimS ((x.2.take j).foldl lessId bag) (holesV l i j) i j=((x.2.take (j+1)).foldl lessId bag,holesV l i (j+1)):=by
  have hg:=holes_at h j
  have hjl:=(List.getElem?_eq_some_iff.1 hy).1
  have e1:(List.replicate j hole++x.2.drop j)[j]? = some y:=by
    rw [List.getElem?_append_right (by simp),List.length_replicate,Nat.sub_self,List.getElem?_drop,Nat.add_zero,hy]
  unfold trimS
  rw [idAt_at hg e1,foldl_take lessId bag hy,setV_at hg]
  unfold holesV
  rw [volAt_at h,List.set_set]
  have e2:x.2.drop j=y :: x.2.drop (j+1):=by
    rw [List.drop_eq_getElem_cons hjl,(List.getElem?_eq_some_iff.1 hy).2]
  rw [e2,List.set_append_right _ _ (by simp),List.length_replicate,Nat.sub_self,List.set_cons_zero,List.replicate_succ',List.append_assoc]
  rfl
theorem holes_del (l:List Vol) (i j:Nat):(holesV l i j).take i++(holesV l i j).drop (i+1)=delV l i:=by
  unfold holesV delV
  rw [List.take_set_of_le (Nat.le_refl _),List.drop_set_of_lt (Nat.lt_succ_self _)]
theorem holes_mem {l:List Vol} {i j:Nat} {x:Vol} (h:l[i]? = some x) (hj:j≤x.2.length) {y:Vol} (hy:y ∈ holesV l i j):y ∈ l∨y.2.length=x.2.length:=by
  unfold holesV at hy
  rw [volAt_at h] at hy
  rcases List.mem_or_eq_of_mem_set hy with hy | rfl
  · exact .inl hy
  · refine .inr ?_
    simp only [List.length_append,List.length_replicate,List.length_drop]
    omega
theorem rdo (b v:Value) (bag:List It) (ws:List WV) (o:OpT) (M:Mem) (hb:RowM M b 4 (bag.map Bg.encT)) (hv:VolsM M v ws) :
    Meets Proofs.Tryz.prog 29 [stV b v,opT o] M (StM (fun s=>.tup [s,.v (.int .i64 (doA bag (ws.map (·.2)) o).2)]) (doA bag (ws.map (·.2)) o).1):=by
  refine Meets.settleM (Ctx.fst _) ?_
  refine Meets.of_body [0,1,2,3,4,5,6,7,8,9,10,11,13,17,26,30,37,49,52,53,61,62,63,84,91,115,116,117,118,122,148,152] Proofs.Tryz.func29 rfl (by kernel_rfl) rfl fun w=>?_
  obtain ⟨k,n,to,a,s⟩:=o
  generalize hc:doA bag (ws.map (·.2)) (k,n,to,a,s)=c
  have hC:=rstate b v bag ws M hb hv
  have hF:=rvol b v ws n M hv
  simp only [stV] at hC hF
  simp only [Proofs.Tryz.f29,stV,opT,zz,zq,↓reduceIte,zx,zj,zy,zk,zw,zb,reduceCtorEq,zd,zf,zp,zm,zh,zu,zt,zn,zc,zl,za,ze,zo,zg,nzs]
  refine CallK.pure ⟨rfl,rfl⟩ rfl hC ?_
  by_cases h1:stE bag (ws.map (·.2))=0
  rotate_left
  · have c1:=eq_false h1
    rw [doA_bad _ h1] at hc
    subst hc
    simp only [zz,zq,↓reduceIte,zx,zj,zy,zk,zw,zb,reduceCtorEq,zd,zf,zp,zm,zh,zu,zt,zn,zc,zl,za,ze,zo,zg,nzs,c1]
    exact stO_zero _ _ _
  obtain ⟨hB,hV,_⟩:=stE_ok h1
  have hVo:=volsE_ok hV
  have hsrt:=vols_srt hV
  have hbl:=bag_len hB
  rw [List.length_map] at hVo
  have hli : ∀ w ∈ ws,w.2.2.length≤32:=fun w hw=>(hVo.2 w.2 (List.mem_map_of_mem hw)).1
  simp only [zz,zq,↓reduceIte,zx,zj,zy,zk,zw,zb,reduceCtorEq,zd,zf,zp,zm,zh,zu,zt,zn,zc,zl,za,ze,zo,zg,nzs,h1]
  refine CallK.pure ⟨rfl,rfl⟩ rfl hF ?_
  by_cases hk1:k=1
  · subst hk1
    rw [show doA bag (ws.map (·.2)) (1,n,to,a,s)=makeA bag (ws.map (·.2)) n a from if_pos rfl] at hc
    unfold makeA at hc
    rw [if_neg (fun h=>h h1)] at hc
    simp only [zz,zq,↓reduceIte,zx,zj,zy,zk,zw,zb,reduceCtorEq,zd,zf,zp,zm,zh,zu,zt,zn,zc,zl,za,ze,zo,zg,nzs]
    refine CallK.pure ⟨rfl,rfl⟩ rfl (Bg.within a 1 32 M) ?_
    by_cases h3:1≤a∧a≤32
    rotate_left
    · have c3:=decide_eq_false h3
      rw [if_pos (by omega)] at hc
      subst hc
      simp only [zz,zq,↓reduceIte,zx,zj,zy,zk,zw,zb,reduceCtorEq,zd,zf,zp,zm,zh,zu,zt,zn,zc,zl,za,ze,zo,zg,nzs,c3]
      exact stO_zero _ _ _
    have c3:=decide_eq_true h3
    rw [if_neg (by omega)] at hc
    have hFr:=rfresh b v ws n M hv
    simp only [stV] at hFr
    simp only [zz,zq,↓reduceIte,zx,zj,zy,zk,zw,zb,reduceCtorEq,zd,zf,zp,zm,zh,zu,zt,zn,zc,zl,za,ze,zo,zg,nzs,c3]
    refine CallK.pure ⟨rfl,rfl⟩ rfl hFr ?_
    by_cases h4:freshE (ws.map (·.2)) n=0
    rotate_left
    · have c4:=eq_false h4
      rw [if_pos h4] at hc
      subst hc
      simp only [zz,zq,↓reduceIte,zx,zj,zy,zk,zw,zb,reduceCtorEq,zd,zf,zp,zm,zh,zu,zt,zn,zc,zl,za,ze,zo,zg,nzs,c4]
      exact stO_zero _ _ _
    rw [if_neg (fun h=>h h4)] at hc
    subst hc
    obtain ⟨f1,f2,f3⟩:=freshE_ok h4
    obtain ⟨m,rfl⟩ : ∃ m:Nat,a=m:=⟨a.toNat,by omega⟩
    simp only [zz,zq,↓reduceIte,zx,zj,zy,zk,zw,zb,reduceCtorEq,zd,zf,zp,zm,zh,zu,zt,zn,zc,zl,za,ze,zo,zg,nzs,h4]
    refine DrawK.held [16,24] (tk [0,1,3,2,4] (.one 5 (tk [6] (.one 7 (.one 8 (tk [9] .done)))))) (by kernel_rfl) (by kernel_rfl) fun xs=>?_
    simp only [zz,zq,↓reduceIte,zx,zj,zy,zk,zw,zb,reduceCtorEq,zd,zf,zp,zm,zh,zu,zt,zn,zc,zl,za,ze,zo,zg,nzs,se1,se2,tks,← replicate_hole]
    refine ⟨⟨⟨by omega,by omega⟩,by omega,by omega⟩,CallK.pub (k:=360) rfl fun u M3 hM3 hu=>?_⟩
    simp only [zz,zq,↓reduceIte,zx,zj,zy,zk,zw,zb,reduceCtorEq,zd,zf,zp,zm,zh,zu,zt,zn,zc,zl,za,ze,zo,zg,sp1,sp2,sp3,nzs]
    refine CallK.own (T:=fun s=>.agg [.v b,s]) (hT_agg b) rfl rfl (rwith b v ws (u,n,List.replicate m hole) M3 hb.one hb.sl (hv.le hM3) hu.one hu.sl hsrt (fun y hy=>f2 y.2 (List.mem_map_of_mem hy)) (by omega)) rfl fun M4 hM4=>?_
    simp only [zz,zq,↓reduceIte,zx,zj,zy,zk,zw,zb,reduceCtorEq,zd,zf,zp,zm,zh,zu,zt,zn,zc,zl,za,ze,zo,zg,sp1,sp2,sp3,nzs,se1,se2,tks,hb.one]
    refine ⟨hM3.trans hM4,hM3.trans hM4,.v b,.own 376,insW ws (u,n,List.replicate m hole),rfl,?_,fun k h=>(by cases h),⟨hb.le (hM3.trans hM4),rfl⟩,fun w hw=>?_⟩
    · rw [insW_map]
      rfl
    · rcases insW_mem hw with hw | rfl
      · exact (hv.blk w hw).le (hM3.trans hM4)
      · exact hu.le hM4
  have ck1:=eq_false hk1
  by_cases h2:volIx (ws.map (·.2)) n < 0
  · have c2:=eq_true h2
    rw [doA_none (k,n,to,a,s) h1 hk1 h2] at hc
    subst hc
    simp only [zz,zq,↓reduceIte,zx,zj,zy,zk,zw,zb,reduceCtorEq,zd,zf,zp,zm,zh,zu,zt,zn,zc,zl,za,ze,zo,zg,nzs,ck1,c2]
    exact stO_zero _ _ _
  have c2:=eq_false h2
  obtain ⟨i,x,k1,k2,k3,k4⟩:=volIx_at h2
  rw [k1] at c2 ⊢
  by_cases hk2:k=2
  · subst hk2
    rw [show doA bag (ws.map (·.2)) (2,n,to,a,s)=dropA bag (ws.map (·.2)) n from rfl] at hc
    unfold dropA at hc
    rw [if_neg (fun h=>h h1),if_neg h2,k1,zo] at hc
    subst hc
    obtain ⟨_,g1,i0⟩:=vol_at hv k2
    have hblk:=hv.blk x (List.mem_of_getElem? k2)
    have hxl:=hli x (List.mem_of_getElem? k2)
    simp only [zz,zq,↓reduceIte,zx,zj,zy,zk,zw,zb,reduceCtorEq,zd,zf,zp,zm,zh,zu,zt,zn,zc,zl,za,ze,zo,zg,nzs,ck1,c2,i0,i0.2,g1.1,g1.2,hblk.len,hblk.sl,List.length_map]
    refine LoopK.go (X:=Nat×Value×Value×List WV×Mem) (fun z=>([(2,true,.ptr 16 0 0 0),(4,true,.ptr 32 0 0 0),(7,true,.v (.int .i64 i)),(61,true,.v (.int .i64 x.2.2.length)),(62,true,.v (.int .i64 z.1))],
        [(32,.box [.v (.slice none 0 0),.v (.slice none 0 0)] none),(16,.box [.v z.2.1,.v z.2.2.1] none)],z.2.2.2.2))
      (fun z=>(z.1≤x.2.2.length∧M.le z.2.2.2.2)∧(RowM z.2.2.2.2 z.2.1 4 (((x.2.2.take z.1).foldl lessId bag).map Bg.encT)∧VolsM z.2.2.2.2 z.2.2.1 z.2.2.2.1)∧z.2.2.2.1.map (·.2)=holesV (ws.map (·.2)) i z.1) (fun z=>x.2.2.length - z.1) (0,b,v,ws,M) ⟨⟨Nat.zero_le _,Mem.le.refl M⟩,⟨hb,hv⟩,(holes_zero k4).symm⟩ (Ent.of ?_) ?_
    · simp only [zq,↓reduceIte,zx,zj,zy,zk,zw,zb,reduceCtorEq,zd,zf,zp,zm,zh,zu,zt,zn,zc,zl,za,ze,zo,zg,za]
    rintro ⟨j,b3,v3,ws3,N⟩ ⟨⟨n1,nM⟩,⟨n2,n3⟩,n4⟩
    simp only at n1 nM n2 n3 n4
    have hl3:ws3.length=ws.length:=by
      have:=congrArg List.length n4
      rwa [List.length_map,holes_len,List.length_map] at this
    have hli3 : ∀ w ∈ ws3,w.2.2.length≤1000:=fun w hw=>by
      have h1:w.2 ∈ ws3.map (·.2):=List.mem_map_of_mem hw
      rw [n4] at h1
      rcases holes_mem k4 n1 h1 with h1 | h1
      · obtain ⟨y,hy,e⟩:=List.mem_map.1 h1
        rw [← e]
        exact Nat.le_trans (hli y hy) (by omega)
      · omega
    by_cases hjl:j < x.2.2.length
    · have d1:((j:Int) < (x.2.2.length:Int))=True:=eq_true (by omega)
      obtain ⟨y,hy,_⟩:=l_drop_at (l:=x.2.2) (i:=j) hjl
      obtain ⟨x3,hx3,e3⟩:=ws_at n4 (holes_at k4 j)
      have hT:=rtrim b3 v3 _ ws3 i j N n2 n3 (bagE_lessAll _ hB) (by omega) hli3 hx3 (by rw [e3]; simp only [List.length_append,List.length_replicate,List.length_drop]; omega)
      rw [n4,trim_holes k4 hy] at hT
      simp only [stV] at hT
      simp only [zz,zq,↓reduceIte,zx,zj,zy,zk,zw,zb,reduceCtorEq,zd,zf,zp,zm,zh,zu,zt,zn,zc,zl,za,ze,zo,zg,nzs,d1]
      refine CallK.stM (T:=fun s=>s) (fun _ _=>rfl) rfl rfl hT fun b4 v4 ws4 M4 hM4 hw4 hb4 hv4=>?_
      simp only [zz,zq,↓reduceIte,zx,zj,zy,zk,zw,zb,reduceCtorEq,zd,zf,zp,zm,zh,zu,zt,zn,zc,zl,za,ze,zo,zg,nzs,stV,inK,lo,hi,hb4.one,hv4.row.one]
      refine ⟨by omega,(j+1,b4,v4,ws4,M4),⟨⟨⟨by simp only; omega,nM.trans hM4⟩,⟨hb4,hv4⟩,hw4⟩,by simp only; omega⟩,Ent.of ?_⟩
      simp only [zq,↓reduceIte,zx,zj,zy,zk,zw,zb,reduceCtorEq,zd,zf,zp,zm,zh,zu,zt,zn,zc,zl,za,ze,zo,zg,Int.natCast_add]
    · have d1:((j:Int) < (x.2.2.length:Int))=False:=eq_false (by omega)
      rw [List.take_of_length_le (by omega)] at n2
      have hil:i < ws.length:=(List.getElem?_eq_some_iff.1 k2).1
      have hcap:=n3.row.1.2.2.1
      rw [n3.row.len,List.length_map] at hcap
      have s1:=n3.row.sub (lo:=0) (hi:=i) (by omega) (by rw [List.length_map]; omega)
      have s2:=n3.row.sub (lo:=i+1) (hi:=ws3.length) (by omega) (by rw [List.length_map]; omega)
      rw [List.drop_zero,Nat.sub_zero,← List.map_take] at s1
      rw [← List.map_drop,← List.map_take,List.take_of_length_le (by rw [List.length_drop]; omega)] at s2
      simp only [zz,zq,↓reduceIte,zx,zj,zy,zk,zw,zb,reduceCtorEq,zd,zf,zp,zm,zh,zu,zt,zn,zc,zl,za,ze,zo,zg,nzs,d1]
      refine DrawK.held [16] (tk [0,2,4,6,8,1,3,7,9,5,10] (.one 11 (.one 12 (tk [13] (.one 14 (tk [15] .done)))))) (by kernel_rfl) (by kernel_rfl) fun xs=>?_
      have ei:((i:Int)+1).toNat=i+1:=by omega
      simp only [zz,zq,↓reduceIte,zx,zj,zy,zk,zw,zb,reduceCtorEq,zd,zf,zp,zm,zh,zu,zt,zn,zc,zl,za,ze,zo,zg,nzs,se1,se2,tks,n3.row.len,n3.row.sl,List.length_map,inK,lo,hi,ei]
      refine ⟨⟨by omega,by omega⟩,⟨by omega,by omega⟩,⟨⟨by omega,by omega⟩,by omega⟩,⟨s1.one,s2.one⟩,CallK.pub (k:=648) rfl fun v6 M6 h6 hv6=>?_⟩
      simp only [zz,zq,↓reduceIte,zx,zj,zy,zk,zw,zb,reduceCtorEq,zd,zf,zp,zm,zh,zu,zt,zn,zc,zl,za,ze,zo,zg,sp1,sp2,sp3,nzs]
      refine CallK.own Ctx.id rfl rfl (concatV encV v6 [(subV v3 2 0 i,ws3.take i),(subV v3 2 (i+1) ws3.length,ws3.drop (i+1))] M6 hv6 (fun r hr=>?_) (by simp; omega)) rfl fun M7 h7=>?_
      · simp only [List.mem_cons,List.not_mem_nil,or_false] at hr
        rcases hr with rfl | rfl
        · exact s1.le h6
        · exact s2.le h6
      have h37:=h6.trans h7
      simp only [zz,zq,↓reduceIte,zx,zj,zy,zk,zw,zb,reduceCtorEq,zd,zf,zp,zm,zh,zu,zt,zn,zc,zl,za,ze,zo,zg,sp1,sp2,sp3,nzs,se1,se2,tks,n2.one,h37]
      refine ⟨oneVs n2.sl,.v b3,.own 656,ws3.take i++ws3.drop (i+1),rfl,?_,fun k h=>(by cases h),⟨?_,?_⟩,fun w hw=>?_⟩
      · rw [List.map_append,List.map_take,List.map_drop,n4,holes_del]
        rfl
      · simp only [dropSt,volAt_at k4]
        exact n2.le h37
      · simp [IsRow,hget]
      · have hw':w ∈ ws3:=by
          rcases List.mem_append.1 hw with hw | hw
          · exact List.mem_of_mem_take hw
          · exact List.mem_of_mem_drop hw
        exact (n3.blk w hw').le h37
  have ck2:=eq_false hk2
  by_cases hk5:k=5
  · subst hk5
    rw [show doA bag (ws.map (·.2)) (5,n,to,a,s)=cloneA bag (ws.map (·.2)) n to from rfl] at hc
    unfold cloneA at hc
    rw [if_neg (fun h=>h h1),if_neg h2] at hc
    have hFr:=rfresh b v ws to M hv
    simp only [stV] at hFr
    simp only [zz,zq,↓reduceIte,zx,zj,zy,zk,zw,zb,reduceCtorEq,zd,zf,zp,zm,zh,zu,zt,zn,zc,zl,za,ze,zo,zg,nzs,ck1,c2]
    refine CallK.pure ⟨rfl,rfl⟩ rfl hFr ?_
    by_cases h4:freshE (ws.map (·.2)) to=0
    rotate_left
    · have c4:=eq_false h4
      rw [if_pos h4] at hc
      subst hc
      simp only [zz,zq,↓reduceIte,zx,zj,zy,zk,zw,zb,reduceCtorEq,zd,zf,zp,zm,zh,zu,zt,zn,zc,zl,za,ze,zo,zg,nzs,c4]
      exact stO_zero _ _ _
    rw [if_neg (fun h=>h h4),k1,zo] at hc
    subst hc
    obtain ⟨f1,f2,f3⟩:=freshE_ok h4
    obtain ⟨_,g1,i0⟩:=vol_at hv k2
    have hblk:=hv.blk x (List.mem_of_getElem? k2)
    have hxl:=hli x (List.mem_of_getElem? k2)
    simp only [zz,zq,↓reduceIte,zx,zj,zy,zk,zw,zb,reduceCtorEq,zd,zf,zp,zm,zh,zu,zt,zn,zc,zl,za,ze,zo,zg,nzs,h4]
    refine DrawK.ent (X:=Value×Mem) (fun z=>M.le z.2∧RowM z.2 z.1 3 (x.2.2.map encI3)) (fun z=>([(2,true,.ptr 16 0 0 0),(4,true,.ptr 32 0 0 0),(7,true,.v (.int .i64 i)),(11,true,.ptr 88 0 0 0)],
      [(840,.row 2 ((insW ws (z.1,to,x.2.2)).map encV)),(88,.box [.v b,.own 840] none),(32,.box [.v (.slice none 0 0),.v (.slice none 0 0)] none),(16,.box [.v b,.v v] none)],z.2)) ?_ ?_
    · refine DrawK.held [16,24] (tk [0,1,3,5,2,4,6,7,8] (.two 9 (tk [10] (.two 11 (.one 12 (.one 13 .done)) 12 (.one 11 (.one 13 .done)))) 12 (.one 9 (tk [10] (.one 11 (.one 13 .done)))))) (by kernel_rfl) (by kernel_rfl) fun xs=>?_
      simp only [zz,zq,↓reduceIte,zx,zj,zy,zk,zw,zb,reduceCtorEq,zd,zf,zp,zm,zh,zu,zt,zn,zc,zl,za,ze,zo,zg,nzs,se1,se2,tks,i0,i0.2,g1.1,g1.2,hblk.one,hblk.sl]
      refine ⟨?_,?_⟩
      · refine CallK.own Ctx.id rfl rfl (cloneI x.1 x.2.2 M hblk (by omega)) rfl fun M1 hM1=>?_
        simp only [zz,zq,↓reduceIte,zx,zj,zy,zk,zw,zb,reduceCtorEq,zd,zf,zp,zm,zh,zu,zt,zn,zc,zl,za,ze,zo,zg,nzs,se1,se2,tks]
        refine ⟨hM1,?_,?_⟩
        all_goals
          first
            | refine CallK.pub (k:=824) rfl fun u M3 hM3 hu=>?_
            | refine ⟨hM1,CallK.pub (k:=824) rfl fun u M3 hM3 hu=>?_⟩
          simp only [zz,zq,↓reduceIte,zx,zj,zy,zk,zw,zb,reduceCtorEq,zd,zf,zp,zm,zh,zu,zt,zn,zc,zl,za,ze,zo,zg,sp1,sp2,sp3,nzs,se1,se2,tks]
          refine CallK.own (T:=fun s=>.agg [.v b,s]) (hT_agg b) rfl rfl (rwith b v ws (u,to,x.2.2) M3 hb.one hb.sl (hv.le (hM1.trans hM3)) hu.one hu.sl hsrt (fun y hy=>f2 y.2 (List.mem_map_of_mem hy)) (by omega)) rfl fun M4 hM4=>?_
          have h14:=(hM1.trans hM3).trans hM4
          simp only [zz,zq,↓reduceIte,zx,zj,zy,zk,zw,zb,reduceCtorEq,zd,zf,zp,zm,zh,zu,zt,zn,zc,zl,za,ze,zo,zg,sp1,sp2,sp3,nzs,se1,se2,tks,hb.one,h14]
          first
            | exact ⟨oneVs hb.sl,(u,M4),⟨h14,hu.le hM4⟩,Ent.heap (HEnt.untie (k:=32) rfl) (Ent.heap (HEnt.untie (k:=16) rfl) (Ent.of (by simp only [zq,↓reduceIte,zx,zj,zy,zk,zw,zb,reduceCtorEq,zd,zf,zp,zm,zh,zu,zt,zn,zc,zl,za,ze,zo,zg,hset])))⟩
            | exact ⟨(u,M4),⟨h14,hu.le hM4⟩,Ent.heap (HEnt.untie (k:=32) rfl) (Ent.heap (HEnt.untie (k:=16) rfl) (Ent.of (by simp only [zq,↓reduceIte,zx,zj,zy,zk,zw,zb,reduceCtorEq,zd,zf,zp,zm,zh,zu,zt,zn,zc,zl,za,ze,zo,zg,hset])))⟩
      · refine CallK.own Ctx.id rfl rfl (cloneI x.1 x.2.2 M hblk (by omega)) rfl fun M1 hM1=>?_
        simp only [zz,zq,↓reduceIte,zx,zj,zy,zk,zw,zb,reduceCtorEq,zd,zf,zp,zm,zh,zu,zt,zn,zc,zl,za,ze,zo,zg,nzs,se1,se2,tks]
        refine ⟨hM1,?_⟩
        all_goals
          first
            | refine CallK.pub (k:=824) rfl fun u M3 hM3 hu=>?_
            | refine ⟨hM1,CallK.pub (k:=824) rfl fun u M3 hM3 hu=>?_⟩
          simp only [zz,zq,↓reduceIte,zx,zj,zy,zk,zw,zb,reduceCtorEq,zd,zf,zp,zm,zh,zu,zt,zn,zc,zl,za,ze,zo,zg,sp1,sp2,sp3,nzs,se1,se2,tks]
          refine CallK.own (T:=fun s=>.agg [.v b,s]) (hT_agg b) rfl rfl (rwith b v ws (u,to,x.2.2) M3 hb.one hb.sl (hv.le (hM1.trans hM3)) hu.one hu.sl hsrt (fun y hy=>f2 y.2 (List.mem_map_of_mem hy)) (by omega)) rfl fun M4 hM4=>?_
          have h14:=(hM1.trans hM3).trans hM4
          simp only [zz,zq,↓reduceIte,zx,zj,zy,zk,zw,zb,reduceCtorEq,zd,zf,zp,zm,zh,zu,zt,zn,zc,zl,za,ze,zo,zg,sp1,sp2,sp3,nzs,se1,se2,tks,hb.one,h14]
          first
            | exact ⟨oneVs hb.sl,(u,M4),⟨h14,hu.le hM4⟩,Ent.heap (HEnt.untie (k:=32) rfl) (Ent.heap (HEnt.untie (k:=16) rfl) (Ent.of (by simp only [zq,↓reduceIte,zx,zj,zy,zk,zw,zb,reduceCtorEq,zd,zf,zp,zm,zh,zu,zt,zn,zc,zl,za,ze,zo,zg,hset])))⟩
            | exact ⟨(u,M4),⟨h14,hu.le hM4⟩,Ent.heap (HEnt.untie (k:=32) rfl) (Ent.heap (HEnt.untie (k:=16) rfl) (Ent.of (by simp only [zq,↓reduceIte,zx,zj,zy,zk,zw,zb,reduceCtorEq,zd,zf,zp,zm,zh,zu,zt,zn,zc,zl,za,ze,zo,zg,hset])))⟩
    rintro ⟨u,N⟩ ⟨hN,hu⟩
    simp only at hN hu
    have hrf0 : ∀ z ∈ bag,0≤z.2.2.2∧z.2.2.2≤1000000:=fun z hz=>by
      have:=(oneE_ok (bag_ok hB z hz)).2.2
      omega
    simp only [zz,zq,↓reduceIte,zx,zj,zy,zk,zw,zb,reduceCtorEq,zd,zf,zp,zm,zh,zu,zt,zn,zc,zl,za,ze,zo,zg,nzs]
    refine CallK.pub (k:=840) rfl fun v2 N1 hN1 hv2=>?_
    have hNN:=hN.trans hN1
    simp only [zz,zq,↓reduceIte,zx,zj,zy,zk,zw,zb,reduceCtorEq,zd,zf,zp,zm,zh,zu,zt,zn,zc,zl,za,ze,zo,zg,sp1,sp2,sp3,nzs]
    refine CallK.rowF Ctx.id rfl rfl (cloneB b bag N1 (hb.le hNN) (by omega)) fun b2 N2 hN2 hb2 hbf=>?_
    have hvN:=hv.le hNN
    obtain ⟨_,g1,i0⟩:=vol_at (hvN.le hN2) k2
    have hblkN:=(hvN.le hN2).blk x (List.mem_of_getElem? k2)
    simp only [zz,zq,↓reduceIte,zx,zj,zy,zk,zw,zb,reduceCtorEq,zd,zf,zp,zm,zh,zu,zt,zn,zc,zl,za,ze,zo,zg,nzs,i0,i0.2,g1.1,g1.2,hblkN.len,hblkN.sl,List.length_map,oneVs hb2.row.sl,hb2.row.one,hv2.one]
    refine LoopK.go (X:=Nat×Mem) (fun z=>([(4,true,.ptr 32 0 0 0),(11,true,.ptr 88 0 0 0),(115,true,.v x.1),(116,true,.v (.int .i64 x.2.2.length)),(117,true,.v (.int .i64 z.1))],
        [(88,.box [.v b2,.v v2] none),(32,.box [.v (.slice none 0 0),.v (.slice none 0 0)] none)],z.2))
      (fun z=>(z.1≤x.2.2.length∧N1.le z.2)∧RowF z.2 b2 4 (((x.2.2.take z.1).foldl incId bag).map Bg.encT)) (fun z=>x.2.2.length - z.1) (0,N2) ⟨⟨Nat.zero_le _,hN2⟩,hb2⟩ (Ent.of ?_) ?_
    · simp only [zq,↓reduceIte,zx,zj,zy,zk,zw,zb,reduceCtorEq,zd,zf,zp,zm,zh,zu,zt,zn,zc,zl,za,ze,zo,zg,za]
    rintro ⟨j,N3⟩ ⟨⟨n1,nM⟩,n2⟩
    simp only at n1 nM n2
    clear i0 g1 hblkN
    obtain ⟨_,g1,i0⟩:=vol_at (hvN.le nM) k2
    have hblkN:=(hvN.le nM).blk x (List.mem_of_getElem? k2)
    by_cases hjl:j < x.2.2.length
    rotate_left
    · have d1:((j:Int) < (x.2.2.length:Int))=False:=eq_false (by omega)
      rw [List.take_of_length_le (by omega)] at n2
      simp only [zz,zq,↓reduceIte,zx,zj,zy,zk,zw,zb,reduceCtorEq,zd,zf,zp,zm,zh,zu,zt,zn,zc,zl,za,ze,zo,zg,nzs,d1,n2.row.one,hv2.one]
      refine ⟨.v b2,.v v2,insW ws (u,to,x.2.2),rfl,?_,fun k h=>(by cases h),⟨?_,hv2.le nM⟩,fun w hw=>?_⟩
      · rw [insW_map]
        simp only [cloneS,volAt_at k4]
      · simp only [cloneS,volAt_at k4]
        exact n2.row
      · rcases insW_mem hw with hw | rfl
        · exact (hvN.le nM).blk w hw
        · exact hu.le (hN1.trans nM)
    have d1:((j:Int) < (x.2.2.length:Int))=True:=eq_true (by omega)
    obtain ⟨y,hy,_⟩:=l_drop_at (l:=x.2.2) (i:=j) hjl
    obtain ⟨y0,y1,y2,yi⟩:=id_at hblkN hy
    have hst:=foldl_take incId bag hy
    have hrf:=incIds_ref (x.2.2.take j) hrf0
    have htl:(x.2.2.take j).length≤32:=by rw [List.length_take]; omega
    have hix:=idIx_incs (x.2.2.take j) bag y
    generalize (x.2.2.take j).foldl incId bag=bj at *
    cases hq:y.1 with
    | false=>
      have e3:incId bj y=bj:=by
        unfold incId
        rw [if_neg]
        rw [hix]
        unfold idIx
        rcases fidx_sp (isId y) bag 0 with ⟨q1,_⟩ | ⟨k,z,q1,q2,q3,_⟩
        · rw [q1]; decide
        · have:=(isId_iff.1 q3).1; rw [hq] at this; cases this
      rw [e3] at hst
      rw [hq] at y0
      simp only [zz,zq,↓reduceIte,zx,zj,zy,zk,zw,zb,reduceCtorEq,zd,zf,zp,zm,zh,zu,zt,zn,zc,zl,za,ze,zo,zg,nzs,d1,yi,yi.2,y0.1,y0.2,y1.1,y1.2,y2.1,y2.2,inK,lo,hi]
      refine ⟨by omega,(j+1,N3),⟨⟨⟨by simp only; omega,nM⟩,by simp only [hst]; exact n2⟩,by simp only; omega⟩,Ent.of ?_⟩
      simp only [zq,↓reduceIte,zx,zj,zy,zk,zw,zb,reduceCtorEq,zd,zf,zp,zm,zh,zu,zt,zn,zc,zl,za,ze,zo,zg,Int.natCast_add]
    | true=>
      rw [hq] at y0
      have hF:=Bg.item b2 bj y N3 n2.row
      simp only [idV,hq] at hF
      simp only [zz,zq,↓reduceIte,zx,zj,zy,zk,zw,zb,reduceCtorEq,zd,zf,zp,zm,zh,zu,zt,zn,zc,zl,za,ze,zo,zg,nzs,d1,yi,yi.2,y0.1,y0.2,y1.1,y1.2,y2.1,y2.2]
      refine DrawK.heldT 6 [88,104] (tk [0,2,4,1,3] (.one 5 .done)) (by kernel_rfl) (by kernel_rfl) fun xs=>?_
      simp only [zz,zq,↓reduceIte,zx,zj,zy,zk,zw,zb,reduceCtorEq,zd,zf,zp,zm,zh,zu,zt,zn,zc,zl,za,ze,zo,zg,nzs,se1,se2,tks]
      refine CallK.pure ⟨rfl,rfl⟩ rfl hF ?_
      have hgo:=goI_ok ((volsE_ok hV).2 x.2 (List.mem_of_getElem? k4)).2.2 y (List.mem_of_getElem? hy)
      have hge:=idE_is hgo hq
      rcases fidx_sp (isId y) bj 0 with ⟨q1,_⟩ | ⟨p,z,q1,q2,q3,_⟩
      · rw [show fidx (isId y) bag 0=idIx bj y from hix.symm] at hge
        exact absurd (by rw [show idIx bj y=fidx (isId y) bj 0 from rfl,q1]; decide) hge
      rw [Nat.zero_add] at q1
      have e3:incId bj y=setR bj p (z.2.2.2+1):=by
        unfold incId
        rw [show idIx bj y=(p:Int) from q1,if_pos (by omega),zo,atI_at q2]
      rw [e3] at hst
      have hzr:=hrf z (List.mem_of_getElem? q2)
      have hkl:=(List.getElem?_eq_some_iff.1 q2).1
      obtain ⟨_,⟨_,z3⟩,zi⟩:=it_at n2.row q2
      have hg:=getD_it q2
      rw [q1]
      simp only [zz,zq,↓reduceIte,zx,zj,zy,zk,zw,zb,reduceCtorEq,zd,zf,zp,zm,zh,zu,zt,zn,zc,zl,za,ze,zo,zg,nzs,se1,se2,tks,zi,zi.2,z3.1,z3.2,stRD_ea,inK,lo,hi]
      refine ⟨⟨by omega,by omega⟩,?_⟩
      refine OpK.turnF (es:=bj.map Bg.encT) rfl rfl (of_eq_true so3) rfl rfl rfl rfl (by rw [sh3]; rfl) n2 (hbf.of_le hNN) (by rw [List.length_map]; exact hkl) (Nat.le_refl 4) fun M4 hb4 hr4=>?_
      have hr5:RowF M4 b2 4 ((setR bj p (z.2.2.2+1)).map Bg.encT):=by
        rw [hg] at hr4
        rw [← setR_map q2]
        exact hr4
      have hM4:=le_but nM hbf hb4
      simp only [zz,zq,↓reduceIte,zx,zj,zy,zk,zw,zb,reduceCtorEq,zd,zf,zp,zm,zh,zu,zt,zn,zc,zl,za,ze,zo,zg,nzs,inK,lo,hi]
      refine ⟨by omega,(j+1,M4),⟨⟨⟨by simp only; omega,hM4⟩,by simp only [hst]; exact hr5⟩,by simp only; omega⟩,Ent.heap (HEnt.untie (k:=88) rfl) (Ent.heap (HEnt.untie (k:=32) rfl) (Ent.of ?_))⟩
      simp only [zq,↓reduceIte,zx,zj,zy,zk,zw,zb,reduceCtorEq,zd,zf,zp,zm,zh,zu,zt,zn,zc,zl,za,ze,zo,zg,Int.natCast_add,hset]
  have ck5:=eq_false hk5
  have hd:doA bag (ws.map (·.2)) (k,n,to,a,s)=if k=4 then trimA bag (ws.map (·.2)) n a else writeA bag (ws.map (·.2)) n a s:=by
    unfold doA
    simp only [hk1,hk2,hk5,if_false]
  rw [hd] at hc
  obtain ⟨_,g1,i0⟩:=vol_at hv k2
  have hblk:=hv.blk x (List.mem_of_getElem? k2)
  have hxl:=hli x (List.mem_of_getElem? k2)
  have hbk:=blks_at k1 k4
  simp only [zz,zq,↓reduceIte,zx,zj,zy,zk,zw,zb,reduceCtorEq,zd,zf,zp,zm,zh,zu,zt,zn,zc,zl,za,ze,zo,zg,nzs,ck1,ck2,ck5,c2]
  refine DrawK.held [16,24] (tk [0,2,4,1,3,5,6,7,8,9] (.one 10 (tk [11] .done))) (by kernel_rfl) (by kernel_rfl) fun xs=>?_
  simp only [zz,zq,↓reduceIte,zx,zj,zy,zk,zw,zb,reduceCtorEq,zd,zf,zp,zm,zh,zu,zt,zn,zc,zl,za,ze,zo,zg,nzs,se1,se2,tks,i0,i0.2,g1.1,g1.2,hblk.len,hblk.sl,List.length_map,inK,lo,hi]
  refine ⟨by omega,CallK.pure ⟨rfl,rfl⟩ rfl (Bg.within a 0 ((x.2.2.length:Int) - 1) M) ?_⟩
  by_cases h3:0≤a∧a≤(x.2.2.length:Int) - 1
  rotate_left
  · have c3:=decide_eq_false h3
    have hne:(1:Int)≠0:=by decide
    have hp:plE bag (ws.map (·.2)) n a=1:=by
      unfold plE
      rw [if_neg (fun h=>h h1),if_neg h2,hbk,if_pos (by omega)]
    unfold trimA writeA at hc
    rw [hp,if_pos hne,if_pos hne,ite_self] at hc
    subst hc
    simp only [zz,zq,↓reduceIte,zx,zj,zy,zk,zw,zb,reduceCtorEq,zd,zf,zp,zm,zh,zu,zt,zn,zc,zl,za,ze,zo,zg,nzs,se1,se2,tks,c3]
    exact stO_zero _ _ _
  have c3:=decide_eq_true h3
  have hp:plE bag (ws.map (·.2)) n a=0:=by
    unfold plE
    rw [if_neg (fun h=>h h1),if_neg h2,hbk,if_neg (by omega)]
  unfold trimA writeA at hc
  have hzz : ¬ ((0:Int)≠0):=fun h=>h rfl
  rw [hp,if_neg hzz,if_neg hzz,k1,zo] at hc
  obtain ⟨m,rfl⟩ : ∃ m:Nat,a=m:=⟨a.toNat,by omega⟩
  rw [zo] at hc
  have hT:=rtrim b v bag ws i m M hb hv hB (by omega) (fun w hw=>Nat.le_trans (hli w hw) (by omega)) k2 (by omega)
  have hW:=rwrite b v bag ws i m s M hb hv hB (by omega) (fun w hw=>Nat.le_trans (hli w hw) (by omega)) k2 (by omega)
  simp only [stV] at hT hW
  by_cases hk4:k=4
  · have ck4:=eq_true hk4
    rw [if_pos hk4] at hc
    subst hc
    simp only [zz,zq,↓reduceIte,zx,zj,zy,zk,zw,zb,reduceCtorEq,zd,zf,zp,zm,zh,zu,zt,zn,zc,zl,za,ze,zo,zg,nzs,se1,se2,tks,c3,ck4]
    refine CallK.stM (T:=fun s=>s) (fun _ _=>rfl) rfl rfl hT fun b4 v4 ws4 M4 hM4 hw4 hb4 hv4=>?_
    simp only [zz,zq,↓reduceIte,zx,zj,zy,zk,zw,zb,reduceCtorEq,zd,zf,zp,zm,zh,zu,zt,zn,zc,zl,za,ze,zo,zg,nzs,stV,hb4.one,hv4.row.one]
    exact ⟨.v b4,.v v4,ws4,rfl,hw4,fun k h=>(by cases h),⟨hb4,hv4.row⟩,hv4.blk⟩
  · have ck4:=eq_false hk4
    rw [if_neg hk4] at hc
    subst hc
    generalize writeS bag (ws.map (·.2)) i m s=A at hW ⊢
    simp only [zz,zq,↓reduceIte,zx,zj,zy,zk,zw,zb,reduceCtorEq,zd,zf,zp,zm,zh,zu,zt,zn,zc,zl,za,ze,zo,zg,nzs,se1,se2,tks,c3,ck4]
    refine CallK.stM (T:=fun t=>.tup [t,.v (.int .i64 A.2)]) (fun _ _=>rfl) rfl rfl hW fun b4 v4 ws4 M4 hM4 hw4 hb4 hv4=>?_
    simp only [zz,zq,↓reduceIte,zx,zj,zy,zk,zw,zb,reduceCtorEq,zd,zf,zp,zm,zh,zu,zt,zn,zc,zl,za,ze,zo,zg,nzs,stV,hb4.one,hv4.row.one]
    exact ⟨.v b4,.v v4,ws4,rfl,hw4,fun k h=>(by cases h),⟨hb4,hv4.row⟩,hv4.blk⟩
end Go.X.Vo

namespace Go.X.Vo
open Go Go.X Go.RowKit Go.X.Bg Go.X.Nm Go.X.Bp Go.X.Sb

theorem sameC (x y:WV) (M:Mem) (h:x.2=y.2) (hx:RowM M x.1 3 (x.2.2.map encI3)) (hy:RowM M y.1 3 (y.2.2.map encI3)):Meets Proofs.Tryz.prog 56 [wvV x,wvV y] M fun r _ _=>r = .v (.bool true):=by
  refine Meets.of_body [0,1,2,3,4] Proofs.Tryz.func56 rfl (by kernel_rfl) rfl fun w=>?_
  simp only [Proofs.Tryz.f56,wvV,zz,zq,↓reduceIte,zx,zj,zy,zk,zw,zb,reduceCtorEq,zd,zf,zp,zm,zh,zu,zt,zn,zc,zl,za,ze,zo,zg,nzs,hx.one,hy.one,h]
  refine CallK.pure ⟨rfl,rfl⟩ rfl (eqI x.1 y.1 x.2.2 y.2.2 M hx hy) ?_
  rw [h]
  simp only [zz,zq,↓reduceIte,zx,zj,zy,zk,zw,zb,reduceCtorEq,zd,zf,zp,zm,zh,zu,zt,zn,zc,zl,za,ze,zo,zg,nzs,decide_true]
theorem eqVols (u v:Value) (us ws:List WV) (M:Mem) (h:us.map (·.2)=ws.map (·.2)) (hu:VolsM M u us) (hv:VolsM M v ws) :
    Meets Proofs.Tryz.prog 55 [.v u,.v v,.fn 56 []] M fun r _ _=>r = .v (.bool true):=by
  refine Meets.of_body [0,1,2,6,7,8,9,14,15,16,17,18,30] Proofs.Tryz.func55 rfl (by kernel_rfl) rfl fun w=>?_
  have hl:us.length=ws.length:=by
    have:=congrArg List.length h
    rwa [List.length_map,List.length_map] at this
  have hul:=hu.row.len_le
  rw [List.length_map] at hul
  have c0:((us.length:Int)=(ws.length:Int))=True:=eq_true (by omega)
  simp only [Proofs.Tryz.f55,zz,zq,↓reduceIte,zx,zj,zy,zk,zw,zb,reduceCtorEq,zd,zf,zp,zm,zh,zu,zt,zn,zc,zl,za,ze,zo,zg,nzs,hu.row.len,hu.row.sl,hv.row.len,hv.row.sl,List.length_map,c0]
  refine LoopK.go (X:=Nat) (fun i=>([(0,true,.v u),(1,true,.v v),(2,true,.fn 56 []),(15,true,.v u),(16,true,.v (.int .i64 us.length)),(17,true,.v (.int .i64 i))],[],M))
    (fun i=>i≤us.length) (fun i=>us.length - i) 0 (Nat.zero_le _) (Ent.of ?_) ?_
  · simp only [zq,↓reduceIte,zx,zj,zy,zk,zw,zb,reduceCtorEq,zd,zf,zp,zm,zh,zu,zt,zn,zc,zl,za,ze,zo,zg,za]
  intro i n1
  by_cases hil:i < us.length
  rotate_left
  · have d1:((i:Int) < (us.length:Int))=False:=eq_false (by omega)
    simp only [zz,zq,↓reduceIte,zx,zj,zy,zk,zw,zb,reduceCtorEq,zd,zf,zp,zm,zh,zu,zt,zn,zc,zl,za,ze,zo,zg,nzs,d1]
  have d1:((i:Int) < (us.length:Int))=True:=eq_true (by omega)
  obtain ⟨x,hx,_⟩:=l_drop_at (l:=us) (i:=i) hil
  obtain ⟨y,hy,_⟩:=l_drop_at (l:=ws) (i:=i) (by omega)
  have hxy:x.2=y.2:=by
    have e1:(us.map (·.2))[i]? = some x.2:=by rw [List.getElem?_map,hx]; rfl
    have e2:(ws.map (·.2))[i]? = some y.2:=by rw [List.getElem?_map,hy]; rfl
    rw [h,e2] at e1
    exact (Option.some.inj e1).symm
  obtain ⟨g0,g1,i0⟩:=vol_at hu hx
  obtain ⟨f0,f1,j0⟩:=vol_at hv hy
  have hbx:=hu.blk x (List.mem_of_getElem? hx)
  have hby:=hv.blk y (List.mem_of_getElem? hy)
  have hC:=sameC x y M hxy hbx hby
  simp only [wvV] at hC
  simp only [zz,zq,↓reduceIte,zx,zj,zy,zk,zw,zb,reduceCtorEq,zd,zf,zp,zm,zh,zu,zt,zn,zc,zl,za,ze,zo,zg,nzs,d1,i0,i0.2,g0.1,g0.2,g1.1,g1.2,j0,j0.2,f0.1,f0.2,f1.1,f1.2,hbx.one,hby.one]
  refine CallK.pure ⟨rfl,rfl⟩ rfl hC ?_
  simp only [zz,zq,↓reduceIte,zx,zj,zy,zk,zw,zb,reduceCtorEq,zd,zf,zp,zm,zh,zu,zt,zn,zc,zl,za,ze,zo,zg,nzs,inK,lo,hi]
  refine ⟨by omega,i+1,⟨by omega,by omega⟩,Ent.of ?_⟩
  simp only [zq,↓reduceIte,zx,zj,zy,zk,zw,zb,reduceCtorEq,zd,zf,zp,zm,zh,zu,zt,zn,zc,zl,za,ze,zo,zg,Int.natCast_add]
theorem samest (b v b2 v2:Value) (bag:List It) (us ws:List WV) (M:Mem) (h:us.map (·.2)=ws.map (·.2)) (hb:RowM M b 4 (bag.map Bg.encT)) (hb2:RowM M b2 4 (bag.map Bg.encT)) (hu:VolsM M v us) (hv:VolsM M v2 ws) :
    Meets Proofs.Tryz.prog 21 [stV b v,stV b2 v2] M fun r _ _=>r = .v (.bool true):=by
  refine Meets.of_body [0,1,2,3,4] Proofs.Tryz.func21 rfl (by kernel_rfl) rfl fun w=>?_
  simp only [Proofs.Tryz.f21,stV,zz,zq,↓reduceIte,zx,zj,zy,zk,zw,zb,reduceCtorEq,zd,zf,zp,zm,zh,zu,zt,zn,zc,zl,za,ze,zo,zg,nzs,hb.one,hb2.one,hu.row.one,hv.row.one]
  refine CallK.pure ⟨rfl,rfl⟩ rfl (eqB b b2 bag bag M hb hb2) ?_
  simp only [zz,zq,↓reduceIte,zx,zj,zy,zk,zw,zb,reduceCtorEq,zd,zf,zp,zm,zh,zu,zt,zn,zc,zl,za,ze,zo,zg,nzs,decide_true]
  refine CallK.pure ⟨rfl,rfl⟩ rfl (eqVols v v2 us ws M h hu hv) ?_
  simp only [zz,zq,↓reduceIte,zx,zj,zy,zk,zw,zb,reduceCtorEq,zd,zf,zp,zm,zh,zu,zt,zn,zc,zl,za,ze,zo,zg,nzs]
end Go.X.Vo

namespace Go.X.Vo
open Go Go.X Go.RowKit Go.X.Bg Go.X.Nm

theorem names_inj {ws:List WV} (h:(ws.map (·.2)).Pairwise (fun a b=>Op.bytesLess a.1 b.1=true)) {i j:Nat} {x y:WV} (hi:ws[i]? = some x) (hj:ws[j]? = some y) (e:x.2.1=y.2.1):i=j:=by
  have hil:=(List.getElem?_eq_some_iff.1 hi).1
  have hjl:=(List.getElem?_eq_some_iff.1 hj).1
  have ex:ws[i]=x:=(List.getElem?_eq_some_iff.1 hi).2
  have ey:ws[j]=y:=(List.getElem?_eq_some_iff.1 hj).2
  rcases Nat.lt_trichotomy i j with hlt | heq | hlt
  · have:=List.pairwise_iff_getElem.1 h i j (by rw [List.length_map]; omega) (by rw [List.length_map]; omega) hlt
    rw [List.getElem_map,List.getElem_map,ex,ey,e,less_irr] at this
    cases this
  · exact heq
  · have:=List.pairwise_iff_getElem.1 h j i (by rw [List.length_map]; omega) (by rw [List.length_map]; omega) hlt
    rw [List.getElem_map,List.getElem_map,ex,ey,e,less_irr] at this
    cases this
/-- what the map of names holds for a name -/
theorem txt_fnd {bag:List It} {ws:List WV} {es:List (List UInt8×Value)} {M:Mem} (h:TxtM bag ws es M) (hs:(ws.map (·.2)).Pairwise (fun a b=>Op.bytesLess a.1 b.1=true)) {j:Nat} {x:WV} (hx:ws[j]? = some x) :
    ∃ u,((fnd x.2.1 es 0).map (·.2)).getD (.slice none 0 0)=u∧RowM M u 1 ((x.2.2.map (tE bag)).map encS):=by
  obtain ⟨u,h1,h2⟩:=h.2 j x hx
  rcases fnd_spec x.2.1 es 0 with ⟨_,h4⟩ | ⟨k,v,h3,h4⟩
  · exact absurd rfl (h4 _ (List.mem_of_getElem? h1))
  · have hkl:k < ws.length:=by rw [← h.1]; exact (List.getElem?_eq_some_iff.1 h4).1
    obtain ⟨u2,h5,_⟩:=h.2 k ws[k] (List.getElem?_eq_getElem hkl)
    rw [h4] at h5
    have e:=Option.some.inj h5
    have hkj:=names_inj hs (List.getElem?_eq_getElem hkl) hx (congrArg Prod.fst e).symm
    subst hkj
    rw [h1] at h4
    have e2:=Option.some.inj h4
    refine ⟨u,?_,h2⟩
    rw [h3]
    exact (congrArg Prod.snd e2).symm
theorem tE_drop (bag:List It) (id:Id3):(tE bag id).drop 1=if id.1=true then txtId bag id else []:=by
  unfold tE
  split <;> rfl
end Go.X.Vo

namespace Go.X.Tv
open Go Go.X Go.X.Pol Go.X.Pl Go.X.Rp Go.X.Pd Go.X.Md Go.X.Mv Go.X.Pt

def be4 (p:Nat):List UInt8:=[UInt8.ofNat (p / 16777216),UInt8.ofNat (p / 65536),UInt8.ofNat (p / 256),UInt8.ofNat p]
theorem ofNat_mod (x:Nat):UInt8.ofNat (x % 256)=UInt8.ofNat x:=by
  apply UInt8.toNat_inj.1
  simp
theorem byteW (x:Nat):UInt8.ofNat (IntKind.u8.wrap (x:Int)).toNat=UInt8.ofNat x:=by
  have h:(IntKind.u8.wrap (x:Int)).toNat=x % 256:=by
    rw [IntKind.wrap_u8]
    omega
  rw [h,ofNat_mod]
theorem be4_len (p:Nat):(be4 p).length=4:=rfl
theorem rfour (p:Nat) (M:Mem) (hp:p≤2147483647) :
    Meets Proofs.Tryz.prog 82 [.v (.int .i64 (p:Int))] M fun r _ _=>r = .v (.string ⟨(be4 p).toArray⟩):=by
  refine Meets.of_body [0,2] Proofs.Tryz.func82 rfl (by kernel_rfl) rfl fun w=>?_
  have e1:(p:Int).tdiv 16777216=((p / 16777216:Nat):Int):=(Int.ofNat_tdiv p 16777216).symm
  have e2:(p:Int).tdiv 65536=((p / 65536:Nat):Int):=(Int.ofNat_tdiv p 65536).symm
  have e3:(p:Int).tdiv 256=((p / 256:Nat):Int):=(Int.ofNat_tdiv p 256).symm
  have e4 : ∀ x:Nat,(x:Int).tmod 256=((x % 256:Nat):Int):=fun x=>(Int.ofNat_tmod x 256).symm
  simp only [Proofs.Tryz.f82,zz,zq,↓reduceIte,zx,zj,zy,zk,zw,zb,reduceCtorEq,zd,zf,zp,zm,zh,zu,zt,zn,zc,zl,za,ze,zo,zg,byteOf,e1,e2,e3,e4,byteW,ofNat_mod,inK,lo,hi]
  exact ⟨by omega,(fun h=>by cases h),by omega,(fun h=>by cases h),by omega,(fun h=>by cases h),(fun h=>by cases h),rfl⟩
theorem prf_le (m:Nat) (h0:m≠0) (hm:m≤2147483647) : ∀ (s:List UInt8) (p:Nat),p≤1073741824→prf m s p≤1073741824
  | [],p,h=>h
  | b :: s,p,h=>by
    simp only [prf,List.foldl_cons]
    exact prf_le m h0 hm s _ (red_le h0 hm)
/-! ### verifying -/
def good (s:Int):Prop:=0≤s∧s≤2147483647
instance (s:Int):Decidable (good s):=inferInstanceAs (Decidable (_∧_))
/-! ### the document's sides -/
end Go.X.Tv

