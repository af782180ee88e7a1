/- Contracts of functions and the logic that they are proved in (5 texts in one). Conditions: none. -/
import Derived.Test.YtoohifeidifocaaGreatDoorMg19
import Derived.Shelf.SlSortFuncK.WholeK
import Derived.Shelf.GgSortFunc.Tiny
import Derived.Deep.QuietTactic
import Derived.Test.YtoohifeidifocaaGreatDoorBag
import Derived.Test.YtoohifeidifocaaGreatDoorMg17
import Derived.Test.YtoohifeidifocaaGreatDoorMg15
open Nat renaming reduceAdd→zx,reduceMul→zj,reduceDiv→zy,reduceEqDiff→zk,reduceLT→zw,reduceLeDiff→zb,reduceBEq→zg
open Int renaming reduceEq→zd,reduceNe→zf,reduceLT→zp,reduceLE→zm,reduceAdd→zh,reduceSub→zu,reduceMul→zt,reduceNeg→zn,reduceToNat→zc,cast_ofNat_Int→zl,natCast_zero→za,natCast_one→ze,toNat_natCast→zo
namespace Go.X.Bg
end Go.X.Bg
namespace Go.X.Nm
end Go.X.Nm
namespace Go.X.Bp
end Go.X.Bp
namespace Go.X.Sb
end Go.X.Sb
set_option linter.unusedSimpArgs false
set_option linter.unusedVariables false
set_option maxHeartbeats 4000000
set_option maxRecDepth 20000
namespace Go.X.Vo
open Go Go.X Go.RowKit Go.X.Bg Go.X.Nm Go.X.Bp Go.X.Sb

theorem ws_at {ws:List WV} {L:List Vol} (h:ws.map (·.2)=L) {i:Nat} {y:Vol} (hy:L[i]? = some y) : ∃ x,ws[i]? = some x∧x.2=y:=by
  rw [← h,List.getElem?_map,Option.map_eq_some_iff] at hy
  exact hy
theorem ws_len {ws ws2:List WV} (h:ws2.map (·.2)=ws.map (·.2)):ws2.length=ws.length:=by
  have:=congrArg List.length h
  rwa [List.length_map,List.length_map] at this
theorem foldl_take {α β:Type} (g:β→α→β) (b:β) {l:List α} {j:Nat} {y:α} (h:l[j]? = some y):(l.take (j+1)).foldl g b=g ((l.take j).foldl g b) y:=by
  rw [List.take_add_one,h,List.foldl_append]
  rfl
theorem vdrop (b v:Value) (bag:List It) (ws:List WV) (n:List UInt8) (M:Mem) (hb:RowM M b 4 (bag.map Bg.encT)) (hv:VolsM M v ws) :
    Meets Proofs.Tryz.prog 65 [stV b v,.v (.string ⟨n.toArray⟩)] M (StM (fun s=>.tup [s,.v (.int .i64 (dropA bag (ws.map (·.2)) n).2)]) (dropA bag (ws.map (·.2)) n).1):=by
  refine Meets.settleM (Ctx.fst _) ?_
  refine Meets.of_body [0,1,2,4,5,6,7,8,10,14,21,30,31,32,33,37] Proofs.Tryz.func65 rfl (by kernel_rfl) rfl fun w=>?_
  generalize hc:dropA bag (ws.map (·.2)) n=c
  unfold dropA at hc
  have hC:=vcheck b v bag ws M hb hv
  have hF:=find b v ws n M hv
  simp only [stV] at hC hF
  simp only [Proofs.Tryz.f65,stV,zz,zq,↓reduceIte,zx,zj,zy,zk,zw,zb,reduceCtorEq,zd,zf,zp,zm,zh,zu,zt,zn,zc,zl,za,ze,zo,zg,nzs]
  refine CallK.pure ⟨rfl,rfl⟩ rfl hC ?_
  by_cases h1:stE bag (ws.map (·.2))=0
  rotate_left
  · have c1:=eq_false h1
    rw [if_pos h1] at hc
    subst hc
    simp only [zz,zq,↓reduceIte,zx,zj,zy,zk,zw,zb,reduceCtorEq,zd,zf,zp,zm,zh,zu,zt,zn,zc,zl,za,ze,zo,zg,nzs,c1]
    exact stO_zero _ _ _
  rw [if_neg (fun h=>h h1)] at hc
  obtain ⟨hB,hV,_⟩:=stE_ok h1
  have hVo:=volsE_ok hV
  have hbl:=bag_len hB
  rw [List.length_map] at hVo
  have hli : ∀ w ∈ ws,w.2.2.length≤32:=fun w hw=>(hVo.2 w.2 (List.mem_map_of_mem hw)).1
  simp only [zz,zq,↓reduceIte,zx,zj,zy,zk,zw,zb,reduceCtorEq,zd,zf,zp,zm,zh,zu,zt,zn,zc,zl,za,ze,zo,zg,nzs,h1]
  refine CallK.pure ⟨rfl,rfl⟩ rfl hF ?_
  by_cases h2:volIx (ws.map (·.2)) n < 0
  · have c2:=eq_true h2
    rw [if_pos h2] at hc
    subst hc
    simp only [zz,zq,↓reduceIte,zx,zj,zy,zk,zw,zb,reduceCtorEq,zd,zf,zp,zm,zh,zu,zt,zn,zc,zl,za,ze,zo,zg,nzs,c2]
    exact stO_zero _ _ _
  have c2:=eq_false h2
  rw [if_neg h2] at hc
  subst hc
  obtain ⟨i,x,k1,k2,k3,k4⟩:=volIx_at h2
  have hcp:=copied b v bag ws M hb hv (by omega) (by omega) (fun w hw=>Nat.le_trans (hli w hw) (by omega))
  simp only [stV] at hcp
  rw [k1] at c2 ⊢
  simp only [zz,zq,↓reduceIte,zx,zj,zy,zk,zw,zb,reduceCtorEq,zd,zf,zp,zm,zh,zu,zt,zn,zc,zl,za,ze,zo,zg,nzs,c2,zo]
  refine CallK.stF (T:=fun s=>s) (fun _ _=>rfl) rfl rfl hcp fun b2 v2 ws2 M2 hM2 hw2 hS=>?_
  obtain ⟨x2,hx2,e2⟩:=ws_at hw2 k4
  obtain ⟨_,g1,i0⟩:=vol_at hS.volsM hx2
  have hblk:=hS.blk x2 (List.mem_of_getElem? hx2)
  have hbll:=hblk.row.len_le
  have hl2:=ws_len hw2
  have hil:i < ws.length:=(List.getElem?_eq_some_iff.1 k2).1
  rw [List.length_map] at hbll
  simp only [zz,zq,↓reduceIte,zx,zj,zy,zk,zw,zb,reduceCtorEq,zd,zf,zp,zm,zh,zu,zt,zn,zc,zl,za,ze,zo,zg,nzs,stV,hS.bag.row.one,hS.vols.row.one,i0,i0.2,g1.1,g1.2,hblk.row.len,hblk.row.sl,List.length_map]
  refine LoopK.go (X:=Nat×Value×Mem) (fun z=>([(2,true,.ptr 16 0 0 0),(4,true,.ptr 32 0 0 0),(7,true,.v (.int .i64 i)),(8,true,.ptr 64 0 0 0),(30,true,.v x2.1),(31,true,.v (.int .i64 x2.2.2.length)),(32,true,.v (.int .i64 z.1))],
      [(64,.box [.v z.2.1,.v v2] none),(32,.box [.v (.slice none 0 0),.v (.slice none 0 0)] none),(16,.box [.v b,.v v] none)],z.2.2))
    (fun z=>(z.1≤x2.2.2.length∧M2.le z.2.2)∧RowF z.2.2 z.2.1 4 (((x2.2.2.take z.1).foldl lessId bag).map Bg.encT)∧apartB z.2.1 v2) (fun z=>x2.2.2.length - z.1) (0,b2,M2) ⟨⟨Nat.zero_le _,Mem.le.refl M2⟩,hS.bag,hS.bv⟩ (Ent.of ?_) ?_
  · simp only [zq,↓reduceIte,zx,zj,zy,zk,zw,zb,reduceCtorEq,zd,zf,zp,zm,zh,zu,zt,zn,zc,zl,za,ze,zo,zg,za]
  rintro ⟨j,b3,N⟩ ⟨⟨n1,nM⟩,n2,n3⟩
  simp only at n1 nM n2 n3
  by_cases hjl:j < x2.2.2.length
  · have d1:((j:Int) < (x2.2.2.length:Int))=True:=eq_true (by omega)
    obtain ⟨y,hy,_⟩:=l_drop_at (l:=x2.2.2) (i:=j) hjl
    obtain ⟨y0,y1,y2,yi⟩:=id_at (hblk.row.le nM) hy
    have hst:=foldl_take lessId bag hy
    have hbE:=bagE_lessAll (x2.2.2.take j) hB
    generalize (x2.2.2.take j).foldl lessId bag=bj at *
    obtain ⟨q0,q1,q2⟩:=y
    simp only at y0 y1 y2
    cases q0 with
    | false=>
      have e3:lessId bj (false,q1,q2)=bj:=if_neg (fun h=>by cases h)
      rw [e3] at hst
      simp only [zz,zq,↓reduceIte,zx,zj,zy,zk,zw,zb,reduceCtorEq,zd,zf,zp,zm,zh,zu,zt,zn,zc,zl,za,ze,zo,zg,nzs,d1,yi,yi.2,y0.1,y0.2,y1.1,y1.2,y2.1,y2.2,inK,lo,hi]
      refine ⟨by omega,(j+1,b3,N),⟨⟨⟨by simp only; omega,nM⟩,by simp only [hst]; exact n2,n3⟩,by simp only; omega⟩,Ent.of ?_⟩
      simp only [zq,↓reduceIte,zx,zj,zy,zk,zw,zb,reduceCtorEq,zd,zf,zp,zm,zh,zu,zt,zn,zc,zl,za,ze,zo,zg,Int.natCast_add]
    | true=>
      have e3:lessId bj (true,q1,q2)=(dropS bj (true,q1,q2)).1:=by rw [dropS_ok hbE]; exact if_pos rfl
      rw [e3] at hst
      have hD:=drop b3 bj (true,q1,q2) N n2.row
      simp only [idS] at hD
      simp only [zz,zq,↓reduceIte,zx,zj,zy,zk,zw,zb,reduceCtorEq,zd,zf,zp,zm,zh,zu,zt,zn,zc,zl,za,ze,zo,zg,nzs,d1,yi,yi.2,y0.1,y0.2,y1.1,y1.2,y2.1,y2.2]
      refine CallK.rowF (T:=fun s=>.tup [s,.v (.int .i64 (dropS bj (true,q1,q2)).2)]) (Ctx.fst _) rfl rfl hD fun b4 N2 hN2 hb4 hf4=>?_
      simp only [zz,zq,↓reduceIte,zx,zj,zy,zk,zw,zb,reduceCtorEq,zd,zf,zp,zm,zh,zu,zt,zn,zc,zl,za,ze,zo,zg,nzs,inK,lo,hi,hb4.row.one]
      refine ⟨oneVs hb4.row.sl,by omega,(j+1,b4,N2),⟨⟨⟨by simp only; omega,nM.trans hN2⟩,by simp only [hst]; exact hb4,RowF.apart (hS.vols.le nM) hf4⟩,by simp only; omega⟩,Ent.of ?_⟩
      simp only [zq,↓reduceIte,zx,zj,zy,zk,zw,zb,reduceCtorEq,zd,zf,zp,zm,zh,zu,zt,zn,zc,zl,za,ze,zo,zg,Int.natCast_add]
  · have d1:((j:Int) < (x2.2.2.length:Int))=False:=eq_false (by omega)
    rw [List.take_of_length_le (by omega)] at n2
    simp only [zz,zq,↓reduceIte,zx,zj,zy,zk,zw,zb,reduceCtorEq,zd,zf,zp,zm,zh,zu,zt,zn,zc,zl,za,ze,zo,zg,nzs,d1,inK,lo,hi]
    refine ⟨by omega,?_⟩
    refine CallK.claim (A:=fun s=>[s,.v (.int .i64 i),.v (.int .i64 (i+1:Nat))]) 1000 (Ctxs.cons0 _ rfl) rfl (hS.vols.le nM) hS.fv rfl rfl fun M4 hb4=>?_
    refine CallK.lendR (A:=fun s=>[s,.v (.int .i64 i),.v (.int .i64 (i+1:Nat))]) 8000 (Ctxs.cons0 _ rfl) Ctx.id rfl rfl rfl (fun M6 _=>deleteV (ws2.map encV) i (i+1) M6 (by omega) (by rw [List.length_map]; omega) (by rw [List.length_map]; omega)) rfl ?_
    have hr:(ws2.map encV).take i++(ws2.map encV).drop (i+1)=(ws2.take i++ws2.drop (i+1)).map encV:=by rw [List.map_append,List.map_take,List.map_drop]
    rw [hr]
    have hb5:=RowF.but n2 hb4 n3.symm
    simp only [zz,zq,↓reduceIte,zx,zj,zy,zk,zw,zb,reduceCtorEq,zd,zf,zp,zm,zh,zu,zt,zn,zc,zl,za,ze,zo,zg,sp1,sp2,sp3,nzs,hb5.row.one]
    refine ⟨.v b3,.own 416,ws2.take i++ws2.drop (i+1),rfl,?_,fun k h=>(by cases h),⟨?_,rfl⟩,fun w hw=>?_⟩
    · simp only [dropSt,delV,List.map_append,List.map_take,List.map_drop,hw2]
    · simp only [dropSt,volAt_at k4]
      rw [e2] at hb5
      exact hb5.row
    · have hw':w ∈ ws2:=by
        rcases List.mem_append.1 hw with hw | hw
        · exact List.mem_of_mem_take hw
        · exact List.mem_of_mem_drop hw
      exact (RowF.but ((hS.blk w hw').le nM) hb4 (hS.vw hw')).row
end Go.X.Vo

namespace Go.X.Vo
open Go Go.X Go.RowKit Go.X.Bg Go.X.Nm Go.X.Bp Go.X.Sb

theorem stKO_zero (M0:Mem) (e:Value) (H:HS) (M:Mem):StKO M0 (fun s=>.tup [s,.v e]) zSt (.tup [.agg [.v (.slice none 0 0),.v (.slice none 0 0)],.v e]) H M:=
  ⟨.v (.slice none 0 0),.v (.slice none 0 0),[],rfl,rfl,fun k h=>(by cases h),⟨⟨(zero_stK M0 M).bag,(zero_stK M0 M).fb⟩,⟨(zero_stK M0 M).vols,(zero_stK M0 M).fv⟩⟩,fun w hw=>(by cases hw),(zero_stK M0 M).ap⟩
theorem set_same {α:Type} {l:List α} {i:Nat} {x:α} (h:l[i]? = some x):l.set i x=l:=by
  apply List.ext_getElem?
  intro j
  rw [List.getElem?_set]
  split
  · rename_i e
    subst e
    rw [if_pos (List.getElem?_eq_some_iff.1 h).1,h]
  · rfl
theorem stKO_of {M0 M:Mem} {b v:Value} {bag:List It} {ws:List WV} {A:St} (T:SV→SV) (H:HS) (h:StF M0 M b v bag ws) (h1:bag=A.1) (h2:ws.map (·.2)=A.2):StKO M0 T A (T (.agg [.v b,.v v])) H M:=by
  subst h1
  exact ⟨.v b,.v v,ws,rfl,h2,fun k h=>(by cases h),⟨⟨h.bag,h.fb⟩,⟨h.vols,h.fv⟩⟩,fun w hw=>⟨h.blk w hw,h.fw hw⟩,h.ap⟩
theorem idsl_set {l:List Id3} {a:Nat} (r:Id3):(l.map encI3).set a (encI3 r)=(l.set a r).map encI3:=by rw [List.map_set]
theorem getD_id {l:List Id3} {i:Nat} {x:Id3} (h:l[i]? = some x):(l.map encI3).getD i []=[.bool x.1,.int .i64 x.2.1,.int .i64 x.2.2]:=by
  rw [List.getD_eq_getElem?_getD,List.getElem?_map,h]
  rfl
theorem vtrim (b v:Value) (bag:List It) (ws:List WV) (n:List UInt8) (at':Int) (M:Mem) (hb:RowM M b 4 (bag.map Bg.encT)) (hv:VolsM M v ws) :
    Meets Proofs.Tryz.prog 67 [stV b v,.v (.string ⟨n.toArray⟩),.v (.int .i64 at')] M (StK M (fun s=>.tup [s,.v (.int .i64 (trimA bag (ws.map (·.2)) n at').2)]) (trimA bag (ws.map (·.2)) n at').1):=by
  refine Meets.settleF (Ctx.fst _) ?_
  refine Meets.of_body [0,1,2,3,6,7,8,9,10,11,20,36] Proofs.Tryz.func67 rfl (by kernel_rfl) rfl fun w=>?_
  generalize hc:trimA bag (ws.map (·.2)) n at'=c
  unfold trimA at hc
  have hP:=place b v bag ws n at' M hb hv
  unfold plI at hP
  simp only [stV] at hP
  simp only [Proofs.Tryz.f67,stV,zz,zq,↓reduceIte,zx,zj,zy,zk,zw,zb,reduceCtorEq,zd,zf,zp,zm,zh,zu,zt,zn,zc,zl,za,ze,zo,zg,nzs]
  refine CallK.pure ⟨rfl,rfl⟩ rfl hP ?_
  by_cases h1:plE bag (ws.map (·.2)) n at'=0
  rotate_left
  · have c1:=eq_false h1
    rw [if_pos h1] at hc
    subst hc
    simp only [zz,zq,↓reduceIte,zx,zj,zy,zk,zw,zb,reduceCtorEq,zd,zf,zp,zm,zh,zu,zt,zn,zc,zl,za,ze,zo,zg,nzs,c1]
    exact stKO_zero _ _ _ _
  rw [if_neg (fun h=>h h1)] at hc
  subst hc
  obtain ⟨hs,h2,h3,h4⟩:=plE_ok h1
  obtain ⟨i,x,k1,k2,k3,k4⟩:=volIx_at h2
  have hbk:=blks_at k1 k4
  rw [hbk] at h4
  obtain ⟨m,rfl⟩ : ∃ m:Nat,at'=m:=⟨at'.toNat,by omega⟩
  obtain ⟨hB,hV,_⟩:=stE_ok hs
  have hVo:=volsE_ok hV
  have hbl:=bag_len hB
  rw [List.length_map] at hVo
  have hli : ∀ w ∈ ws,w.2.2.length≤32:=fun w hw=>(hVo.2 w.2 (List.mem_map_of_mem hw)).1
  have hcp:=copied b v bag ws M hb hv (by omega) (by omega) (fun w hw=>Nat.le_trans (hli w hw) (by omega))
  simp only [stV] at hcp
  rw [k1]
  simp only [zz,zq,↓reduceIte,zx,zj,zy,zk,zw,zb,reduceCtorEq,zd,zf,zp,zm,zh,zu,zt,zn,zc,zl,za,ze,zo,zg,nzs,h1,if_true,zo]
  refine CallK.stF (T:=fun s=>s) (fun _ _=>rfl) rfl rfl hcp fun b2 v2 ws2 M2 hM2 hw2 hS=>?_
  obtain ⟨x2,hx2,e2⟩:=ws_at hw2 k4
  obtain ⟨_,g1,i0⟩:=vol_at hS.volsM hx2
  have hx2m:=List.mem_of_getElem? hx2
  have hblk:=hS.blk x2 hx2m
  have hml:m < x.2.2.length:=by omega
  obtain ⟨id,hid,_⟩:=l_drop_at (l:=x.2.2) (i:=m) hml
  have hid2:x2.2.2[m]? = some id:=by rw [e2]; exact hid
  obtain ⟨y0,y1,y2,yi⟩:=id_at hblk.row hid2
  have hgo:=goI_ok ((volsE_ok hV).2 x.2 (List.mem_of_getElem? k4)).2.2 id (List.mem_of_getElem? hid)
  have hidAt:idAt (ws.map (·.2)) i m=id:=by unfold idAt; rw [volAt_at k4,hid]; rfl
  have hset:(ws2.set i (x2.1,x2.2.1,x2.2.2.set m hole)).map (·.2)=setV (ws.map (·.2)) i m hole:=by
    rw [setV_at k4,← show ws2.map (·.2)=ws.map (·.2) from hw2,List.map_set,e2]
  have hml2:m < (x2.2.2.map encI3).length:=by rw [List.length_map,e2]; exact hml
  obtain ⟨q0,q1,q2⟩:=id
  simp only at y0 y1 y2
  cases q0 with
  | false=>
    have hq:q1=0∧q2=0:=by
      unfold idE at hgo
      by_cases hz:q1=0∧q2=0
      · exact hz
      · rw [if_pos ⟨rfl,hz⟩] at hgo; cases hgo
    obtain ⟨rfl,rfl⟩:=hq
    have hs2:ws2.set i (x2.1,x2.2.1,x2.2.2.set m hole)=ws2:=by
      have e5:x2.2.2.set m hole=x2.2.2:=set_same hid2
      rw [e5]
      exact set_same hx2
    rw [hs2] at hset
    simp only [zz,zq,↓reduceIte,zx,zj,zy,zk,zw,zb,reduceCtorEq,zd,zf,zp,zm,zh,zu,zt,zn,zc,zl,za,ze,zo,zg,nzs,stV,hS.bag.row.one,hS.vols.row.one,i0,i0.2,g1.1,g1.2,yi,yi.2,y0.1,y0.2]
    exact stKO_of (fun s=>.tup [s,.v (.int .i64 0)]) _ hS (by simp only [trimS,hidAt]; exact (if_neg (fun h=>by cases h)).symm) hset
  | true=>
    have hD:=drop b2 bag (true,q1,q2) M2 hS.bag.row
    simp only [idS] at hD
    simp only [zz,zq,↓reduceIte,zx,zj,zy,zk,zw,zb,reduceCtorEq,zd,zf,zp,zm,zh,zu,zt,zn,zc,zl,za,ze,zo,zg,nzs,stV,hS.bag.row.one,hS.vols.row.one,i0,i0.2,g1.1,g1.2,yi,yi.2,y0.1,y0.2]
    refine DrawK.plan (tk [2,3,4] (.one 0 (.one 1 (.one 5 (tk [6,7,8,9] (.one 10 .done)))))) (by kernel_rfl) (by kernel_rfl) ?_
    simp only [zz,zq,↓reduceIte,zx,zj,zy,zk,zw,zb,reduceCtorEq,zd,zf,zp,zm,zh,zu,zt,zn,zc,zl,za,ze,zo,zg,nzs,se1,se2,tks,yi.2,y0.1,y0.2,y1.1,y1.2,y2.1,y2.2]
    refine CallK.own (T:=fun s=>.tup [s,.v (.int .i64 (dropS bag (true,q1,q2)).2)]) (Ctx.fst _) rfl rfl hD rfl fun M3 hM3=>?_
    have hS3:=hS.le hM3
    simp only [zz,zq,↓reduceIte,zx,zj,zy,zk,zw,zb,reduceCtorEq,zd,zf,zp,zm,zh,zu,zt,zn,zc,zl,za,ze,zo,zg,nzs,se1,se2,tks,hS.vols.row.one,stRD_ea]
    refine ⟨hM3,hM3,yi.2,?_⟩
    have hget:(x2.2.2.map encI3).getD m []=[.bool true,.int .i64 q1,.int .i64 q2]:=getD_id hid2
    refine OpK.turnF (es:=x2.2.2.map encI3) rfl rfl (of_eq_true so101) rfl rfl rfl rfl (by rw [sh101]; rfl) (hS3.blk x2 hx2m) (hS.fw hx2m) hml2 (by decide) fun M4 hb4 hr4=>?_
    have hr5:RowF M4 x2.1 3 ((x2.2.2.set m hole).map encI3):=by
      rw [hget] at hr4
      rw [← idsl_set]
      exact hr4
    have hS4:=hS3.turnB hx2 hb4 hr5
    have eA:(trimS bag (ws.map (·.2)) i m).1=(dropS bag (true,q1,q2)).1:=by
      simp only [trimS,hidAt]
      rw [dropS_ok hB]
      exact if_pos rfl
    simp only [zz,zq,↓reduceIte,zx,zj,zy,zk,zw,zb,reduceCtorEq,zd,zf,zp,zm,zh,zu,zt,zn,zc,zl,za,ze,zo,zg,nzs]
    refine ⟨hS.vols.row.one,.own 344,.v v2,_,rfl,hset,fun k _ h2=>(by cases h2),⟨?_,⟨hS4.vols,hS4.fv⟩⟩,fun w hw=>⟨hS4.blk w hw,hS4.fw hw⟩,(List.pairwise_cons.1 hS4.ap).2⟩
    rw [eA]
    rfl
theorem vwrite (b v:Value) (bag:List It) (ws:List WV) (n:List UInt8) (at':Int) (s:List UInt8) (M:Mem) (hb:RowM M b 4 (bag.map Bg.encT)) (hv:VolsM M v ws) :
    Meets Proofs.Tryz.prog 66 [stV b v,.v (.string ⟨n.toArray⟩),.v (.int .i64 at'),.v (.string ⟨s.toArray⟩)] M (StM (fun t=>.tup [t,.v (.int .i64 (writeA bag (ws.map (·.2)) n at' s).2)]) (writeA bag (ws.map (·.2)) n at' s).1):=by
  refine Meets.settleM (Ctx.fst _) ?_
  refine Meets.of_body [0,1,2,3,4,8,9,10,11,12,14,15,24,43] Proofs.Tryz.func66 rfl (by kernel_rfl) rfl fun w=>?_
  have hT:=vtrim b v bag ws n at' M hb hv
  unfold trimA at hT
  generalize hc:writeA bag (ws.map (·.2)) n at' s=c
  unfold writeA at hc
  have hP:=place b v bag ws n at' M hb hv
  unfold plI at hP
  simp only [stV] at hP hT
  simp only [Proofs.Tryz.f66,stV,zz,zq,↓reduceIte,zx,zj,zy,zk,zw,zb,reduceCtorEq,zd,zf,zp,zm,zh,zu,zt,zn,zc,zl,za,ze,zo,zg,nzs]
  refine CallK.pure ⟨rfl,rfl⟩ rfl hP ?_
  by_cases h1:plE bag (ws.map (·.2)) n at'=0
  rotate_left
  · have c1:=eq_false h1
    rw [if_pos h1] at hc
    subst hc
    simp only [zz,zq,↓reduceIte,zx,zj,zy,zk,zw,zb,reduceCtorEq,zd,zf,zp,zm,zh,zu,zt,zn,zc,zl,za,ze,zo,zg,nzs,c1]
    exact stO_zero _ _ _
  rw [if_neg (fun h=>h h1)] at hc hT
  obtain ⟨hs,h2,h3,h4⟩:=plE_ok h1
  obtain ⟨i,x,k1,k2,k3,k4⟩:=volIx_at h2
  have hbk:=blks_at k1 k4
  rw [hbk] at h4
  obtain ⟨m,rfl⟩ : ∃ m:Nat,at'=m:=⟨at'.toNat,by omega⟩
  obtain ⟨hB,hV,_⟩:=stE_ok hs
  rw [k1] at hc hT ⊢
  simp only [zo] at hc hT
  simp only [zz,zq,↓reduceIte,zx,zj,zy,zk,zw,zb,reduceCtorEq,zd,zf,zp,zm,zh,zu,zt,zn,zc,zl,za,ze,zo,zg,nzs,h1,if_true]
  refine CallK.stF (T:=fun t=>.tup [t,.v (.int .i64 0)]) (fun _ _=>rfl) rfl rfl hT fun b2 v2 ws2 M2 hM2 hw2 hS=>?_
  have hml:m < x.2.2.length:=by omega
  have hil:=(List.getElem?_eq_some_iff.1 k4).1
  have hy:(trimS bag (ws.map (·.2)) i m).2[i]? = some (x.2.1,x.2.2.set m hole):=by
    show (setV (ws.map (·.2)) i m hole)[i]? = _
    rw [setV_at k4,List.getElem?_set_self hil]
  obtain ⟨x2,hx2,e2⟩:=ws_at hw2 hy
  have hx2m:=List.mem_of_getElem? hx2
  obtain ⟨_,g1,i0⟩:=vol_at hS.volsM hx2
  have hblk:=hS.blk x2 hx2m
  have hml2:m < x2.2.2.length:=by rw [e2,List.length_set]; exact hml
  obtain ⟨id,hid,_⟩:=l_drop_at (l:=x2.2.2) (i:=m) hml2
  obtain ⟨y0,y1,y2,yi⟩:=id_at hblk.row hid
  have hB2:bagE (trimS bag (ws.map (·.2)) i m).1=0:=bagE_lessId hB _
  have hPu:=put b2 (trimS bag (ws.map (·.2)) i m).1 s M2 hS.bag.row
  have hp:putS (trimS bag (ws.map (·.2)) i m).1 s=putG (trimS bag (ws.map (·.2)) i m).1 s:=if_neg (fun h=>h hB2)
  rw [hp] at hPu
  unfold writeS at hc
  change (if (putG (trimS bag (ws.map (·.2)) i m).1 s).2.2≠0 then (zSt,(putG (trimS bag (ws.map (·.2)) i m).1 s).2.2) else (((putG (trimS bag (ws.map (·.2)) i m).1 s).1,setV (ws.map (·.2)) i m (putG (trimS bag (ws.map (·.2)) i m).1 s).2.1),0))=c at hc
  simp only [zz,zq,↓reduceIte,zx,zj,zy,zk,zw,zb,reduceCtorEq,zd,zf,zp,zm,zh,zu,zt,zn,zc,zl,za,ze,zo,zg,nzs,stV,hS.bag.row.one,hS.vols.row.one]
  refine CallK.own (putT_ctx _ _) rfl rfl hPu rfl fun M3 hM3=>?_
  generalize putG (trimS bag (ws.map (·.2)) i m).1 s=pg at *
  obtain ⟨pl,pid,pe⟩:=pg
  simp only at hc
  have hS3:=hS.le hM3
  by_cases h5:pe=0
  rotate_left
  · have c5:=eq_false h5
    rw [if_pos h5] at hc
    subst hc
    simp only [zz,zq,↓reduceIte,zx,zj,zy,zk,zw,zb,reduceCtorEq,zd,zf,zp,zm,zh,zu,zt,zn,zc,zl,za,ze,zo,zg,nzs,putT,idS,c5,hS.vols.row.one]
    exact stO_zero _ _ _
  rw [if_neg (fun h=>h h5)] at hc
  subst hc
  simp only [zz,zq,↓reduceIte,zx,zj,zy,zk,zw,zb,reduceCtorEq,zd,zf,zp,zm,zh,zu,zt,zn,zc,zl,za,ze,zo,zg,nzs,putT,idS,h5,hS.vols.row.one]
  have g1':=vol_at hS3.volsM hx2
  refine DrawK.heldT 12 [120] (tk [2,6,7,8] (.one 0 (.one 1 (tk [3,4,5,9] (.one 10 (tk [11] .done)))))) (by kernel_rfl) (by kernel_rfl) fun xs=>?_
  simp only [zz,zq,↓reduceIte,zx,zj,zy,zk,zw,zb,reduceCtorEq,zd,zf,zp,zm,zh,zu,zt,zn,zc,zl,za,ze,zo,zg,nzs,se1,se2,tks,i0,i0.2,g1'.2.1.1,g1'.2.1.2,yi,yi.2,stRD_ea,hS.vols.row.one]
  have hml3:m < (x2.2.2.map encI3).length:=by rw [List.length_map]; exact hml2
  have hget:(x2.2.2.map encI3).getD m []=[.bool id.1,.int .i64 id.2.1,.int .i64 id.2.2]:=getD_id hid
  refine OpK.turnF (es:=x2.2.2.map encI3) rfl rfl (of_eq_true so101) rfl rfl rfl rfl (by rw [sh101]; rfl) (hS3.blk x2 hx2m) (hS.fw hx2m) hml3 (Nat.le_refl 3) fun M4 hb4 hr4=>?_
  have hr5:RowF M4 x2.1 3 ((x2.2.2.set m pid).map encI3):=by
    rw [hget] at hr4
    rw [← idsl_set]
    exact hr4
  have hS4:=hS3.turnB hx2 hb4 hr5
  simp only [zz,zq,↓reduceIte,zx,zj,zy,zk,zw,zb,reduceCtorEq,zd,zf,zp,zm,zh,zu,zt,zn,zc,zl,za,ze,zo,zg,nzs]
  refine ⟨hS.vols.row.one,.own 304,.v v2,_,rfl,?_,fun k _ h2=>(by cases h2),⟨rfl,hS4.vols.row⟩,fun w hw=>(hS4.blk w hw).row⟩
  have hv2:ws2.map (·.2)=setV (ws.map (·.2)) i m hole:=hw2
  show (ws2.set i (x2.1,x2.2.1,x2.2.2.set m pid)).map (·.2)=setV (ws.map (·.2)) i m pid
  rw [List.map_set,hv2,setV_at k4,setV_at k4,List.set_set,e2,List.set_set]
end Go.X.Vo

namespace Go.X.Vo
open Go Go.X Go.RowKit Go.X.Bg Go.X.Nm Go.X.Bp Go.X.Sb

theorem vclone (b v:Value) (bag:List It) (ws:List WV) (n to:List UInt8) (M:Mem) (hb:RowM M b 4 (bag.map Bg.encT)) (hv:VolsM M v ws) :
    Meets Proofs.Tryz.prog 68 [stV b v,.v (.string ⟨n.toArray⟩),.v (.string ⟨to.toArray⟩)] M (StM (fun s=>.tup [s,.v (.int .i64 (cloneA bag (ws.map (·.2)) n to).2)]) (cloneA bag (ws.map (·.2)) n to).1):=by
  refine Meets.settleM (Ctx.fst _) ?_
  refine Meets.of_body [0,1,2,3,6,7,8,9,10,11,13,14,18,25,31,41,42,43,44,52] Proofs.Tryz.func68 rfl (by kernel_rfl) rfl fun w=>?_
  generalize hc:cloneA bag (ws.map (·.2)) n to=c
  unfold cloneA at hc
  have hC:=vcheck b v bag ws M hb hv
  have hF:=find b v ws n M hv
  simp only [stV] at hC hF
  simp only [Proofs.Tryz.f68,stV,zz,zq,↓reduceIte,zx,zj,zy,zk,zw,zb,reduceCtorEq,zd,zf,zp,zm,zh,zu,zt,zn,zc,zl,za,ze,zo,zg,nzs]
  refine CallK.pure ⟨rfl,rfl⟩ rfl hC ?_
  by_cases h1:stE bag (ws.map (·.2))=0
  rotate_left
  · have c1:=eq_false h1
    rw [if_pos h1] at hc
    subst hc
    simp only [zz,zq,↓reduceIte,zx,zj,zy,zk,zw,zb,reduceCtorEq,zd,zf,zp,zm,zh,zu,zt,zn,zc,zl,za,ze,zo,zg,nzs,c1]
    exact stO_zero _ _ _
  rw [if_neg (fun h=>h h1)] at hc
  obtain ⟨hB,hV,_⟩:=stE_ok h1
  have hVo:=volsE_ok hV
  have hbl:=bag_len hB
  have hsrt:=vols_srt hV
  rw [List.length_map] at hVo
  have hli : ∀ w ∈ ws,w.2.2.length≤32:=fun w hw=>(hVo.2 w.2 (List.mem_map_of_mem hw)).1
  simp only [zz,zq,↓reduceIte,zx,zj,zy,zk,zw,zb,reduceCtorEq,zd,zf,zp,zm,zh,zu,zt,zn,zc,zl,za,ze,zo,zg,nzs,h1]
  refine CallK.pure ⟨rfl,rfl⟩ rfl hF ?_
  by_cases h2:volIx (ws.map (·.2)) n < 0
  · have c2:=eq_true h2
    rw [if_pos h2] at hc
    subst hc
    simp only [zz,zq,↓reduceIte,zx,zj,zy,zk,zw,zb,reduceCtorEq,zd,zf,zp,zm,zh,zu,zt,zn,zc,zl,za,ze,zo,zg,nzs,c2]
    exact stO_zero _ _ _
  have c2:=eq_false h2
  rw [if_neg h2] at hc
  obtain ⟨i,x,k1,k2,k3,k4⟩:=volIx_at h2
  have hFr:=vfresh b v ws to M hv hVo.1
  simp only [stV] at hFr
  rw [k1] at c2 hc ⊢
  simp only [zo] at hc
  simp only [zz,zq,↓reduceIte,zx,zj,zy,zk,zw,zb,reduceCtorEq,zd,zf,zp,zm,zh,zu,zt,zn,zc,zl,za,ze,zo,zg,nzs,c2]
  refine CallK.pure ⟨rfl,rfl⟩ rfl hFr ?_
  by_cases h4:freshE (ws.map (·.2)) to=0
  rotate_left
  · have c4:=eq_false h4
    rw [if_pos h4] at hc
    subst hc
    simp only [zz,zq,↓reduceIte,zx,zj,zy,zk,zw,zb,reduceCtorEq,zd,zf,zp,zm,zh,zu,zt,zn,zc,zl,za,ze,zo,zg,nzs,c4]
    exact stO_zero _ _ _
  rw [if_neg (fun h=>h h4)] at hc
  subst hc
  have hcp:=copied b v bag ws M hb hv (by omega) (by omega) (fun w hw=>Nat.le_trans (hli w hw) (by omega))
  simp only [stV] at hcp
  simp only [zz,zq,↓reduceIte,zx,zj,zy,zk,zw,zb,reduceCtorEq,zd,zf,zp,zm,zh,zu,zt,zn,zc,zl,za,ze,zo,zg,nzs,h4]
  refine CallK.stF (T:=fun s=>s) (fun _ _=>rfl) rfl rfl hcp fun b2 v2 ws2 M2 hM2 hw2 hS=>?_
  have hw2':ws2.map (·.2)=ws.map (·.2):=hw2
  obtain ⟨x2,hx2,e2⟩:=ws_at hw2' k4
  have hx2m:=List.mem_of_getElem? hx2
  obtain ⟨_,g1,i0⟩:=vol_at hS.volsM hx2
  have hblk:=hS.blk x2 hx2m
  have hbll:=hblk.row.len_le
  have hl2:=ws_len hw2'
  have hil:i < ws.length:=(List.getElem?_eq_some_iff.1 k2).1
  have hl32:x2.2.2.length≤32:=by rw [e2]; exact hli x (List.mem_of_getElem? k2)
  have hrf0 : ∀ z ∈ bag,0≤z.2.2.2∧z.2.2.2≤1000000:=fun z hz=>by
    have:=(oneE_ok (bag_ok hB z hz)).2.2
    omega
  rw [List.length_map] at hbll
  simp only [zz,zq,↓reduceIte,zx,zj,zy,zk,zw,zb,reduceCtorEq,zd,zf,zp,zm,zh,zu,zt,zn,zc,zl,za,ze,zo,zg,nzs,stV,hS.bag.row.one,hS.vols.row.one,i0,i0.2,g1.1,g1.2,hblk.row.len,hblk.row.sl,List.length_map]
  refine LoopK.go (X:=Nat×Mem) (fun z=>([(2,true,.v (.string ⟨to.toArray⟩)),(3,true,.ptr 24 0 0 0),(6,true,.ptr 48 0 0 0),(9,true,.v (.int .i64 i)),(11,true,.ptr 88 0 0 0),(41,true,.v x2.1),(42,true,.v (.int .i64 x2.2.2.length)),(43,true,.v (.int .i64 z.1))],
      [(88,.box [.v b2,.v v2] none),(48,.box [.v (.slice none 0 0),.v (.slice none 0 0)] none),(24,.box [.v b,.v v] none)],z.2))
    (fun z=>(z.1≤x2.2.2.length∧M.le z.2)∧StF M z.2 b2 v2 ((x2.2.2.take z.1).foldl incId bag) ws2) (fun z=>x2.2.2.length - z.1) (0,M2) ⟨⟨Nat.zero_le _,hM2⟩,hS⟩ (Ent.of ?_) ?_
  · simp only [zq,↓reduceIte,zx,zj,zy,zk,zw,zb,reduceCtorEq,zd,zf,zp,zm,zh,zu,zt,zn,zc,zl,za,ze,zo,zg,za]
  rintro ⟨j,N⟩ ⟨⟨n1,nM⟩,n2⟩
  simp only at n1 nM n2
  have hblkN:=n2.blk x2 hx2m
  by_cases hjl:j < x2.2.2.length
  · have d1:((j:Int) < (x2.2.2.length:Int))=True:=eq_true (by omega)
    obtain ⟨y,hy,_⟩:=l_drop_at (l:=x2.2.2) (i:=j) hjl
    obtain ⟨y0,y1,y2,yi⟩:=id_at hblkN.row hy
    have hst:=foldl_take incId bag hy
    have hrf:=incIds_ref (x2.2.2.take j) hrf0
    have htl:(x2.2.2.take j).length≤32:=by rw [List.length_take]; omega
    have hblen:=incIds_len (x2.2.2.take j) bag
    generalize (x2.2.2.take j).foldl incId bag=bj at *
    have hFi:=Bg.find b2 bj y N n2.bag.row
    simp only [idV] at hFi
    simp only [zz,zq,↓reduceIte,zx,zj,zy,zk,zw,zb,reduceCtorEq,zd,zf,zp,zm,zh,zu,zt,zn,zc,zl,za,ze,zo,zg,nzs,d1,yi,yi.2,y0.1,y0.2,y1.1,y1.2,y2.1,y2.2]
    refine CallK.pure ⟨rfl,rfl⟩ rfl hFi ?_
    rw [show fidx (isId y) bj 0=idIx bj y from rfl]
    by_cases h5:0≤idIx bj y
    · have d2:=eq_true h5
      rcases fidx_sp (isId y) bj 0 with ⟨q1,_⟩ | ⟨k,z,q1,q2,q3,_⟩
      · rw [show idIx bj y=fidx (isId y) bj 0 from rfl,q1] at h5; exact absurd h5 (by decide)
      rw [Nat.zero_add] at q1
      replace q1:idIx bj y=(k:Int):=q1
      have e3:incId bj y=setR bj k (z.2.2.2+1):=by
        unfold incId
        rw [if_pos h5,q1,zo,atI_at q2]
      rw [e3] at hst
      have hzr:=hrf z (List.mem_of_getElem? q2)
      have hkl:=(List.getElem?_eq_some_iff.1 q2).1
      obtain ⟨_,⟨_,z3⟩,zi⟩:=it_at n2.bag.row q2
      have hg:=getD_it q2
      rw [q1] at d2 ⊢
      simp only [zz,zq,↓reduceIte,zx,zj,zy,zk,zw,zb,reduceCtorEq,zd,zf,zp,zm,zh,zu,zt,zn,zc,zl,za,ze,zo,zg,nzs,d2,zi,zi.2,z3.1,z3.2,stRD_ea,inK,lo,hi]
      refine ⟨by omega,?_⟩
      refine OpK.turnF (es:=bj.map Bg.encT) rfl rfl (of_eq_true so3) rfl rfl rfl rfl (by rw [sh3]; rfl) n2.bag n2.fb (by rw [List.length_map]; exact hkl) (Nat.le_refl 4) fun M4 hb4 hr4=>?_
      have hr5:RowF M4 b2 4 ((setR bj k (z.2.2.2+1)).map Bg.encT):=by
        rw [hg] at hr4
        rw [← setR_map q2]
        exact hr4
      have hS4:=n2.turnBag hb4 hr5
      have hM4:=le_but nM n2.fb hb4
      simp only [zz,zq,↓reduceIte,zx,zj,zy,zk,zw,zb,reduceCtorEq,zd,zf,zp,zm,zh,zu,zt,zn,zc,zl,za,ze,zo,zg,nzs,inK,lo,hi]
      refine ⟨by omega,(j+1,M4),⟨⟨⟨by simp only; omega,hM4⟩,by simp only [hst]; exact hS4⟩,by simp only; omega⟩,Ent.of ?_⟩
      simp only [zq,↓reduceIte,zx,zj,zy,zk,zw,zb,reduceCtorEq,zd,zf,zp,zm,zh,zu,zt,zn,zc,zl,za,ze,zo,zg,Int.natCast_add]
    · have d2:=eq_false h5
      have e3:incId bj y=bj:=if_neg h5
      rw [e3] at hst
      simp only [zz,zq,↓reduceIte,zx,zj,zy,zk,zw,zb,reduceCtorEq,zd,zf,zp,zm,zh,zu,zt,zn,zc,zl,za,ze,zo,zg,nzs,d2,inK,lo,hi]
      refine ⟨by omega,(j+1,N),⟨⟨⟨by simp only; omega,nM⟩,by simp only [hst]; exact n2⟩,by simp only; omega⟩,Ent.of ?_⟩
      simp only [zq,↓reduceIte,zx,zj,zy,zk,zw,zb,reduceCtorEq,zd,zf,zp,zm,zh,zu,zt,zn,zc,zl,za,ze,zo,zg,Int.natCast_add]
  · have d1:((j:Int) < (x2.2.2.length:Int))=False:=eq_false (by omega)
    rw [List.take_of_length_le (by omega)] at n2
    obtain ⟨_,gN,iN⟩:=vol_at n2.volsM hx2
    simp only [zz,zq,↓reduceIte,zx,zj,zy,zk,zw,zb,reduceCtorEq,zd,zf,zp,zm,zh,zu,zt,zn,zc,zl,za,ze,zo,zg,nzs,d1]
    refine DrawK.heldT 10 [88] (tk [0,1,2,4,3,5,6,7] (.one 8 (tk [9] .done))) (by kernel_rfl) (by kernel_rfl) fun xs=>?_
    simp only [zz,zq,↓reduceIte,zx,zj,zy,zk,zw,zb,reduceCtorEq,zd,zf,zp,zm,zh,zu,zt,zn,zc,zl,za,ze,zo,zg,nzs,se1,se2,tks,iN,iN.2,gN.1,gN.2]
    refine CallK.rowF Ctx.id rfl rfl (cloneI x2.1 x2.2.2 N hblkN.row (by omega)) fun u M3 hM3 hu huf=>?_
    simp only [zz,zq,↓reduceIte,zx,zj,zy,zk,zw,zb,reduceCtorEq,zd,zf,zp,zm,zh,zu,zt,zn,zc,zl,za,ze,zo,zg,sp1,sp2,sp3,nzs,se1,se2,tks,oneVs hu.row.sl,hu.row.one]
    refine ⟨hM3,?_⟩
    refine CallK.claim (A:=fun s=>[.agg [.v b2,s],wvV (u,to,x2.2.2)]) 1000 (hA_add b2 (wvV (u,to,x2.2.2)) rfl) rfl (n2.vols.le hM3) n2.fv rfl rfl fun M4 hb4=>?_
    refine CallK.lendR (A:=fun s=>[.agg [.v b2,s],wvV (u,to,x2.2.2)]) (T:=fun s=>.agg [.v b2,s]) 8000 (hA_add b2 (wvV (u,to,x2.2.2)) rfl) (hT_agg b2) rfl rfl rfl (fun M6 _=>add b2 ws2 (u,to,x2.2.2) M6 n2.bag.row.one (fun w hw=>(n2.blk w hw).row.one) hu.row.one (by rw [hw2']; exact hsrt) (by omega)) rfl ?_
    obtain ⟨q1,q2,q3⟩:=n2.added (n:=to) nM hM3 hu huf hb4
    simp only [zz,zq,↓reduceIte,zx,zj,zy,zk,zw,zb,reduceCtorEq,zd,zf,zp,zm,zh,zu,zt,zn,zc,zl,za,ze,zo,zg,sp1,sp2,sp3,nzs,se1,se2,tks,n2.bag.row.one]
    refine ⟨.v b2,.own 584,insW ws2 (u,to,x2.2.2),rfl,?_,fun k h=>(by cases h),⟨?_,rfl⟩,q3⟩
    · rw [insW_map,hw2']
      simp only [cloneS,volAt_at k4,e2]
    · simp only [cloneS,volAt_at k4]
      rw [e2] at q2
      exact q2
end Go.X.Vo

namespace Go.Proofs
open Go.Shelf Go.RowKit Go.Lib Go.Sort
def Tryz.sl6_ren:Go.Shelf.Ren:=⟨fun | 6=>117 | 10=>155 | 11=>156 | 12=>157 | 13=>158 | 14=>159 | 24=>187 | 25=>188 | 26=>189 | 27=>190 | 28=>191 | 29=>192 | 30=>193 | 31=>194 | 32=>195 | 33=>196 | 34=>204 | 35=>205 | 36=>206 | 37=>207 | 38=>208 | 39=>215 | n=>n,fun | 20=>20 | 26=>152 | 35=>193 | 0=>0 | 37=>195 | 3=>3 | 41=>111 | 44=>201 | 49=>218 | 51=>178 | 4=>4 | 54=>221 | 53=>220 | 58=>129 | 5=>5 | 9=>9 | 60=>228 | 64=>232 | 66=>241 | 67=>242 | 17=>17 | 32=>190 | 33=>191 | 82=>256 | 12=>12 | 75=>249 | 76=>250 | 77=>251 | 78=>252 | 79=>253 | 80=>254 | n=>n,fun | n=>n⟩
theorem Tryz.sl6:Go.Proofs.LaysGg.n6 Tryz.prog Tryz.sl6_ren:={
  mixed:=by kernel_rfl,
  f6:=Tryz.func117.trans (congrArg some (by kernel_rfl)),
  f10:=Tryz.func155.trans (congrArg some (by kernel_rfl)),
  f11:=Tryz.func156.trans (congrArg some (by kernel_rfl)),
  f12:=Tryz.func157.trans (congrArg some (by kernel_rfl)),
  f13:=Tryz.func158.trans (congrArg some (by kernel_rfl)),
  f14:=Tryz.func159.trans (congrArg some (by kernel_rfl)),
  f24:=Tryz.func187.trans (congrArg some (by kernel_rfl)),
  f25:=Tryz.func188.trans (congrArg some (by kernel_rfl)),
  f26:=Tryz.func189.trans (congrArg some (by kernel_rfl)),
  f27:=Tryz.func190.trans (congrArg some (by kernel_rfl)),
  f28:=Tryz.func191.trans (congrArg some (by kernel_rfl)),
  f29:=Tryz.func192.trans (congrArg some (by kernel_rfl)),
  f30:=Tryz.func193.trans (congrArg some (by kernel_rfl)),
  f31:=Tryz.func194.trans (congrArg some (by kernel_rfl)),
  f32:=Tryz.func195.trans (congrArg some (by kernel_rfl)),
  f33:=Tryz.func196.trans (congrArg some (by kernel_rfl)),
  f34:=Tryz.func204.trans (congrArg some (by kernel_rfl)),
  f35:=Tryz.func205.trans (congrArg some (by kernel_rfl)),
  f36:=Tryz.func206.trans (congrArg some (by kernel_rfl)),
  f37:=Tryz.func207.trans (congrArg some (by kernel_rfl)),
  f38:=Tryz.func208.trans (congrArg some (by kernel_rfl)),
  f39:=Tryz.func215.trans (congrArg some (by kernel_rfl)),
  t0:=Tryz.underlying0,
  a0:=Tryz.isAgg0,
  z0:=Tryz.sizeOf0,
  v0:=Tryz.zeroValue0,
  i0:=by kernel_rfl,
  t3:=Tryz.underlying3,
  a3:=Tryz.isAgg3,
  z3:=Tryz.sizeOf3,
  v3:=Tryz.zeroValue3,
  i3:=by kernel_rfl,
  t4:=Tryz.underlying4,
  a4:=Tryz.isAgg4,
  z4:=Tryz.sizeOf4,
  v4:=Tryz.zeroValue4,
  i4:=by kernel_rfl,
  t5:=Tryz.underlying5,
  a5:=Tryz.isAgg5,
  z5:=Tryz.sizeOf5,
  v5:=Tryz.zeroValue5,
  i5:=by kernel_rfl,
  t9:=Tryz.underlying9,
  a9:=Tryz.isAgg9,
  z9:=Tryz.sizeOf9,
  v9:=Tryz.zeroValue9,
  i9:=by kernel_rfl,
  t12:=Tryz.underlying12,
  a12:=Tryz.isAgg12,
  z12:=Tryz.sizeOf12,
  v12:=Tryz.zeroValue12,
  i12:=by kernel_rfl,
  t17:=Tryz.underlying17,
  a17:=Tryz.isAgg17,
  z17:=Tryz.sizeOf17,
  v17:=Tryz.zeroValue17,
  i17:=by kernel_rfl,
  t20:=Tryz.underlying20,
  a20:=Tryz.isAgg20,
  z20:=Tryz.sizeOf20,
  v20:=Tryz.zeroValue20,
  i20:=by kernel_rfl,
  t26:=Tryz.underlying152,
  a26:=Tryz.isAgg152,
  z26:=Tryz.sizeOf152,
  v26:=Tryz.zeroValue152,
  i26:=by kernel_rfl,
  t32:=Tryz.underlying190,
  a32:=Tryz.isAgg190,
  z32:=Tryz.sizeOf190,
  v32:=Tryz.zeroValue190,
  i32:=by kernel_rfl,
  t33:=Tryz.underlying191,
  a33:=Tryz.isAgg191,
  z33:=Tryz.sizeOf191,
  v33:=Tryz.zeroValue191,
  i33:=by kernel_rfl,
  t35:=Tryz.underlying193,
  a35:=Tryz.isAgg193,
  z35:=Tryz.sizeOf193,
  v35:=Tryz.zeroValue193,
  i35:=by kernel_rfl,
  t37:=Tryz.underlying195,
  a37:=Tryz.isAgg195,
  z37:=Tryz.sizeOf195,
  v37:=Tryz.zeroValue195,
  i37:=by kernel_rfl,
  t41:=Tryz.underlying111,
  a41:=Tryz.isAgg111,
  z41:=Tryz.sizeOf111,
  v41:=Tryz.zeroValue111,
  i41:=by kernel_rfl,
  t44:=Tryz.underlying201,
  a44:=Tryz.isAgg201,
  z44:=Tryz.sizeOf201,
  v44:=Tryz.zeroValue201,
  i44:=by kernel_rfl,
  t49:=Tryz.underlying218,
  a49:=Tryz.isAgg218,
  z49:=Tryz.sizeOf218,
  v49:=Tryz.zeroValue218,
  i49:=by kernel_rfl,
  t51:=Tryz.underlying178,
  a51:=Tryz.isAgg178,
  z51:=Tryz.sizeOf178,
  v51:=Tryz.zeroValue178,
  i51:=by kernel_rfl,
  t53:=Tryz.underlying220,
  a53:=Tryz.isAgg220,
  z53:=Tryz.sizeOf220,
  v53:=Tryz.zeroValue220,
  i53:=by kernel_rfl,
  t54:=Tryz.underlying221,
  a54:=Tryz.isAgg221,
  z54:=Tryz.sizeOf221,
  v54:=Tryz.zeroValue221,
  i54:=by kernel_rfl,
  t58:=Tryz.underlying129,
  a58:=Tryz.isAgg129,
  z58:=Tryz.sizeOf129,
  v58:=Tryz.zeroValue129,
  i58:=by kernel_rfl,
  t60:=Tryz.underlying228,
  a60:=Tryz.isAgg228,
  z60:=Tryz.sizeOf228,
  v60:=Tryz.zeroValue228,
  i60:=by kernel_rfl,
  t64:=Tryz.underlying232,
  a64:=Tryz.isAgg232,
  z64:=Tryz.sizeOf232,
  v64:=Tryz.zeroValue232,
  i64:=by kernel_rfl,
  t66:=Tryz.underlying241,
  a66:=Tryz.isAgg241,
  z66:=Tryz.sizeOf241,
  v66:=Tryz.zeroValue241,
  i66:=by kernel_rfl,
  t67:=Tryz.underlying242,
  a67:=Tryz.isAgg242,
  z67:=Tryz.sizeOf242,
  v67:=Tryz.zeroValue242,
  i67:=by kernel_rfl,
  t75:=Tryz.underlying249,
  a75:=Tryz.isAgg249,
  z75:=Tryz.sizeOf249,
  v75:=Tryz.zeroValue249,
  i75:=by kernel_rfl,
  t76:=Tryz.underlying250,
  a76:=Tryz.isAgg250,
  z76:=Tryz.sizeOf250,
  v76:=Tryz.zeroValue250,
  i76:=by kernel_rfl,
  t77:=Tryz.underlying251,
  a77:=Tryz.isAgg251,
  z77:=Tryz.sizeOf251,
  v77:=Tryz.zeroValue251,
  i77:=by kernel_rfl,
  t78:=Tryz.underlying252,
  a78:=Tryz.isAgg252,
  z78:=Tryz.sizeOf252,
  v78:=Tryz.zeroValue252,
  i78:=by kernel_rfl,
  t79:=Tryz.underlying253,
  a79:=Tryz.isAgg253,
  z79:=Tryz.sizeOf253,
  v79:=Tryz.zeroValue253,
  i79:=by kernel_rfl,
  t80:=Tryz.underlying254,
  a80:=Tryz.isAgg254,
  z80:=Tryz.sizeOf254,
  v80:=Tryz.zeroValue254,
  i80:=by kernel_rfl,
  t82:=Tryz.underlying256,
  a82:=Tryz.isAgg256,
  z82:=Tryz.sizeOf256,
  v82:=Tryz.zeroValue256,
  i82:=by kernel_rfl }

set_option maxHeartbeats 2000000 in
/-- the closure of woolref.Put -/
theorem Tryz.putLess (blk off c Bs size:Nat) (W:World) (G1 G2:Nat→Int) (hs:W.cell? ⟨Bs,0,none⟩=some (.slice (some ⟨blk,off,none⟩) size c))
    (hc : ∀ t,t < size→W.cell? ⟨blk,off+t * 4,none⟩=some (.int .i64 (G1 t))∧W.cell? ⟨blk,off+t * 4+1,none⟩=some (.int .i64 (G2 t))) (i j:Nat) (hi:i < size) (hj:j < size) (_hsz:size < 4611686018427387904) :
    Calls Tryz.prog 162 #[.int .i64 i,.int .i64 j,.pointer (some ⟨Bs,0,none⟩)] W fun e w'=>e = .returned (.bool (decide (G1 i < G1 j∨(G1 i=G1 j∧G2 i < G2 j)))) ∧ ∃ q,w'=W.drewN q:=by
  have ci:=(hc i hi).1
  have cj:=(hc j hj).1
  have ci2:=(hc i hi).2
  have cj2:=(hc j hj).2
  go_enter Tryz.func162,Tryz.ntmps162
  go_wp2
  rcases Int.lt_trichotomy (G1 i) (G1 j) with h | h | h
  · go_quiet (fail)
    go_wp2
    go_ret
    exact ⟨by simp [h],nq,rfl⟩
  · go_quiet (fail)
    go_wp2
    go_ret
    exact ⟨by simp [h],nq,rfl⟩
  · have h1 : ¬ G1 i < G1 j:=Int.lt_asymm h
    have h2 : ¬ G1 i=G1 j:=Int.ne_of_gt h
    go_quiet (fail)
    go_wp2
    go_ret
    exact ⟨by simp [h1,h2],nq,rfl⟩
end Go.Proofs

namespace Go.Proofs
open Go.Shelf Go.RowKit Go.Lib Go.Sort
noncomputable def Tryz.slT:TypeInfo:=(Tryz.prog.info? 31).get (by kernel_rfl)
noncomputable def Tryz.slE:TypeInfo:=(Tryz.prog.info? 94).get (by kernel_rfl)
theorem Tryz.slK (n:Nat) (h2:2≤n):Lib.swapperK n Tryz.slE 25=9:=by
  have a:Tryz.slE.hasPointers=true:=by kernel_rfl
  have b:Tryz.slE.bytes=40:=by kernel_rfl
  have c:(n == 0)=false:=by simp; omega
  have d:(n == 1)=false:=by simp; omega
  simp [Lib.swapperK,a,b,c,d]
end Go.Proofs
namespace Go.X.Bp
open Go Go.X Go.RowKit Go.X.Bg Go.X.Sb
def ltI (a b:It):Bool:=decide (cmpT a b < 0)
theorem swo:Sort.SWO ltI:=by
  refine ⟨fun x=>?_,fun x y z h1 h2=>?_,fun x y z h1 h2=>?_⟩
  · simp [ltI,cmp_lt]
  · simp only [ltI,decide_eq_true_eq] at *
    exact cmp_trans h1 h2
  · simp only [ltI,decide_eq_false_iff_not,cmp_lt] at *
    omega
theorem encT_len (x:It):(Bg.encT x).length=4:=rfl
theorem srtLess (size:Nat) (hsz:size < 4611686018427387904):LessC Proofs.Tryz.prog 162 Bg.encT 4 ltI size:=fun W Bs blk c dk hdk h1 h2 i j hi hj=>by
  refine (Proofs.Tryz.putLess blk 0 c Bs size W (fun t=>dk[t]!.1) (fun t=>dk[t]!.2.1) h1 (fun t ht=>⟨h2 t 0 ht (by omega),h2 t 1 ht (by omega)⟩) i j hi hj hsz).mono ?_
  rintro e w' ⟨rfl,q⟩
  refine ⟨?_,q⟩
  congr 2
  simp only [ltI,cmp_lt]
theorem sortC:SortC Proofs.Tryz.prog 117 162 31 Bg.encT 4 ltI:=by
  refine ⟨fun p n c hn lb w=>?_,fun blk c d h2 hsz lb w hl hH hb=>?_⟩
  · have : ∃ f,Proofs.Tryz.prog.funcs.findIdx? (·.name == "internal/reflectlite" ++ ".Swapper$" ++ toString (Lib.swapperK n Proofs.Tryz.slE 25))=some f:=by
      rcases Nat.lt_or_ge n 1 with h | h
      · have:n=0:=by omega
        subst this
        exact ⟨178,by kernel_rfl⟩
      · have:n=1:=by omega
        subst this
        exact ⟨179,by kernel_rfl⟩
    obtain ⟨f,hf⟩:=this
    exact Proofs.Any.sort_Slice_tiny Proofs.Tryz.sl6 31 94 Proofs.Tryz.slT Proofs.Tryz.slE (by kernel_rfl) (by kernel_rfl) (by kernel_rfl) (by kernel_rfl) 25 (fun _=>by kernel_rfl) p n c hn f hf (.func 162) #[] lb w
  · exact Proofs.Any.sort_Slice_cells_sorted Proofs.Tryz.sl6 31 94 Proofs.Tryz.slT Proofs.Tryz.slE (by kernel_rfl) (by kernel_rfl) (by kernel_rfl) (by kernel_rfl) 25 (fun _=>by kernel_rfl) Bg.encT 4 encT_len (by kernel_rfl) (fun _=>by kernel_rfl)
      oneCell_it ltI swo 162 _ (Proofs.enters_of Proofs.Tryz.func162 (by kernel_rfl) rfl) blk 0 c d h2 hsz 186 (by rw [Proofs.Tryz.slK _ h2]; kernel_rfl) false
      (fun args W=>run_callFunc_extern Proofs.Tryz.func186 (by kernel_rfl) (by kernel_rfl) (by kernel_rfl) (e:=Extern.ReflectliteSwapper.swap false) (by kernel_rfl) args W) w hl hH hb

/-- the sorted row is the one where the new item stands at its place -/
theorem srt_unique {l l':List It} (h1:l'.Perm l) (h2:l'.Pairwise (fun x y=>ltI y x=false)) (h3:l.Pairwise (fun a b=>cmpT a b < 0)):l'=l:=by
  have hd : ∀ a b,a ∈ l→b ∈ l→cmpT a b=0→a=b:=fun a b ha hb he=>by
    obtain ⟨i,hi,rfl⟩:=List.mem_iff_getElem.1 ha
    obtain ⟨j,hj,rfl⟩:=List.mem_iff_getElem.1 hb
    rw [List.pairwise_iff_getElem] at h3
    rcases Nat.lt_trichotomy i j with h | h | h
    · have:=h3 i j hi hj h
      omega
    · subst h; rfl
    · have:=h3 j i hj hi h
      rw [cmp_lt] at this
      have h0 : ¬ cmpT l[i] l[j] < 0:=by omega
      unfold cmpT at he
      split at he <;> omega
  refine h1.eq_of_pairwise (le:=fun x y=>ltI y x=false) (fun a b ha hb h4 h5=>?_) h2 (h3.imp fun {a b} h=>?_)
  · refine hd a b (h1.subset ha) hb ?_
    simp only [ltI,decide_eq_false_iff_not,cmp_lt] at h4 h5
    unfold cmpT
    split <;> omega
  · simp only [ltI,decide_eq_false_iff_not,cmp_lt] at *
    omega
theorem srt_ins {l l':List It} {x:It} (hl:l.Pairwise (fun a b=>cmpT a b < 0)) (hx : ∀ y ∈ l,¬ (y.1=x.1∧y.2.1=x.2.1)) (h1:l'.Perm (l++[x])) (h2:l'.Pairwise (fun x y=>ltI y x=false)):l'=insI l x:=
  srt_unique (h1.trans (insI_perm x l).symm) h2 (insI_srt x l hl hx)
end Go.X.Bp

