/- Contracts of functions and the logic that they are proved in (2 texts in one). Conditions: none. -/
import Derived.Test.YtoohifeidifocaaGreatDoorMg11
open Nat renaming reduceAdd→zx,reduceMul→zj,reduceDiv→zy,reduceEqDiff→zk,reduceLT→zw,reduceLeDiff→zb,reduceBEq→zg
open Int renaming reduceEq→zd,reduceNe→zf,reduceLT→zp,reduceLE→zm,reduceAdd→zh,reduceSub→zu,reduceMul→zt,reduceNeg→zn,reduceToNat→zc,cast_ofNat_Int→zl,natCast_zero→za,natCast_one→ze,toNat_natCast→zo
namespace Go.X.Bg
end Go.X.Bg
namespace Go.X.Nm
end Go.X.Nm
set_option linter.unusedSimpArgs false
set_option linter.unusedVariables false
set_option maxHeartbeats 4000000
set_option maxRecDepth 20000
namespace Go.X.Vo
open Go Go.X Go.RowKit Go.X.Bg Go.X.Nm

theorem less_tri : ∀ a b:List UInt8,(Op.bytesLess a b || decide (a=b)) = !(Op.bytesLess b a)
  | [],[]=>rfl
  | [],_ :: _=>by simp [Op.bytesLess]
  | _ :: _,[]=>by simp [Op.bytesLess]
  | x :: a,y :: b=>by
    have ih:=less_tri a b
    simp only [Op.bytesLess]
    by_cases h:x=y
    · subst h
      have h1 : ¬ x < x:=UInt8.lt_irrefl x
      simp [h1,ih]
    · have h' : ¬ y=x:=fun e=>h e.symm
      have hb:(x == y)=false:=by simpa using h
      have hb':(y == x)=false:=by simpa using h'
      rw [hb,hb']
      have hd:decide (x :: a=y :: b)=false:=decide_eq_false (fun e=>h (List.cons.inj e).1)
      rw [hd]
      simp only [Bool.false_and,Bool.or_false]
      rcases Nat.lt_or_ge x.toNat y.toNat with hl | hl
      · have h1:x < y:=UInt8.lt_iff_toNat_lt.2 hl
        have h2 : ¬ y < x:=fun e=>by have:=UInt8.lt_iff_toNat_lt.1 e; omega
        simp [h1,h2]
      · have h1 : ¬ x < y:=fun e=>by have:=UInt8.lt_iff_toNat_lt.1 e; omega
        have h2:y < x:=UInt8.lt_iff_toNat_lt.2 (by
          have:x.toNat≠y.toNat:=fun e=>h (UInt8.toNat_inj.1 e)
          omega)
        simp [h1,h2]
theorem bad_last (p:Option (List UInt8)) {n:List UInt8} (h:nmB n=true):(Op.bytesLess n (p.getD []) || decide (n=p.getD []))=nameBad p n:=by
  cases p with
  | some q=>exact less_tri n q
  | none=>
    have h0:n≠[]:=fun e=>by rw [e] at h; cases h
    rw [Option.getD_none,decide_eq_false h0]
    cases n with
    | nil=>exact absurd rfl h0
    | cons a n=>rfl

theorem rstate (b v:Value) (bag:List It) (ws:List WV) (M:Mem) (hb:RowM M b 4 (bag.map Bg.encT)) (hv:VolsM M v ws) :
    Meets Proofs.Tryz.prog 73 [stV b v] M fun r _ _=>r = .v (.int .i64 (stE bag (ws.map (·.2)))):=by
  refine Meets.of_body [0,1,2,3,4,5,7,9,11,12,14,19,24,26,27,28,29,41,47,49,50,51,52,67,76,84,85,86,87,90,91,92,93,111,118] Proofs.Tryz.func73 rfl (by kernel_rfl) rfl fun w=>?_
  generalize hc:stE bag (ws.map (·.2))=c
  unfold stE volsE at hc
  have hC:=rbag b bag M hb
  rw [List.length_map] at hc
  have hvl:=hv.row.len_le
  rw [List.length_map] at hvl
  have hyl:=hb.len_le
  rw [List.length_map] at hyl
  simp only [Proofs.Tryz.f73,stV,zz,zq,↓reduceIte,zx,zj,zy,zk,zw,zb,reduceCtorEq,zd,zf,zp,zm,zh,zu,zt,zn,zc,zl,za,ze,zo,zg,nzs]
  refine CallK.pure ⟨rfl,rfl⟩ rfl hC ?_
  by_cases h1:bagE bag=0
  rotate_left
  · have c1:=eq_false h1
    rw [if_pos h1] at hc
    subst hc
    simp only [zz,zq,↓reduceIte,zx,zj,zy,zk,zw,zb,reduceCtorEq,zd,zf,zp,zm,zh,zu,zt,zn,zc,zl,za,ze,zo,zg,nzs,c1]
  rw [if_neg (fun h=>h h1)] at hc
  by_cases h6:6 < ws.length
  · have c6:((6:Int) < (ws.length:Int))=True:=eq_true (by omega)
    rw [if_pos h6,if_pos (by decide)] at hc
    subst hc
    simp only [zz,zq,↓reduceIte,zx,zj,zy,zk,zw,zb,reduceCtorEq,zd,zf,zp,zm,zh,zu,zt,zn,zc,zl,za,ze,zo,zg,nzs,h1,hv.row.len,hv.row.sl,List.length_map,c6]
  have c6:((6:Int) < (ws.length:Int))=False:=eq_false (by omega)
  rw [if_neg h6] at hc
  simp only [zz,zq,↓reduceIte,zx,zj,zy,zk,zw,zb,reduceCtorEq,zd,zf,zp,zm,zh,zu,zt,zn,zc,zl,za,ze,zo,zg,nzs,h1,hv.row.len,hv.row.sl,List.length_map,c6]
  refine LoopK.nilRow 5 80 3 rfl rfl rfl ?_
  generalize hgv:goV bag none (ws.map (·.2))=gv at hc
  refine LoopK.go (X:=Nat×Nat×List Id3) (fun x=>([(1,true,.ptr 8 0 0 0),(2,true,.v (.int .i64 0)),(4,true,.v (.string ⟨((prevN ws x.2.1).getD []).toArray⟩)),(5,true,.own 640),(26,true,.v v),(27,true,.v (.int .i64 ws.length)),(28,true,.v (.int .i64 x.2.1))],[(640,.row 3 (x.2.2.map encI3)),(8,.box [.v b,.v v] none)],M))
    (fun x=>(x.1+x.2.1=ws.length∧goV bag (prevN ws x.2.1) ((ws.drop x.2.1).map (·.2))=gv)∧x.2.2=idsOf ((ws.take x.2.1).map (·.2))∧x.2.2.length≤32 * x.2.1) (fun x=>x.1) (ws.length,0,[]) ⟨⟨rfl,hgv⟩,rfl,Nat.zero_le _⟩ (Ent.of ?_) ?_
  · simp only [zq,↓reduceIte,zx,zj,zy,zk,zw,zb,reduceCtorEq,zd,zf,zp,zm,zh,zu,zt,zn,zc,zl,za,ze,zo,zg,hdel,sigDrop,sigDropA,List.map_nil,za,prevN,Option.getD_none]
  rintro ⟨f,i,L⟩ ⟨⟨n1,n2⟩,n3,n4⟩
  simp only at n1 n2 n3 n4
  by_cases hil:i < ws.length
  · have d1:((i:Int) < (ws.length:Int))=True:=eq_true (by omega)
    obtain ⟨x,hx,hd⟩:=l_drop_at (l:=ws) (i:=i) hil
    rw [hd,List.map_cons,goV] at n2
    obtain ⟨g0,g1,i0⟩:=vol_at hv hx
    have hblk:=hv.blk x (List.mem_of_getElem? hx)
    have hbl:=hblk.len_le
    rw [List.length_map] at hbl
    have hp:prevN ws (i+1)=some x.2.1:=by simp only [prevN,hx,Option.map_some]
    have htk:idsOf ((ws.take (i+1)).map (·.2))=L++x.2.2:=by
      rw [List.take_add_one,hx,n3]
      unfold idsOf
      simp
    simp only [zz,zq,↓reduceIte,zx,zj,zy,zk,zw,zb,reduceCtorEq,zd,zf,zp,zm,zh,zu,zt,zn,zc,zl,za,ze,zo,zg,nzs,d1,hv.row.len,hv.row.sl,List.length_map,i0,i0.2,g0.1,g0.2,g1.1,g1.2,hblk.one]
    refine CallK.pure ⟨rfl,rfl⟩ rfl (rnameW x.2.1 M) ?_
    cases hN:nmB x.2.1 with
    | false=>
      rw [if_pos (.inl hN)] at n2
      subst n2
      rw [if_pos (by decide)] at hc
      subst hc
      simp only [zz,zq,↓reduceIte,zx,zj,zy,zk,zw,zb,reduceCtorEq,zd,zf,zp,zm,zh,zu,zt,zn,zc,zl,za,ze,zo,zg,nzs]
    | true=>
    have hbd:=bad_last (prevN ws i) hN
    generalize (prevN ws i).getD []=lst at *
    cases hbb:nameBad (prevN ws i) x.2.1 with
    | true=>
      rw [if_pos (.inr hbb)] at n2
      subst n2
      rw [if_pos (by decide)] at hc
      subst hc
      rw [hbb] at hbd
      simp only [zz,zq,↓reduceIte,zx,zj,zy,zk,zw,zb,reduceCtorEq,zd,zf,zp,zm,zh,zu,zt,zn,zc,zl,za,ze,zo,zg,nzs,hbd]
    | false=>
    rw [if_neg (by rw [hN,hbb]; rintro (h | h) <;> cases h)] at n2
    rw [hbb] at hbd
    by_cases h32:32 < x.2.2.length
    · have d2:((32:Int) < (x.2.2.length:Int))=True:=eq_true (by omega)
      rw [if_pos h32] at n2
      subst n2
      rw [if_pos (by decide)] at hc
      subst hc
      simp only [zz,zq,↓reduceIte,zx,zj,zy,zk,zw,zb,reduceCtorEq,zd,zf,zp,zm,zh,zu,zt,zn,zc,zl,za,ze,zo,zg,nzs,hbd,hblk.len,hblk.sl,List.length_map,d2]
    have d2:((32:Int) < (x.2.2.length:Int))=False:=eq_false (by omega)
    rw [if_neg h32] at n2
    simp only [zz,zq,↓reduceIte,zx,zj,zy,zk,zw,zb,reduceCtorEq,zd,zf,zp,zm,zh,zu,zt,zn,zc,zl,za,ze,zo,zg,nzs,hbd,hblk.len,hblk.sl,List.length_map,d2]
    generalize hge:goI bag x.2.2=ge at n2
    refine LoopK.go (X:=Nat×Nat×List Id3) (fun z=>([(1,true,.ptr 8 0 0 0),(2,true,.v (.int .i64 0)),(4,true,.v (.string ⟨x.2.1.toArray⟩)),(5,true,.own 640),(26,true,.v v),(27,true,.v (.int .i64 ws.length)),(28,true,.v (.int .i64 i)),(49,true,.v x.1),(50,true,.v (.int .i64 x.2.2.length)),(51,true,.v (.int .i64 z.2.1))],[(640,.row 3 (z.2.2.map encI3)),(8,.box [.v b,.v v] none)],M))
      (fun z=>(z.1+z.2.1=x.2.2.length∧goI bag (x.2.2.drop z.2.1)=ge)∧z.2.2=L++x.2.2.take z.2.1∧z.2.2.length≤32 * i+z.2.1) (fun z=>z.1) (x.2.2.length,0,L) ⟨⟨rfl,hge⟩,by simp,n4⟩ (Ent.of ?_) ?_
    · simp only [zq,↓reduceIte,zx,zj,zy,zk,zw,zb,reduceCtorEq,zd,zf,zp,zm,zh,zu,zt,zn,zc,zl,za,ze,zo,zg,za]
    rintro ⟨f2,j,L2⟩ ⟨⟨m1,m2⟩,m3,m4⟩
    simp only at m1 m2 m3 m4
    by_cases hjl:j < x.2.2.length
    rotate_left
    · have d3:((j:Int) < (x.2.2.length:Int))=False:=eq_false (by omega)
      rw [List.drop_eq_nil_of_le (by omega)] at m2
      simp only [goI] at m2
      subst m2
      rw [if_neg (fun h=>h rfl)] at n2
      rw [List.take_of_length_le (by omega)] at m3
      simp only [zz,zq,↓reduceIte,zx,zj,zy,zk,zw,zb,reduceCtorEq,zd,zf,zp,zm,zh,zu,zt,zn,zc,zl,za,ze,zo,zg,nzs,d3,inK,lo,hi]
      refine ⟨by omega,(f - 1,i+1,L2),⟨⟨⟨by simp only; omega,by rw [hp]; exact n2⟩,by simp only [htk]; exact m3,by simp only; omega⟩,by simp only; omega⟩,Ent.of ?_⟩
      simp only [zq,↓reduceIte,zx,zj,zy,zk,zw,zb,reduceCtorEq,zd,zf,zp,zm,zh,zu,zt,zn,zc,zl,za,ze,zo,zg,Int.natCast_add,hp,Option.getD_some]
    have d3:((j:Int) < (x.2.2.length:Int))=True:=eq_true (by omega)
    obtain ⟨y,hy,hd2⟩:=l_drop_at (l:=x.2.2) (i:=j) hjl
    obtain ⟨y0,y1,y2,yi⟩:=id_at hblk hy
    rw [hd2,goI] at m2
    have htj:x.2.2.take (j+1)=x.2.2.take j++[y]:=by rw [List.take_add_one,hy]; rfl
    have hF:=item b bag y M hb
    simp only [idV] at hF
    have hnx : ∀ z:Id3,z=y→L2++[z]=L++x.2.2.take (j+1):=fun z hz=>by rw [hz,m3,htj,List.append_assoc]
    obtain ⟨q0,q1,q2⟩:=y
    simp only at y0 y1 y2 m2 hF
    cases q0 with
    | false=>
      by_cases hz:q1=0∧q2=0
      · obtain ⟨rfl,rfl⟩:=hz
        have hE:idE bag (false,0,0)=0:=rfl
        rw [hE,if_neg (fun h=>h rfl)] at m2
        simp only [zz,zq,↓reduceIte,zx,zj,zy,zk,zw,zb,reduceCtorEq,zd,zf,zp,zm,zh,zu,zt,zn,zc,zl,za,ze,zo,zg,nzs,d3,yi,yi.2,y0.1,y0.2,y1.1,y1.2,y2.1,y2.2,inK,lo,hi,List.length_map]
        refine ⟨by omega,by omega,(f2 - 1,j+1,L2++[(false,0,0)]),⟨⟨⟨by simp only; omega,m2⟩,hnx _ rfl,by simp only [List.length_append,List.length_singleton]; omega⟩,by simp only; omega⟩,Ent.of ?_⟩
        simp only [zq,↓reduceIte,zx,zj,zy,zk,zw,zb,reduceCtorEq,zd,zf,zp,zm,zh,zu,zt,zn,zc,zl,za,ze,zo,zg,Int.natCast_add,List.map_append,List.map_cons,List.map_nil,encI3]
      · have hE:idE bag (false,q1,q2)=3:=by
          unfold idE
          exact if_pos ⟨rfl,hz⟩
        rw [hE,if_pos (by decide)] at m2
        subst m2
        rw [if_pos (by decide)] at n2
        subst n2
        rw [if_pos (by decide)] at hc
        subst hc
        by_cases hq1:q1=0
        · have e1:=eq_true hq1
          have e2:=eq_false (show ¬ q2=0 from fun h=>hz ⟨hq1,h⟩)
          simp only [zz,zq,↓reduceIte,zx,zj,zy,zk,zw,zb,reduceCtorEq,zd,zf,zp,zm,zh,zu,zt,zn,zc,zl,za,ze,zo,zg,nzs,d3,yi,yi.2,y0.1,y0.2,y1.1,y1.2,y2.1,y2.2,e1,e2]
        · have e1:=eq_false hq1
          simp only [zz,zq,↓reduceIte,zx,zj,zy,zk,zw,zb,reduceCtorEq,zd,zf,zp,zm,zh,zu,zt,zn,zc,zl,za,ze,zo,zg,nzs,d3,yi,yi.2,y0.1,y0.2,y1.1,y1.2,y2.1,y2.2,e1]
    | true=>
      simp only [zz,zq,↓reduceIte,zx,zj,zy,zk,zw,zb,reduceCtorEq,zd,zf,zp,zm,zh,zu,zt,zn,zc,zl,za,ze,zo,zg,nzs,d3,yi,yi.2,y0.1,y0.2,y1.1,y1.2,y2.1,y2.2]
      refine CallK.pure ⟨rfl,rfl⟩ rfl hF ?_
      by_cases hneg:fidx (isId (true,q1,q2)) bag 0 < 0
      · have d4:=eq_true hneg
        have hE:idE bag (true,q1,q2)=4:=by
          unfold idE
          rw [if_neg (fun h=>by cases h.1)]
          exact if_pos ⟨rfl,hneg⟩
        rw [hE,if_pos (by decide)] at m2
        subst m2
        rw [if_pos (by decide)] at n2
        subst n2
        rw [if_pos (by decide)] at hc
        subst hc
        simp only [zz,zq,↓reduceIte,zx,zj,zy,zk,zw,zb,reduceCtorEq,zd,zf,zp,zm,zh,zu,zt,zn,zc,zl,za,ze,zo,zg,nzs,d4]
      · have d4:=eq_false hneg
        have hE:idE bag (true,q1,q2)=0:=by
          unfold idE
          rw [if_neg (fun h=>by cases h.1)]
          exact if_neg (fun h=>hneg h.2)
        rw [hE,if_neg (fun h=>h rfl)] at m2
        simp only [zz,zq,↓reduceIte,zx,zj,zy,zk,zw,zb,reduceCtorEq,zd,zf,zp,zm,zh,zu,zt,zn,zc,zl,za,ze,zo,zg,nzs,d4,inK,lo,hi,List.length_map]
        refine ⟨by omega,by omega,(f2 - 1,j+1,L2++[(true,q1,q2)]),⟨⟨⟨by simp only; omega,m2⟩,hnx _ rfl,by simp only [List.length_append,List.length_singleton]; omega⟩,by simp only; omega⟩,Ent.of ?_⟩
        simp only [zq,↓reduceIte,zx,zj,zy,zk,zw,zb,reduceCtorEq,zd,zf,zp,zm,zh,zu,zt,zn,zc,zl,za,ze,zo,zg,Int.natCast_add,List.map_append,List.map_cons,List.map_nil,encI3]
  have d1:((i:Int) < (ws.length:Int))=False:=eq_false (by omega)
  rw [List.drop_eq_nil_of_le (by omega),List.map_nil,goV] at n2
  subst n2
  rw [if_neg (fun h=>h rfl)] at hc
  rw [List.take_of_length_le (by omega)] at n3
  rw [← n3] at hc
  simp only [zz,zq,↓reduceIte,zx,zj,zy,zk,zw,zb,reduceCtorEq,zd,zf,zp,zm,zh,zu,zt,zn,zc,zl,za,ze,zo,zg,nzs,d1,hb.len,hb.sl,List.length_map]
  refine LoopK.pub (k:=640) rfl fun u M1 hM1 hu=>?_
  have hb1:=hb.le hM1
  have hul:=hu.len_le
  rw [List.length_map] at hul
  simp only [zz,zq,↓reduceIte,zx,zj,zy,zk,zw,zb,reduceCtorEq,zd,zf,zp,zm,zh,zu,zt,zn,zc,zl,za,ze,zo,zg,nzs,sp1,sp2,sp3]
  generalize hcb:cntB bag L=cb at hc
  refine LoopK.go (X:=Nat×Nat) (fun z=>([(1,true,.ptr 8 0 0 0),(2,true,.v (.int .i64 0)),(5,true,.v u),(84,true,.v b),(85,true,.v (.int .i64 bag.length)),(86,true,.v (.int .i64 z.2))],[(8,.box [.v b,.v v] none)],M1))
    (fun z=>z.1+z.2=bag.length∧cntB (bag.drop z.2) L=cb) (fun z=>z.1) (bag.length,0) ⟨rfl,hcb⟩ (Ent.of ?_) ?_
  · simp only [zq,↓reduceIte,zx,zj,zy,zk,zw,zb,reduceCtorEq,zd,zf,zp,zm,zh,zu,zt,zn,zc,zl,za,ze,zo,zg,za]
  rintro ⟨f3,k⟩ ⟨q1,q2⟩
  simp only at q1 q2
  by_cases hkl:k < bag.length
  rotate_left
  · have d3:((k:Int) < (bag.length:Int))=False:=eq_false (by omega)
    rw [List.drop_eq_nil_of_le (by omega)] at q2
    have:cb=true:=q2.symm
    subst this
    rw [if_neg (fun h=>by cases h)] at hc
    subst hc
    simp only [zz,zq,↓reduceIte,zx,zj,zy,zk,zw,zb,reduceCtorEq,zd,zf,zp,zm,zh,zu,zt,zn,zc,zl,za,ze,zo,zg,nzs,d3]
  have d3:((k:Int) < (bag.length:Int))=True:=eq_true (by omega)
  obtain ⟨y,hy,hd2⟩:=l_drop_at (l:=bag) (i:=k) hkl
  obtain ⟨⟨y0,y1⟩,⟨y2,y3⟩,yi⟩:=it_at hb1 hy
  unfold cntB at q2
  rw [hd2,List.all_cons] at q2
  generalize hcn:(L.count (true,y.1,y.2.1):Nat)=cn at q2
  simp only [zz,zq,↓reduceIte,zx,zj,zy,zk,zw,zb,reduceCtorEq,zd,zf,zp,zm,zh,zu,zt,zn,zc,zl,za,ze,zo,zg,nzs,d3,yi,yi.2,y0.1,y0.2,y1.1,y1.2,y2.1,y2.2,y3.1,y3.2,hu.len,hu.sl,List.length_map]
  refine LoopK.go (X:=Nat×Nat×Nat) (fun z=>([(1,true,.ptr 8 0 0 0),(2,true,.v (.int .i64 0)),(5,true,.v u),(11,true,.ptr 88 0 0 0),(12,true,.v (.int .i64 z.2.2)),(84,true,.v b),(85,true,.v (.int .i64 bag.length)),(86,true,.v (.int .i64 k)),(90,true,.v u),(91,true,.v (.int .i64 L.length)),(92,true,.v (.int .i64 z.2.1))],[(88,.box [.v (.int .i64 y.1),.v (.int .i64 y.2.1),.v (.string ⟨y.2.2.1.toArray⟩),.v (.int .i64 y.2.2.2)] none),(8,.box [.v b,.v v] none)],M1))
    (fun z=>(z.1+z.2.1=L.length∧z.2.2≤z.2.1)∧z.2.2+(L.drop z.2.1).count (true,y.1,y.2.1)=cn) (fun z=>z.1) (L.length,0,0) ⟨⟨rfl,Nat.le_refl _⟩,by simpa using hcn⟩ (Ent.of ?_) ?_
  · simp only [zq,↓reduceIte,zx,zj,zy,zk,zw,zb,reduceCtorEq,zd,zf,zp,zm,zh,zu,zt,zn,zc,zl,za,ze,zo,zg,za]
  rintro ⟨f4,p,n⟩ ⟨⟨p1,p2⟩,p3⟩
  simp only at p1 p2 p3
  by_cases hpl:p < L.length
  rotate_left
  · have d5:((p:Int) < (L.length:Int))=False:=eq_false (by omega)
    rw [List.drop_eq_nil_of_le (by omega),List.count_nil,Nat.add_zero] at p3
    subst p3
    by_cases heq:(n:Int)=y.2.2.2
    · have d4:=eq_true heq
      rw [decide_eq_true heq,Bool.true_and] at q2
      simp only [zz,zq,↓reduceIte,zx,zj,zy,zk,zw,zb,reduceCtorEq,zd,zf,zp,zm,zh,zu,zt,zn,zc,zl,za,ze,zo,zg,nzs,d5,d4,inK,lo,hi]
      refine ⟨by omega,(f3 - 1,k+1),⟨⟨by simp only; omega,q2⟩,by simp only; omega⟩,Ent.of ?_⟩
      simp only [zq,↓reduceIte,zx,zj,zy,zk,zw,zb,reduceCtorEq,zd,zf,zp,zm,zh,zu,zt,zn,zc,zl,za,ze,zo,zg,Int.natCast_add]
    · have d4:=eq_false heq
      rw [decide_eq_false heq,Bool.false_and] at q2
      subst q2
      rw [if_pos rfl] at hc
      subst hc
      simp only [zz,zq,↓reduceIte,zx,zj,zy,zk,zw,zb,reduceCtorEq,zd,zf,zp,zm,zh,zu,zt,zn,zc,zl,za,ze,zo,zg,nzs,d5,d4]
  have d5:((p:Int) < (L.length:Int))=True:=eq_true (by omega)
  obtain ⟨z,hz,hd4⟩:=l_drop_at (l:=L) (i:=p) hpl
  obtain ⟨z0,z1,z2,zi⟩:=id_at hu hz
  rw [hd4,List.count_cons] at p3
  obtain ⟨r0,r1,r2⟩:=z
  simp only at z0 z1 z2 p3
  by_cases hm:r0=true∧r1=y.1∧r2=y.2.1
  · obtain ⟨rfl,rfl,rfl⟩:=hm
    simp only [beq_self_eq_true,if_true] at p3
    simp only [zz,zq,↓reduceIte,zx,zj,zy,zk,zw,zb,reduceCtorEq,zd,zf,zp,zm,zh,zu,zt,zn,zc,zl,za,ze,zo,zg,nzs,d5,zi,zi.2,z0.1,z0.2,z1.1,z1.2,z2.1,z2.2,inK,lo,hi]
    refine ⟨by omega,by omega,(f4 - 1,p+1,n+1),⟨⟨⟨by simp only; omega,by simp only; omega⟩,by simp only; omega⟩,by simp only; omega⟩,Ent.of ?_⟩
    simp only [zq,↓reduceIte,zx,zj,zy,zk,zw,zb,reduceCtorEq,zd,zf,zp,zm,zh,zu,zt,zn,zc,zl,za,ze,zo,zg,Int.natCast_add]
  · have hne:((r0,r1,r2) == ((true,y.1,y.2.1):Id3))=false:=by
      rw [beq_eq_false_iff_ne]
      intro e
      simp only [Prod.mk.injEq] at e
      exact hm e
    rw [hne] at p3
    simp only [Bool.false_eq_true,if_false,Nat.add_zero] at p3
    have hgoal : ∀ q:Prop,((r0=true∧r1=y.1∧r2=y.2.1)→q)=True:=fun q=>eq_true (fun h=>absurd h hm)
    cases r0 with
    | false=>
      simp only [zz,zq,↓reduceIte,zx,zj,zy,zk,zw,zb,reduceCtorEq,zd,zf,zp,zm,zh,zu,zt,zn,zc,zl,za,ze,zo,zg,nzs,d5,zi,zi.2,z0.1,z0.2,z1.1,z1.2,z2.1,z2.2,inK,lo,hi]
      refine ⟨by omega,(f4 - 1,p+1,n),⟨⟨⟨by simp only; omega,by simp only; omega⟩,p3⟩,by simp only; omega⟩,Ent.of ?_⟩
      simp only [zq,↓reduceIte,zx,zj,zy,zk,zw,zb,reduceCtorEq,zd,zf,zp,zm,zh,zu,zt,zn,zc,zl,za,ze,zo,zg,Int.natCast_add]
    | true=>
      by_cases hr1:r1=y.1
      · have e1:=eq_true hr1
        have e2:=eq_false (show ¬ r2=y.2.1 from fun h=>hm ⟨rfl,hr1,h⟩)
        simp only [zz,zq,↓reduceIte,zx,zj,zy,zk,zw,zb,reduceCtorEq,zd,zf,zp,zm,zh,zu,zt,zn,zc,zl,za,ze,zo,zg,nzs,d5,zi,zi.2,z0.1,z0.2,z1.1,z1.2,z2.1,z2.2,e1,e2,inK,lo,hi]
        refine ⟨by omega,(f4 - 1,p+1,n),⟨⟨⟨by simp only; omega,by simp only; omega⟩,p3⟩,by simp only; omega⟩,Ent.of ?_⟩
        simp only [zq,↓reduceIte,zx,zj,zy,zk,zw,zb,reduceCtorEq,zd,zf,zp,zm,zh,zu,zt,zn,zc,zl,za,ze,zo,zg,Int.natCast_add]
      · have e1:=eq_false hr1
        simp only [zz,zq,↓reduceIte,zx,zj,zy,zk,zw,zb,reduceCtorEq,zd,zf,zp,zm,zh,zu,zt,zn,zc,zl,za,ze,zo,zg,nzs,d5,zi,zi.2,z0.1,z0.2,z1.1,z1.2,z2.1,z2.2,e1,inK,lo,hi]
        refine ⟨by omega,(f4 - 1,p+1,n),⟨⟨⟨by simp only; omega,by simp only; omega⟩,p3⟩,by simp only; omega⟩,Ent.of ?_⟩
        simp only [zq,↓reduceIte,zx,zj,zy,zk,zw,zb,reduceCtorEq,zd,zf,zp,zm,zh,zu,zt,zn,zc,zl,za,ze,zo,zg,Int.natCast_add]
end Go.X.Vo

namespace Go.X.Vo
open Go Go.X Go.RowKit Go.X.Bg Go.X.Nm

theorem idxV {α:Type} (q0 q1:α→Value) (p:α→Bool) (f:Nat) (caps:List SV) (hcaps:SV.concs caps=true) (y:Value) (l:List α) (M:Mem) (hy:RowM M y 2 (l.map (fun x=>[q0 x,q1 x])))
    (hf : ∀ x ∈ l,Meets Proofs.Tryz.prog f (.agg [.v (q0 x),.v (q1 x)] :: caps) M fun r _ _=>r = .v (.bool (p x))) :
    Meets Proofs.Tryz.prog 136 [.v y,.fn f caps] M fun r _ _=>r = .v (.int .i64 (fidx p l 0)):=by
  refine Meets.of_body [0,1,4,5,7,8,9,16] Proofs.Tryz.func136 rfl (by kernel_rfl) (by simp only [SV.concs,SV.conc,hcaps,Bool.and_self]) fun w=>?_
  generalize hc:fidx p l 0=c
  have hyl:=hy.len_le
  rw [List.length_map] at hyl
  simp only [Proofs.Tryz.f136,zz,zq,↓reduceIte,zx,zj,zy,zk,zw,zb,reduceCtorEq,zd,zf,zp,zm,zh,zu,zt,zn,zc,zl,za,ze,zo,zg,hy.len,hy.sl,List.length_map]
  refine LoopK.go (X:=Nat×Nat) (fun x=>([(0,true,.v y),(1,true,.fn f caps),(7,true,.v (.int .i64 l.length)),(8,true,.v (.int .i64 x.2))],[],M))
    (fun x=>x.1+x.2=l.length∧fidx p (l.drop x.2) x.2=c) (fun x=>x.1) (l.length,0) ⟨rfl,hc⟩ (Ent.of ?_) ?_
  · simp only [zq,↓reduceIte,zx,zj,zy,zk,zw,zb,reduceCtorEq,zd,zf,zp,zm,zh,zu,zt,zn,zc,zl,za,ze,zo,zg]
  rintro ⟨fu,i⟩ ⟨h1,h2⟩
  simp only at h1 h2
  by_cases hil:i < l.length
  · have c1:((i:Int) < (l.length:Int))=True:=eq_true (by omega)
    obtain ⟨a,hx,hd⟩:=l_drop_at (l:=l) (i:=i) hil
    rw [hd] at h2
    simp only [fidx] at h2
    have g0:=hy.cell (i:=i) (e:=[q0 a,q1 a]) (by rw [List.getElem?_map,hx]; rfl) (off:=0) (by omega)
    have g1:=hy.cell (i:=i) (e:=[q0 a,q1 a]) (by rw [List.getElem?_map,hx]; rfl) (off:=1) (by omega)
    have i0:=hy.ix (i:=(i:Int)) (by omega) (by rw [List.length_map]; omega)
    simp only [List.getD_cons_zero,List.getD_cons_succ] at g0 g1
    simp only [zz,zq,↓reduceIte,zx,zj,zy,zk,zw,zb,reduceCtorEq,zd,zf,zp,zm,zh,zu,zt,zn,zc,zl,za,ze,zo,zg,nzs,c1,hy.len,hy.sl,List.length_map,i0,i0.2,g0.1,g0.2.1,g1.1,g1.2.1]
    refine CallK.pure ⟨by simp only [SV.concs,SV.conc,hcaps,Bool.and_self],rfl⟩ rfl (hf a (List.mem_of_getElem? hx)) ?_
    cases hp:p a with
    | true=>
      rw [hp,if_pos rfl] at h2
      subst h2
      simp only [zz,zq,↓reduceIte,zx,zj,zy,zk,zw,zb,reduceCtorEq,zd,zf,zp,zm,zh,zu,zt,zn,zc,zl,za,ze,zo,zg,nzs]
    | false=>
      rw [hp,if_neg (by simp)] at h2
      simp only [zz,zq,↓reduceIte,zx,zj,zy,zk,zw,zb,reduceCtorEq,zd,zf,zp,zm,zh,zu,zt,zn,zc,zl,za,ze,zo,zg,nzs,inK,lo,hi]
      refine ⟨by omega,(fu - 1,i+1),⟨⟨by simp only; omega,h2⟩,by simp only; omega⟩,Ent.of ?_⟩
      simp only [zq,↓reduceIte,zx,zj,zy,zk,zw,zb,reduceCtorEq,zd,zf,zp,zm,zh,zu,zt,zn,zc,zl,za,ze,zo,zg,Int.natCast_add]
  · have c1:((i:Int) < (l.length:Int))=False:=eq_false (by omega)
    have hd:l.drop i=[]:=List.drop_eq_nil_of_le (by omega)
    rw [hd] at h2
    simp only [fidx] at h2
    subst h2
    simp only [zz,zq,↓reduceIte,zx,zj,zy,zk,zw,zb,reduceCtorEq,zd,zf,zp,zm,zh,zu,zt,zn,zc,zl,za,ze,zo,zg,c1]

theorem cloneI (u:Value) (l:List (Bool×Int×Int)) (M:Mem) (hu:RowM M u 3 (l.map encI3)) (hb:l.length≤1000000) :
    Meets Proofs.Tryz.prog 78 [.v u] M (OwnR (fun s=>s) 3 (l.map encI3)):=by
  obtain ⟨r1,r2⟩:=hu.rows (by omega)
  cases hs:someV u with
  | true=>
    refine Meets.of_body [0,2,4] Proofs.Tryz.func78 rfl (by kernel_rfl) rfl fun w=>?_
    simp only [Proofs.Tryz.f78,zz,zq,↓reduceIte,zx,zj,zy,zk,zw,zb,reduceCtorEq,zd,zf,zp,zm,zh,zu,zt,zn,zc,zl,za,ze,zo,zg,hu.sl,hs,r1,List.length_map]
    exact ⟨⟨by omega,r2⟩,56,rfl,rfl⟩
  | false=>
    have hn:l=[]:=by
      cases l with
      | nil=>rfl
      | cons a r=>have:=hu.2.1 (by simp); rw [hs] at this; cases this
    subst hn
    refine Meets.nilOwn ?_
    refine Meets.of_body [0,2,4] Proofs.Tryz.func78 rfl (by kernel_rfl) rfl fun w=>?_
    simp only [Proofs.Tryz.f78,zz,zq,↓reduceIte,zx,zj,zy,zk,zw,zb,reduceCtorEq,zd,zf,zp,zm,zh,zu,zt,zn,zc,zl,za,ze,zo,zg,hu.sl,hs]

theorem eqI (x y:Value) (l m:List (Bool×Int×Int)) (M:Mem) (hx:RowM M x 3 (l.map encI3)) (hy:RowM M y 3 (m.map encI3)) :
    Meets Proofs.Tryz.prog 57 [.v x,.v y] M fun r _ _=>r = .v (.bool (decide (l=m))):=by
  refine Meets.of_body [0,1,4,5,10,12,13,14,24] Proofs.Tryz.func57 rfl (by kernel_rfl) rfl fun w=>?_
  simp only [Proofs.Tryz.f57,zz,zq,↓reduceIte,zx,zj,zy,zk,zw,zb,reduceCtorEq,zd,zf,zp,zm,zh,zu,zt,zn,zc,zl,za,ze,zo,zg,hx.len,hy.len,hx.sl,hy.sl,List.length_map]
  refine ⟨fun h=>?_,fun h=>?_⟩
  · rw [decide_eq_false (fun e=>h (by rw [e]))]
  have hlen:l.length=m.length:=by omega
  have hle:=hx.len_le
  rw [List.length_map] at hle
  refine LoopK.go (X:=Nat×Nat) (fun p=>([(0,true,.v x),(1,true,.v y),(4,true,.v (.bool false)),(12,true,.v (.int .i64 l.length)),(13,true,.v (.int .i64 p.2))],[],M))
    (fun p=>p.1+p.2=l.length∧(l=m↔l.drop p.2=m.drop p.2)) (fun p=>p.1) (l.length,0) ⟨rfl,Iff.rfl⟩ (Ent.of ?_) ?_
  · simp only [zq,↓reduceIte,zx,zj,zy,zk,zw,zb,reduceCtorEq,zd,zf,zp,zm,zh,zu,zt,zn,zc,zl,za,ze,zo,zg]
  rintro ⟨f,i⟩ ⟨h1,h2⟩
  simp only at h1 h2
  simp only [zz,zq,↓reduceIte,zx,zj,zy,zk,zw,zb,reduceCtorEq,zd,zf,zp,zm,zh,zu,zt,zn,zc,zl,za,ze,zo,zg]
  refine ⟨fun h3=>?_,fun h3=>?_⟩
  · obtain ⟨⟨a0,a1,a2⟩,hl,hd⟩:=l_drop_at (l:=l) (i:=i) (by omega)
    obtain ⟨⟨b0,b1,b2⟩,hm,hd2⟩:=l_drop_at (l:=m) (i:=i) (by omega)
    have g0:=hx.cell (i:=i) (e:=[.bool a0,.int .i64 a1,.int .i64 a2]) (by rw [List.getElem?_map,hl]; rfl) (off:=0) (by omega)
    have k0:=hy.cell (i:=i) (e:=[.bool b0,.int .i64 b1,.int .i64 b2]) (by rw [List.getElem?_map,hm]; rfl) (off:=0) (by omega)
    have g1:=hx.cell (i:=i) (e:=[.bool a0,.int .i64 a1,.int .i64 a2]) (by rw [List.getElem?_map,hl]; rfl) (off:=1) (by omega)
    have k1:=hy.cell (i:=i) (e:=[.bool b0,.int .i64 b1,.int .i64 b2]) (by rw [List.getElem?_map,hm]; rfl) (off:=1) (by omega)
    have g2:=hx.cell (i:=i) (e:=[.bool a0,.int .i64 a1,.int .i64 a2]) (by rw [List.getElem?_map,hl]; rfl) (off:=2) (by omega)
    have k2:=hy.cell (i:=i) (e:=[.bool b0,.int .i64 b1,.int .i64 b2]) (by rw [List.getElem?_map,hm]; rfl) (off:=2) (by omega)
    have i1:=hx.ix (i:=(i:Int)) (by omega) (by rw [List.length_map]; omega)
    have i2:=hy.ix (i:=(i:Int)) (by omega) (by rw [List.length_map]; omega)
    simp only [List.getD_cons_zero,List.getD_cons_succ] at g0 k0 g1 k1 g2 k2
    refine DrawK.quiet (by kernel_rfl) (by kernel_rfl) ?_
    simp only [zz,zq,↓reduceIte,zx,zj,zy,zk,zw,zb,reduceCtorEq,zd,zf,zp,zm,zh,zu,zt,zn,zc,zl,za,ze,zo,zg,nzs,g0.1,g0.2.1,k0.1,k0.2.1,g1.1,g1.2.1,k1.1,k1.2.1,g2.1,g2.2.1,k2.1,k2.2.1,i1,i2,i1.2,i2.2,hx.len,hy.len,hx.sl,hy.sl,inK,lo,hi,List.toArray_eq_iff]
    refine ⟨fun hne=>?_,fun he=>⟨by omega,(f - 1,i+1),⟨⟨by simp only; omega,?_⟩,by simp only; omega⟩,Ent.of ?_⟩⟩
    · rw [decide_eq_false (fun e=>?_)]
      have:=h2.1 e
      rw [hd,hd2] at this
      have:=(List.cons.inj this).1
      simp_all
    · have e12:(a0,a1,a2)=(b0,b1,b2):=by simp_all
      simp only
      rw [h2,hd,hd2,e12]
      exact ⟨fun e=>(List.cons.inj e).2,fun e=>by rw [e]⟩
    · simp only [zq,↓reduceIte,zx,zj,zy,zk,zw,zb,reduceCtorEq,zd,zf,zp,zm,zh,zu,zt,zn,zc,zl,za,ze,zo,zg,Int.natCast_add]
  · have:i=l.length:=by omega
    rw [decide_eq_true (h2.2 (by rw [List.drop_eq_nil_of_le (by omega),List.drop_eq_nil_of_le (by omega)]))]

def volIx (l:List Vol) (n:List UInt8):Int:=fidx (fun v:Vol=>decide (v.1=n)) l 0
theorem volIx_ws (ws:List WV) (n:List UInt8):volIx (ws.map (·.2)) n=fidx (fun w:WV=>decide (w.2.1=n)) ws 0:=fidx_map (fun w:WV=>w.2) _ ws 0
theorem volIx_sp (l:List Vol) (n:List UInt8):(volIx l n = -1 ∧ ∀ x ∈ l,x.1≠n) ∨ ∃ j x,volIx l n=((j:Nat):Int)∧l[j]? = some x∧x.1=n:=by
  rcases fidx_sp (fun v:Vol=>decide (v.1=n)) l 0 with ⟨h1,h2⟩ | ⟨j,x,h1,h2,h3,_⟩
  · exact .inl ⟨h1,fun x hx=>of_decide_eq_false (h2 x hx)⟩
  · exact .inr ⟨j,x,by rw [volIx,h1,Nat.zero_add],h2,of_decide_eq_true h3⟩
theorem volIx_at {ws:List WV} {n:List UInt8} (h : ¬ volIx (ws.map (·.2)) n < 0) : ∃ (j:Nat) (x:WV),volIx (ws.map (·.2)) n=(j:Int)∧ws[j]? = some x∧x.2.1=n∧(ws.map (·.2))[j]? = some x.2:=by
  rcases volIx_sp (ws.map (·.2)) n with ⟨h1,_⟩ | ⟨j,x,h1,h2,h3⟩
  · rw [h1] at h; exact absurd (by decide) h
  · have h2':=h2
    rw [List.getElem?_map,Option.map_eq_some_iff] at h2
    obtain ⟨y,hy,rfl⟩:=h2
    exact ⟨j,y,h1,hy,h3,h2'⟩
/-- the blocks of the volume of a name -/
def blks (l:List Vol) (n:List UInt8):List Id3:=((l[(volIx l n).toNat]?).map (·.2)).getD []
theorem blks_at {l:List Vol} {n:List UInt8} {j:Nat} {x:Vol} (h1:volIx l n=(j:Int)) (h2:l[j]? = some x):blks l n=x.2:=by
  unfold blks
  rw [h1,zo,h2]
  rfl
theorem findC1 (bb:Nat) (n:List UInt8) (x:WV) (M:Mem) (h:BoxM M bb [.string ⟨n.toArray⟩]):Meets Proofs.Tryz.prog 137 [.agg [.v (.string ⟨x.2.1.toArray⟩),.v x.1],.v (ptrV bb)] M fun r _ _=>r = .v (.bool (decide (x.2.1=n))):=by
  refine Meets.of_body [0,1,2,3] Proofs.Tryz.func137 rfl (by kernel_rfl) rfl fun w=>?_
  have g0:=h.at (j:=0) rfl
  simp only [Proofs.Tryz.f137,zz,zq,↓reduceIte,zx,zj,zy,zk,zw,zb,reduceCtorEq,zd,zf,zp,zm,zh,zu,zt,zn,zc,zl,za,ze,zo,zg,nzs,g0.1,g0.2,List.toArray_eq_iff]
theorem find (b v:Value) (ws:List WV) (n:List UInt8) (M:Mem) (hv:VolsM M v ws) :
    Meets Proofs.Tryz.prog 106 [stV b v,.v (.string ⟨n.toArray⟩)] M fun r _ _=>r = .v (.int .i64 (volIx (ws.map (·.2)) n)):=by
  refine Meets.of_body [0,1,2,3,4] Proofs.Tryz.func106 rfl (by kernel_rfl) rfl fun w=>?_
  rw [volIx_ws]
  simp only [Proofs.Tryz.f106,stV,zz,zq,↓reduceIte,zx,zj,zy,zk,zw,zb,reduceCtorEq,zd,zf,zp,zm,zh,zu,zt,zn,zc,zl,za,ze,zo,zg,nzs]
  refine stepK.mkFn rfl rfl ?_
  simp only [zz,zq,↓reduceIte,zx,zj,zy,zk,zw,zb,reduceCtorEq,zd,zf,zp,zm,zh,zu,zt,zn,zc,zl,za,ze,zo,zg,nzs]
  refine CallK.pubB (k:=24) rfl rfl fun bb M2 hM2 hb2=>?_
  simp only [shA1,shA2,zz,zq,↓reduceIte,zx,zj,zy,zk,zw,zb,reduceCtorEq,zd,zf,zp,zm,zh,zu,zt,zn,zc,zl,za,ze,zo,zg]
  refine CallK.pure ⟨rfl,rfl⟩ rfl (idxV (α:=WV) (fun x=>.string ⟨x.2.1.toArray⟩) (fun x=>x.1) (fun w=>decide (w.2.1=n)) _ _ rfl _ ws M2 (hv.row.le hM2) (fun z _=>findC1 bb n z M2 hb2)) ?_
  simp only [zz,zq,↓reduceIte,zx,zj,zy,zk,zw,zb,reduceCtorEq,zd,zf,zp,zm,zh,zu,zt,zn,zc,zl,za,ze,zo,zg,nzs]
theorem rvol (b v:Value) (ws:List WV) (n:List UInt8) (M:Mem) (hv:VolsM M v ws) :
    Meets Proofs.Tryz.prog 33 [stV b v,.v (.string ⟨n.toArray⟩)] M fun r _ _=>r = .v (.int .i64 (volIx (ws.map (·.2)) n)):=by
  refine Meets.of_body [0,1,2,4,5,6,8,9,10,11,18] Proofs.Tryz.func33 rfl (by kernel_rfl) rfl fun w=>?_
  rw [volIx_ws]
  generalize hc:fidx (fun w:WV=>decide (w.2.1=n)) ws 0=c
  have hvl:=hv.row.len_le
  rw [List.length_map] at hvl
  simp only [Proofs.Tryz.f33,stV,zz,zq,↓reduceIte,zx,zj,zy,zk,zw,zb,reduceCtorEq,zd,zf,zp,zm,zh,zu,zt,zn,zc,zl,za,ze,zo,zg,nzs,hv.row.len,hv.row.sl,List.length_map]
  refine LoopK.go (X:=Nat×Nat) (fun x=>([(1,true,.v (.string ⟨n.toArray⟩)),(4,true,.v (.int .i64 0)),(8,true,.v v),(9,true,.v (.int .i64 ws.length)),(10,true,.v (.int .i64 x.2))],[(16,.box [.v b,.v v] none)],M))
    (fun x=>x.1+x.2=ws.length∧fidx (fun w:WV=>decide (w.2.1=n)) (ws.drop x.2) x.2=c) (fun x=>x.1) (ws.length,0) ⟨rfl,hc⟩ (Ent.of ?_) ?_
  · simp only [zq,↓reduceIte,zx,zj,zy,zk,zw,zb,reduceCtorEq,zd,zf,zp,zm,zh,zu,zt,zn,zc,zl,za,ze,zo,zg,za]
  rintro ⟨f,i⟩ ⟨h1,h2⟩
  simp only at h1 h2
  by_cases hil:i < ws.length
  rotate_left
  · have d1:((i:Int) < (ws.length:Int))=False:=eq_false (by omega)
    rw [List.drop_eq_nil_of_le (by omega)] at h2
    simp only [fidx] at h2
    subst h2
    simp only [zz,zq,↓reduceIte,zx,zj,zy,zk,zw,zb,reduceCtorEq,zd,zf,zp,zm,zh,zu,zt,zn,zc,zl,za,ze,zo,zg,nzs,d1]
  have d1:((i:Int) < (ws.length:Int))=True:=eq_true (by omega)
  obtain ⟨x,hx,hd⟩:=l_drop_at (l:=ws) (i:=i) hil
  rw [hd] at h2
  simp only [fidx] at h2
  obtain ⟨g0,g1,i0⟩:=vol_at hv hx
  have hblk:=hv.blk x (List.mem_of_getElem? hx)
  by_cases he:x.2.1=n
  · have e1:=eq_true he
    rw [if_pos (decide_eq_true he)] at h2
    subst h2
    simp only [zz,zq,↓reduceIte,zx,zj,zy,zk,zw,zb,reduceCtorEq,zd,zf,zp,zm,zh,zu,zt,zn,zc,zl,za,ze,zo,zg,nzs,d1,i0,i0.2,g0.1,g0.2,g1.1,g1.2,hblk.one,e1,List.toArray_eq_iff]
  · have e1:=eq_false he
    rw [if_neg (by rw [decide_eq_false he]; decide)] at h2
    simp only [zz,zq,↓reduceIte,zx,zj,zy,zk,zw,zb,reduceCtorEq,zd,zf,zp,zm,zh,zu,zt,zn,zc,zl,za,ze,zo,zg,nzs,d1,i0,i0.2,g0.1,g0.2,g1.1,g1.2,hblk.one,e1,inK,lo,hi]
    refine ⟨by omega,(f - 1,i+1),⟨⟨by simp only; omega,h2⟩,by simp only; omega⟩,Ent.of ?_⟩
    simp only [zq,↓reduceIte,zx,zj,zy,zk,zw,zb,reduceCtorEq,zd,zf,zp,zm,zh,zu,zt,zn,zc,zl,za,ze,zo,zg,Int.natCast_add]
end Go.X.Vo

