/- Contracts of functions and the logic that they are proved in (3 texts in one). Conditions: none. -/
import Derived.Test.YtoohifeidifocaaGreatDoorMg25
import Derived.Test.YtoohifeidifocaaGreatDoorMg23
import Derived.Test.YtoohifeidifocaaGreatDoorMg6
open Nat renaming reduceAdd→zx,reduceMul→zj,reduceDiv→zy,reduceEqDiff→zk,reduceLT→zw,reduceLeDiff→zb,reduceBEq→zg
open Int renaming reduceEq→zd,reduceNe→zf,reduceLT→zp,reduceLE→zm,reduceAdd→zh,reduceSub→zu,reduceMul→zt,reduceNeg→zn,reduceToNat→zc,cast_ofNat_Int→zl,natCast_zero→za,natCast_one→ze,toNat_natCast→zo
namespace Go.X.Pl
end Go.X.Pl
namespace Go.X.Nm
end Go.X.Nm
namespace Go.X.Tv
end Go.X.Tv
namespace Go.X.Pol
end Go.X.Pol
namespace Go.X.Rp
end Go.X.Rp
namespace Go.X.Pd
end Go.X.Pd
namespace Go.X.Md
end Go.X.Md
namespace Go.X.Mv
end Go.X.Mv
namespace Go.X.Pt
end Go.X.Pt
set_option linter.unusedSimpArgs false
set_option linter.unusedVariables false
set_option maxHeartbeats 4000000
set_option maxRecDepth 20000
namespace Go.X.Lg
open Go Go.X Go.RowKit Go.X.Pl Go.X.Nm Go.X.Tv

def unS (s:List UInt8):Op×Int:=if opE (lnS s)=0∧bodyS (lnS s)=s then (lnS s,0) else (z5,3)
theorem rnd (b:UInt8) (u:List UInt8):u.take (min b.toNat u.length)=(lnT (b :: u)).1∧u.drop (min b.toNat u.length)=(lnT (b :: u)).2:=by
  show _=u.take b.toNat∧_=u.drop b.toNat
  rcases Nat.lt_or_ge b.toNat u.length with h | h
  · rw [Nat.min_eq_left (by omega)]
    exact ⟨rfl,rfl⟩
  · rw [Nat.min_eq_right h,List.take_of_length_le (Nat.le_refl _),List.take_of_length_le h,List.drop_eq_nil_of_le (Nat.le_refl _),List.drop_eq_nil_of_le h]
    exact ⟨rfl,rfl⟩
theorem lnT_le {s n r:List UInt8} (h:lnT s=(n,r)):n.length≤s.length∧r.length≤s.length:=by
  cases s with
  | nil=>
    simp only [lnT,Prod.mk.injEq] at h
    rw [← h.1,← h.2]
    exact ⟨Nat.le_refl _,Nat.le_refl _⟩
  | cons b q=>
    simp only [lnT,Prod.mk.injEq] at h
    rw [← h.1,← h.2]
    simp only [List.length_take,List.length_drop,List.length_cons]
    omega
theorem shN0:(0:Nat)+0=0:=rfl
theorem unbodyW (s:List UInt8) (M:Mem) (h:s.length≤9223372036854775807) :
    Meets Proofs.Tryz.prog 98 [.v (.string ⟨s.toArray⟩)] M fun r _ _=>r = .tup [opV (unS s).1,.v (.int .i64 (unS s).2)]:=by
  refine Meets.of_body [0,2,3,4,5,6,7,8,11,22,23,26,62] Proofs.Tryz.func98 rfl (by kernel_rfl) rfl fun w=>?_
  generalize hc:unS s=c
  unfold unS at hc
  by_cases h2:2 < s.length
  rotate_left
  · have d0:((2:Int) < (s.length:Int))=False:=eq_false (by omega)
    have hz:lnS s=z5:=by
      match s,h2 with
      | [],_=>rfl
      | [_],_=>rfl
      | [_,_],_=>rfl
      | _ :: _ :: _ :: _,h2=>simp at h2
    have he:opE z5=1:=rfl
    rw [hz,if_neg (fun e=>by rw [he] at e; cases e.1)] at hc
    subst hc
    simp only [Proofs.Tryz.f98,zz,zq,↓reduceIte,zx,zj,zy,zk,zw,zb,reduceCtorEq,zd,zf,zp,zm,zh,zu,zt,zn,zc,zl,za,ze,zo,zg,nzs,d0]
    refine CallK.pure ⟨rfl,rfl⟩ rfl (deedW z5 M) ?_
    rw [he]
    simp only [zz,zq,↓reduceIte,zx,zj,zy,zk,zw,zb,reduceCtorEq,zd,zf,zp,zm,zh,zu,zt,zn,zc,zl,za,ze,zo,zg,nzs,opV,z5]
  have d0:((2:Int) < (s.length:Int))=True:=eq_true (by omega)
  obtain ⟨a,b,b0,u,rfl⟩ : ∃ a b b0 u,s=a :: b :: b0 :: u:=by
    match s,h2 with
    | [],h2=>simp at h2
    | [_],h2=>simp at h2
    | [_,_],h2=>simp at h2
    | a :: b :: b0 :: u,_=>exact ⟨a,b,b0,u,rfl⟩
  have e0:strIx (a :: b :: b0 :: u) 0=((a.toNat:Nat):Int):=rfl
  have e1:strIx (a :: b :: b0 :: u) 1=((b.toNat:Nat):Int):=rfl
  have e2:strIx (b0 :: u) 0=((b0.toNat:Nat):Int):=rfl
  have ha:=UInt8.toNat_lt a
  have hb:=UInt8.toNat_lt b
  have hb0:=UInt8.toNat_lt b0
  simp only [List.length_cons] at d0 h h2
  simp only [Proofs.Tryz.f98,zz,zq,↓reduceIte,zx,zj,zy,zk,zw,zb,reduceCtorEq,zd,zf,zp,zm,zh,zu,zt,zn,zc,zl,za,ze,zo,zg,nzs,d0,List.length_cons]
  refine DrawK.held [] (tk [0,3,1,4,2,5,6] (.one 7 (tk [8] (.one 9 .done)))) (by kernel_rfl) (by kernel_rfl) fun xs=>?_
  simp only [zz,zq,↓reduceIte,zx,zj,zy,zk,zw,zb,reduceCtorEq,zd,zf,zp,zm,zh,zu,zt,zn,zc,zl,za,ze,zo,zg,nzs,se1,se2,tks,List.length_cons,e0,e1,iw (show a.toNat < 9223372036854775808 by omega),iw (show b.toNat < 9223372036854775808 by omega),List.drop_succ_cons,List.drop_zero]
  have et:List.take (u.length+1+1+1 - 2) (b0 :: u)=b0 :: u:=List.take_of_length_le (by simp only [List.length_cons]; omega)
  have ed:(b0 :: u=[])=False:=eq_false (fun e=>by cases e)
  refine ⟨by omega,by omega,by omega,LoopK.rounds 4 ?_⟩
  have hl:lnS (a :: b :: b0 :: u)=((a.toNat:Int),(lnT (b0 :: u)).1,(lnT (lnT (b0 :: u)).2).1,(b.toNat:Int),(lnT (lnT (lnT (b0 :: u)).2).2).1):=rfl
  rw [hl] at hc
  simp only [zz,zq,↓reduceIte,zx,zj,zy,zk,zw,zb,reduceCtorEq,zd,zf,zp,zm,zh,zu,zt,zn,zc,zl,za,ze,zo,zg,nzs,sRo,et,ed,e2,List.length_cons,inK,lo,hi,iw (show b0.toNat < 9223372036854775808 by omega)]
  have em0:min (((b0).toNat:Nat):Int) (((u.length+1:Nat):Int) - 1)=((min (b0).toNat u.length:Nat):Int):=by omega
  have ez0:(1:Int)+((min (b0).toNat u.length:Nat):Int)=((min (b0).toNat u.length+1:Nat):Int):=by omega
  obtain ⟨g0,g0'⟩:=rnd (b0) u
  obtain ⟨⟨n0,u0⟩,hT0⟩ : ∃ T,lnT (b0 :: u)=T:=⟨_,rfl⟩
  simp only [hT0] at hc g0 g0'
  have hn0:=lnT_le hT0
  simp only [List.length_cons] at hn0
  have eq0:List.take (min (b0).toNat u.length+1 - 1) u=n0:=g0
  have er0:List.take (u.length+1 - (min (b0).toNat u.length+1)) (List.drop (min (b0).toNat u.length) u)=u0:=by rw [g0']; exact List.take_of_length_le (by rw [← g0',List.length_drop]; omega)
  simp only [em0]
  refine ⟨by omega,by omega,DrawK.held [] (tk [0,1,2,5,6,3,7,4,8,9] (.one 10 (tk [11] .done))) (by kernel_rfl) (by kernel_rfl) fun xs=>?_⟩
  cases u0 with
  | nil=>
    simp only [zz,zq,↓reduceIte,zx,zj,zy,zk,zw,zb,reduceCtorEq,zd,zf,zp,zm,zh,zu,zt,zn,zc,zl,za,ze,zo,zg,nzs,sRo,se1,se2,tks,List.drop_succ_cons,List.drop_zero,List.length_cons,List.length_nil,inK,lo,hi,shN0,ez0,eq0,er0]
    refine ⟨by omega,by omega,by omega,by omega,?_⟩
    rw [show lnT []=([],[]) from rfl] at hc
    simp only [show lnT []=([],[]) from rfl] at hc
    generalize hOP:(((a.toNat:Int),n0,[],(b.toNat:Int),[]):Op)=op at hc
    have hD:=deedW op M
    have hB:=rbodyW op M
    rw [← hOP] at hD hB
    simp only [opV] at hD hB
    refine DrawK.held [48] (tk [0,2,4,1,3,5,6] (.one 7 (tk [8] (.one 9 (tk [10] (.one 11 .done)))))) (by kernel_rfl) (by kernel_rfl) fun xs=>?_
    simp only [zz,zq,↓reduceIte,zx,zj,zy,zk,zw,zb,reduceCtorEq,zd,zf,zp,zm,zh,zu,zt,zn,zc,zl,za,ze,zo,zg,nzs,sRo,se1,se2,tks,List.drop_succ_cons,List.drop_zero,List.length_cons,List.length_nil,inK,lo,hi,shN0]
    refine CallK.pure ⟨rfl,rfl⟩ rfl hD ?_
    by_cases he:opE op=0
    · have he2:opE ((a.toNat:Int),n0,[],(b.toNat:Int),[])=0:=by rw [hOP]; exact he
      simp only [zz,zq,↓reduceIte,zx,zj,zy,zk,zw,zb,reduceCtorEq,zd,zf,zp,zm,zh,zu,zt,zn,zc,zl,za,ze,zo,zg,nzs,sRo,se1,se2,tks,List.drop_succ_cons,List.drop_zero,List.length_cons,List.length_nil,inK,lo,hi,shN0,hOP,he]
      refine CallK.pure ⟨rfl,rfl⟩ rfl (hB he2) ?_
      by_cases hs:bodyS op=a :: b :: b0 :: u
      · have c1:=eq_true hs
        rw [if_pos ⟨he,hs⟩] at hc
        subst hc
        simp only [zz,zq,↓reduceIte,zx,zj,zy,zk,zw,zb,reduceCtorEq,zd,zf,zp,zm,zh,zu,zt,zn,zc,zl,za,ze,zo,zg,nzs,sRo,se1,se2,tks,List.drop_succ_cons,List.drop_zero,List.length_cons,List.length_nil,inK,lo,hi,shN0,hOP,c1]
        rw [← hOP]
        rfl
      · have c1:=eq_false hs
        rw [if_neg (fun e=>hs e.2)] at hc
        subst hc
        simp only [zz,zq,↓reduceIte,zx,zj,zy,zk,zw,zb,reduceCtorEq,zd,zf,zp,zm,zh,zu,zt,zn,zc,zl,za,ze,zo,zg,nzs,sRo,se1,se2,tks,List.drop_succ_cons,List.drop_zero,List.length_cons,List.length_nil,inK,lo,hi,shN0,hOP,c1,opV,z5]
    · have he2:=eq_false he
      rw [if_neg (fun e=>he e.1)] at hc
      subst hc
      simp only [zz,zq,↓reduceIte,zx,zj,zy,zk,zw,zb,reduceCtorEq,zd,zf,zp,zm,zh,zu,zt,zn,zc,zl,za,ze,zo,zg,nzs,sRo,se1,se2,tks,List.drop_succ_cons,List.drop_zero,List.length_cons,List.length_nil,inK,lo,hi,shN0,hOP,he2,opV,z5]
  | cons b1 v1=>
  have hb1:=UInt8.toNat_lt b1
  have ed1:(b1 :: v1=[])=False:=eq_false (fun e=>by cases e)
  have ee1:strIx (b1 :: v1) 0=((b1.toNat:Nat):Int):=rfl
  simp only [List.length_cons] at hn0
  simp only [zz,zq,↓reduceIte,zx,zj,zy,zk,zw,zb,reduceCtorEq,zd,zf,zp,zm,zh,zu,zt,zn,zc,zl,za,ze,zo,zg,nzs,sRo,se1,se2,tks,List.drop_succ_cons,List.drop_zero,List.length_cons,List.length_nil,inK,lo,hi,shN0,ez0,eq0,er0,ed1,ee1,iw (show b1.toNat < 9223372036854775808 by omega)]
  refine ⟨by omega,by omega,by omega,by omega,?_⟩
  have em1:min (((b1).toNat:Nat):Int) (((v1.length+1:Nat):Int) - 1)=((min (b1).toNat v1.length:Nat):Int):=by omega
  have ez1:(1:Int)+((min (b1).toNat v1.length:Nat):Int)=((min (b1).toNat v1.length+1:Nat):Int):=by omega
  obtain ⟨g1,g1'⟩:=rnd (b1) v1
  obtain ⟨⟨n1,u1⟩,hT1⟩ : ∃ T,lnT (b1 :: v1)=T:=⟨_,rfl⟩
  simp only [hT1] at hc g1 g1'
  have hn1:=lnT_le hT1
  simp only [List.length_cons] at hn1
  have eq1:List.take (min (b1).toNat v1.length+1 - 1) v1=n1:=g1
  have er1:List.take (v1.length+1 - (min (b1).toNat v1.length+1)) (List.drop (min (b1).toNat v1.length) v1)=u1:=by rw [g1']; exact List.take_of_length_le (by rw [← g1',List.length_drop]; omega)
  simp only [em1]
  refine ⟨by omega,by omega,DrawK.held [] (tk [0,1,2,5,6,3,7,4,8,9] (.one 10 (tk [11] .done))) (by kernel_rfl) (by kernel_rfl) fun xs=>?_⟩
  cases u1 with
  | nil=>
    simp only [zz,zq,↓reduceIte,zx,zj,zy,zk,zw,zb,reduceCtorEq,zd,zf,zp,zm,zh,zu,zt,zn,zc,zl,za,ze,zo,zg,nzs,sRo,se1,se2,tks,List.drop_succ_cons,List.drop_zero,List.length_cons,List.length_nil,inK,lo,hi,shN0,ez1,eq1,er1]
    refine ⟨by omega,by omega,by omega,by omega,?_⟩
    simp only [show lnT []=([],[]) from rfl] at hc
    generalize hOP:(((a.toNat:Int),n0,n1,(b.toNat:Int),[]):Op)=op at hc
    have hD:=deedW op M
    have hB:=rbodyW op M
    rw [← hOP] at hD hB
    simp only [opV] at hD hB
    refine DrawK.held [48] (tk [0,2,4,1,3,5,6] (.one 7 (tk [8] (.one 9 (tk [10] (.one 11 .done)))))) (by kernel_rfl) (by kernel_rfl) fun xs=>?_
    simp only [zz,zq,↓reduceIte,zx,zj,zy,zk,zw,zb,reduceCtorEq,zd,zf,zp,zm,zh,zu,zt,zn,zc,zl,za,ze,zo,zg,nzs,sRo,se1,se2,tks,List.drop_succ_cons,List.drop_zero,List.length_cons,List.length_nil,inK,lo,hi,shN0]
    refine CallK.pure ⟨rfl,rfl⟩ rfl hD ?_
    by_cases he:opE op=0
    · have he2:opE ((a.toNat:Int),n0,n1,(b.toNat:Int),[])=0:=by rw [hOP]; exact he
      simp only [zz,zq,↓reduceIte,zx,zj,zy,zk,zw,zb,reduceCtorEq,zd,zf,zp,zm,zh,zu,zt,zn,zc,zl,za,ze,zo,zg,nzs,sRo,se1,se2,tks,List.drop_succ_cons,List.drop_zero,List.length_cons,List.length_nil,inK,lo,hi,shN0,hOP,he]
      refine CallK.pure ⟨rfl,rfl⟩ rfl (hB he2) ?_
      by_cases hs:bodyS op=a :: b :: b0 :: u
      · have c1:=eq_true hs
        rw [if_pos ⟨he,hs⟩] at hc
        subst hc
        simp only [zz,zq,↓reduceIte,zx,zj,zy,zk,zw,zb,reduceCtorEq,zd,zf,zp,zm,zh,zu,zt,zn,zc,zl,za,ze,zo,zg,nzs,sRo,se1,se2,tks,List.drop_succ_cons,List.drop_zero,List.length_cons,List.length_nil,inK,lo,hi,shN0,hOP,c1]
        rw [← hOP]
        rfl
      · have c1:=eq_false hs
        rw [if_neg (fun e=>hs e.2)] at hc
        subst hc
        simp only [zz,zq,↓reduceIte,zx,zj,zy,zk,zw,zb,reduceCtorEq,zd,zf,zp,zm,zh,zu,zt,zn,zc,zl,za,ze,zo,zg,nzs,sRo,se1,se2,tks,List.drop_succ_cons,List.drop_zero,List.length_cons,List.length_nil,inK,lo,hi,shN0,hOP,c1,opV,z5]
    · have he2:=eq_false he
      rw [if_neg (fun e=>he e.1)] at hc
      subst hc
      simp only [zz,zq,↓reduceIte,zx,zj,zy,zk,zw,zb,reduceCtorEq,zd,zf,zp,zm,zh,zu,zt,zn,zc,zl,za,ze,zo,zg,nzs,sRo,se1,se2,tks,List.drop_succ_cons,List.drop_zero,List.length_cons,List.length_nil,inK,lo,hi,shN0,hOP,he2,opV,z5]
  | cons b2 v2=>
  have hb2:=UInt8.toNat_lt b2
  have ed2:(b2 :: v2=[])=False:=eq_false (fun e=>by cases e)
  have ee2:strIx (b2 :: v2) 0=((b2.toNat:Nat):Int):=rfl
  simp only [List.length_cons] at hn1
  simp only [zz,zq,↓reduceIte,zx,zj,zy,zk,zw,zb,reduceCtorEq,zd,zf,zp,zm,zh,zu,zt,zn,zc,zl,za,ze,zo,zg,nzs,sRo,se1,se2,tks,List.drop_succ_cons,List.drop_zero,List.length_cons,List.length_nil,inK,lo,hi,shN0,ez1,eq1,er1,ed2,ee2,iw (show b2.toNat < 9223372036854775808 by omega)]
  refine ⟨by omega,by omega,by omega,by omega,?_⟩
  have em2:min (((b2).toNat:Nat):Int) (((v2.length+1:Nat):Int) - 1)=((min (b2).toNat v2.length:Nat):Int):=by omega
  have ez2:(1:Int)+((min (b2).toNat v2.length:Nat):Int)=((min (b2).toNat v2.length+1:Nat):Int):=by omega
  obtain ⟨g2,g2'⟩:=rnd (b2) v2
  obtain ⟨⟨n2,u2⟩,hT2⟩ : ∃ T,lnT (b2 :: v2)=T:=⟨_,rfl⟩
  simp only [hT2] at hc g2 g2'
  have hn2:=lnT_le hT2
  simp only [List.length_cons] at hn2
  have eq2:List.take (min (b2).toNat v2.length+1 - 1) v2=n2:=g2
  have er2:List.take (v2.length+1 - (min (b2).toNat v2.length+1)) (List.drop (min (b2).toNat v2.length) v2)=u2:=by rw [g2']; exact List.take_of_length_le (by rw [← g2',List.length_drop]; omega)
  simp only [em2]
  refine ⟨by omega,by omega,DrawK.held [] (tk [0,1,2,5,6,3,7,4,8,9] (.one 10 (tk [11] .done))) (by kernel_rfl) (by kernel_rfl) fun xs=>?_⟩
  simp only [zz,zq,↓reduceIte,zx,zj,zy,zk,zw,zb,reduceCtorEq,zd,zf,zp,zm,zh,zu,zt,zn,zc,zl,za,ze,zo,zg,nzs,sRo,se1,se2,tks,List.drop_succ_cons,List.drop_zero,List.length_cons,List.length_nil,inK,lo,hi,shN0,ez2,eq2,er2]
  refine ⟨by omega,by omega,by omega,by omega,?_⟩
  generalize hOP:(((a.toNat:Int),n0,n1,(b.toNat:Int),n2):Op)=op at hc
  have hD:=deedW op M
  have hB:=rbodyW op M
  rw [← hOP] at hD hB
  simp only [opV] at hD hB
  refine DrawK.held [48] (tk [0,2,4,1,3,5,6] (.one 7 (tk [8] (.one 9 (tk [10] (.one 11 .done)))))) (by kernel_rfl) (by kernel_rfl) fun xs=>?_
  simp only [zz,zq,↓reduceIte,zx,zj,zy,zk,zw,zb,reduceCtorEq,zd,zf,zp,zm,zh,zu,zt,zn,zc,zl,za,ze,zo,zg,nzs,sRo,se1,se2,tks,List.drop_succ_cons,List.drop_zero,List.length_cons,List.length_nil,inK,lo,hi,shN0]
  refine CallK.pure ⟨rfl,rfl⟩ rfl hD ?_
  by_cases he:opE op=0
  · have he2:opE ((a.toNat:Int),n0,n1,(b.toNat:Int),n2)=0:=by rw [hOP]; exact he
    simp only [zz,zq,↓reduceIte,zx,zj,zy,zk,zw,zb,reduceCtorEq,zd,zf,zp,zm,zh,zu,zt,zn,zc,zl,za,ze,zo,zg,nzs,sRo,se1,se2,tks,List.drop_succ_cons,List.drop_zero,List.length_cons,List.length_nil,inK,lo,hi,shN0,hOP,he]
    refine CallK.pure ⟨rfl,rfl⟩ rfl (hB he2) ?_
    by_cases hs:bodyS op=a :: b :: b0 :: u
    · have c1:=eq_true hs
      rw [if_pos ⟨he,hs⟩] at hc
      subst hc
      simp only [zz,zq,↓reduceIte,zx,zj,zy,zk,zw,zb,reduceCtorEq,zd,zf,zp,zm,zh,zu,zt,zn,zc,zl,za,ze,zo,zg,nzs,sRo,se1,se2,tks,List.drop_succ_cons,List.drop_zero,List.length_cons,List.length_nil,inK,lo,hi,shN0,hOP,c1]
      rw [← hOP]
      rfl
    · have c1:=eq_false hs
      rw [if_neg (fun e=>hs e.2)] at hc
      subst hc
      simp only [zz,zq,↓reduceIte,zx,zj,zy,zk,zw,zb,reduceCtorEq,zd,zf,zp,zm,zh,zu,zt,zn,zc,zl,za,ze,zo,zg,nzs,sRo,se1,se2,tks,List.drop_succ_cons,List.drop_zero,List.length_cons,List.length_nil,inK,lo,hi,shN0,hOP,c1,opV,z5]
  · have he2:=eq_false he
    rw [if_neg (fun e=>he e.1)] at hc
    subst hc
    simp only [zz,zq,↓reduceIte,zx,zj,zy,zk,zw,zb,reduceCtorEq,zd,zf,zp,zm,zh,zu,zt,zn,zc,zl,za,ze,zo,zg,nzs,sRo,se1,se2,tks,List.drop_succ_cons,List.drop_zero,List.length_cons,List.length_nil,inK,lo,hi,shN0,hOP,he2,opV,z5]
end Go.X.Lg

namespace Go.X.Lg
open Go Go.X Go.RowKit Go.X.Pl Go.X.Nm Go.X.Tv

theorem un_dec (s:List UInt8):unS s=decS s:=by
  rw [dec_form s,← ln_dec s]
  rfl
end Go.X.Lg

namespace Go.X.Fr
open Go Go.X Go.X.Pol Go.X.Pl Go.X.Rp Go.X.Pd Go.X.Md Go.X.Mv Go.X.Pt Go.X.Tv

theorem g0:(2:Nat)≤1073741907∧1073741907≤2147483647:=by decide
def tl (s:List UInt8):List UInt8:=be4 (prf 1073741907 s 1)
theorem tl_len (s:List UInt8):(tl s).length=4:=rfl
theorem prf31 (s:List UInt8):prf 1073741907 s 1≤2147483647:=by
  have:=prf_le 1073741907 (by decide) (by decide) s 1 (by decide)
  omega
theorem tail (s:List UInt8) (M:Mem) (hs:s.length≤maxLen) :
    Meets Proofs.Tryz.prog 70 [.v (.string ⟨s.toArray⟩)] M fun r _ _=>r = .v (.string ⟨(tl s).toArray⟩):=by
  refine Meets.of_body [0,2,3] Proofs.Tryz.func70 rfl (by kernel_rfl) rfl fun w=>?_
  simp only [Proofs.Tryz.f70,zz,zq,↓reduceIte,zx,zj,zy,zk,zw,zb,reduceCtorEq,zd,zf,zp,zm,zh,zu,zt,zn,zc,zl,za,ze,zo,zg]
  refine CallK.pure ⟨rfl,rfl⟩ rfl (plain 1073741907 s M g0.1 g0.2 hs) ?_
  have hp:=prf31 s
  generalize hq:prf 1073741907 s 1=p at *
  have ht:tl s=be4 p:=by unfold tl; rw [hq]
  rw [ht]
  simp only [zz,zq,↓reduceIte,zx,zj,zy,zk,zw,zb,reduceCtorEq,zd,zf,zp,zm,zh,zu,zt,zn,zc,zl,za,ze,zo,zg,dw,b64,byteOf,byteW]
  exact ⟨(fun h=>by cases h),(fun h=>by cases h),(fun h=>by cases h),(fun h=>by cases h),rfl⟩

def hd (k:Nat) (b:List UInt8):List UInt8:=UInt8.ofNat k :: UInt8.ofNat (b.length / 256) :: UInt8.ofNat b.length :: b
def fr (k:Nat) (b:List UInt8):List UInt8:=hd k b++tl (hd k b)
def putE (k:Int) (b:List UInt8):Int:=if k < 1∨255 < k then 1 else if 700 < (b.length:Int) then 2 else 0
def putS (k:Int) (b:List UInt8):List UInt8:=if putE k b=0 then fr k.toNat b else []
def frV (k:Int) (b:List UInt8):SV:=.agg [.v (.int .i64 k),.v (.string ⟨b.toArray⟩)]

theorem put (k:Int) (b:List UInt8) (M:Mem) (hb:b.length≤maxLen) :
    Meets Proofs.Tryz.prog 26 [frV k b] M fun r _ _=>r = .tup [.v (.string ⟨(putS k b).toArray⟩),.v (.int .i64 (putE k b))]:=by
  refine Meets.of_body [0,1,2,3,4,12,16] Proofs.Tryz.func26 rfl (by kernel_rfl) rfl fun w=>?_
  have hc : ∀ d:Nat,@IntKind.bits .i64=64:=fun _=>rfl
  by_cases h1:k < 1∨255 < k
  · have he:putE k b=1:=if_pos h1
    have hs:putS k b=[]:=if_neg (by rw [he]; decide)
    rw [he,hs]
    rcases h1 with h1 | h1
    · have d1:(k < 1)=True:=eq_true h1
      simp only [Proofs.Tryz.f26,frV,zz,zq,↓reduceIte,zx,zj,zy,zk,zw,zb,reduceCtorEq,zd,zf,zp,zm,zh,zu,zt,zn,zc,zl,za,ze,zo,zg,nzs,d1]
    · have d1:(k < 1)=False:=eq_false (by omega)
      have d2:(255 < k)=True:=eq_true h1
      simp only [Proofs.Tryz.f26,frV,zz,zq,↓reduceIte,zx,zj,zy,zk,zw,zb,reduceCtorEq,zd,zf,zp,zm,zh,zu,zt,zn,zc,zl,za,ze,zo,zg,nzs,d1,d2]
  · by_cases h2:700 < (b.length:Int)
    · have he:putE k b=2:=by unfold putE; rw [if_neg h1,if_pos h2]
      have hs:putS k b=[]:=if_neg (by rw [he]; decide)
      rw [he,hs]
      have d1:(k < 1)=False:=eq_false (by omega)
      have d2:(255 < k)=False:=eq_false (by omega)
      have d3:(700 < (b.length:Int))=True:=eq_true h2
      simp only [Proofs.Tryz.f26,frV,zz,zq,↓reduceIte,zx,zj,zy,zk,zw,zb,reduceCtorEq,zd,zf,zp,zm,zh,zu,zt,zn,zc,zl,za,ze,zo,zg,nzs,d1,d2,d3]
    · have he:putE k b=0:=by unfold putE; rw [if_neg h1,if_neg h2]
      have hs:putS k b=fr k.toNat b:=if_pos he
      rw [he,hs]
      have d1:(k < 1)=False:=eq_false (by omega)
      have d2:(255 < k)=False:=eq_false (by omega)
      have d3:(700 < (b.length:Int))=False:=eq_false h2
      have d4:(((3+b.length:Nat):Int)≤9223372036854775807)=True:=eq_true (by omega)
      have e1 : ∀ x:Nat,(x:Int) / 2 ^ 8=((x / 256:Nat):Int):=fun x=>by omega
      obtain ⟨n,rfl⟩ : ∃ n:Nat,k=n:=⟨k.toNat,by omega⟩
      simp only [Proofs.Tryz.f26,frV,zz,zq,↓reduceIte,zx,zj,zy,zk,zw,zb,reduceCtorEq,zd,zf,zp,zm,zh,zu,zt,zn,zc,zl,za,ze,zo,zg,nzs,d1,d2,d3,d4,byteOf,e1,byteW,IntKind.bits]
      refine CallK.pure ⟨rfl,rfl⟩ rfl (tail _ M (by simp only [List.length_cons,maxLen]; omega)) ?_
      have d5:(((3+b.length+4:Nat):Int)≤9223372036854775807)=True:=eq_true (by omega)
      simp only [zz,zq,↓reduceIte,zx,zj,zy,zk,zw,zb,reduceCtorEq,zd,zf,zp,zm,zh,zu,zt,zn,zc,zl,za,ze,zo,zg,nzs,tl_len,d5,zo]
      exact ⟨by omega,rfl⟩

def seq:List Nat→Sch→Sch
  | [],s=>s
  | i :: l,s=>.take i (seq l s)
theorem sq:type_of% (And.intro @seq.eq_1 @seq.eq_2):=And.intro @seq.eq_1 @seq.eq_2
theorem rframe (k:Int) (b:List UInt8) (M:Mem) (hb:b.length≤maxLen) :
    Meets Proofs.Tryz.prog 30 [frV k b] M fun r _ _=>r = .tup [.v (.string ⟨(putS k b).toArray⟩),.v (.int .i64 (putE k b))]:=by
  refine Meets.of_body [0,1,2,3,4,8,12] Proofs.Tryz.func30 rfl (by kernel_rfl) rfl fun w=>?_
  by_cases h1:k < 1∨255 < k
  · have he:putE k b=1:=if_pos h1
    have hs:putS k b=[]:=if_neg (by rw [he]; decide)
    rw [he,hs]
    have d0:decide (1≤k∧k≤255)=false:=decide_eq_false (by omega)
    simp only [Proofs.Tryz.f30,frV,zz,zq,↓reduceIte,zx,zj,zy,zk,zw,zb,reduceCtorEq,zd,zf,zp,zm,zh,zu,zt,zn,zc,zl,za,ze,zo,zg,nzs]
    refine CallK.pure ⟨rfl,rfl⟩ rfl (within k 1 255 M) ?_
    simp only [zz,zq,↓reduceIte,zx,zj,zy,zk,zw,zb,reduceCtorEq,zd,zf,zp,zm,zh,zu,zt,zn,zc,zl,za,ze,zo,zg,nzs,d0]
  · have d0:decide (1≤k∧k≤255)=true:=decide_eq_true (by omega)
    by_cases h2:700 < (b.length:Int)
    · have he:putE k b=2:=by unfold putE; rw [if_neg h1,if_pos h2]
      have hs:putS k b=[]:=if_neg (by rw [he]; decide)
      rw [he,hs]
      have d3:(700 < (b.length:Int))=True:=eq_true h2
      simp only [Proofs.Tryz.f30,frV,zz,zq,↓reduceIte,zx,zj,zy,zk,zw,zb,reduceCtorEq,zd,zf,zp,zm,zh,zu,zt,zn,zc,zl,za,ze,zo,zg,nzs]
      refine CallK.pure ⟨rfl,rfl⟩ rfl (within k 1 255 M) ?_
      simp only [zz,zq,↓reduceIte,zx,zj,zy,zk,zw,zb,reduceCtorEq,zd,zf,zp,zm,zh,zu,zt,zn,zc,zl,za,ze,zo,zg,nzs,d3,d0]
    · have he:putE k b=0:=by unfold putE; rw [if_neg h1,if_neg h2]
      have hs:putS k b=fr k.toNat b:=if_pos he
      rw [he,hs]
      have d3:(700 < (b.length:Int))=False:=eq_false h2
      obtain ⟨n,rfl⟩ : ∃ n:Nat,k=n:=⟨k.toNat,by omega⟩
      simp only [Proofs.Tryz.f30,frV,zz,zq,↓reduceIte,zx,zj,zy,zk,zw,zb,reduceCtorEq,zd,zf,zp,zm,zh,zu,zt,zn,zc,zl,za,ze,zo,zg,nzs]
      refine CallK.pure ⟨rfl,rfl⟩ rfl (within n 1 255 M) ?_
      simp only [zz,zq,↓reduceIte,zx,zj,zy,zk,zw,zb,reduceCtorEq,zd,zf,zp,zm,zh,zu,zt,zn,zc,zl,za,ze,zo,zg,nzs,d3,d0]
      refine DrawK.held [8] (seq [0,1,2,5,6,7,11,12] (.two 3 (.two 4 (.one 8 (seq [9,10,13,14] .done)) 8 (seq [9] (.one 4 (seq [10,13,14] .done)))) 8 (seq [9] (.one 3 (.one 4 (seq [10,13,14] .done)))))) (by kernel_rfl) (by kernel_rfl) fun xs=>?_
      simp only [zz,zq,↓reduceIte,zx,zj,zy,zk,zw,zb,reduceCtorEq,zd,zf,zp,zm,zh,zu,zt,zn,zc,zl,za,ze,zo,zg,nzs,se1,se2,sq]
      have hb4:((be4 b.length).drop 2).take (4 - 2)=[UInt8.ofNat (b.length / 256),UInt8.ofNat b.length]:=rfl
      have d4:(((1+2:Nat):Int)≤9223372036854775807)=True:=eq_true (by omega)
      have d5:(((1+2+b.length:Nat):Int)≤9223372036854775807)=True:=eq_true (by omega)
      refine ⟨⟨?_,?_⟩,?_⟩
      all_goals
        refine CallK.pure ⟨rfl,rfl⟩ rfl (rfour b.length M (by omega)) ?_
        simp only [zz,zq,↓reduceIte,zx,zj,zy,zk,zw,zb,reduceCtorEq,zd,zf,zp,zm,zh,zu,zt,zn,zc,zl,za,ze,zo,zg,nzs,se1,se2,sq,be4_len,hb4,byteOf,byteW,List.length_cons,List.length_append,d4,d5]
        refine CallK.pure ⟨rfl,rfl⟩ rfl (rprint 1073741907 (hd n b) M g0.1 g0.2 (by simp only [hd,List.length_cons,maxLen]; omega)) ?_
        have hp:=prf31 (hd n b)
        have ht:tl (hd n b)=be4 (prf 1073741907 (hd n b) 1):=rfl
        simp only [fr,ht,zo]
        generalize prf 1073741907 (hd n b) 1=p at *
        simp only [zz,zq,↓reduceIte,zx,zj,zy,zk,zw,zb,reduceCtorEq,zd,zf,zp,zm,zh,zu,zt,zn,zc,zl,za,ze,zo,zg,nzs,se1,se2,sq]
        refine CallK.pure ⟨rfl,rfl⟩ rfl (rfour p M hp) ?_
        have d6:(((b.length+1+1+1+4:Nat):Int)≤9223372036854775807)=True:=eq_true (by omega)
        simp only [zz,zq,↓reduceIte,zx,zj,zy,zk,zw,zb,reduceCtorEq,zd,zf,zp,zm,zh,zu,zt,zn,zc,zl,za,ze,zo,zg,nzs,se1,se2,sq,be4_len,d6,hd,List.length_cons,List.cons_append]

theorem orwi {x y:Nat} (hx:x < 9223372036854775808) (hy:y < 9223372036854775808):orV .i64 (x:Int) (y:Int)=((x ||| y:Nat):Int):=by
  unfold orV
  show IntKind.i64.wrap ((BitVec.ofInt 64 (x:Int) ||| BitVec.ofInt 64 (y:Int)).toNat:Int)=_
  rw [BitVec.toNat_or,toNat_ofInt 64 (x:Int) (by omega) (by omega),toNat_ofInt 64 (y:Int) (by omega) (by omega),zo,zo]
  have h:=Nat.or_lt_two_pow (n:=63) (x:=x) (y:=y) (by omega) (by omega)
  exact iw (by omega)
def sb (s:List UInt8) (i:Nat):Nat:=(s.getD i 0).toNat
theorem sb_lt (s:List UInt8) (i:Nat):sb s i < 256:=UInt8.toNat_lt _
theorem strIx_sb (s:List UInt8) (i:Nat):strIx s (i:Int)=((sb s i:Nat):Int):=by
  unfold strIx sb
  rw [zo]
theorem ix0 (s:List UInt8):strIx s 0=((sb s 0:Nat):Int):=strIx_sb s 0
theorem ix1 (s:List UInt8):strIx s 1=((sb s 1:Nat):Int):=strIx_sb s 1
theorem ix2 (s:List UInt8):strIx s 2=((sb s 2:Nat):Int):=strIx_sb s 2
def gN (s:List UInt8):Nat:=sb s 1 * 256+sb s 2
def getE (s:List UInt8):Int:=if s.length≤2 then 7 else if sb s 0=0∨700 < gN s then 3 else if s.length < gN s+7 then 7 else if tl (s.take (gN s+3))≠(s.drop (gN s+3)).take 4 then 6 else 0
def getF (s:List UInt8):SV:=if getE s=0 then frV (sb s 0:Nat) ((s.drop 3).take (gN s)) else frV 0 []
def getU (s:List UInt8):Int:=if getE s=0 then ((gN s+7:Nat):Int) else 0

theorem get (s:List UInt8) (M:Mem) (hs:s.length≤maxLen) :
    Meets Proofs.Tryz.prog 43 [.v (.string ⟨s.toArray⟩)] M fun r _ _=>r = .tup [getF s,.v (.int .i64 (getU s)),.v (.int .i64 (getE s))]:=by
  refine Meets.of_body [0,2,3,4,5,8,24,30,43] Proofs.Tryz.func43 rfl (by kernel_rfl) rfl fun w=>?_
  simp only [maxLen] at hs
  unfold getF getU
  generalize hc:getE s=c
  unfold getE at hc
  by_cases h1:s.length≤2
  · rw [if_pos h1] at hc
    subst hc
    have d1:((s.length:Int) < 3)=True:=eq_true (by omega)
    simp only [Proofs.Tryz.f43,frV,zz,zq,↓reduceIte,zx,zj,zy,zk,zw,zb,reduceCtorEq,zd,zf,zp,zm,zh,zu,zt,zn,zc,zl,za,ze,zo,zg,nzs,d1]
  rw [if_neg h1] at hc
  have d1:((s.length:Int) < 3)=False:=eq_false (by omega)
  have d2:(1 < (s.length:Int))=True:=eq_true (by omega)
  have d3:(2 < (s.length:Int))=True:=eq_true (by omega)
  have d0:(0 < (s.length:Int))=True:=eq_true (by omega)
  simp only [Proofs.Tryz.f43,frV,zz,zq,↓reduceIte,zx,zj,zy,zk,zw,zb,reduceCtorEq,zd,zf,zp,zm,zh,zu,zt,zn,zc,zl,za,ze,zo,zg,nzs,d1]
  refine DrawK.quiet (by kernel_rfl) (by kernel_rfl) ?_
  have hb0:=sb_lt s 0
  have hb1:=sb_lt s 1
  have hb2:=sb_lt s 2
  have e1:((sb s 1:Nat):Int) * 2 ^ 8=((sb s 1 * 2 ^ 8:Nat):Int):=mw _ 8
  have e2:sb s 1 * 2 ^ 8 ||| sb s 2=gN s:=or_low (k:=8) (by omega)
  simp only [zz,zq,↓reduceIte,zx,zj,zy,zk,zw,zb,reduceCtorEq,zd,zf,zp,zm,zh,zu,zt,zn,zc,zl,za,ze,zo,zg,nzs,ix1,ix2,ix0,iw (show sb s 1 < 9223372036854775808 by omega),iw (show sb s 2 < 9223372036854775808 by omega),e1,orwi (show sb s 1 * 2 ^ 8 < 9223372036854775808 by omega) (show sb s 2 < 9223372036854775808 by omega),e2,inK,lo,hi,b64]
  have hgN:gN s≤65535:=by unfold gN; omega
  generalize hg:gN s=n at *
  refine ⟨by omega,by omega,by omega,by omega,fun h3=>?_,fun h3=>?_⟩
  · rw [if_pos (by omega)] at hc
    subst hc
    rfl
  rw [if_neg (by omega)] at hc
  refine ⟨by omega,fun h4=>?_,fun h4=>?_⟩
  · rw [if_pos (by omega)] at hc
    subst hc
    rfl
  rw [if_neg (by omega)] at hc
  refine DrawK.plan (seq [0,1,2,3,5,6,7,8,9,10] (.one 4 (seq [11] .done))) (by kernel_rfl) (by kernel_rfl) ?_
  have e3:(n:Int)+3=((n+3:Nat):Int):=by omega
  have e7:(n:Int)+7=((n+7:Nat):Int):=by omega
  have d4:(((n+3:Nat):Int)≤((n+7:Nat):Int))=True:=eq_true (by omega)
  have d5:(((n+7:Nat):Int)≤(s.length:Int))=True:=eq_true (by omega)
  have d6:(((n+3:Nat):Int)≤(s.length:Int))=True:=eq_true (by omega)
  have d7:(0≤((n+3:Nat):Int))=True:=eq_true (by omega)
  have d8:((3:Int)≤((n+3:Nat):Int))=True:=eq_true (by omega)
  have i1:inK .i64 ((n+3:Nat):Int):=i64N (by omega)
  have i2:inK .i64 ((n+7:Nat):Int):=i64N (by omega)
  have ek:n+7 - (n+3)=4:=by omega
  have ek2:n+3 - 3=n:=by omega
  simp only [zz,zq,↓reduceIte,zx,zj,zy,zk,zw,zb,reduceCtorEq,zd,zf,zp,zm,zh,zu,zt,zn,zc,zl,za,ze,zo,zg,nzs,se1,se2,sq,e3,e7,d4,d5,d6,d7,i1,i2,List.drop_zero,Nat.sub_zero,ek]
  refine CallK.pure ⟨rfl,rfl⟩ rfl (tail _ M (by simp only [List.length_take,maxLen]; omega)) ?_
  simp only [zz,zq,↓reduceIte,zx,zj,zy,zk,zw,zb,reduceCtorEq,zd,zf,zp,zm,zh,zu,zt,zn,zc,zl,za,ze,zo,zg,nzs,se1,se2,sq]
  refine ⟨fun h5=>?_,fun h5=>?_⟩
  · rw [if_pos h5] at hc
    subst hc
    rfl
  rw [if_neg (fun h=>h h5)] at hc
  subst hc
  refine DrawK.plan (seq [0,1,2,3,4,5,6,7,8,9] (.one 10 (seq [11,12] .done))) (by kernel_rfl) (by kernel_rfl) ?_
  simp only [zz,zq,↓reduceIte,zx,zj,zy,zk,zw,zb,reduceCtorEq,zd,zf,zp,zm,zh,zu,zt,zn,zc,zl,za,ze,zo,zg,nzs,se1,se2,sq,e3,e7,d8,d6,i1,i2,ix0,iw (show sb s 0 < 9223372036854775808 by omega),d0,ek2]

theorem take_split (s:List UInt8) (a b:Nat):s.take (a+b)=s.take a++(s.drop a).take b:=List.take_add
theorem hd_take (s:List UInt8) (h : ¬ s.length≤2) (h2:gN s+3≤s.length):hd (sb s 0) ((s.drop 3).take (gN s))=s.take (gN s+3):=by
  match s,h with
  | a :: b :: c :: r,_=>
    have hl:r.length ≥ gN (a :: b :: c :: r):=by simp only [List.length_cons] at h2; omega
    have e:gN (a :: b :: c :: r)=b.toNat * 256+c.toNat:=rfl
    rw [e] at hl ⊢
    have hc:=UInt8.toNat_lt c
    have e1:(b.toNat * 256+c.toNat) / 256=b.toNat:=by omega
    have e2:UInt8.ofNat (b.toNat * 256+c.toNat)=c:=by
      apply UInt8.toNat_inj.1
      simp
    show UInt8.ofNat a.toNat :: UInt8.ofNat ((r.take (b.toNat * 256+c.toNat)).length / 256) :: UInt8.ofNat (r.take (b.toNat * 256+c.toNat)).length :: _=_
    rw [List.length_take,Nat.min_eq_left hl,e1,e2,UInt8.ofNat_toNat,UInt8.ofNat_toNat]
    rfl

theorem unframe (s:List UInt8) (M:Mem) (hs:s.length≤maxLen) :
    Meets Proofs.Tryz.prog 45 [.v (.string ⟨s.toArray⟩)] M fun r _ _=>r = .tup [getF s,.v (.int .i64 (getU s)),.v (.int .i64 (getE s))]:=by
  refine Meets.of_body [0,2,3,4,5,6,7,11,27,33,53] Proofs.Tryz.func45 rfl (by kernel_rfl) rfl fun w=>?_
  simp only [maxLen] at hs
  unfold getF getU
  generalize hc:getE s=c
  unfold getE at hc
  by_cases h1:s.length≤2
  · rw [if_pos h1] at hc
    subst hc
    have d1:((s.length:Int)≤2)=True:=eq_true (by omega)
    simp only [Proofs.Tryz.f45,frV,zz,zq,↓reduceIte,zx,zj,zy,zk,zw,zb,reduceCtorEq,zd,zf,zp,zm,zh,zu,zt,zn,zc,zl,za,ze,zo,zg,nzs,d1]
  rw [if_neg h1] at hc
  have d1:((s.length:Int)≤2)=False:=eq_false (by omega)
  have d2:(1 < (s.length:Int))=True:=eq_true (by omega)
  have d3:(2 < (s.length:Int))=True:=eq_true (by omega)
  have d0:(0 < (s.length:Int))=True:=eq_true (by omega)
  simp only [Proofs.Tryz.f45,frV,zz,zq,↓reduceIte,zx,zj,zy,zk,zw,zb,reduceCtorEq,zd,zf,zp,zm,zh,zu,zt,zn,zc,zl,za,ze,zo,zg,nzs,d1]
  refine DrawK.quiet (by kernel_rfl) (by kernel_rfl) ?_
  have hb0:=sb_lt s 0
  have hb1:=sb_lt s 1
  have hb2:=sb_lt s 2
  have e1:(256:Int) * ((sb s 1:Nat):Int)+((sb s 2:Nat):Int)=((gN s:Nat):Int):=by unfold gN; omega
  have e9:(s.take 1=[0])=(sb s 0=0):=by
    match s,h1 with
    | a :: r,_=>
      apply propext
      show [a]=[0]↔a.toNat=0
      constructor
      · intro h; injection h with h _; subst h; rfl
      · intro h; congr 1; exact UInt8.toNat_inj.1 h
  have d9:(1≤(s.length:Int))=True:=eq_true (by omega)
  simp only [zz,zq,↓reduceIte,zx,zj,zy,zk,zw,zb,reduceCtorEq,zd,zf,zp,zm,zh,zu,zt,zn,zc,zl,za,ze,zo,zg,nzs,ix1,ix2,ix0,iw (show sb s 1 < 9223372036854775808 by omega),iw (show sb s 2 < 9223372036854775808 by omega),e1,inK,lo,hi,b64,d9,List.drop_zero,Nat.sub_zero,e9]
  have hH:=hd_take s h1
  have hgN:gN s≤65535:=by unfold gN; omega
  generalize hg:gN s=n at *
  refine ⟨by omega,by omega,by omega,by omega,fun h3=>?_,fun h3=>?_⟩
  · rw [if_pos (by omega)] at hc
    subst hc
    rfl
  rw [if_neg (by omega)] at hc
  refine ⟨by omega,fun h4=>?_,fun h4=>?_⟩
  · rw [if_pos (by omega)] at hc
    subst hc
    rfl
  rw [if_neg (by omega)] at hc
  replace hH:=hH (by omega)
  have hts:=take_split s (n+3) 4
  have e3:(3:Int)+(n:Int)=((n+3:Nat):Int):=by omega
  have e7:(n:Int)+7=((n+7:Nat):Int):=by omega
  have d5:(((n+7:Nat):Int)≤(s.length:Int))=True:=eq_true (by omega)
  have d6:(((n+3:Nat):Int)≤(s.length:Int))=True:=eq_true (by omega)
  have d8:((3:Int)≤((n+3:Nat):Int))=True:=eq_true (by omega)
  have i1:inK .i64 ((n+3:Nat):Int):=i64N (by omega)
  have i2:inK .i64 ((n+7:Nat):Int):=i64N (by omega)
  have d4:(0≤((n+7:Nat):Int))=True:=eq_true (by omega)
  have ek2:n+3 - 3=n:=by omega
  have hbl:((s.drop 3).take n).length=n:=by rw [List.length_take,List.length_drop]; omega
  have hfr:fr (sb s 0) ((s.drop 3).take n)=s.take (n+3)++tl (s.take (n+3)):=by unfold fr; rw [hH]
  have hpE:putE ((sb s 0:Nat):Int) ((s.drop 3).take n)=0:=by
    unfold putE
    rw [if_neg (by omega),if_neg (by rw [hbl]; omega)]
  have hpS:putS ((sb s 0:Nat):Int) ((s.drop 3).take n)=s.take (n+3)++tl (s.take (n+3)):=by
    unfold putS
    rw [if_pos hpE,zo,hfr]
  have hF:=rframe ((sb s 0:Nat):Int) ((s.drop 3).take n) M (by rw [hbl]; simp only [maxLen]; omega)
  rw [hpE,hpS] at hF
  refine DrawK.plan (seq [0,1,2,3,4,5,6,7] (.one 8 (.one 9 .done))) (by kernel_rfl) (by kernel_rfl) ?_
  simp only [zz,zq,↓reduceIte,zx,zj,zy,zk,zw,zb,reduceCtorEq,zd,zf,zp,zm,zh,zu,zt,zn,zc,zl,za,ze,zo,zg,nzs,se1,se2,sq,e3,d8,d6,i1,ix0,iw (show sb s 0 < 9223372036854775808 by omega),d0,ek2]
  refine CallK.pure ⟨rfl,rfl⟩ rfl hF ?_
  simp only [zz,zq,↓reduceIte,zx,zj,zy,zk,zw,zb,reduceCtorEq,zd,zf,zp,zm,zh,zu,zt,zn,zc,zl,za,ze,zo,zg,nzs,e7,d5,d4,i2,List.drop_zero,Nat.sub_zero,hts,List.append_cancel_left_eq]
  refine ⟨fun h5=>?_,fun h5=>?_⟩
  · rw [if_pos h5] at hc
    subst hc
    rfl
  rw [if_neg (fun h=>h h5)] at hc
  subst hc
  rfl

end Go.X.Fr

