/- The law TargetPlays. Conditions: none. -/
import Derived.Test.YtoohifeidifocaaGreatDoorMg37
open Nat renaming reduceAdd→zx,reduceMul→zj,reduceDiv→zy,reduceEqDiff→zk,reduceLT→zw,reduceLeDiff→zb,reduceBEq→zg
open Int renaming reduceEq→zd,reduceNe→zf,reduceLT→zp,reduceLE→zm,reduceAdd→zh,reduceSub→zu,reduceMul→zt,reduceNeg→zn,reduceToNat→zc,cast_ofNat_Int→zl,natCast_zero→za,natCast_one→ze,toNat_natCast→zo
namespace Go.X.Bg
end Go.X.Bg
namespace Go.X.Nm
end Go.X.Nm
namespace Go.X.Bp
end Go.X.Bp
namespace Go.X.Sb
end Go.X.Sb
namespace Go.X.Vo
end Go.X.Vo
set_option linter.unusedSimpArgs false
set_option linter.unusedVariables false
set_option maxHeartbeats 4000000
set_option maxRecDepth 20000
namespace Go.X.Tg
open Go Go.X Go.RowKit Go.X.Bg Go.X.Nm Go.X.Bp Go.X.Sb Go.X.Vo

theorem trv_right {T:TG} (h:TgR T) {S:Rv.RS} (hS:S.1=0→Rv.resvE S.2.1 S.2.2.1 S.2.2.2.1 S.2.2.2.2=0):TgR (trvS T S):=by
  unfold trvS
  split
  · exact ⟨h.st,hS (by assumption),h.tx,h.many⟩
  · exact h
theorem weakD {E:Env} {id:Nat} {ops:Array Oper} {K:KP} {σ:Sig} {H:HS} {M:Mem} (σ':Sig) (H':HS) (M':Mem) (he:Ent E σ H M (σ',H',M')) (h:DrawK E id ops K σ' H' M'):DrawK E id ops K σ H M:=fun a w hr=>h a w (he a w hr)
theorem weakC {E:Env} {f d:Nat} {l:List SV} {K:KP} {σ:Sig} {H:HS} {M:Mem} (σ':Sig) (H':HS) (M':Mem) (hl:SV.concs l=true) (he:Ent E σ H M (σ',H',M')) (h:CallK E f l d K σ' H' M'):CallK E f l d K σ H M:=fun ν a w hs hh=>by
  obtain ⟨ν',hs',hh'⟩:=he a w ⟨ν,hs,hh⟩
  have:=h ν' a w hs' hh'
  rw [SV.concs_vals (ν:=ν) (ν':=ν') l hl] at this
  exact this
theorem joinO {P:Prop} (G:OpT→Prop) (h:(∀ o,G o)→P) (hJ : ∀ o,G o):P:=h hJ
theorem joinT {P:Prop} (R:TG→Value→Value→Value→List WV→Value→Value→Value→List WV→Mem→Prop) (G:Int→TG→Value→Value→Value→List WV→Value→Value→Value→List WV→Mem→Prop)
    (h:(∀ e T b v g ws b' v' g' ws' M',R T b v g ws b' v' g' ws' M'→G e T b v g ws b' v' g' ws' M')→P) (hJ : ∀ e T b v g ws b' v' g' ws' M',R T b v g ws b' v' g' ws' M'→G e T b v g ws b' v' g' ws' M'):P:=h hJ
def TgJ (M4:Mem) (T:TG) (b v g:Value) (ws:List WV) (b' v' g':Value) (ws':List WV) (M':Mem):Prop:=M4.le M'∧TgM M' T b v g ws∧TgM M' T b' v' g' ws'∧TgR T
/-- what holds between the calls: both targets are one -/
def TgI (l:List (Value×List Int)) (M0:Mem) (z:Nat×TG×(Value×Value×Value×List WV)×(Value×Value×Value×List WV)×Mem):Prop:=
  (z.1≤l.length∧M0.le z.2.2.2.2)∧(TgM z.2.2.2.2 z.2.1 z.2.2.1.1 z.2.2.1.2.1 z.2.2.1.2.2.1 z.2.2.1.2.2.2∧TgM z.2.2.2.2 z.2.1 z.2.2.2.1.1 z.2.2.2.1.2.1 z.2.2.2.1.2.2.1 z.2.2.2.1.2.2.2)∧TgR z.2.1
theorem playsW (y z:Value) (l:List (Value×List Int)) (ops:List OpT) (M:Mem) (hy:RowM M y 1 (l.map fun a=>[a.1])) (hl : ∀ x ∈ l,RowM M x.1 1 (x.2.map fun a=>[Value.int .i64 a]) ∧ ∀ q ∈ x.2,inK .i64 q) (hz:RowM M z 5 (ops.map encO)) (hzl:ops.length≤1000000000000000000) :
    Meets Proofs.Tryz.prog 3 [.v y,.v z] M fun r _ _=>r = .v (.bool true):=by
  refine Meets.of_body [0,1,4,5,6,8,9,10,11,12,13,14,15,16,17,18,19,20,21,30,34,35,36,37,50,66,67,77,99,102,109,116,123,129,137,145,151,167,203] Proofs.Tryz.func3 rfl (by kernel_rfl) rfl fun w=>?_
  have hyl:=hy.len_le
  rw [List.length_map] at hyl
  simp only [Proofs.Tryz.f3,zz,zq,↓reduceIte,zx,zj,zy,zk,zw,zb,reduceCtorEq,zd,zf,zp,zm,zh,zu,zt,zn,zc,zl,za,ze,zo,zg,nzs]
  refine CallK.newBox rfl rfl (new M) rfl rfl fun M1 hM1=>?_
  simp only [zz,zq,↓reduceIte,zx,zj,zy,zk,zw,zb,reduceCtorEq,zd,zf,zp,zm,zh,zu,zt,zn,zc,zl,za,ze,zo,zg,nzs,tgC]
  refine ⟨by kernel_rfl,?_⟩
  refine tdo0K rfl 0 (1,[97],[],1,[]) (zTG_mem M1) zTG_right fun b0 v0 ws0 M2 hM2 hT2=>?_
  have h0:(tdoS zTG 0 (1,[97],[],1,[])).2=0:=by kernel_rfl
  simp only [zz,zq,↓reduceIte,zx,zj,zy,zk,zw,zb,reduceCtorEq,zd,zf,zp,zm,zh,zu,zt,zn,zc,zl,za,ze,zo,zg,nzs,tgC,h0]
  refine CallK.newBox rfl rfl (new M2) rfl rfl fun M3 hM3=>?_
  simp only [zz,zq,↓reduceIte,zx,zj,zy,zk,zw,zb,reduceCtorEq,zd,zf,zp,zm,zh,zu,zt,zn,zc,zl,za,ze,zo,zg,nzs,tgC,hy.len,hy.sl,List.length_map]
  refine LoopK.go (X:=Nat×TG×(Value×Value×Value×List WV)×(Value×Value×Value×List WV)×Mem) (fun x=>([(0,true,.v y),(1,true,.v z),(5,true,.ptr 248 0 0 0),(6,true,.ptr 264 0 0 0),(34,true,.v y),(35,true,.v (.int .i64 l.length)),(36,true,.v (.int .i64 x.1))],[(264,.box (tgC x.2.1 x.2.2.2.1.1 x.2.2.2.1.2.1 x.2.2.2.1.2.2.1) none),(248,.box (tgC x.2.1 x.2.2.1.1 x.2.2.1.2.1 x.2.2.1.2.2.1) none)],x.2.2.2.2))
    (TgI l M) (fun z=>l.length - z.1) (0,zTG,(z0,z0,z0,[]),(z0,z0,z0,[]),M3) ⟨⟨Nat.zero_le _,(hM1.trans hM2).trans hM3⟩,⟨zTG_mem _,zTG_mem _⟩,zTG_right⟩ (Ent.of ?_) ?_
  · simp only [zq,↓reduceIte,zx,zj,zy,zk,zw,zb,reduceCtorEq,zd,zf,zp,zm,zh,zu,zt,zn,zc,zl,za,ze,zo,zg,za,tgC]
    rfl
  rintro ⟨i,T,⟨b1,v1,g1,ws1⟩,⟨b2,v2,g2,ws2⟩,M4⟩ ⟨⟨n1,n2⟩,⟨n3,n4⟩,n5⟩
  simp only at n1 n2 n3 n4 n5
  by_cases hil:i < l.length
  rotate_left
  · have d1:((i:Int) < (l.length:Int))=False:=eq_false (by omega)
    simp only [zz,zq,↓reduceIte,zx,zj,zy,zk,zw,zb,reduceCtorEq,zd,zf,zp,zm,zh,zu,zt,zn,zc,zl,za,ze,zo,zg,nzs,d1]
  have d1:((i:Int) < (l.length:Int))=True:=eq_true (by omega)
  obtain ⟨x,hx,hd⟩:=l_drop_at (l:=l) (i:=i) hil
  obtain ⟨x1,x2⟩:=hl x (List.mem_of_getElem? hx)
  have hy4:=hy.le n2
  have hz4:=hz.le n2
  have x4:=x1.le n2
  have ix:=hy4.ix (i:=(i:Int)) (by omega) (by rw [List.length_map]; omega)
  have el:=hy4.el1 hx rfl
  have A0:Meets Proofs.Tryz.prog 6 [.v x.1,.v (.int .i64 0)] M4 fun r _ _=>r = .v (.int .i64 (atL x.2 0)):=at_ x.1 x.2 0 M4 x4
  have A1:Meets Proofs.Tryz.prog 6 [.v x.1,.v (.int .i64 1)] M4 fun r _ _=>r = .v (.int .i64 (atL x.2 1)):=at_ x.1 x.2 1 M4 x4
  have A2:Meets Proofs.Tryz.prog 6 [.v x.1,.v (.int .i64 2)] M4 fun r _ _=>r = .v (.int .i64 (atL x.2 2)):=at_ x.1 x.2 2 M4 x4
  have A3:Meets Proofs.Tryz.prog 6 [.v x.1,.v (.int .i64 3)] M4 fun r _ _=>r = .v (.int .i64 (atL x.2 3)):=at_ x.1 x.2 3 M4 x4
  have A4:Meets Proofs.Tryz.prog 6 [.v x.1,.v (.int .i64 4)] M4 fun r _ _=>r = .v (.int .i64 (atL x.2 4)):=at_ x.1 x.2 4 M4 x4
  have hin : ∀ j,inK .i64 (atL x.2 j):=fun j=>by
    unfold atL
    cases hj:x.2[j]? with
    | none=>exact ⟨by decide,by decide⟩
    | some q=>exact x2 q (List.mem_of_getElem? hj)
  have a2:=hin 2
  generalize atL x.2 0=kd at *
  generalize atL x.2 1=wh at *
  generalize atL x.2 2=a at *
  generalize atL x.2 3=bb at *
  generalize atL x.2 4=kk at *
  simp only [zz,zq,↓reduceIte,zx,zj,zy,zk,zw,zb,reduceCtorEq,zd,zf,zp,zm,zh,zu,zt,zn,zc,zl,za,ze,zo,zg,nzs,d1,ix,el.1,el.2]
  refine CallK.pure ⟨rfl,rfl⟩ rfl A1 ?_
  simp only [zz,zq,↓reduceIte,zx,zj,zy,zk,zw,zb,reduceCtorEq,zd,zf,zp,zm,zh,zu,zt,zn,zc,zl,za,ze,zo,zg,nzs]
  refine CallK.pure ⟨rfl,rfl⟩ rfl A2 ?_
  simp only [zz,zq,↓reduceIte,zx,zj,zy,zk,zw,zb,reduceCtorEq,zd,zf,zp,zm,zh,zu,zt,zn,zc,zl,za,ze,zo,zg,nzs]
  refine CallK.pure ⟨rfl,rfl⟩ rfl A3 ?_
  simp only [zz,zq,↓reduceIte,zx,zj,zy,zk,zw,zb,reduceCtorEq,zd,zf,zp,zm,zh,zu,zt,zn,zc,zl,za,ze,zo,zg,nzs]
  refine CallK.pure ⟨rfl,rfl⟩ rfl A4 ?_
  apply joinO
  case h=>
   intro J
   by_cases hop:0 < ops.length
   case pos=>
    have c0:((0:Int) < (ops.length:Int))=True:=eq_true (by omega)
    have c1:((ops.length:Int)=0)=False:=eq_false (by omega)
    have t1:=Int.tmod_lt_of_pos a (b:=(ops.length:Int)) (by omega)
    have t2:=Int.lt_tmod_of_pos a (b:=(ops.length:Int)) (by omega)
    have t3:=Int.tmod_lt_of_pos (a.tmod ops.length+ops.length) (b:=(ops.length:Int)) (by omega)
    obtain ⟨j,hj⟩:=Int.eq_ofNat_of_zero_le (Int.tmod_nonneg (a:=a.tmod ops.length+ops.length) (ops.length:Int) (by omega))
    rw [hj] at t3
    obtain ⟨o,ho,_⟩:=l_drop_at (l:=ops) (i:=j) (by omega)
    obtain ⟨⟨⟨f0,g0⟩,f1,g1'⟩,⟨⟨f2,g2'⟩,f3,g3⟩,⟨f4,g4⟩,ix2⟩:=op_at hz4 ho
    simp only [zz,zq,↓reduceIte,zx,zj,zy,zk,zw,zb,reduceCtorEq,zd,zf,zp,zm,zh,zu,zt,zn,zc,zl,za,ze,zo,zg,nzs,hz4.len,hz4.sl,List.length_map,tgC,c0,c1,hj,ix2,ix2.2,f0,g0,f1,g1',f2,g2',f3,g3,f4,g4,inK,lo,hi]
    refine ⟨by omega,⟨by omega,by omega⟩,by omega,by decide,?_⟩
    exact weakC [(0,true,.v y),(1,true,.v z),(5,true,.ptr 248 0 0 0),(6,true,.ptr 264 0 0 0),(8,true,.v x.1),(9,true,.v (.int .i64 wh)),(10,true,.v (.int .i64 a)),(11,true,.v (.int .i64 bb)),(12,true,.v (.int .i64 kk)),(13,true,.ptr 104 0 0 0),(34,true,.v y),(35,true,.v (.int .i64 l.length)),(36,true,.v (.int .i64 i))] (H3 none none none [.v (.int .i64 o.1),.v (.string ⟨o.2.1.toArray⟩),.v (.string ⟨o.2.2.1.toArray⟩),.v (.int .i64 o.2.2.2.1),.v (.string ⟨o.2.2.2.2.toArray⟩)] (tgC T b2 v2 g2) (tgC T b1 v1 g1)) M4 rfl (Ent.of (by simp only [zq,↓reduceIte,zx,zj,zy,zk,zw,zb,reduceCtorEq,zd,zf,zp,zm,zh,zu,zt,zn,zc,zl,za,ze,zo,zg,tgC])) (J o)
   case neg=>
    have c0:((0:Int) < (ops.length:Int))=False:=eq_false (by omega)
    simp only [zz,zq,↓reduceIte,zx,zj,zy,zk,zw,zb,reduceCtorEq,zd,zf,zp,zm,zh,zu,zt,zn,zc,zl,za,ze,zo,zg,nzs,hz4.len,hz4.sl,List.length_map,tgC,c0]
    exact weakC [(0,true,.v y),(1,true,.v z),(5,true,.ptr 248 0 0 0),(6,true,.ptr 264 0 0 0),(8,true,.v x.1),(9,true,.v (.int .i64 wh)),(10,true,.v (.int .i64 a)),(11,true,.v (.int .i64 bb)),(12,true,.v (.int .i64 kk)),(13,true,.ptr 104 0 0 0),(34,true,.v y),(35,true,.v (.int .i64 l.length)),(36,true,.v (.int .i64 i))] (H3 none none none [.v (.int .i64 0),.v (.string ⟨#[]⟩),.v (.string ⟨#[]⟩),.v (.int .i64 0),.v (.string ⟨#[]⟩)] (tgC T b2 v2 g2) (tgC T b1 v1 g1)) M4 rfl (Ent.of (by simp only [zq,↓reduceIte,zx,zj,zy,zk,zw,zb,reduceCtorEq,zd,zf,zp,zm,zh,zu,zt,zn,zc,zl,za,ze,zo,zg,tgC])) (J (0,[],[],0,[]))
  intro o
  refine CallK.pure ⟨rfl,rfl⟩ rfl A0 ?_
  apply joinT (TgJ M4)
  case h=>
    intro J
    by_cases k1:kd=1
    case pos=>
      simp only [zz,zq,↓reduceIte,zx,zj,zy,zk,zw,zb,reduceCtorEq,zd,zf,zp,zm,zh,zu,zt,zn,zc,zl,za,ze,zo,zg,nzs,k1]
      refine DrawK.heldE [104] (tk [0,1,2,4,5,6] (.one 3 (.one 7 (tk [8,9] .done)))) (by kernel_rfl) (by kernel_rfl) fun ys hy=>?_
      simp only [zz,zq,↓reduceIte,zx,zj,zy,zk,zw,zb,reduceCtorEq,zd,zf,zp,zm,zh,zu,zt,zn,zc,zl,za,ze,zo,zg,nzs,se1,se2,tks]
      refine tdoK rfl rfl rfl wh o n3 n5 fun b3 v3 ws3 M5 hM5 q1=>?_
      simp only [zz,zq,↓reduceIte,zx,zj,zy,zk,zw,zb,reduceCtorEq,zd,zf,zp,zm,zh,zu,zt,zn,zc,zl,za,ze,zo,zg,nzs,se1,se2,tks,tgC]
      refine ⟨hM5,rdoK rfl rfl rfl wh o (n4.le hM5) n5 fun b4 v4 ws4 M6 hM6 q2=>?_⟩
      replace q1:=q1.le hM6
      have q3:=tdo_right n5 wh o
      have hM7:=hM5.trans hM6
      generalize (tdoS T wh o).1=T' at q1 q2 q3 ⊢
      generalize (tdoS T wh o).2=e at ⊢
      simp only [zz,zq,↓reduceIte,zx,zj,zy,zk,zw,zb,reduceCtorEq,zd,zf,zp,zm,zh,zu,zt,zn,zc,zl,za,ze,zo,zg,nzs,se1,se2,tks,tgC,hM7]
      refine weakD [(0,true,.v y),(1,true,.v z),(5,true,.ptr 248 0 0 0),(6,true,.ptr 264 0 0 0),(15,true,.v (.int .i64 e)),(16,true,.v (.int .i64 e)),(34,true,.v y),(35,true,.v (.int .i64 l.length)),(36,true,.v (.int .i64 i))] (H3 none none none [.v (.int .i64 o.1),.v (.string ⟨o.2.1.toArray⟩),.v (.string ⟨o.2.2.1.toArray⟩),.v (.int .i64 o.2.2.2.1),.v (.string ⟨o.2.2.2.2.toArray⟩)] (tgC T' b4 v4 g2) (tgC T' b3 v3 g1)) M6 (Ent.heap (HEnt.untie (k:=104) rfl) (Ent.heap (HEnt.untie (k:=264) rfl) (Ent.heap (HEnt.untie (k:=248) rfl) (Ent.of (by simp only [zq,↓reduceIte,zx,zj,zy,zk,zw,zb,reduceCtorEq,zd,zf,zp,zm,zh,zu,zt,zn,zc,zl,za,ze,zo,zg,hset,tgC]))))) ?_
      generalize g1=g3 at q1 ⊢
      generalize g2=g4 at q2 ⊢
      exact J e T' b3 v3 g3 ws3 b4 v4 g4 ws4 M6 ⟨hM7,q1,q2,q3⟩
    case neg=>
    have d1:=eq_false k1
    by_cases k2:kd=2
    case pos=>
      simp only [zz,zq,↓reduceIte,zx,zj,zy,zk,zw,zb,reduceCtorEq,zd,zf,zp,zm,zh,zu,zt,zn,zc,zl,za,ze,zo,zg,nzs,k2]
      refine treadK rfl rfl rfl wh o.2.1 bb n3 n5 ?_
      simp only [zz,zq,↓reduceIte,zx,zj,zy,zk,zw,zb,reduceCtorEq,zd,zf,zp,zm,zh,zu,zt,zn,zc,zl,za,ze,zo,zg,nzs,tgC]
      refine rreadK rfl rfl rfl wh o.2.1 bb n4 n5 fun M6 hM6=>?_
      have q1:=n3.le hM6
      have q2:=n4.le hM6
      generalize trdS T wh o.2.1 bb=e0
      obtain ⟨e1,e⟩:=e0
      simp only [zz,zq,↓reduceIte,zx,zj,zy,zk,zw,zb,reduceCtorEq,zd,zf,zp,zm,zh,zu,zt,zn,zc,zl,za,ze,zo,zg,nzs,tgC]
      generalize g1=g3 at q1 ⊢
      generalize g2=g4 at q2 ⊢
      generalize b1=b3 at q1 ⊢
      generalize b2=b4 at q2 ⊢
      generalize v1=v3 at q1 ⊢
      generalize v2=v4 at q2 ⊢
      generalize ws1=ws3 at q1 ⊢
      generalize ws2=ws4 at q2 ⊢
      have q3:=n5
      generalize T=T' at q1 q2 q3 ⊢
      refine weakD [(0,true,.v y),(1,true,.v z),(5,true,.ptr 248 0 0 0),(6,true,.ptr 264 0 0 0),(15,true,.v (.int .i64 e)),(16,true,.v (.int .i64 e)),(34,true,.v y),(35,true,.v (.int .i64 l.length)),(36,true,.v (.int .i64 i))] (H3 none none none [.v (.int .i64 o.1),.v (.string ⟨o.2.1.toArray⟩),.v (.string ⟨o.2.2.1.toArray⟩),.v (.int .i64 o.2.2.2.1),.v (.string ⟨o.2.2.2.2.toArray⟩)] (tgC T' b4 v4 g4) (tgC T' b3 v3 g3)) M6 (Ent.of (by simp only [zq,↓reduceIte,zx,zj,zy,zk,zw,zb,reduceCtorEq,zd,zf,zp,zm,zh,zu,zt,zn,zc,zl,za,ze,zo,zg,tgC])) ?_
      exact J e T' b3 v3 g3 ws3 b4 v4 g4 ws4 M6 ⟨hM6,q1,q2,q3⟩
    have d2:=eq_false k2
    by_cases k8:kd=8
    case pos=>
      simp only [zz,zq,↓reduceIte,zx,zj,zy,zk,zw,zb,reduceCtorEq,zd,zf,zp,zm,zh,zu,zt,zn,zc,zl,za,ze,zo,zg,nzs,k8]
      refine tcrashK rfl rfl rfl a a2 n3 n5 fun b3 v3 ws3 M5 hM5 q1=>?_
      simp only [zz,zq,↓reduceIte,zx,zj,zy,zk,zw,zb,reduceCtorEq,zd,zf,zp,zm,zh,zu,zt,zn,zc,zl,za,ze,zo,zg,nzs,tgC]
      refine rcrashK rfl rfl rfl a a2 (n4.le hM5) n5 fun b4 v4 ws4 M6 hM6 q2=>?_
      replace q1:=q1.le hM6
      have hM7:=hM5.trans hM6
      have q3:=cr_right T a
      generalize crS T a=T' at q1 q2 q3 ⊢
      simp only [zz,zq,↓reduceIte,zx,zj,zy,zk,zw,zb,reduceCtorEq,zd,zf,zp,zm,zh,zu,zt,zn,zc,zl,za,ze,zo,zg,nzs,tgC]
      refine weakD [(0,true,.v y),(1,true,.v z),(5,true,.ptr 248 0 0 0),(6,true,.ptr 264 0 0 0),(15,true,.v (.int .i64 0)),(16,true,.v (.int .i64 0)),(34,true,.v y),(35,true,.v (.int .i64 l.length)),(36,true,.v (.int .i64 i))] (H3 none none none [.v (.int .i64 o.1),.v (.string ⟨o.2.1.toArray⟩),.v (.string ⟨o.2.2.1.toArray⟩),.v (.int .i64 o.2.2.2.1),.v (.string ⟨o.2.2.2.2.toArray⟩)] (tgC T' b4 v4 (.slice none 0 0)) (tgC T' b3 v3 (.slice none 0 0))) M6 (Ent.of (by simp only [zq,↓reduceIte,zx,zj,zy,zk,zw,zb,reduceCtorEq,zd,zf,zp,zm,zh,zu,zt,zn,zc,zl,za,ze,zo,zg,tgC])) ?_
      exact J 0 T' b3 v3 _ ws3 b4 v4 _ ws4 M6 ⟨hM7,q1,q2,q3⟩
    have d8:=eq_false k8
    by_cases k3:kd=3
    case pos=>
      simp only [zz,zq,↓reduceIte,zx,zj,zy,zk,zw,zb,reduceCtorEq,zd,zf,zp,zm,zh,zu,zt,zn,zc,zl,za,ze,zo,zg,nzs,k3]
      refine tregisterK rfl rfl rfl wh a bb n3 fun g3 M5 hM5 q1=>?_
      have hE:=Rv.right1 T.2.1.1 g2 T.2.1.2.2.1 T.2.1.2.2.2 wh a bb kk T.2.1.2.1 M5 (n4.regs.le hM5) n5.rv
      have q3:=trv_right n5 (S:=Rv.regS T.2.1.1 T.2.1.2.1 T.2.1.2.2.1 T.2.1.2.2.2 wh a bb) reg_right
      simp only [Rv.resR,Rv.rsv] at hE
      generalize Rv.regS T.2.1.1 T.2.1.2.1 T.2.1.2.2.1 T.2.1.2.2.2 wh a bb=S at q1 q3 hE ⊢
      simp only [zz,zq,↓reduceIte,zx,zj,zy,zk,zw,zb,reduceCtorEq,zd,zf,zp,zm,zh,zu,zt,zn,zc,zl,za,ze,zo,zg,nzs,tgC]
      refine ⟨⟨by decide,by decide⟩,CallK.row (Rv.ctxT S) rfl rfl hE fun g4 M6 hM6 hg4=>?_⟩
      simp only [Rv.rsT,Rv.rsv]
      replace q1:=q1.le hM6
      have q2:=n4.le (hM5.trans hM6)
      have hM7:=hM5.trans hM6
      by_cases hS:S.1=0
      · have e1:trvS T S=(T.1,S.2,T.2.2):=if_pos hS
        rw [e1] at q1 q3
        have q2':TgM M6 (T.1,S.2,T.2.2) b2 v2 g4 ws2:=⟨q2.bag,q2.vols,q2.vw,hg4⟩
        simp only [zz,zq,↓reduceIte,zx,zj,zy,zk,zw,zb,reduceCtorEq,zd,zf,zp,zm,zh,zu,zt,zn,zc,zl,za,ze,zo,zg,nzs,tgC,e1,hS,hg4.one]
        refine weakD [(0,true,.v y),(1,true,.v z),(5,true,.ptr 248 0 0 0),(6,true,.ptr 264 0 0 0),(15,true,.v (.int .i64 0)),(16,true,.v (.int .i64 0)),(34,true,.v y),(35,true,.v (.int .i64 l.length)),(36,true,.v (.int .i64 i))] (H3 none none none [.v (.int .i64 o.1),.v (.string ⟨o.2.1.toArray⟩),.v (.string ⟨o.2.2.1.toArray⟩),.v (.int .i64 o.2.2.2.1),.v (.string ⟨o.2.2.2.2.toArray⟩)] (tgC (T.1,S.2,T.2.2) b2 v2 g4) (tgC (T.1,S.2,T.2.2) b1 v1 g3)) M6 (Ent.of (by simp only [zq,↓reduceIte,zx,zj,zy,zk,zw,zb,reduceCtorEq,zd,zf,zp,zm,zh,zu,zt,zn,zc,zl,za,ze,zo,zg,tgC])) ?_
        exact J 0 _ b1 v1 g3 ws1 b2 v2 g4 ws2 M6 ⟨hM7,q1,q2',q3⟩
      · have e1:trvS T S=T:=if_neg hS
        have c1:=eq_false hS
        rw [e1] at q1 q3
        simp only [zz,zq,↓reduceIte,zx,zj,zy,zk,zw,zb,reduceCtorEq,zd,zf,zp,zm,zh,zu,zt,zn,zc,zl,za,ze,zo,zg,nzs,tgC,e1,c1,hg4.one]
        refine weakD [(0,true,.v y),(1,true,.v z),(5,true,.ptr 248 0 0 0),(6,true,.ptr 264 0 0 0),(15,true,.v (.int .i64 S.1)),(16,true,.v (.int .i64 S.1)),(34,true,.v y),(35,true,.v (.int .i64 l.length)),(36,true,.v (.int .i64 i))] (H3 none none none [.v (.int .i64 o.1),.v (.string ⟨o.2.1.toArray⟩),.v (.string ⟨o.2.2.1.toArray⟩),.v (.int .i64 o.2.2.2.1),.v (.string ⟨o.2.2.2.2.toArray⟩)] (tgC T b2 v2 g2) (tgC T b1 v1 g3)) M6 (Ent.of (by simp only [zq,↓reduceIte,zx,zj,zy,zk,zw,zb,reduceCtorEq,zd,zf,zp,zm,zh,zu,zt,zn,zc,zl,za,ze,zo,zg,tgC])) ?_
        exact J S.1 _ b1 v1 g3 ws1 b2 v2 g2 ws2 M6 ⟨hM7,q1,q2,q3⟩
    have d3:=eq_false k3
    by_cases k4:kd=4
    case pos=>
      simp only [zz,zq,↓reduceIte,zx,zj,zy,zk,zw,zb,reduceCtorEq,zd,zf,zp,zm,zh,zu,zt,zn,zc,zl,za,ze,zo,zg,nzs,k4]
      refine treserveK rfl rfl rfl wh a bb n3 fun g3 M5 hM5 q1=>?_
      have hE:=Rv.right2 T.2.1.1 g2 T.2.1.2.2.1 T.2.1.2.2.2 wh a bb kk T.2.1.2.1 M5 (n4.regs.le hM5) n5.rv
      have q3:=trv_right n5 (S:=Rv.rsvS T.2.1.1 T.2.1.2.1 T.2.1.2.2.1 T.2.1.2.2.2 wh a bb) rsv_right
      simp only [Rv.resR,Rv.rsv] at hE
      generalize Rv.rsvS T.2.1.1 T.2.1.2.1 T.2.1.2.2.1 T.2.1.2.2.2 wh a bb=S at q1 q3 hE ⊢
      simp only [zz,zq,↓reduceIte,zx,zj,zy,zk,zw,zb,reduceCtorEq,zd,zf,zp,zm,zh,zu,zt,zn,zc,zl,za,ze,zo,zg,nzs,tgC]
      refine ⟨⟨by decide,by decide⟩,CallK.row (Rv.ctxT S) rfl rfl hE fun g4 M6 hM6 hg4=>?_⟩
      simp only [Rv.rsT,Rv.rsv]
      replace q1:=q1.le hM6
      have q2:=n4.le (hM5.trans hM6)
      have hM7:=hM5.trans hM6
      by_cases hS:S.1=0
      · have e1:trvS T S=(T.1,S.2,T.2.2):=if_pos hS
        rw [e1] at q1 q3
        have q2':TgM M6 (T.1,S.2,T.2.2) b2 v2 g4 ws2:=⟨q2.bag,q2.vols,q2.vw,hg4⟩
        simp only [zz,zq,↓reduceIte,zx,zj,zy,zk,zw,zb,reduceCtorEq,zd,zf,zp,zm,zh,zu,zt,zn,zc,zl,za,ze,zo,zg,nzs,tgC,e1,hS,hg4.one]
        refine weakD [(0,true,.v y),(1,true,.v z),(5,true,.ptr 248 0 0 0),(6,true,.ptr 264 0 0 0),(15,true,.v (.int .i64 0)),(16,true,.v (.int .i64 0)),(34,true,.v y),(35,true,.v (.int .i64 l.length)),(36,true,.v (.int .i64 i))] (H3 none none none [.v (.int .i64 o.1),.v (.string ⟨o.2.1.toArray⟩),.v (.string ⟨o.2.2.1.toArray⟩),.v (.int .i64 o.2.2.2.1),.v (.string ⟨o.2.2.2.2.toArray⟩)] (tgC (T.1,S.2,T.2.2) b2 v2 g4) (tgC (T.1,S.2,T.2.2) b1 v1 g3)) M6 (Ent.of (by simp only [zq,↓reduceIte,zx,zj,zy,zk,zw,zb,reduceCtorEq,zd,zf,zp,zm,zh,zu,zt,zn,zc,zl,za,ze,zo,zg,tgC])) ?_
        exact J 0 _ b1 v1 g3 ws1 b2 v2 g4 ws2 M6 ⟨hM7,q1,q2',q3⟩
      · have e1:trvS T S=T:=if_neg hS
        have c1:=eq_false hS
        rw [e1] at q1 q3
        simp only [zz,zq,↓reduceIte,zx,zj,zy,zk,zw,zb,reduceCtorEq,zd,zf,zp,zm,zh,zu,zt,zn,zc,zl,za,ze,zo,zg,nzs,tgC,e1,c1,hg4.one]
        refine weakD [(0,true,.v y),(1,true,.v z),(5,true,.ptr 248 0 0 0),(6,true,.ptr 264 0 0 0),(15,true,.v (.int .i64 S.1)),(16,true,.v (.int .i64 S.1)),(34,true,.v y),(35,true,.v (.int .i64 l.length)),(36,true,.v (.int .i64 i))] (H3 none none none [.v (.int .i64 o.1),.v (.string ⟨o.2.1.toArray⟩),.v (.string ⟨o.2.2.1.toArray⟩),.v (.int .i64 o.2.2.2.1),.v (.string ⟨o.2.2.2.2.toArray⟩)] (tgC T b2 v2 g2) (tgC T b1 v1 g3)) M6 (Ent.of (by simp only [zq,↓reduceIte,zx,zj,zy,zk,zw,zb,reduceCtorEq,zd,zf,zp,zm,zh,zu,zt,zn,zc,zl,za,ze,zo,zg,tgC])) ?_
        exact J S.1 _ b1 v1 g3 ws1 b2 v2 g2 ws2 M6 ⟨hM7,q1,q2,q3⟩
    have d4:=eq_false k4
    by_cases k5:kd=5
    case pos=>
      simp only [zz,zq,↓reduceIte,zx,zj,zy,zk,zw,zb,reduceCtorEq,zd,zf,zp,zm,zh,zu,zt,zn,zc,zl,za,ze,zo,zg,nzs,k5]
      refine treleaseK rfl rfl rfl wh a bb n3 fun g3 M5 hM5 q1=>?_
      have hE:=Rv.right3 T.2.1.1 g2 T.2.1.2.2.1 T.2.1.2.2.2 wh a bb kk T.2.1.2.1 M5 (n4.regs.le hM5) n5.rv
      have q3:=trv_right n5 (S:=Rv.relS T.2.1.1 T.2.1.2.1 T.2.1.2.2.1 T.2.1.2.2.2 wh a bb) rel_right
      simp only [Rv.resR,Rv.rsv] at hE
      generalize Rv.relS T.2.1.1 T.2.1.2.1 T.2.1.2.2.1 T.2.1.2.2.2 wh a bb=S at q1 q3 hE ⊢
      simp only [zz,zq,↓reduceIte,zx,zj,zy,zk,zw,zb,reduceCtorEq,zd,zf,zp,zm,zh,zu,zt,zn,zc,zl,za,ze,zo,zg,nzs,tgC]
      refine ⟨⟨by decide,by decide⟩,CallK.row (Rv.ctxT S) rfl rfl hE fun g4 M6 hM6 hg4=>?_⟩
      simp only [Rv.rsT,Rv.rsv]
      replace q1:=q1.le hM6
      have q2:=n4.le (hM5.trans hM6)
      have hM7:=hM5.trans hM6
      by_cases hS:S.1=0
      · have e1:trvS T S=(T.1,S.2,T.2.2):=if_pos hS
        rw [e1] at q1 q3
        have q2':TgM M6 (T.1,S.2,T.2.2) b2 v2 g4 ws2:=⟨q2.bag,q2.vols,q2.vw,hg4⟩
        simp only [zz,zq,↓reduceIte,zx,zj,zy,zk,zw,zb,reduceCtorEq,zd,zf,zp,zm,zh,zu,zt,zn,zc,zl,za,ze,zo,zg,nzs,tgC,e1,hS,hg4.one]
        refine weakD [(0,true,.v y),(1,true,.v z),(5,true,.ptr 248 0 0 0),(6,true,.ptr 264 0 0 0),(15,true,.v (.int .i64 0)),(16,true,.v (.int .i64 0)),(34,true,.v y),(35,true,.v (.int .i64 l.length)),(36,true,.v (.int .i64 i))] (H3 none none none [.v (.int .i64 o.1),.v (.string ⟨o.2.1.toArray⟩),.v (.string ⟨o.2.2.1.toArray⟩),.v (.int .i64 o.2.2.2.1),.v (.string ⟨o.2.2.2.2.toArray⟩)] (tgC (T.1,S.2,T.2.2) b2 v2 g4) (tgC (T.1,S.2,T.2.2) b1 v1 g3)) M6 (Ent.of (by simp only [zq,↓reduceIte,zx,zj,zy,zk,zw,zb,reduceCtorEq,zd,zf,zp,zm,zh,zu,zt,zn,zc,zl,za,ze,zo,zg,tgC])) ?_
        exact J 0 _ b1 v1 g3 ws1 b2 v2 g4 ws2 M6 ⟨hM7,q1,q2',q3⟩
      · have e1:trvS T S=T:=if_neg hS
        have c1:=eq_false hS
        rw [e1] at q1 q3
        simp only [zz,zq,↓reduceIte,zx,zj,zy,zk,zw,zb,reduceCtorEq,zd,zf,zp,zm,zh,zu,zt,zn,zc,zl,za,ze,zo,zg,nzs,tgC,e1,c1,hg4.one]
        refine weakD [(0,true,.v y),(1,true,.v z),(5,true,.ptr 248 0 0 0),(6,true,.ptr 264 0 0 0),(15,true,.v (.int .i64 S.1)),(16,true,.v (.int .i64 S.1)),(34,true,.v y),(35,true,.v (.int .i64 l.length)),(36,true,.v (.int .i64 i))] (H3 none none none [.v (.int .i64 o.1),.v (.string ⟨o.2.1.toArray⟩),.v (.string ⟨o.2.2.1.toArray⟩),.v (.int .i64 o.2.2.2.1),.v (.string ⟨o.2.2.2.2.toArray⟩)] (tgC T b2 v2 g2) (tgC T b1 v1 g3)) M6 (Ent.of (by simp only [zq,↓reduceIte,zx,zj,zy,zk,zw,zb,reduceCtorEq,zd,zf,zp,zm,zh,zu,zt,zn,zc,zl,za,ze,zo,zg,tgC])) ?_
        exact J S.1 _ b1 v1 g3 ws1 b2 v2 g2 ws2 M6 ⟨hM7,q1,q2,q3⟩
    have d5:=eq_false k5
    by_cases k6:kd=6
    case pos=>
      simp only [zz,zq,↓reduceIte,zx,zj,zy,zk,zw,zb,reduceCtorEq,zd,zf,zp,zm,zh,zu,zt,zn,zc,zl,za,ze,zo,zg,nzs,k6]
      refine tclearK rfl rfl rfl wh a n3 fun g3 M5 hM5 q1=>?_
      have hE:=Rv.right4 T.2.1.1 g2 T.2.1.2.2.1 T.2.1.2.2.2 wh a bb kk T.2.1.2.1 M5 (n4.regs.le hM5) n5.rv
      have q3:=trv_right n5 (S:=Rv.clrS T.2.1.1 T.2.1.2.1 T.2.1.2.2.1 T.2.1.2.2.2 wh a) clr_right
      simp only [Rv.resR,Rv.rsv] at hE
      generalize Rv.clrS T.2.1.1 T.2.1.2.1 T.2.1.2.2.1 T.2.1.2.2.2 wh a=S at q1 q3 hE ⊢
      simp only [zz,zq,↓reduceIte,zx,zj,zy,zk,zw,zb,reduceCtorEq,zd,zf,zp,zm,zh,zu,zt,zn,zc,zl,za,ze,zo,zg,nzs,tgC]
      refine ⟨⟨by decide,by decide⟩,CallK.row (Rv.ctxT S) rfl rfl hE fun g4 M6 hM6 hg4=>?_⟩
      simp only [Rv.rsT,Rv.rsv]
      replace q1:=q1.le hM6
      have q2:=n4.le (hM5.trans hM6)
      have hM7:=hM5.trans hM6
      by_cases hS:S.1=0
      · have e1:trvS T S=(T.1,S.2,T.2.2):=if_pos hS
        rw [e1] at q1 q3
        have q2':TgM M6 (T.1,S.2,T.2.2) b2 v2 g4 ws2:=⟨q2.bag,q2.vols,q2.vw,hg4⟩
        simp only [zz,zq,↓reduceIte,zx,zj,zy,zk,zw,zb,reduceCtorEq,zd,zf,zp,zm,zh,zu,zt,zn,zc,zl,za,ze,zo,zg,nzs,tgC,e1,hS,hg4.one]
        refine weakD [(0,true,.v y),(1,true,.v z),(5,true,.ptr 248 0 0 0),(6,true,.ptr 264 0 0 0),(15,true,.v (.int .i64 0)),(16,true,.v (.int .i64 0)),(34,true,.v y),(35,true,.v (.int .i64 l.length)),(36,true,.v (.int .i64 i))] (H3 none none none [.v (.int .i64 o.1),.v (.string ⟨o.2.1.toArray⟩),.v (.string ⟨o.2.2.1.toArray⟩),.v (.int .i64 o.2.2.2.1),.v (.string ⟨o.2.2.2.2.toArray⟩)] (tgC (T.1,S.2,T.2.2) b2 v2 g4) (tgC (T.1,S.2,T.2.2) b1 v1 g3)) M6 (Ent.of (by simp only [zq,↓reduceIte,zx,zj,zy,zk,zw,zb,reduceCtorEq,zd,zf,zp,zm,zh,zu,zt,zn,zc,zl,za,ze,zo,zg,tgC])) ?_
        exact J 0 _ b1 v1 g3 ws1 b2 v2 g4 ws2 M6 ⟨hM7,q1,q2',q3⟩
      · have e1:trvS T S=T:=if_neg hS
        have c1:=eq_false hS
        rw [e1] at q1 q3
        simp only [zz,zq,↓reduceIte,zx,zj,zy,zk,zw,zb,reduceCtorEq,zd,zf,zp,zm,zh,zu,zt,zn,zc,zl,za,ze,zo,zg,nzs,tgC,e1,c1,hg4.one]
        refine weakD [(0,true,.v y),(1,true,.v z),(5,true,.ptr 248 0 0 0),(6,true,.ptr 264 0 0 0),(15,true,.v (.int .i64 S.1)),(16,true,.v (.int .i64 S.1)),(34,true,.v y),(35,true,.v (.int .i64 l.length)),(36,true,.v (.int .i64 i))] (H3 none none none [.v (.int .i64 o.1),.v (.string ⟨o.2.1.toArray⟩),.v (.string ⟨o.2.2.1.toArray⟩),.v (.int .i64 o.2.2.2.1),.v (.string ⟨o.2.2.2.2.toArray⟩)] (tgC T b2 v2 g2) (tgC T b1 v1 g3)) M6 (Ent.of (by simp only [zq,↓reduceIte,zx,zj,zy,zk,zw,zb,reduceCtorEq,zd,zf,zp,zm,zh,zu,zt,zn,zc,zl,za,ze,zo,zg,tgC])) ?_
        exact J S.1 _ b1 v1 g3 ws1 b2 v2 g2 ws2 M6 ⟨hM7,q1,q2,q3⟩
    have d6:=eq_false k6
    by_cases k7:kd=7
    case pos=>
      simp only [zz,zq,↓reduceIte,zx,zj,zy,zk,zw,zb,reduceCtorEq,zd,zf,zp,zm,zh,zu,zt,zn,zc,zl,za,ze,zo,zg,nzs,k7]
      refine tpreemptK rfl rfl rfl wh a bb kk n3 fun g3 M5 hM5 q1=>?_
      have hE:=Rv.right5 T.2.1.1 g2 T.2.1.2.2.1 T.2.1.2.2.2 wh a bb kk T.2.1.2.1 M5 (n4.regs.le hM5) n5.rv
      have q3:=trv_right n5 (S:=Rv.preS T.2.1.1 T.2.1.2.1 T.2.1.2.2.1 T.2.1.2.2.2 wh a bb kk) pre_right
      simp only [Rv.resR,Rv.rsv] at hE
      generalize Rv.preS T.2.1.1 T.2.1.2.1 T.2.1.2.2.1 T.2.1.2.2.2 wh a bb kk=S at q1 q3 hE ⊢
      simp only [zz,zq,↓reduceIte,zx,zj,zy,zk,zw,zb,reduceCtorEq,zd,zf,zp,zm,zh,zu,zt,zn,zc,zl,za,ze,zo,zg,nzs,tgC]
      refine ⟨⟨by decide,by decide⟩,CallK.row (Rv.ctxT S) rfl rfl hE fun g4 M6 hM6 hg4=>?_⟩
      simp only [Rv.rsT,Rv.rsv]
      replace q1:=q1.le hM6
      have q2:=n4.le (hM5.trans hM6)
      have hM7:=hM5.trans hM6
      by_cases hS:S.1=0
      · have e1:trvS T S=(T.1,S.2,T.2.2):=if_pos hS
        rw [e1] at q1 q3
        have q2':TgM M6 (T.1,S.2,T.2.2) b2 v2 g4 ws2:=⟨q2.bag,q2.vols,q2.vw,hg4⟩
        simp only [zz,zq,↓reduceIte,zx,zj,zy,zk,zw,zb,reduceCtorEq,zd,zf,zp,zm,zh,zu,zt,zn,zc,zl,za,ze,zo,zg,nzs,tgC,e1,hS,hg4.one]
        refine weakD [(0,true,.v y),(1,true,.v z),(5,true,.ptr 248 0 0 0),(6,true,.ptr 264 0 0 0),(15,true,.v (.int .i64 0)),(16,true,.v (.int .i64 0)),(34,true,.v y),(35,true,.v (.int .i64 l.length)),(36,true,.v (.int .i64 i))] (H3 none none none [.v (.int .i64 o.1),.v (.string ⟨o.2.1.toArray⟩),.v (.string ⟨o.2.2.1.toArray⟩),.v (.int .i64 o.2.2.2.1),.v (.string ⟨o.2.2.2.2.toArray⟩)] (tgC (T.1,S.2,T.2.2) b2 v2 g4) (tgC (T.1,S.2,T.2.2) b1 v1 g3)) M6 (Ent.of (by simp only [zq,↓reduceIte,zx,zj,zy,zk,zw,zb,reduceCtorEq,zd,zf,zp,zm,zh,zu,zt,zn,zc,zl,za,ze,zo,zg,tgC])) ?_
        exact J 0 _ b1 v1 g3 ws1 b2 v2 g4 ws2 M6 ⟨hM7,q1,q2',q3⟩
      · have e1:trvS T S=T:=if_neg hS
        have c1:=eq_false hS
        rw [e1] at q1 q3
        simp only [zz,zq,↓reduceIte,zx,zj,zy,zk,zw,zb,reduceCtorEq,zd,zf,zp,zm,zh,zu,zt,zn,zc,zl,za,ze,zo,zg,nzs,tgC,e1,c1,hg4.one]
        refine weakD [(0,true,.v y),(1,true,.v z),(5,true,.ptr 248 0 0 0),(6,true,.ptr 264 0 0 0),(15,true,.v (.int .i64 S.1)),(16,true,.v (.int .i64 S.1)),(34,true,.v y),(35,true,.v (.int .i64 l.length)),(36,true,.v (.int .i64 i))] (H3 none none none [.v (.int .i64 o.1),.v (.string ⟨o.2.1.toArray⟩),.v (.string ⟨o.2.2.1.toArray⟩),.v (.int .i64 o.2.2.2.1),.v (.string ⟨o.2.2.2.2.toArray⟩)] (tgC T b2 v2 g2) (tgC T b1 v1 g3)) M6 (Ent.of (by simp only [zq,↓reduceIte,zx,zj,zy,zk,zw,zb,reduceCtorEq,zd,zf,zp,zm,zh,zu,zt,zn,zc,zl,za,ze,zo,zg,tgC])) ?_
        exact J S.1 _ b1 v1 g3 ws1 b2 v2 g2 ws2 M6 ⟨hM7,q1,q2,q3⟩
    have d7:=eq_false k7
    simp only [zz,zq,↓reduceIte,zx,zj,zy,zk,zw,zb,reduceCtorEq,zd,zf,zp,zm,zh,zu,zt,zn,zc,zl,za,ze,zo,zg,nzs,d1,d2,d3,d4,d5,d6,d7,d8,tgC]
    refine ⟨fun h=>absurd h (by omega),fun _=>?_⟩
    refine weakD [(0,true,.v y),(1,true,.v z),(5,true,.ptr 248 0 0 0),(6,true,.ptr 264 0 0 0),(15,true,.v (.int .i64 0)),(16,true,.v (.int .i64 0)),(34,true,.v y),(35,true,.v (.int .i64 l.length)),(36,true,.v (.int .i64 i))] (H3 none none none [.v (.int .i64 o.1),.v (.string ⟨o.2.1.toArray⟩),.v (.string ⟨o.2.2.1.toArray⟩),.v (.int .i64 o.2.2.2.1),.v (.string ⟨o.2.2.2.2.toArray⟩)] (tgC T b2 v2 g2) (tgC T b1 v1 g1)) M4 (Ent.of (by simp only [zq,↓reduceIte,zx,zj,zy,zk,zw,zb,reduceCtorEq,zd,zf,zp,zm,zh,zu,zt,zn,zc,zl,za,ze,zo,zg,tgC])) ?_
    exact J 0 _ b1 v1 g1 ws1 b2 v2 g2 ws2 M4 ⟨Mem.le.refl _,n3,n4,n5⟩
  rintro e T' b3 v3 g3 ws3 b4 v4 g4 ws4 M5 ⟨hM5,q1,q2,q3⟩
  refine DrawK.heldE [264] (tk [0,1,2,3,4,6,7,8,9] (.one 5 (tk [10,11,12,13,15,16,17,18] (.one 14 (.one 19 (tk [20,21,22,23,25,26,27,28] (.one 24 (.one 29 (tk [30,31] .done))))))))) (by kernel_rfl) (by kernel_rfl) fun zs hzs=>?_
  simp only [tgC,zz,zq,↓reduceIte,zx,zj,zy,zk,zw,zb,reduceCtorEq,zd,zf,zp,zm,zh,zu,zt,zn,zc,zl,za,ze,zo,zg,nzs,se1,se2,tks]
  refine tlogK rfl rfl rfl q1 ?_
  simp only [tgC,zz,zq,↓reduceIte,zx,zj,zy,zk,zw,zb,reduceCtorEq,zd,zf,zp,zm,zh,zu,zt,zn,zc,zl,za,ze,zo,zg,nzs,se1,se2,tks,Mem.le.refl]
  refine tresvK rfl rfl rfl q1 q3 fun y5 M6 hM6 hy5=>?_
  simp only [tgC,zz,zq,↓reduceIte,zx,zj,zy,zk,zw,zb,reduceCtorEq,zd,zf,zp,zm,zh,zu,zt,zn,zc,zl,za,ze,zo,zg,nzs,se1,se2,tks,hM6]
  refine CallK.pure ⟨rfl,rfl⟩ rfl (Rv.same _ _ y5 g4 _ _ _ _ _ _ M6 hy5 (q2.regs.le hM6) rfl rfl rfl rfl) ?_
  simp only [tgC,zz,zq,↓reduceIte,zx,zj,zy,zk,zw,zb,reduceCtorEq,zd,zf,zp,zm,zh,zu,zt,zn,zc,zl,za,ze,zo,zg,nzs,se1,se2,tks,Mem.le.refl,hM6]
  refine tstateK rfl rfl rfl (q1.le hM6) q3 fun b5 v5 ws5 M7 hM7 hw5 hb5 hv5=>?_
  have hM8:=hM6.trans hM7
  have hS:=samest b5 v5 b4 v4 T'.1.1 ws5 ws4 M7 (hw5.trans q2.vw.symm) hb5 (q2.bag.le hM8) hv5 (q2.vols.le hM8)
  simp only [tgC,zz,zq,↓reduceIte,zx,zj,zy,zk,zw,zb,reduceCtorEq,zd,zf,zp,zm,zh,zu,zt,zn,zc,zl,za,ze,zo,zg,nzs,se1,se2,tks,hM7,hM8]
  refine CallK.pure ⟨rfl,rfl⟩ rfl hS ?_
  simp only [tgC,zz,zq,↓reduceIte,zx,zj,zy,zk,zw,zb,reduceCtorEq,zd,zf,zp,zm,zh,zu,zt,zn,zc,zl,za,ze,zo,zg,nzs,se1,se2,tks,inK,lo,hi]
  refine ⟨hM8,⟨by omega,by omega⟩,(i+1,T',(b3,v3,g3,ws3),(b4,v4,g4,ws4),M7),⟨⟨⟨by simp only; omega,(n2.trans hM5).trans hM8⟩,⟨q1.le hM8,q2.le hM8⟩,q3⟩,by simp only; omega⟩,Ent.heap (HEnt.untie (k:=264) rfl) (Ent.heap (HEnt.untie (k:=248) rfl) (Ent.of ?_))⟩
  simp only [zq,↓reduceIte,zx,zj,zy,zk,zw,zb,reduceCtorEq,zd,zf,zp,zm,zh,zu,zt,zn,zc,zl,za,ze,zo,zg,hset,Int.natCast_add,ze,tgC]
theorem targetPlaysL (a0:Value×List (Value×List Int)) (a1:Value×List (Int×List UInt8×List UInt8×Int×List UInt8)) (M:Mem)
    (h0:RowM M a0.1 1 (a0.2.map fun a=>[a.1])∧a0.2.length * 24≤reachBytes ∧ ∀ x ∈ a0.2,RowM M x.1 1 (x.2.map fun a=>[Value.int .i64 a])∧x.2.length * 8≤reachBytes ∧ ∀ q ∈ x.2,inK .i64 q)
    (h1:RowM M a1.1 5 (a1.2.map fun a=>[Value.int .i64 a.1]++([Value.string ⟨a.2.1.toArray⟩]++([Value.string ⟨a.2.2.1.toArray⟩]++([Value.int .i64 a.2.2.2.1]++[Value.string ⟨a.2.2.2.2.toArray⟩]))))∧a1.2.length * 64≤reachBytes ∧ ∀ x ∈ a1.2,inK .i64 x.1∧x.2.1.length≤reachBytes∧x.2.2.1.length≤reachBytes∧inK .i64 x.2.2.2.1∧x.2.2.2.2.length≤reachBytes) :
    Meets Proofs.Tryz.prog 3 [.v a0.1,.v a1.1] M fun r _ _=>r = .v (.bool true):=
  playsW a0.1 a1.1 a0.2 a1.2 M h0.1 (fun x hx=>⟨(h0.2.2 x hx).1,(h0.2.2 x hx).2.2⟩) h1.1 (by have:=h1.2.1; unfold reachBytes at this; omega)
end Go.X.Tg

