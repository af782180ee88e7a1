/- What the functions of package resv that change make of it. Conditions: none. -/
import Derived.Test.YtoohifeidifocaaGreatDoorMg30
import Derived.Test.YtoohifeidifocaaGreatDoorMg10
open Nat renaming reduceAdd→zx,reduceMul→zj,reduceDiv→zy,reduceEqDiff→zk,reduceLT→zw,reduceLeDiff→zb,reduceBEq→zg
open Int renaming reduceEq→zd,reduceNe→zf,reduceLT→zp,reduceLE→zm,reduceAdd→zh,reduceSub→zu,reduceMul→zt,reduceNeg→zn,reduceToNat→zc,cast_ofNat_Int→zl,natCast_zero→za,natCast_one→ze,toNat_natCast→zo
namespace Go.X.Rp
end Go.X.Rp
namespace Go.X.Sl
end Go.X.Sl
set_option linter.unusedSimpArgs false
set_option linter.unusedVariables false
set_option maxHeartbeats 4000000
set_option maxRecDepth 20000
namespace Go.X.Rv
open Go Go.X Go.X.Rp Go.X.Sl

def rsv (g:Int) (s:SV) (k h:Int):SV:=.agg [.v (.int .i64 g),s,.v (.int .i64 k),.v (.int .i64 h)]
theorem ctxR (g k h:Int):Ctx (fun s=>rsv g s k h):=fun s s' ν ν' e=>by simp only [Rv.rsv,SV.val,SV.vals,e]
theorem ctxE (g k h e:Int):Ctx (fun s=>.tup [rsv g s k h,.v (.int .i64 e)]):=fun s s' ν ν' e=>by simp only [Rv.rsv,SV.val,SV.vals,e]
theorem cloneR (u:Value) (l:List (Int×Int)) (M:Mem) (hu:RowM M u 2 (l.map encR)) (hb:l.length≤1000000) :
    Meets Proofs.Tryz.prog 125 [.v u] M (OwnR (fun s=>s) 2 (l.map encR)):=by
  obtain ⟨r1,r2⟩:=hu.rows (by omega)
  cases hs:someV u with
  | true=>
    refine Meets.of_body [0,2,4] Proofs.Tryz.func125 rfl (by kernel_rfl) rfl fun w=>?_
    simp only [Proofs.Tryz.f125,zz,zq,↓reduceIte,zx,zj,zy,zk,zw,zb,reduceCtorEq,zd,zf,zp,zm,zh,zu,zt,zn,zc,zl,za,ze,zo,zg,hu.sl,hs,r1,List.length_map]
    exact ⟨⟨by omega,r2⟩,56,rfl,rfl⟩
  | false=>
    have hn:l=[]:=by
      cases l with
      | nil=>rfl
      | cons a r=>have:=hu.2.1 (by simp); rw [hs] at this; cases this
    subst hn
    refine Meets.nilOwn ?_
    refine Meets.of_body [0,2,4] Proofs.Tryz.func125 rfl (by kernel_rfl) rfl fun w=>?_
    simp only [Proofs.Tryz.f125,zz,zq,↓reduceIte,zx,zj,zy,zk,zw,zb,reduceCtorEq,zd,zf,zp,zm,zh,zu,zt,zn,zc,zl,za,ze,zo,zg,hu.sl,hs]

theorem eqR (x y:Value) (l m:List (Int×Int)) (M:Mem) (hx:RowM M x 2 (l.map encR)) (hy:RowM M y 2 (m.map encR)) :
    Meets Proofs.Tryz.prog 53 [.v x,.v y] M fun r _ _=>r = .v (.bool (decide (l=m))):=by
  refine Meets.of_body [0,1,4,5,10,12,13,14,24] Proofs.Tryz.func53 rfl (by kernel_rfl) rfl fun w=>?_
  simp only [Proofs.Tryz.f53,zz,zq,↓reduceIte,zx,zj,zy,zk,zw,zb,reduceCtorEq,zd,zf,zp,zm,zh,zu,zt,zn,zc,zl,za,ze,zo,zg,hx.len,hy.len,hx.sl,hy.sl,List.length_map]
  refine ⟨fun h=>?_,fun h=>?_⟩
  · rw [decide_eq_false (fun e=>h (by rw [e]))]
  have hlen:l.length=m.length:=by omega
  have hle:=hx.len_le
  rw [List.length_map] at hle
  refine LoopK.go (X:=Nat×Nat) (fun p=>([(0,true,.v x),(1,true,.v y),(4,true,.v (.bool false)),(12,true,.v (.int .i64 l.length)),(13,true,.v (.int .i64 p.2))],[],M))
    (fun p=>p.1+p.2=l.length∧(l=m↔l.drop p.2=m.drop p.2)) (fun p=>p.1) (l.length,0) ⟨rfl,Iff.rfl⟩ (Ent.of ?_) ?_
  · simp only [zq,↓reduceIte,zx,zj,zy,zk,zw,zb,reduceCtorEq,zd,zf,zp,zm,zh,zu,zt,zn,zc,zl,za,ze,zo,zg]
  rintro ⟨f,i⟩ ⟨h1,h2⟩
  simp only at h1 h2
  simp only [zz,zq,↓reduceIte,zx,zj,zy,zk,zw,zb,reduceCtorEq,zd,zf,zp,zm,zh,zu,zt,zn,zc,zl,za,ze,zo,zg]
  refine ⟨fun h3=>?_,fun h3=>?_⟩
  · obtain ⟨⟨a0,a1⟩,hl,hd⟩:=l_drop_at (l:=l) (i:=i) (by omega)
    obtain ⟨⟨b0,b1⟩,hm,hd2⟩:=l_drop_at (l:=m) (i:=i) (by omega)
    have g0:=hx.cell (i:=i) (e:=[.int .i64 a0,.int .i64 a1]) (by rw [List.getElem?_map,hl]; rfl) (off:=0) (by omega)
    have k0:=hy.cell (i:=i) (e:=[.int .i64 b0,.int .i64 b1]) (by rw [List.getElem?_map,hm]; rfl) (off:=0) (by omega)
    have g1:=hx.cell (i:=i) (e:=[.int .i64 a0,.int .i64 a1]) (by rw [List.getElem?_map,hl]; rfl) (off:=1) (by omega)
    have k1:=hy.cell (i:=i) (e:=[.int .i64 b0,.int .i64 b1]) (by rw [List.getElem?_map,hm]; rfl) (off:=1) (by omega)
    have i1:=hx.ix (i:=(i:Int)) (by omega) (by rw [List.length_map]; omega)
    have i2:=hy.ix (i:=(i:Int)) (by omega) (by rw [List.length_map]; omega)
    simp only [List.getD_cons_zero,List.getD_cons_succ] at g0 k0 g1 k1
    refine DrawK.quiet (by kernel_rfl) (by kernel_rfl) ?_
    simp only [zz,zq,↓reduceIte,zx,zj,zy,zk,zw,zb,reduceCtorEq,zd,zf,zp,zm,zh,zu,zt,zn,zc,zl,za,ze,zo,zg,nzs,g0.1,g0.2.1,k0.1,k0.2.1,g1.1,g1.2.1,k1.1,k1.2.1,i1,i2,i1.2,i2.2,hx.len,hy.len,hx.sl,hy.sl,inK,lo,hi,List.toArray_eq_iff]
    refine ⟨fun hne=>?_,fun he=>⟨by omega,(f - 1,i+1),⟨⟨by simp only; omega,?_⟩,by simp only; omega⟩,Ent.of ?_⟩⟩
    · rw [decide_eq_false (fun e=>?_)]
      have:=h2.1 e
      rw [hd,hd2] at this
      have:=(List.cons.inj this).1
      simp_all
    · have e12:(a0,a1)=(b0,b1):=by simp_all
      simp only
      rw [h2,hd,hd2,e12]
      exact ⟨fun e=>(List.cons.inj e).2,fun e=>by rw [e]⟩
    · simp only [zq,↓reduceIte,zx,zj,zy,zk,zw,zb,reduceCtorEq,zd,zf,zp,zm,zh,zu,zt,zn,zc,zl,za,ze,zo,zg,Int.natCast_add]
  · have:i=l.length:=by omega
    rw [decide_eq_true (h2.2 (by rw [List.drop_eq_nil_of_le (by omega),List.drop_eq_nil_of_le (by omega)]))]


theorem next (g:Int) (y:Value) (kd hd st:Int) (l:List (Int×Int)) (M:Mem) (hy:RowM M y 2 (l.map encR)) (hb:l.length≤1000000) (hg:inK .i64 (g+st)) :
    Meets Proofs.Tryz.prog 86 [resvV g y kd hd,.v (.int .i64 st)] M (OwnR (fun s=>rsv (g+st) s kd hd) 2 (l.map encR)):=by
  refine Meets.of_body [0,1,2,4] Proofs.Tryz.func86 rfl (by kernel_rfl) rfl fun w=>?_
  simp only [Proofs.Tryz.f86,resvV,zz,zq,↓reduceIte,zx,zj,zy,zk,zw,zb,reduceCtorEq,zd,zf,zp,zm,zh,zu,zt,zn,zc,zl,za,ze,zo,zg,nzs]
  refine CallK.own Ctx.id rfl rfl (cloneR y l M hy hb) rfl fun M2 hM2=>?_
  simp only [zz,zq,↓reduceIte,zx,zj,zy,zk,zw,zb,reduceCtorEq,zd,zf,zp,zm,zh,zu,zt,zn,zc,zl,za,ze,zo,zg,nzs]
  exact ⟨hg,56,rfl,rfl⟩
theorem free (g kd hd:Int) (es:List (List Value)) (M:Mem) :
    MeetsH Proofs.Tryz.prog 94 [rsv g (.own 8000) kd hd] [(8000,.row 2 es)] M (OwnR (fun s=>rsv g s 0 0) 2 es):=by
  refine MeetsH.of_body [0,1,2] Proofs.Tryz.func94 rfl (by kernel_rfl) fun w M0=>?_
  simp only [Proofs.Tryz.f94,rsv,zz,zq,↓reduceIte,zx,zj,zy,zk,zw,zb,reduceCtorEq,zd,zf,zp,zm,zh,zu,zt,zn,zc,zl,za,ze,zo,zg,nzs]
  exact ⟨8000,rfl,rfl⟩
theorem outC (b:Nat) (t:Int) (x:Int×Int) (M:Mem) (hb:BoxM M b [.int .i64 t]):Meets Proofs.Tryz.prog 127 [.agg [.v (.int .i64 x.1),.v (.int .i64 x.2)],.v (ptrV b)] M fun r _ _=>r = .v (.bool (decide (x.1=t))):=by
  refine Meets.of_body [0,1,2,3] Proofs.Tryz.func127 rfl (by kernel_rfl) rfl fun w=>?_
  have g0:=hb.at (j:=0) rfl
  simp only [Proofs.Tryz.f127,zz,zq,↓reduceIte,zx,zj,zy,zk,zw,zb,reduceCtorEq,zd,zf,zp,zm,zh,zu,zt,zn,zc,zl,za,ze,zo,zg,nz,g0.1,g0.2]
theorem preC (b:Nat) (t:Int) (x:Int×Int) (M:Mem) (hb:BoxM M b [.int .i64 t]):Meets Proofs.Tryz.prog 96 [.agg [.v (.int .i64 x.1),.v (.int .i64 x.2)],.v (ptrV b)] M fun r _ _=>r = .v (.bool (decide (x.2=t))):=by
  refine Meets.of_body [0,1,2,3] Proofs.Tryz.func96 rfl (by kernel_rfl) rfl fun w=>?_
  have g0:=hb.at (j:=0) rfl
  simp only [Proofs.Tryz.f96,zz,zq,↓reduceIte,zx,zj,zy,zk,zw,zb,reduceCtorEq,zd,zf,zp,zm,zh,zu,zt,zn,zc,zl,za,ze,zo,zg,nz,g0.1,g0.2]
def outL (l:List (Int×Int)) (w:Int):List (Int×Int):=l.filter fun x=>!decide (x.1=w)
def outF (l:List (Int×Int)) (k h w:Int):Bool:=hasB l k h w && (!allB k || decide (outL l w=[]))
theorem out (g kd hd wh:Int) (l:List (Int×Int)) (M:Mem) (hb:l.length≤1000000) :
    MeetsH Proofs.Tryz.prog 87 [rsv g (.own 8000) kd hd,.v (.int .i64 wh)] [(8000,.row 2 (l.map encR))] M (OwnR (fun s=>rsv g s (if outF l kd hd wh=true then 0 else kd) (if outF l kd hd wh=true then 0 else hd)) 2 ((outL l wh).map encR)):=by
  refine MeetsH.of_body [0,1,2,3,4,5,26] Proofs.Tryz.func87 rfl (by kernel_rfl) fun w M0=>?_
  simp only [Proofs.Tryz.f87,rsv,zz,zq,↓reduceIte,zx,zj,zy,zk,zw,zb,reduceCtorEq,zd,zf,zp,zm,zh,zu,zt,zn,zc,zl,za,ze,zo,zg,nzs]
  refine CallK.lend (k:=8000) rfl rfl rfl (fun _=>rfl) (fun v2 M2 hM2 hv2=>has g v2 kd hd wh l M2 hv2) ?_
  simp only [zz,zq,↓reduceIte,zx,zj,zy,zk,zw,zb,reduceCtorEq,zd,zf,zp,zm,zh,zu,zt,zn,zc,zl,za,ze,zo,zg,nzs]
  refine stepK.mkFn rfl rfl ?_
  simp only [zz,zq,↓reduceIte,zx,zj,zy,zk,zw,zb,reduceCtorEq,zd,zf,zp,zm,zh,zu,zt,zn,zc,zl,za,ze,zo,zg,nzs]
  refine CallK.pubB (k:=24) rfl rfl fun bb M2 hM2 hb2=>?_
  simp only [shA1,shA2,zz,zq,↓reduceIte,zx,zj,zy,zk,zw,zb,reduceCtorEq,zd,zf,zp,zm,zh,zu,zt,zn,zc,zl,za,ze,zo,zg]
  refine CallK.lendR (A:=fun s=>[s,.fn 127 [.v (ptrV bb)]]) 8000 (Ctxs.cons0 _ rfl) Ctx.id rfl rfl rfl (fun M6 h6=>delR (α:=Int×Int) (fun x=>.int .i64 x.1) (fun x=>.int .i64 x.2) (fun x=>decide (x.1=wh)) _ _ l M6 hb (fun _ _=>⟨rfl,rfl⟩) (fun M7 h7 x _=>outC bb wh x M7 ((hb2.le h6).le h7))) rfl ?_
  simp only [zz,zq,↓reduceIte,zx,zj,zy,zk,zw,zb,reduceCtorEq,zd,zf,zp,zm,zh,zu,zt,zn,zc,zl,za,ze,zo,zg,nzs]
  have hlen:((((l.filter fun x=>!decide (x.1=wh)).map fun x=>[Value.int .i64 x.1,Value.int .i64 x.2]).length:Int)=0)=(outL l wh=[]):=by
    apply propext
    rw [List.length_map,outL,← List.length_eq_zero_iff]
    omega
  have hrow:((l.filter fun x=>!decide (x.1=wh)).map fun x=>[Value.int .i64 x.1,Value.int .i64 x.2])=(outL l wh).map encR:=rfl
  have hF:outF l kd hd wh=(hasB l kd hd wh && (!allB kd || decide (outL l wh=[]))):=rfl
  cases hH:hasB l kd hd wh with
  | false=>
    rw [hH,Bool.false_and] at hF
    rw [hF]
    simp only [zz,zq,↓reduceIte,zx,zj,zy,zk,zw,zb,reduceCtorEq,zd,zf,zp,zm,zh,zu,zt,zn,zc,zl,za,ze,zo,zg,nzs]
    exact ⟨96,rfl,rfl⟩
  | true=>
    simp only [zz,zq,↓reduceIte,zx,zj,zy,zk,zw,zb,reduceCtorEq,zd,zf,zp,zm,zh,zu,zt,zn,zc,zl,za,ze,zo,zg,nzs]
    refine CallK.pure ⟨rfl,rfl⟩ rfl (all kd M2) ?_
    cases hA:allB kd with
    | false=>
      rw [hH,hA] at hF
      simp only [Bool.not_false,Bool.true_or,Bool.and_self] at hF
      rw [hF]
      simp only [zz,zq,↓reduceIte,zx,zj,zy,zk,zw,zb,reduceCtorEq,zd,zf,zp,zm,zh,zu,zt,zn,zc,zl,za,ze,zo,zg,nzs]
      refine CallK.lendR (A:=fun s=>[.agg [.v (.int .i64 g),s,.v (.int .i64 kd),.v (.int .i64 hd)]]) 96 (fun s s' ν ν' e=>by simp only [SV.vals,SV.val,e]) (ctxR g 0 0) rfl rfl rfl (fun M6 h6=>free g kd hd _ M6) rfl ?_
      simp only [rsv,zz,zq,↓reduceIte,zx,zj,zy,zk,zw,zb,reduceCtorEq,zd,zf,zp,zm,zh,zu,zt,zn,zc,zl,za,ze,zo,zg,nzs]
      exact ⟨224,rfl,rfl⟩
    | true=>
      rw [hH,hA] at hF
      simp only [Bool.not_true,Bool.false_or,Bool.true_and] at hF
      by_cases hE:outL l wh=[]
      · rw [hF,decide_eq_true hE]
        have c1:=hlen.trans (eq_true hE)
        simp only [zz,zq,↓reduceIte,zx,zj,zy,zk,zw,zb,reduceCtorEq,zd,zf,zp,zm,zh,zu,zt,zn,zc,zl,za,ze,zo,zg,nzs,c1]
        refine CallK.lendR (A:=fun s=>[.agg [.v (.int .i64 g),s,.v (.int .i64 kd),.v (.int .i64 hd)]]) 96 (fun s s' ν ν' e=>by simp only [SV.vals,SV.val,e]) (ctxR g 0 0) rfl rfl rfl (fun M6 h6=>free g kd hd _ M6) rfl ?_
        simp only [rsv,zz,zq,↓reduceIte,zx,zj,zy,zk,zw,zb,reduceCtorEq,zd,zf,zp,zm,zh,zu,zt,zn,zc,zl,za,ze,zo,zg,nzs]
        exact ⟨224,rfl,rfl⟩
      · rw [hF,decide_eq_false hE]
        have c1:=hlen.trans (eq_false hE)
        simp only [zz,zq,↓reduceIte,zx,zj,zy,zk,zw,zb,reduceCtorEq,zd,zf,zp,zm,zh,zu,zt,zn,zc,zl,za,ze,zo,zg,nzs,c1]
        exact ⟨96,rfl,rfl⟩

def keyE (g:Int) (l:List (Int×Int)) (k h w key:Int):Int:=if resvE g l k h≠0 then resvE g l k h else if whoB w=false then 1 else if fi w l 0 < 0∨ky w l≠key then 9 else 0
theorem keyed (g:Int) (y:Value) (kd hd wh ke:Int) (l:List (Int×Int)) (M:Mem) (hy:RowM M y 2 (l.map encR)) :
    Meets Proofs.Tryz.prog 91 [rsv g (.v y) kd hd,.v (.int .i64 wh),.v (.int .i64 ke)] M fun r _ _=>r = .v (.int .i64 (keyE g l kd hd wh ke)):=by
  refine Meets.of_body [0,1,2,3,6,7,8,12,16,31] Proofs.Tryz.func91 rfl (by kernel_rfl) rfl fun w=>?_
  have hyl:=hy.len_le
  rw [List.length_map] at hyl
  simp only [Proofs.Tryz.f91,rsv,zz,zq,↓reduceIte,zx,zj,zy,zk,zw,zb,reduceCtorEq,zd,zf,zp,zm,zh,zu,zt,zn,zc,zl,za,ze,zo,zg,nzs]
  refine CallK.pure ⟨rfl,rfl⟩ rfl (check g y kd hd l M hy) ?_
  generalize hc:keyE g l kd hd wh ke=c
  unfold keyE at hc
  by_cases he:resvE g l kd hd=0
  rotate_left
  · have c1:(resvE g l kd hd=0)=False:=eq_false he
    rw [if_pos he] at hc
    subst hc
    simp only [zz,zq,↓reduceIte,zx,zj,zy,zk,zw,zb,reduceCtorEq,zd,zf,zp,zm,zh,zu,zt,zn,zc,zl,za,ze,zo,zg,nzs,c1]
  rw [if_neg (by simp [he])] at hc
  simp only [zz,zq,↓reduceIte,zx,zj,zy,zk,zw,zb,reduceCtorEq,zd,zf,zp,zm,zh,zu,zt,zn,zc,zl,za,ze,zo,zg,nzs,he]
  refine CallK.pure ⟨rfl,rfl⟩ rfl (who wh M) ?_
  cases hw:whoB wh with
  | false=>
    rw [if_pos hw] at hc
    subst hc
    simp only [zz,zq,↓reduceIte,zx,zj,zy,zk,zw,zb,reduceCtorEq,zd,zf,zp,zm,zh,zu,zt,zn,zc,zl,za,ze,zo,zg,nzs]
  | true=>
  rw [if_neg (by simp [hw])] at hc
  simp only [zz,zq,↓reduceIte,zx,zj,zy,zk,zw,zb,reduceCtorEq,zd,zf,zp,zm,zh,zu,zt,zn,zc,zl,za,ze,zo,zg,nzs]
  refine CallK.pure ⟨rfl,rfl⟩ rfl (find g y kd hd wh l M hy) ?_
  rcases fi_some (w:=wh) (l:=l) (i:=0) with ⟨h1,h2⟩ | ⟨j,⟨a,b⟩,h1,hx,h3,h4⟩
  · rw [h1] at hc ⊢
    rw [if_pos (.inl (by decide))] at hc
    subst hc
    simp only [zz,zq,↓reduceIte,zx,zj,zy,zk,zw,zb,reduceCtorEq,zd,zf,zp,zm,zh,zu,zt,zn,zc,zl,za,ze,zo,zg,nzs]
  · rw [Nat.zero_add] at h1
    rw [h1,h4] at hc
    rw [h1]
    have hjl:j < l.length:=(List.getElem?_eq_some_iff.1 hx).1
    have c0:((j:Int) < 0)=False:=eq_false (by omega)
    have g1:=hy.cell (i:=j) (e:=[.int .i64 a,.int .i64 b]) (by rw [List.getElem?_map,hx]; rfl) (off:=1) (by omega)
    have i0:=hy.ix (i:=(j:Int)) (by omega) (by rw [List.length_map]; omega)
    simp only [List.getD_cons_zero,List.getD_cons_succ] at g1
    by_cases hb:b=ke
    · have c1:(b=ke)=True:=eq_true hb
      rw [if_neg (by omega)] at hc
      subst hc
      simp only [zz,zq,↓reduceIte,zx,zj,zy,zk,zw,zb,reduceCtorEq,zd,zf,zp,zm,zh,zu,zt,zn,zc,zl,za,ze,zo,zg,nzs,c0,c1,i0,i0.2,g1.1,g1.2.1]
    · have c1:(b=ke)=False:=eq_false hb
      rw [if_pos (.inr hb)] at hc
      subst hc
      simp only [zz,zq,↓reduceIte,zx,zj,zy,zk,zw,zb,reduceCtorEq,zd,zf,zp,zm,zh,zu,zt,zn,zc,zl,za,ze,zo,zg,nzs,c0,c1,i0,i0.2,g1.1,g1.2.1]

theorem gen_snoc (f:Int→Int) : ∀ (n:Nat) (a:Int),gen f (n+1) a=gen f n a++if 0 < f (a+n) then [(a+n,f (a+n))] else []
  | 0,a=>by simp only [gen,List.nil_append,za,Int.add_zero]
  | n+1,a=>by
    rw [gen,gen_snoc f n (a+1),gen]
    have e:a+1+(n:Int)=a+((n+1:Nat):Int):=by omega
    rw [e]
    split <;> rfl
theorem gen_len (f:Int→Int) : ∀ (n:Nat) (a:Int),(gen f n a).length≤n
  | 0,_=>Nat.le_refl _
  | n+1,a=>by
    have:=gen_len f n (a+1)
    rw [gen]
    split
    · simp; omega
    · omega
def kF (l:List (Int×Int)) (k h w key:Int):Bool:=(allB k && decide (kr l w key=[])) || (!allB k && (hasB l k h w && decide (key=0)))
theorem rkeyed (g:Int) (y:Value) (kd hd wh ke:Int) (l:List (Int×Int)) (M:Mem) (hy:RowM M y 2 (l.map encR)) (hl : ∀ x ∈ l,1≤x.2) (hk:0≤kd) :
    Meets Proofs.Tryz.prog 47 [rsv g (.v y) kd hd,.v (.int .i64 wh),.v (.int .i64 ke)] M (OwnR (fun s=>rsv g s (if kF l kd hd wh ke=true then 0 else kd) (if kF l kd hd wh ke=true then 0 else hd)) 2 ((kr l wh ke).map encR)):=by
  refine Meets.of_body [0,1,2,3,6,7,8,9,17,18,25,28,61] Proofs.Tryz.func47 rfl (by kernel_rfl) rfl fun w=>?_
  simp only [Proofs.Tryz.f47,rsv,zz,zq,↓reduceIte,zx,zj,zy,zk,zw,zb,reduceCtorEq,zd,zf,zp,zm,zh,zu,zt,zn,zc,zl,za,ze,zo,zg,nzs]
  refine LoopK.nilBox 56 1 70 2 rfl rfl rfl rfl rfl ?_
  generalize hff:(fun h:Int=>if h=wh then ke else ky h l)=ff
  have hkr:kr l wh ke=gen ff 8 0:=by rw [← hff]; rfl
  refine LoopK.go (X:=Nat×Nat) (fun x=>([(1,true,.v (.int .i64 wh)),(2,true,.v (.int .i64 ke)),(3,true,.ptr 24 0 0 0),(6,true,.ptr 48 0 0 0),(7,true,.ptr 56 0 0 0),(17,true,.v (.int .i64 x.2))],
      [(560,.row 2 ((gen ff x.2 0).map encR)),(24,.box [.v (.int .i64 g),.v y,.v (.int .i64 kd),.v (.int .i64 hd)] none),(48,.box [.v (.int .i64 0),.v (.slice none 0 0),.v (.int .i64 0),.v (.int .i64 0)] none),(56,.box [.v (.int .i64 g),.own 560,.v (.int .i64 kd),.v (.int .i64 hd)] none)],M))
    (fun x=>x.1+x.2=8) (fun x=>x.1) (8,0) rfl (Ent.of ?_) ?_
  · simp only [zq,↓reduceIte,zx,zj,zy,zk,zw,zb,reduceCtorEq,zd,zf,zp,zm,zh,zu,zt,zn,zc,zl,za,ze,zo,zg,gen,List.map_nil]
  rintro ⟨f,j⟩ h1
  simp only at h1
  by_cases hj:j < 8
  · have c1:((j:Int) < 8)=True:=eq_true (by omega)
    have hgs:=gen_snoc ff j 0
    have hgl:=gen_len ff j 0
    rw [Int.zero_add] at hgs
    simp only [zz,zq,↓reduceIte,zx,zj,zy,zk,zw,zb,reduceCtorEq,zd,zf,zp,zm,zh,zu,zt,zn,zc,zl,za,ze,zo,zg,nzs,c1]
    refine CallK.pure ⟨rfl,rfl⟩ rfl (key g y kd hd j l M hy) ?_
    have hfj:ff (j:Int)=if (j:Int)=wh then ke else ky (j:Int) l:=by rw [← hff]
    by_cases hw:(j:Int)=wh
    · have c2:((j:Int)=wh)=True:=eq_true hw
      rw [if_pos hw] at hfj
      by_cases hp:0 < ke
      · have c3:(0 < ke)=True:=eq_true hp
        rw [hfj,if_pos hp] at hgs
        simp only [zz,zq,↓reduceIte,zx,zj,zy,zk,zw,zb,reduceCtorEq,zd,zf,zp,zm,zh,zu,zt,zn,zc,zl,za,ze,zo,zg,nzs,c2,c3,inK,lo,hi,List.length_map]
        refine ⟨⟨by omega,by omega⟩,by omega,(f - 1,j+1),⟨by simp only; omega,by simp only; omega⟩,Ent.rekeyB 56 1 280 70 2 _ rfl rfl rfl rfl rfl (Ent.of ?_)⟩
        simp only [zz,zq,↓reduceIte,zx,zj,zy,zk,zw,zb,reduceCtorEq,zd,zf,zp,zm,zh,zu,zt,zn,zc,zl,za,ze,zo,zg,nzs,hgs,List.map_append,List.map_cons,List.map_nil,encR,Int.natCast_add]
      · have c3:(0 < ke)=False:=eq_false hp
        rw [hfj,if_neg hp,List.append_nil] at hgs
        simp only [zz,zq,↓reduceIte,zx,zj,zy,zk,zw,zb,reduceCtorEq,zd,zf,zp,zm,zh,zu,zt,zn,zc,zl,za,ze,zo,zg,nzs,c2,c3,inK,lo,hi,List.length_map]
        refine ⟨by omega,(f - 1,j+1),⟨by simp only; omega,by simp only; omega⟩,Ent.of ?_⟩
        simp only [zq,↓reduceIte,zx,zj,zy,zk,zw,zb,reduceCtorEq,zd,zf,zp,zm,zh,zu,zt,zn,zc,zl,za,ze,zo,zg,hgs,Int.natCast_add]
    · have c2:((j:Int)=wh)=False:=eq_false hw
      rw [if_neg hw] at hfj
      by_cases hp:0 < ky j l
      · have c3:(0 < ky j l)=True:=eq_true hp
        rw [hfj,if_pos hp] at hgs
        simp only [zz,zq,↓reduceIte,zx,zj,zy,zk,zw,zb,reduceCtorEq,zd,zf,zp,zm,zh,zu,zt,zn,zc,zl,za,ze,zo,zg,nzs,c2,c3,inK,lo,hi,List.length_map]
        refine ⟨⟨by omega,by omega⟩,by omega,(f - 1,j+1),⟨by simp only; omega,by simp only; omega⟩,Ent.rekeyB 56 1 280 70 2 _ rfl rfl rfl rfl rfl (Ent.of ?_)⟩
        simp only [zz,zq,↓reduceIte,zx,zj,zy,zk,zw,zb,reduceCtorEq,zd,zf,zp,zm,zh,zu,zt,zn,zc,zl,za,ze,zo,zg,nzs,hgs,List.map_append,List.map_cons,List.map_nil,encR,Int.natCast_add]
      · have c3:(0 < ky j l)=False:=eq_false hp
        rw [hfj,if_neg hp,List.append_nil] at hgs
        simp only [zz,zq,↓reduceIte,zx,zj,zy,zk,zw,zb,reduceCtorEq,zd,zf,zp,zm,zh,zu,zt,zn,zc,zl,za,ze,zo,zg,nzs,c2,c3,inK,lo,hi,List.length_map]
        refine ⟨by omega,(f - 1,j+1),⟨by simp only; omega,by simp only; omega⟩,Ent.of ?_⟩
        simp only [zq,↓reduceIte,zx,zj,zy,zk,zw,zb,reduceCtorEq,zd,zf,zp,zm,zh,zu,zt,zn,zc,zl,za,ze,zo,zg,hgs,Int.natCast_add]
  · have c1:((j:Int) < 8)=False:=eq_false (by omega)
    have ej:j=8:=by omega
    subst ej
    rw [← hkr]
    have hlen:(((kr l wh ke).length:Int)=0)=(kr l wh ke=[]):=by
      apply propext
      rw [← List.length_eq_zero_iff]
      omega
    have hF:kF l kd hd wh ke=((allB kd && decide (kr l wh ke=[])) || (!allB kd && (hasB l kd hd wh && decide (ke=0)))):=rfl
    simp only [zz,zq,↓reduceIte,zx,zj,zy,zk,zw,zb,reduceCtorEq,zd,zf,zp,zm,zh,zu,zt,zn,zc,zl,za,ze,zo,zg,nzs,c1]
    refine CallK.pure ⟨rfl,rfl⟩ rfl (shared kd M) ?_
    cases hA:allB kd with
    | true=>
      rw [hA] at hF
      simp only [Bool.true_and,Bool.not_true,Bool.false_and,Bool.or_false] at hF
      by_cases hE:kr l wh ke=[]
      · rw [hF,decide_eq_true hE]
        have c2:=hlen.trans (eq_true hE)
        simp only [zz,zq,↓reduceIte,zx,zj,zy,zk,zw,zb,reduceCtorEq,zd,zf,zp,zm,zh,zu,zt,zn,zc,zl,za,ze,zo,zg,nzs,List.length_map,c2]
        exact ⟨560,rfl,rfl⟩
      · rw [hF,decide_eq_false hE]
        have c2:=hlen.trans (eq_false hE)
        simp only [zz,zq,↓reduceIte,zx,zj,zy,zk,zw,zb,reduceCtorEq,zd,zf,zp,zm,zh,zu,zt,zn,zc,zl,za,ze,zo,zg,nzs,List.length_map,c2]
        refine CallK.pure ⟨rfl,rfl⟩ rfl (shared kd M) ?_
        simp only [zz,zq,↓reduceIte,zx,zj,zy,zk,zw,zb,reduceCtorEq,zd,zf,zp,zm,zh,zu,zt,zn,zc,zl,za,ze,zo,zg,nzs,hA]
        exact ⟨560,rfl,rfl⟩
    | false=>
      rw [hA] at hF
      simp only [Bool.false_and,Bool.not_false,Bool.true_and,Bool.false_or] at hF
      simp only [zz,zq,↓reduceIte,zx,zj,zy,zk,zw,zb,reduceCtorEq,zd,zf,zp,zm,zh,zu,zt,zn,zc,zl,za,ze,zo,zg,nzs]
      refine CallK.pure ⟨rfl,rfl⟩ rfl (shared kd M) ?_
      simp only [zz,zq,↓reduceIte,zx,zj,zy,zk,zw,zb,reduceCtorEq,zd,zf,zp,zm,zh,zu,zt,zn,zc,zl,za,ze,zo,zg,nzs,hA]
      refine CallK.pure ⟨rfl,rfl⟩ rfl (rhas g y kd hd wh l M hy hl hk) ?_
      cases hH:hasB l kd hd wh with
      | false=>
        rw [hH,Bool.false_and] at hF
        rw [hF]
        simp only [zz,zq,↓reduceIte,zx,zj,zy,zk,zw,zb,reduceCtorEq,zd,zf,zp,zm,zh,zu,zt,zn,zc,zl,za,ze,zo,zg,nzs]
        exact ⟨560,rfl,rfl⟩
      | true=>
        rw [hH,Bool.true_and] at hF
        rw [hF]
        by_cases hz:ke=0
        · have c2:(ke=0)=True:=eq_true hz
          simp only [zz,zq,↓reduceIte,zx,zj,zy,zk,zw,zb,reduceCtorEq,zd,zf,zp,zm,zh,zu,zt,zn,zc,zl,za,ze,zo,zg,nzs,c2,decide_true]
          exact ⟨560,rfl,rfl⟩
        · have c2:(ke=0)=False:=eq_false hz
          simp only [zz,zq,↓reduceIte,zx,zj,zy,zk,zw,zb,reduceCtorEq,zd,zf,zp,zm,zh,zu,zt,zn,zc,zl,za,ze,zo,zg,nzs,c2,decide_false]
          exact ⟨560,rfl,rfl⟩
end Go.X.Rv

