/- Who may read and write: what the functions of package resv and woolref return. Conditions: none. -/
import Derived.Test.YtoohifeidifocaaGreatDoorMg5
open Nat renaming reduceAdd→zx,reduceMul→zj,reduceDiv→zy,reduceEqDiff→zk,reduceLT→zw,reduceLeDiff→zb,reduceBEq→zg
open Int renaming reduceEq→zd,reduceNe→zf,reduceLT→zp,reduceLE→zm,reduceAdd→zh,reduceSub→zu,reduceMul→zt,reduceNeg→zn,reduceToNat→zc,cast_ofNat_Int→zl,natCast_zero→za,natCast_one→ze,toNat_natCast→zo
namespace Go.X.Rp
end Go.X.Rp
set_option linter.unusedSimpArgs false
set_option linter.unusedVariables false
set_option maxHeartbeats 4000000
set_option maxRecDepth 20000
namespace Go.X.Rv
open Go Go.X Go.X.Rp

def encR (x:Int×Int):List Value:=[.int .i64 x.1,.int .i64 x.2]
/-- where a hand stands, or -1 -/
def fi (w:Int):List (Int×Int)→Nat→Int
  | [],_=>-1
  | x :: l,i=>if x.1=w then (i:Int) else fi w l (i+1)
def resvV (g:Int) (y:Value) (k h:Int):SV:=.agg [.v (.int .i64 g),.v y,.v (.int .i64 k),.v (.int .i64 h)]

theorem nz:(((1:Nat)≠0)=True)∧(((2:Nat)≠0)=True)∧(((3:Nat)≠0)=True)∧(((4:Nat)≠0)=True):=by simp

theorem find (g:Int) (y:Value) (kd hd w:Int) (l:List (Int×Int)) (M:Mem) (hy:RowM M y 2 (l.map encR)) :
    Meets Proofs.Tryz.prog 62 [resvV g y kd hd,.v (.int .i64 w)] M fun r _ _=>r = .v (.int .i64 (fi w l 0)):=by
  refine Meets.of_body [0,1,2,3,4] Proofs.Tryz.func62 rfl (by kernel_rfl) rfl fun w0=>?_
  generalize hc:fi w l 0=c
  have hyl:=hy.len_le
  rw [List.length_map] at hyl
  simp only [Proofs.Tryz.f62,resvV,zz,zq,↓reduceIte,zx,zj,zy,zk,zw,zb,reduceCtorEq,zd,zf,zp,zm,zh,zu,zt,zn,zc,zl,za,ze,zo,zg,nz]
  refine stepK.mkFn rfl rfl ?_
  simp only [zz,zq,↓reduceIte,zx,zj,zy,zk,zw,zb,reduceCtorEq,zd,zf,zp,zm,zh,zu,zt,zn,zc,zl,za,ze,zo,zg]
  refine CallK.lendB 8000 [0,1,4,5,7,8,9,16] Proofs.Tryz.func100 rfl (by kernel_rfl) rfl rfl fun xs=>?_
  simp only [Proofs.Tryz.f100,sd2,sd3,zz,zq,↓reduceIte,zx,zj,zy,zk,zw,zb,reduceCtorEq,zd,zf,zp,zm,zh,zu,zt,zn,zc,zl,za,ze,zo,zg,hy.len,hy.sl,List.length_map]
  refine LoopK.go (X:=Nat×Nat) (fun x=>([(0,true,.v y),(1,true,.fn 101 [.ptr 8024 0 0 0]),(7,true,.v (.int .i64 l.length)),(8,true,.v (.int .i64 x.2))],
      [(8024,.box [.v (.int .i64 w)] (some (xs 24))),(8016,.box [.v (.int .i64 g),.v y,.v (.int .i64 kd),.v (.int .i64 hd)] (some (xs 16)))],M))
    (fun x=>x.1+x.2=l.length∧fi w (l.drop x.2) x.2=c) (fun x=>x.1) (l.length,0) ⟨rfl,hc⟩ (Ent.of ?_) ?_
  · simp only [zq,↓reduceIte,zx,zj,zy,zk,zw,zb,reduceCtorEq,zd,zf,zp,zm,zh,zu,zt,zn,zc,zl,za,ze,zo,zg]
  rintro ⟨f,i⟩ ⟨h1,h2⟩
  simp only at h1 h2
  by_cases hil:i < l.length
  · have c1:((i:Int) < (l.length:Int))=True:=eq_true (by omega)
    obtain ⟨⟨a,b⟩,hx,hd'⟩:=drop_at (l:=l) (i:=i) hil
    rw [hd'] at h2
    simp only [fi] at h2
    have g0:=hy.cell (i:=i) (e:=[.int .i64 a,.int .i64 b]) (by rw [List.getElem?_map,hx]; rfl) (off:=0) (by omega)
    have g1:=hy.cell (i:=i) (e:=[.int .i64 a,.int .i64 b]) (by rw [List.getElem?_map,hx]; rfl) (off:=1) (by omega)
    have i0:=hy.ix (i:=(i:Int)) (by omega) (by rw [List.length_map]; omega)
    simp only [List.getD_cons_zero,List.getD_cons_succ] at g0 g1
    simp only [zz,zq,↓reduceIte,zx,zj,zy,zk,zw,zb,reduceCtorEq,zd,zf,zp,zm,zh,zu,zt,zn,zc,zl,za,ze,zo,zg,c1,hy.len,hy.sl,List.length_map,i0,g0.1,g1.1,g0.2.1,g1.2.1,i0.2,nz]
    refine CallK.lendB 8000 [0,1,2,3] Proofs.Tryz.func101 rfl (by kernel_rfl) rfl rfl fun ys=>?_
    simp only [Proofs.Tryz.f101,sd2,sd3,zz,zq,↓reduceIte,zx,zj,zy,zk,zw,zb,reduceCtorEq,zd,zf,zp,zm,zh,zu,zt,zn,zc,zl,za,ze,zo,zg,nz,inK,lo,hi]
    refine ⟨fun h=>?_,fun h=>?_⟩
    · rw [if_pos h] at h2
      rw [h2]
    · rw [if_neg h] at h2
      refine ⟨by omega,(f - 1,i+1),⟨⟨by simp only; omega,h2⟩,by simp only; omega⟩,Ent.of ?_⟩
      simp only [zq,↓reduceIte,zx,zj,zy,zk,zw,zb,reduceCtorEq,zd,zf,zp,zm,zh,zu,zt,zn,zc,zl,za,ze,zo,zg,Int.natCast_add]
  · have c1:((i:Int) < (l.length:Int))=False:=eq_false (by omega)
    have hd':l.drop i=[]:=List.drop_eq_nil_of_le (by omega)
    rw [hd'] at h2
    simp only [fi] at h2
    subst h2
    simp only [sd2,sd3,zz,zq,↓reduceIte,zx,zj,zy,zk,zw,zb,reduceCtorEq,zd,zf,zp,zm,zh,zu,zt,zn,zc,zl,za,ze,zo,zg,c1]

def whoB (n:Int):Bool:=decide (0≤n) && decide (n≤7)
def allB (k:Int):Bool:=decide (k=7) || decide (k=8)
def kindB (k:Int):Bool:=decide (k=1) || decide (k=3) || (decide (5≤k) && decide (k≤8))
theorem who (n:Int) (M:Mem):Meets Proofs.Tryz.prog 60 [.v (.int .i64 n)] M fun r _ _=>r = .v (.bool (whoB n)):=by
  refine Meets.of_body [0,2] Proofs.Tryz.func60 rfl (by kernel_rfl) rfl fun w=>?_
  simp only [Proofs.Tryz.f60,zz,zq,↓reduceIte,zx,zj,zy,zk,zw,zb,reduceCtorEq,zd,zf,zp,zm,zh,zu,zt,zn,zc,zl,za,ze,zo,zg,whoB]
theorem all (k:Int) (M:Mem):Meets Proofs.Tryz.prog 93 [.v (.int .i64 k)] M fun r _ _=>r = .v (.bool (allB k)):=by
  refine Meets.of_body [0,2] Proofs.Tryz.func93 rfl (by kernel_rfl) rfl fun w=>?_
  simp only [Proofs.Tryz.f93,zz,zq,↓reduceIte,zx,zj,zy,zk,zw,zb,reduceCtorEq,zd,zf,zp,zm,zh,zu,zt,zn,zc,zl,za,ze,zo,zg,allB]
theorem shared (k:Int) (M:Mem):Meets Proofs.Tryz.prog 51 [.v (.int .i64 k)] M fun r _ _=>r = .v (.bool (allB k)):=by
  refine Meets.of_body [0,2] Proofs.Tryz.func51 rfl (by kernel_rfl) rfl fun w=>?_
  simp only [Proofs.Tryz.f51,zz,zq,↓reduceIte,zx,zj,zy,zk,zw,zb,reduceCtorEq,zd,zf,zp,zm,zh,zu,zt,zn,zc,zl,za,ze,zo,zg,allB]
theorem kind (k:Int) (M:Mem):Meets Proofs.Tryz.prog 92 [.v (.int .i64 k)] M fun r _ _=>r = .v (.bool (kindB k)):=by
  refine Meets.of_body [0,2] Proofs.Tryz.func92 rfl (by kernel_rfl) rfl fun w=>?_
  simp only [Proofs.Tryz.f92,zz,zq,↓reduceIte,zx,zj,zy,zk,zw,zb,reduceCtorEq,zd,zf,zp,zm,zh,zu,zt,zn,zc,zl,za,ze,zo,zg,kindB]
  exact fun h=>⟨h,fun h5=>⟨h,h5⟩⟩

/-- where a number stands, or -1 -/
def ix (k:Int):List Int→Nat→Int
  | [],_=>-1
  | x :: l,i=>if k=x then (i:Int) else ix k l (i+1)
theorem index (y:Value) (l:List Int) (k:Int) (M:Mem) (hy:RowM M y 1 (l.map encI)) :
    Meets Proofs.Tryz.prog 99 [.v y,.v (.int .i64 k)] M fun r _ _=>r = .v (.int .i64 (ix k l 0)):=by
  refine Meets.of_body [0,1,4,5,7,8,9,16] Proofs.Tryz.func99 rfl (by kernel_rfl) rfl fun w=>?_
  generalize hc:ix k l 0=c
  have hyl:=hy.len_le
  rw [List.length_map] at hyl
  simp only [Proofs.Tryz.f99,zz,zq,↓reduceIte,zx,zj,zy,zk,zw,zb,reduceCtorEq,zd,zf,zp,zm,zh,zu,zt,zn,zc,zl,za,ze,zo,zg,hy.len,hy.sl,List.length_map]
  refine LoopK.go (X:=Nat×Nat) (fun x=>([(0,true,.v y),(1,true,.v (.int .i64 k)),(7,true,.v (.int .i64 l.length)),(8,true,.v (.int .i64 x.2))],[],M))
    (fun x=>x.1+x.2=l.length∧ix k (l.drop x.2) x.2=c) (fun x=>x.1) (l.length,0) ⟨rfl,hc⟩ (Ent.of ?_) ?_
  · simp only [zq,↓reduceIte,zx,zj,zy,zk,zw,zb,reduceCtorEq,zd,zf,zp,zm,zh,zu,zt,zn,zc,zl,za,ze,zo,zg]
  rintro ⟨f,i⟩ ⟨h1,h2⟩
  simp only at h1 h2
  simp only [zz,zq,↓reduceIte,zx,zj,zy,zk,zw,zb,reduceCtorEq,zd,zf,zp,zm,zh,zu,zt,zn,zc,zl,za,ze,zo,zg]
  refine ⟨fun h3=>?_,fun h3=>?_⟩
  · obtain ⟨x,hx,hd⟩:=drop_at (l:=l) (i:=i) (by omega)
    have g1:=hy.el1 hx rfl
    have i1:=hy.ix (i:=(i:Int)) (by omega) (by rw [List.length_map]; omega)
    rw [hd] at h2
    simp only [ix] at h2
    simp only [zz,zq,↓reduceIte,zx,zj,zy,zk,zw,zb,reduceCtorEq,zd,zf,zp,zm,zh,zu,zt,zn,zc,zl,za,ze,zo,zg,g1.1,inK,lo,hi]
    refine ⟨i1,g1.2,fun h4=>?_,fun h4=>⟨by omega,(f - 1,i+1),⟨⟨by simp only; omega,by simp only; rw [if_neg h4] at h2; exact h2⟩,by simp only; omega⟩,Ent.of ?_⟩⟩
    · rw [if_pos h4] at h2
      rw [h2]
    · simp only [zq,↓reduceIte,zx,zj,zy,zk,zw,zb,reduceCtorEq,zd,zf,zp,zm,zh,zu,zt,zn,zc,zl,za,ze,zo,zg,Int.natCast_add]
  · have hd:l.drop i=[]:=List.drop_eq_nil_of_le (by omega)
    rw [hd] at h2
    simp only [ix] at h2
    rw [h2]
theorem contains (y:Value) (l:List Int) (k:Int) (M:Mem) (hy:RowM M y 1 (l.map encI)) :
    Meets Proofs.Tryz.prog 52 [.v y,.v (.int .i64 k)] M fun r _ _=>r = .v (.bool (decide (0≤ix k l 0))):=by
  refine Meets.of_body [0,1,4] Proofs.Tryz.func52 rfl (by kernel_rfl) rfl fun w=>?_
  simp only [Proofs.Tryz.f52,zz,zq,↓reduceIte,zx,zj,zy,zk,zw,zb,reduceCtorEq,zd,zf,zp,zm,zh,zu,zt,zn,zc,zl,za,ze,zo,zg]
  refine CallK.pure ⟨rfl,rfl⟩ rfl (index y l k M hy) ?_
  simp only [zz,zq,↓reduceIte,zx,zj,zy,zk,zw,zb,reduceCtorEq,zd,zf,zp,zm,zh,zu,zt,zn,zc,zl,za,ze,zo,zg]
theorem ix_kind (k:Int):decide (0≤ix k [1,3,5,6,7,8] 0)=kindB k:=by
  by_cases h1:k=1
  · subst h1; decide
  by_cases h2:k=3
  · subst h2; decide
  by_cases h3:k=5
  · subst h3; decide
  by_cases h4:k=6
  · subst h4; decide
  by_cases h5:k=7
  · subst h5; decide
  by_cases h6:k=8
  · subst h6; decide
  have e:ix k [1,3,5,6,7,8] 0 = -1:=by simp only [ix,if_neg h1,if_neg h2,if_neg h3,if_neg h4,if_neg h5,if_neg h6]
  rw [e]
  unfold kindB
  rw [decide_eq_false h1,decide_eq_false h2]
  by_cases h7:5≤k
  · rw [decide_eq_false (show ¬ k≤8 by omega)]; simp
  · rw [decide_eq_false h7]; simp
theorem rkind (k:Int) (M:Mem):Meets Proofs.Tryz.prog 48 [.v (.int .i64 k)] M fun r _ _=>r = .v (.bool (kindB k)):=by
  refine Meets.of_body [0,2] Proofs.Tryz.func48 rfl (by kernel_rfl) rfl fun w=>?_
  simp only [Proofs.Tryz.f48,zz,zq,↓reduceIte,zx,zj,zy,zk,zw,zb,reduceCtorEq,zd,zf,zp,zm,zh,zu,zt,zn,zc,zl,za,ze,zo,zg]
  refine CallK.lend (k:=24) rfl rfl rfl (fun _=>rfl) (fun v2 M2 _ hv2=>contains v2 [1,3,5,6,7,8] k M2 hv2) ?_
  simp only [zz,zq,↓reduceIte,zx,zj,zy,zk,zw,zb,reduceCtorEq,zd,zf,zp,zm,zh,zu,zt,zn,zc,zl,za,ze,zo,zg,ix_kind]

/-- a hand's key, or 0 -/
def ky (w:Int):List (Int×Int)→Int
  | []=>0
  | x :: l=>if x.1=w then x.2 else ky w l
theorem key (g:Int) (y:Value) (kd hd w:Int) (l:List (Int×Int)) (M:Mem) (hy:RowM M y 2 (l.map encR)) :
    Meets Proofs.Tryz.prog 46 [resvV g y kd hd,.v (.int .i64 w)] M fun r _ _=>r = .v (.int .i64 (ky w l)):=by
  refine Meets.of_body [0,1,2,4,6,8,9,10,11,17] Proofs.Tryz.func46 rfl (by kernel_rfl) rfl fun w0=>?_
  generalize hc:ky w l=c
  have hyl:=hy.len_le
  rw [List.length_map] at hyl
  simp only [Proofs.Tryz.f46,resvV,zz,zq,↓reduceIte,zx,zj,zy,zk,zw,zb,reduceCtorEq,zd,zf,zp,zm,zh,zu,zt,zn,zc,zl,za,ze,zo,zg,nz,hy.len,hy.sl,List.length_map]
  refine LoopK.go (X:=Nat×Nat) (fun x=>([(1,true,.v (.int .i64 w)),(8,true,.v y),(9,true,.v (.int .i64 l.length)),(10,true,.v (.int .i64 x.2))],[],M))
    (fun x=>x.1+x.2=l.length∧ky w (l.drop x.2)=c) (fun x=>x.1) (l.length,0) ⟨rfl,hc⟩ (Ent.of ?_) ?_
  · simp only [zq,↓reduceIte,zx,zj,zy,zk,zw,zb,reduceCtorEq,zd,zf,zp,zm,zh,zu,zt,zn,zc,zl,za,ze,zo,zg]
  rintro ⟨f,i⟩ ⟨h1,h2⟩
  simp only at h1 h2
  by_cases hil:i < l.length
  · have c1:((i:Int) < (l.length:Int))=True:=eq_true (by omega)
    obtain ⟨⟨a,b⟩,hx,hd'⟩:=drop_at (l:=l) (i:=i) hil
    rw [hd'] at h2
    simp only [ky] at h2
    have g0:=hy.cell (i:=i) (e:=[.int .i64 a,.int .i64 b]) (by rw [List.getElem?_map,hx]; rfl) (off:=0) (by omega)
    have g1:=hy.cell (i:=i) (e:=[.int .i64 a,.int .i64 b]) (by rw [List.getElem?_map,hx]; rfl) (off:=1) (by omega)
    have i0:=hy.ix (i:=(i:Int)) (by omega) (by rw [List.length_map]; omega)
    simp only [List.getD_cons_zero,List.getD_cons_succ] at g0 g1
    simp only [zz,zq,↓reduceIte,zx,zj,zy,zk,zw,zb,reduceCtorEq,zd,zf,zp,zm,zh,zu,zt,zn,zc,zl,za,ze,zo,zg,c1,hy.len,hy.sl,List.length_map,i0,g0.1,g1.1,g0.2.1,g1.2.1,i0.2,nz,inK,lo,hi]
    refine ⟨fun _=>trivial,fun h=>?_,fun h=>⟨by omega,(f - 1,i+1),⟨⟨by simp only; omega,by simp only; rw [if_neg h] at h2; exact h2⟩,by simp only; omega⟩,Ent.of ?_⟩⟩
    · rw [if_pos h] at h2
      rw [h2]
    · simp only [zq,↓reduceIte,zx,zj,zy,zk,zw,zb,reduceCtorEq,zd,zf,zp,zm,zh,zu,zt,zn,zc,zl,za,ze,zo,zg,Int.natCast_add]
  · have c1:((i:Int) < (l.length:Int))=False:=eq_false (by omega)
    have hd':l.drop i=[]:=List.drop_eq_nil_of_le (by omega)
    rw [hd'] at h2
    simp only [ky] at h2
    simp only [zz,zq,↓reduceIte,zx,zj,zy,zk,zw,zb,reduceCtorEq,zd,zf,zp,zm,zh,zu,zt,zn,zc,zl,za,ze,zo,zg,c1]
    rw [h2]

/-- what is wrong with those who are registered -/
def ck:List (Int×Int)→Int→Int
  | [],_=>0
  | x :: l,last=>if ¬ (0≤x.1∧x.1≤7)∨(x.2 < 1∨1000 < x.2) then 1 else if x.1≤last then 3 else ck l x.1
def kE (l:List (Int×Int)) (k h:Int):Int:=
  if k=0∨allB k=true then (if h≠0∨(allB k=true∧l=[]) then 3 else 0) else if kindB k=false then 1 else if fi h l 0 < 0 then 3 else 0
def resvE (g:Int) (l:List (Int×Int)) (k h:Int):Int:=if g < 0∨2147483647 < g then 1 else if ck l (-1)≠0 then ck l (-1) else kE l k h
theorem allB0:allB 0=false:=rfl

theorem check (g:Int) (y:Value) (kd hd:Int) (l:List (Int×Int)) (M:Mem) (hy:RowM M y 2 (l.map encR)) :
    Meets Proofs.Tryz.prog 59 [resvV g y kd hd] M fun r _ _=>r = .v (.int .i64 (resvE g l kd hd)):=by
  refine Meets.of_body [0,1,2,3,4,12,14,15,16,17,34,48,50,72,73,78] Proofs.Tryz.func59 rfl (by kernel_rfl) rfl fun w0=>?_
  generalize hc:resvE g l kd hd=c
  have hyl:=hy.len_le
  rw [List.length_map] at hyl
  by_cases hg:g < 0∨2147483647 < g
  · rw [resvE,if_pos hg] at hc
    subst hc
    simp only [Proofs.Tryz.f59,resvV,zz,zq,↓reduceIte,zx,zj,zy,zk,zw,zb,reduceCtorEq,zd,zf,zp,zm,zh,zu,zt,zn,zc,zl,za,ze,zo,zg,nz,hy.len,hy.sl,List.length_map]
    exact fun h=>by omega
  rw [resvE,if_neg hg] at hc
  have c1:(g < 0)=False:=eq_false (by omega)
  have c2:(2147483647 < g)=False:=eq_false (by omega)
  simp only [Proofs.Tryz.f59,resvV,zz,zq,↓reduceIte,zx,zj,zy,zk,zw,zb,reduceCtorEq,zd,zf,zp,zm,zh,zu,zt,zn,zc,zl,za,ze,zo,zg,nz,hy.len,hy.sl,List.length_map,c1,c2]
  generalize hck:ck l (-1)=e0 at hc
  refine LoopK.go (X:=Nat×Nat×Int) (fun x=>([(1,true,.ptr 8 0 0 0),(14,true,.v y),(15,true,.v (.int .i64 l.length)),(16,true,.v (.int .i64 x.2.1))],[(8,.box [.v (.int .i64 g),.v y,.v (.int .i64 kd),.v (.int .i64 hd)] none)],M))
    (fun x=>(x.1+x.2.1=l.length∧((x.2.1=0∧x.2.2 = -1)∨(0 < x.2.1 ∧ ∃ b,l[x.2.1 - 1]? = some (x.2.2,b))))∧ck (l.drop x.2.1) x.2.2=e0) (fun x=>x.1) (l.length,0,-1) ⟨⟨rfl,.inl ⟨rfl,rfl⟩⟩,hck⟩ (Ent.of ?_) ?_
  · simp only [zq,↓reduceIte,zx,zj,zy,zk,zw,zb,reduceCtorEq,zd,zf,zp,zm,zh,zu,zt,zn,zc,zl,za,ze,zo,zg]
  rintro ⟨f,i,last⟩ ⟨⟨h1,h3⟩,h2⟩
  simp only at h1 h2 h3
  by_cases hil:i < l.length
  · have d1:((i:Int) < (l.length:Int))=True:=eq_true (by omega)
    obtain ⟨⟨a,b⟩,hx,hd'⟩:=drop_at (l:=l) (i:=i) hil
    rw [hd'] at h2
    simp only [ck] at h2
    have g0:=hy.cell (i:=i) (e:=[.int .i64 a,.int .i64 b]) (by rw [List.getElem?_map,hx]; rfl) (off:=0) (by omega)
    have g1:=hy.cell (i:=i) (e:=[.int .i64 a,.int .i64 b]) (by rw [List.getElem?_map,hx]; rfl) (off:=1) (by omega)
    have i0:=hy.ix (i:=(i:Int)) (by omega) (by rw [List.length_map]; omega)
    simp only [List.getD_cons_zero,List.getD_cons_succ] at g0 g1
    simp only [zz,zq,↓reduceIte,zx,zj,zy,zk,zw,zb,reduceCtorEq,zd,zf,zp,zm,zh,zu,zt,zn,zc,zl,za,ze,zo,zg,d1,hy.len,hy.sl,List.length_map,i0,g0.1,g1.1,g0.2.1,g1.2.1,i0.2,nz,inK,lo,hi]
    refine ⟨fun _=>trivial,CallK.pure ⟨rfl,rfl⟩ rfl (who a M) ?_⟩
    by_cases hw : ¬ (0≤a∧a≤7)∨(b < 1∨1000 < b)
    · rw [if_pos hw] at h2
      subst h2
      rw [if_pos (by decide)] at hc
      subst hc
      simp only [zz,zq,↓reduceIte,zx,zj,zy,zk,zw,zb,reduceCtorEq,zd,zf,zp,zm,zh,zu,zt,zn,zc,zl,za,ze,zo,zg,nz,whoB]
      exact fun h=>by omega
    · rw [if_neg hw] at h2
      have hwB:whoB a=true:=by unfold whoB; rw [decide_eq_true (by omega),decide_eq_true (by omega)]; rfl
      have d2:(b < 1)=False:=eq_false (by omega)
      have d3:(1000 < b)=False:=eq_false (by omega)
      simp only [zz,zq,↓reduceIte,zx,zj,zy,zk,zw,zb,reduceCtorEq,zd,zf,zp,zm,zh,zu,zt,zn,zc,zl,za,ze,zo,zg,nz,hwB,d2,d3]
      refine DrawK.quiet (by kernel_rfl) (by kernel_rfl) ?_
      rcases h3 with ⟨rfl,rfl⟩ | ⟨h3,b',h4⟩
      · rw [if_neg (by omega)] at h2
        simp only [zz,zq,↓reduceIte,zx,zj,zy,zk,zw,zb,reduceCtorEq,zd,zf,zp,zm,zh,zu,zt,zn,zc,zl,za,ze,zo,zg,nz,hy.len,hy.sl,List.length_map,inK,lo,hi]
        refine ⟨(f - 1,1,a),⟨⟨⟨by simp only; omega,.inr ⟨by simp,b,by simpa using hx⟩⟩,h2⟩,by simp only; omega⟩,Ent.of ?_⟩
        simp only [zq,↓reduceIte,zx,zj,zy,zk,zw,zb,reduceCtorEq,zd,zf,zp,zm,zh,zu,zt,zn,zc,zl,za,ze,zo,zg]
      · have d4:(0 < (i:Int))=True:=eq_true (by omega)
        have e1:(i:Int) - 1=((i - 1:Nat):Int):=by omega
        have p0:=hy.cell (i:=i - 1) (e:=[.int .i64 last,.int .i64 b']) (by rw [List.getElem?_map,h4]; rfl) (off:=0) (by omega)
        have q0:=hy.ix (i:=((i - 1:Nat):Int)) (by omega) (by rw [List.length_map]; omega)
        simp only [List.getD_cons_zero,List.getD_cons_succ] at p0
        simp only [zz,zq,↓reduceIte,zx,zj,zy,zk,zw,zb,reduceCtorEq,zd,zf,zp,zm,zh,zu,zt,zn,zc,zl,za,ze,zo,zg,nz,d4,e1,hy.len,hy.sl,List.length_map,p0.1,p0.2.1,q0,q0.2,inK,lo,hi]
        refine ⟨by omega,fun h=>?_,fun h=>⟨by omega,(f - 1,i+1,a),⟨⟨⟨by simp only; omega,.inr ⟨by simp,b,by simpa using hx⟩⟩,by simp only; rw [if_neg (by omega)] at h2; exact h2⟩,by simp only; omega⟩,Ent.of ?_⟩⟩
        · rw [if_pos h] at h2
          subst h2
          rw [if_pos (by decide)] at hc
          rw [hc]
        · simp only [zq,↓reduceIte,zx,zj,zy,zk,zw,zb,reduceCtorEq,zd,zf,zp,zm,zh,zu,zt,zn,zc,zl,za,ze,zo,zg,Int.natCast_add]
  · have d1:((i:Int) < (l.length:Int))=False:=eq_false (by omega)
    have hd':l.drop i=[]:=List.drop_eq_nil_of_le (by omega)
    rw [hd'] at h2
    simp only [ck] at h2
    subst h2
    rw [if_neg (by decide)] at hc
    have hl0:((l.length:Int)=0)=(l=[]):=by
      apply propext
      rw [← List.length_eq_zero_iff]
      omega
    unfold kE at hc
    by_cases hk0:kd=0
    · subst hk0
      rw [if_pos (.inl rfl)] at hc
      by_cases hh:hd=0
      · have d2:(hd=0)=True:=eq_true hh
        rw [if_neg (by simp [hh,allB0])] at hc
        subst hc
        simp only [zz,zq,↓reduceIte,zx,zj,zy,zk,zw,zb,reduceCtorEq,zd,zf,zp,zm,zh,zu,zt,zn,zc,zl,za,ze,zo,zg,nz,d1,d2]
        refine CallK.pure ⟨rfl,rfl⟩ rfl (all 0 M) ?_
        simp only [zz,zq,↓reduceIte,zx,zj,zy,zk,zw,zb,reduceCtorEq,zd,zf,zp,zm,zh,zu,zt,zn,zc,zl,za,ze,zo,zg,nz,allB0]
      · have d2:(hd=0)=False:=eq_false hh
        rw [if_pos (.inl hh)] at hc
        subst hc
        simp only [zz,zq,↓reduceIte,zx,zj,zy,zk,zw,zb,reduceCtorEq,zd,zf,zp,zm,zh,zu,zt,zn,zc,zl,za,ze,zo,zg,nz,d1,d2]
    · have d0:(kd=0)=False:=eq_false hk0
      simp only [zz,zq,↓reduceIte,zx,zj,zy,zk,zw,zb,reduceCtorEq,zd,zf,zp,zm,zh,zu,zt,zn,zc,zl,za,ze,zo,zg,nz,d1,d0]
      refine CallK.pure ⟨rfl,rfl⟩ rfl (all kd M) ?_
      cases hA:allB kd with
      | true=>
        rw [if_pos (.inr hA)] at hc
        by_cases hh:hd=0
        · have d2:(hd=0)=True:=eq_true hh
          simp only [zz,zq,↓reduceIte,zx,zj,zy,zk,zw,zb,reduceCtorEq,zd,zf,zp,zm,zh,zu,zt,zn,zc,zl,za,ze,zo,zg,nz,d2]
          refine CallK.pure ⟨rfl,rfl⟩ rfl (all kd M) ?_
          simp only [zz,zq,↓reduceIte,zx,zj,zy,zk,zw,zb,reduceCtorEq,zd,zf,zp,zm,zh,zu,zt,zn,zc,zl,za,ze,zo,zg,nz,hA,hy.len,hy.sl,List.length_map,hl0]
          exact ⟨fun h=>by rw [if_pos (.inr ⟨hA,h⟩)] at hc; rw [hc],fun h=>by rw [if_neg (by simp [hh,h])] at hc; rw [hc]⟩
        · have d2:(hd=0)=False:=eq_false hh
          rw [if_pos (.inl hh)] at hc
          subst hc
          simp only [zz,zq,↓reduceIte,zx,zj,zy,zk,zw,zb,reduceCtorEq,zd,zf,zp,zm,zh,zu,zt,zn,zc,zl,za,ze,zo,zg,nz,d2]
      | false=>
        rw [if_neg (by simp [hk0,hA])] at hc
        simp only [zz,zq,↓reduceIte,zx,zj,zy,zk,zw,zb,reduceCtorEq,zd,zf,zp,zm,zh,zu,zt,zn,zc,zl,za,ze,zo,zg,nz]
        refine CallK.pure ⟨rfl,rfl⟩ rfl (kind kd M) ?_
        cases hK:kindB kd with
        | false=>
          rw [if_pos hK] at hc
          subst hc
          simp only [zz,zq,↓reduceIte,zx,zj,zy,zk,zw,zb,reduceCtorEq,zd,zf,zp,zm,zh,zu,zt,zn,zc,zl,za,ze,zo,zg,nz]
        | true=>
          rw [if_neg (by simp [hK])] at hc
          simp only [zz,zq,↓reduceIte,zx,zj,zy,zk,zw,zb,reduceCtorEq,zd,zf,zp,zm,zh,zu,zt,zn,zc,zl,za,ze,zo,zg,nz]
          refine CallK.pure ⟨rfl,rfl⟩ rfl (find g y kd hd hd l M hy) ?_
          simp only [zz,zq,↓reduceIte,zx,zj,zy,zk,zw,zb,reduceCtorEq,zd,zf,zp,zm,zh,zu,zt,zn,zc,zl,za,ze,zo,zg,nz]
          refine ⟨fun h=>?_,fun h=>?_⟩
          · rw [if_pos h] at hc
            rw [hc]
          · rw [if_neg (by omega)] at hc
            rw [hc]
end Go.X.Rv

