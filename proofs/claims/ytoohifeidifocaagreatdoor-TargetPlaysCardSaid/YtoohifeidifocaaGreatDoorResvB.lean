/- Who may read and write: woolref.Resv, Has and May. Conditions: none. -/
import Derived.Test.YtoohifeidifocaaGreatDoorResv
open Nat renaming reduceAdd→zx,reduceMul→zj,reduceDiv→zy,reduceEqDiff→zk,reduceLT→zw,reduceLeDiff→zb,reduceBEq→zg
open Int renaming reduceEq→zd,reduceNe→zf,reduceLT→zp,reduceLE→zm,reduceAdd→zh,reduceSub→zu,reduceMul→zt,reduceNeg→zn,reduceToNat→zc,cast_ofNat_Int→zl,natCast_zero→za,natCast_one→ze,toNat_natCast→zo
namespace Go.X.Rp
end Go.X.Rp
set_option linter.unusedSimpArgs false
set_option linter.unusedVariables false
set_option maxHeartbeats 4000000
set_option maxRecDepth 20000
namespace Go.X.Rv
open Go Go.X Go.X.Rp

theorem ky_fi (w:Int) : ∀ (l:List (Int×Int)) (i:Nat),(∀ x ∈ l,1≤x.2)→((0 < ky w l)↔0≤fi w l i)
  | [],i,_=>by simp [ky,fi]
  | x :: l,i,h=>by
    simp only [ky,fi]
    split
    · have:=h x List.mem_cons_self
      constructor <;> intro _ <;> omega
    · exact ky_fi w l (i+1) (fun y hy=>h y (List.mem_cons_of_mem _ hy))
theorem ky_nn (w:Int) : ∀ (l:List (Int×Int)),(∀ x ∈ l,1≤x.2)→0≤ky w l
  | [],_=>Int.le_refl _
  | x :: l,h=>by
    simp only [ky]
    split
    · have:=h x List.mem_cons_self
      omega
    · exact ky_nn w l (fun y hy=>h y (List.mem_cons_of_mem _ hy))

/-- is the reservation a hand's? -/
def hasB (l:List (Int×Int)) (k h w:Int):Bool:=if allB k=true then decide (0≤fi w l 0) else (decide (k≠0) && decide (h=w))
theorem has (g:Int) (y:Value) (kd hd w:Int) (l:List (Int×Int)) (M:Mem) (hy:RowM M y 2 (l.map encR)) :
    Meets Proofs.Tryz.prog 61 [resvV g y kd hd,.v (.int .i64 w)] M fun r _ _=>r = .v (.bool (hasB l kd hd w)):=by
  refine Meets.of_body [0,1,2,4] Proofs.Tryz.func61 rfl (by kernel_rfl) rfl fun w0=>?_
  simp only [Proofs.Tryz.f61,resvV,zz,zq,↓reduceIte,zx,zj,zy,zk,zw,zb,reduceCtorEq,zd,zf,zp,zm,zh,zu,zt,zn,zc,zl,za,ze,zo,zg,nz]
  by_cases hk0:kd=0
  · subst hk0
    simp only [zz,zq,↓reduceIte,zx,zj,zy,zk,zw,zb,reduceCtorEq,zd,zf,zp,zm,zh,zu,zt,zn,zc,zl,za,ze,zo,zg,nz,hasB,allB0]
  · have d0:(kd=0)=False:=eq_false hk0
    simp only [zz,zq,↓reduceIte,zx,zj,zy,zk,zw,zb,reduceCtorEq,zd,zf,zp,zm,zh,zu,zt,zn,zc,zl,za,ze,zo,zg,nz,d0]
    refine CallK.pure ⟨rfl,rfl⟩ rfl (all kd M) ?_
    cases hA:allB kd with
    | true=>
      simp only [zz,zq,↓reduceIte,zx,zj,zy,zk,zw,zb,reduceCtorEq,zd,zf,zp,zm,zh,zu,zt,zn,zc,zl,za,ze,zo,zg,nz]
      refine CallK.pure ⟨rfl,rfl⟩ rfl (find g y kd hd w l M hy) ?_
      by_cases hf:0≤fi w l 0
      · have d1:(0≤fi w l 0)=True:=eq_true hf
        have d2:(fi w l 0 < 0)=False:=eq_false (by omega)
        simp only [zz,zq,↓reduceIte,zx,zj,zy,zk,zw,zb,reduceCtorEq,zd,zf,zp,zm,zh,zu,zt,zn,zc,zl,za,ze,zo,zg,nz,d1,d2,hasB,hA]
      · have d1:(0≤fi w l 0)=False:=eq_false hf
        have d2:(fi w l 0 < 0)=True:=eq_true (by omega)
        simp only [zz,zq,↓reduceIte,zx,zj,zy,zk,zw,zb,reduceCtorEq,zd,zf,zp,zm,zh,zu,zt,zn,zc,zl,za,ze,zo,zg,nz,d1,d2,hasB,hA]
        refine CallK.pure ⟨rfl,rfl⟩ rfl (all kd M) ?_
        simp only [zz,zq,↓reduceIte,zx,zj,zy,zk,zw,zb,reduceCtorEq,zd,zf,zp,zm,zh,zu,zt,zn,zc,zl,za,ze,zo,zg,nz,hA]
    | false=>
      simp only [zz,zq,↓reduceIte,zx,zj,zy,zk,zw,zb,reduceCtorEq,zd,zf,zp,zm,zh,zu,zt,zn,zc,zl,za,ze,zo,zg,nz]
      refine CallK.pure ⟨rfl,rfl⟩ rfl (all kd M) ?_
      have d3:decide (kd≠0)=true:=decide_eq_true hk0
      simp only [zz,zq,↓reduceIte,zx,zj,zy,zk,zw,zb,reduceCtorEq,zd,zf,zp,zm,zh,zu,zt,zn,zc,zl,za,ze,zo,zg,nz,hA,hasB,d3]
theorem rhas (g:Int) (y:Value) (kd hd w:Int) (l:List (Int×Int)) (M:Mem) (hy:RowM M y 2 (l.map encR)) (hl : ∀ x ∈ l,1≤x.2) (hk:0≤kd) :
    Meets Proofs.Tryz.prog 49 [resvV g y kd hd,.v (.int .i64 w)] M fun r _ _=>r = .v (.bool (hasB l kd hd w)):=by
  refine Meets.of_body [0,1,2,4,7] Proofs.Tryz.func49 rfl (by kernel_rfl) rfl fun w0=>?_
  have hkf:=ky_fi w l 0 hl
  simp only [Proofs.Tryz.f49,resvV,zz,zq,↓reduceIte,zx,zj,zy,zk,zw,zb,reduceCtorEq,zd,zf,zp,zm,zh,zu,zt,zn,zc,zl,za,ze,zo,zg,nz]
  refine CallK.pure ⟨rfl,rfl⟩ rfl (shared kd M) ?_
  cases hA:allB kd with
  | true=>
    simp only [zz,zq,↓reduceIte,zx,zj,zy,zk,zw,zb,reduceCtorEq,zd,zf,zp,zm,zh,zu,zt,zn,zc,zl,za,ze,zo,zg,nz]
    refine CallK.pure ⟨rfl,rfl⟩ rfl (key g y kd hd w l M hy) ?_
    simp only [zz,zq,↓reduceIte,zx,zj,zy,zk,zw,zb,reduceCtorEq,zd,zf,zp,zm,zh,zu,zt,zn,zc,zl,za,ze,zo,zg,nz,hasB,hA,hkf]
  | false=>
    have d1:(0 < kd)=(¬ kd=0):=by apply propext; omega
    simp only [zz,zq,↓reduceIte,zx,zj,zy,zk,zw,zb,reduceCtorEq,zd,zf,zp,zm,zh,zu,zt,zn,zc,zl,za,ze,zo,zg,nz,hasB,hA,d1,ne_eq]

/-- may it be done? -/
def mayB (l:List (Int×Int)) (k h w:Int) (wr:Bool):Bool:=
  if k=0 then true else if k=1 then (!wr || hasB l k h w) else if k=3 then hasB l k h w else if k=5∨k=7 then (!wr || decide (0≤fi w l 0)) else decide (0≤fi w l 0)
def mayE (g:Int) (l:List (Int×Int)) (k h w:Int):Int:=if resvE g l k h≠0 then resvE g l k h else if whoB w=true then 0 else 1
theorem may (g:Int) (y:Value) (kd hd w:Int) (wr:Bool) (l:List (Int×Int)) (M:Mem) (hy:RowM M y 2 (l.map encR)) :
    Meets Proofs.Tryz.prog 23 [resvV g y kd hd,.v (.int .i64 w),.v (.bool wr)] M fun r _ _=>r = .tup [.v (.bool (decide (mayE g l kd hd w=0) && mayB l kd hd w wr)),.v (.int .i64 (mayE g l kd hd w))]:=by
  refine Meets.of_body [0,1,2,3,6,7,8,12,16,18,19,21,30,35] Proofs.Tryz.func23 rfl (by kernel_rfl) rfl fun w0=>?_
  simp only [Proofs.Tryz.f23,resvV,zz,zq,↓reduceIte,zx,zj,zy,zk,zw,zb,reduceCtorEq,zd,zf,zp,zm,zh,zu,zt,zn,zc,zl,za,ze,zo,zg,nz]
  refine CallK.pure ⟨rfl,rfl⟩ rfl (check g y kd hd l M hy) ?_
  unfold mayE
  generalize resvE g l kd hd=e
  by_cases he:e=0
  · subst he
    rw [if_neg (by simp)]
    simp only [zz,zq,↓reduceIte,zx,zj,zy,zk,zw,zb,reduceCtorEq,zd,zf,zp,zm,zh,zu,zt,zn,zc,zl,za,ze,zo,zg,nz]
    refine CallK.pure ⟨rfl,rfl⟩ rfl (who w M) ?_
    cases hw:whoB w with
    | false=>simp only [zz,zq,↓reduceIte,zx,zj,zy,zk,zw,zb,reduceCtorEq,zd,zf,zp,zm,zh,zu,zt,zn,zc,zl,za,ze,zo,zg,nz]
    | true=>
      rw [if_pos rfl]
      by_cases h0:kd=0
      · subst h0
        simp only [zz,zq,↓reduceIte,zx,zj,zy,zk,zw,zb,reduceCtorEq,zd,zf,zp,zm,zh,zu,zt,zn,zc,zl,za,ze,zo,zg,nz,mayB]
      have d0:(kd=0)=False:=eq_false h0
      by_cases h1:kd=1
      · subst h1
        cases wr with
        | false=>simp only [zz,zq,↓reduceIte,zx,zj,zy,zk,zw,zb,reduceCtorEq,zd,zf,zp,zm,zh,zu,zt,zn,zc,zl,za,ze,zo,zg,nz,mayB]
        | true=>
          simp only [zz,zq,↓reduceIte,zx,zj,zy,zk,zw,zb,reduceCtorEq,zd,zf,zp,zm,zh,zu,zt,zn,zc,zl,za,ze,zo,zg,nz]
          refine CallK.pure ⟨rfl,rfl⟩ rfl (has g y 1 hd w l M hy) ?_
          simp only [zz,zq,↓reduceIte,zx,zj,zy,zk,zw,zb,reduceCtorEq,zd,zf,zp,zm,zh,zu,zt,zn,zc,zl,za,ze,zo,zg,nz,mayB]
      have d1:(kd=1)=False:=eq_false h1
      by_cases h3:kd=3
      · subst h3
        simp only [zz,zq,↓reduceIte,zx,zj,zy,zk,zw,zb,reduceCtorEq,zd,zf,zp,zm,zh,zu,zt,zn,zc,zl,za,ze,zo,zg,nz]
        refine CallK.pure ⟨rfl,rfl⟩ rfl (has g y 3 hd w l M hy) ?_
        simp only [zz,zq,↓reduceIte,zx,zj,zy,zk,zw,zb,reduceCtorEq,zd,zf,zp,zm,zh,zu,zt,zn,zc,zl,za,ze,zo,zg,nz,mayB]
      have d3:(kd=3)=False:=eq_false h3
      by_cases h5:kd=5∨kd=7
      · have hm:mayB l kd hd w wr=(!wr || decide (0≤fi w l 0)):=by unfold mayB; rw [if_neg h0,if_neg h1,if_neg h3,if_pos h5]
        rw [hm]
        rcases h5 with rfl | rfl
        · cases wr with
          | false=>simp only [zz,zq,↓reduceIte,zx,zj,zy,zk,zw,zb,reduceCtorEq,zd,zf,zp,zm,zh,zu,zt,zn,zc,zl,za,ze,zo,zg,nz]
          | true=>
            simp only [zz,zq,↓reduceIte,zx,zj,zy,zk,zw,zb,reduceCtorEq,zd,zf,zp,zm,zh,zu,zt,zn,zc,zl,za,ze,zo,zg,nz]
            refine CallK.pure ⟨rfl,rfl⟩ rfl (find g y 5 hd w l M hy) ?_
            simp only [zz,zq,↓reduceIte,zx,zj,zy,zk,zw,zb,reduceCtorEq,zd,zf,zp,zm,zh,zu,zt,zn,zc,zl,za,ze,zo,zg,nz]
        · cases wr with
          | false=>simp only [zz,zq,↓reduceIte,zx,zj,zy,zk,zw,zb,reduceCtorEq,zd,zf,zp,zm,zh,zu,zt,zn,zc,zl,za,ze,zo,zg,nz]
          | true=>
            simp only [zz,zq,↓reduceIte,zx,zj,zy,zk,zw,zb,reduceCtorEq,zd,zf,zp,zm,zh,zu,zt,zn,zc,zl,za,ze,zo,zg,nz]
            refine CallK.pure ⟨rfl,rfl⟩ rfl (find g y 7 hd w l M hy) ?_
            simp only [zz,zq,↓reduceIte,zx,zj,zy,zk,zw,zb,reduceCtorEq,zd,zf,zp,zm,zh,zu,zt,zn,zc,zl,za,ze,zo,zg,nz]
      · have d5:(kd=5)=False:=eq_false (fun h=>h5 (.inl h))
        have d7:(kd=7)=False:=eq_false (fun h=>h5 (.inr h))
        have hm:mayB l kd hd w wr=decide (0≤fi w l 0):=by unfold mayB; rw [if_neg h0,if_neg h1,if_neg h3,if_neg h5]
        rw [hm]
        simp only [zz,zq,↓reduceIte,zx,zj,zy,zk,zw,zb,reduceCtorEq,zd,zf,zp,zm,zh,zu,zt,zn,zc,zl,za,ze,zo,zg,nz,d0,d1,d3,d5,d7]
        refine CallK.pure ⟨rfl,rfl⟩ rfl (find g y kd hd w l M hy) ?_
        simp only [zz,zq,↓reduceIte,zx,zj,zy,zk,zw,zb,reduceCtorEq,zd,zf,zp,zm,zh,zu,zt,zn,zc,zl,za,ze,zo,zg,nz]
  · have de:(e=0)=False:=eq_false he
    rw [if_pos he]
    simp only [zz,zq,↓reduceIte,zx,zj,zy,zk,zw,zb,reduceCtorEq,zd,zf,zp,zm,zh,zu,zt,zn,zc,zl,za,ze,zo,zg,nz,de]

theorem rmay (g:Int) (y:Value) (kd hd w:Int) (wr:Bool) (l:List (Int×Int)) (M:Mem) (hy:RowM M y 2 (l.map encR)) (hl : ∀ x ∈ l,1≤x.2) (hk:0≤kd) :
    Meets Proofs.Tryz.prog 71 [resvV g y kd hd,.v (.int .i64 w),.v (.bool wr)] M fun r _ _=>r = .v (.bool (mayB l kd hd w wr)):=by
  refine Meets.of_body [0,1,2,3,6,7,12,16,27,34] Proofs.Tryz.func71 rfl (by kernel_rfl) rfl fun w0=>?_
  have hkf:=ky_fi w l 0 hl
  simp only [Proofs.Tryz.f71,resvV,zz,zq,↓reduceIte,zx,zj,zy,zk,zw,zb,reduceCtorEq,zd,zf,zp,zm,zh,zu,zt,zn,zc,zl,za,ze,zo,zg,nz]
  refine CallK.pure ⟨rfl,rfl⟩ rfl (key g y kd hd w l M hy) ?_
  by_cases h0:kd=0
  · subst h0
    simp only [zz,zq,↓reduceIte,zx,zj,zy,zk,zw,zb,reduceCtorEq,zd,zf,zp,zm,zh,zu,zt,zn,zc,zl,za,ze,zo,zg,nz,mayB]
  have d0:(kd=0)=False:=eq_false h0
  by_cases h1:kd=1
  · subst h1
    simp only [zz,zq,↓reduceIte,zx,zj,zy,zk,zw,zb,reduceCtorEq,zd,zf,zp,zm,zh,zu,zt,zn,zc,zl,za,ze,zo,zg,nz]
    refine CallK.pure ⟨rfl,rfl⟩ rfl (rhas g y 1 hd w l M hy hl hk) ?_
    simp only [zz,zq,↓reduceIte,zx,zj,zy,zk,zw,zb,reduceCtorEq,zd,zf,zp,zm,zh,zu,zt,zn,zc,zl,za,ze,zo,zg,nz,mayB]
    rw [Bool.or_comm]
  have d1:(kd=1)=False:=eq_false h1
  by_cases h3:kd=3
  · subst h3
    simp only [zz,zq,↓reduceIte,zx,zj,zy,zk,zw,zb,reduceCtorEq,zd,zf,zp,zm,zh,zu,zt,zn,zc,zl,za,ze,zo,zg,nz]
    refine CallK.pure ⟨rfl,rfl⟩ rfl (rhas g y 3 hd w l M hy hl hk) ?_
    simp only [zz,zq,↓reduceIte,zx,zj,zy,zk,zw,zb,reduceCtorEq,zd,zf,zp,zm,zh,zu,zt,zn,zc,zl,za,ze,zo,zg,nz,mayB]
  have d3:(kd=3)=False:=eq_false h3
  by_cases h5:kd=5∨kd=7
  · have hm:mayB l kd hd w wr=(!wr || decide (0≤fi w l 0)):=by unfold mayB; rw [if_neg h0,if_neg h1,if_neg h3,if_pos h5]
    rw [hm]
    rcases h5 with rfl | rfl
    · simp only [zz,zq,↓reduceIte,zx,zj,zy,zk,zw,zb,reduceCtorEq,zd,zf,zp,zm,zh,zu,zt,zn,zc,zl,za,ze,zo,zg,nz,hkf]
      rw [Bool.or_comm]
    · simp only [zz,zq,↓reduceIte,zx,zj,zy,zk,zw,zb,reduceCtorEq,zd,zf,zp,zm,zh,zu,zt,zn,zc,zl,za,ze,zo,zg,nz,hkf]
      rw [Bool.or_comm]
  · have d5:(kd=5)=False:=eq_false (fun h=>h5 (.inl h))
    have d7:(kd=7)=False:=eq_false (fun h=>h5 (.inr h))
    have hm:mayB l kd hd w wr=decide (0≤fi w l 0):=by unfold mayB; rw [if_neg h0,if_neg h1,if_neg h3,if_neg h5]
    rw [hm]
    simp only [zz,zq,↓reduceIte,zx,zj,zy,zk,zw,zb,reduceCtorEq,zd,zf,zp,zm,zh,zu,zt,zn,zc,zl,za,ze,zo,zg,nz,d0,d1,d3,d5,d7,hkf]
end Go.X.Rv

