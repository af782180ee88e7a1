/- What woolref says of calls that change who may read and write. Conditions: none. -/
import Derived.Test.YtoohifeidifocaaGreatDoorResvY
open Nat renaming reduceAdd→zx,reduceMul→zj,reduceDiv→zy,reduceEqDiff→zk,reduceLT→zw,reduceLeDiff→zb,reduceBEq→zg
open Int renaming reduceEq→zd,reduceNe→zf,reduceLT→zp,reduceLE→zm,reduceAdd→zh,reduceSub→zu,reduceMul→zt,reduceNeg→zn,reduceToNat→zc,cast_ofNat_Int→zl,natCast_zero→za,natCast_one→ze,toNat_natCast→zo
namespace Go.X.Rp
end Go.X.Rp
namespace Go.X.Sl
end Go.X.Sl
set_option linter.unusedSimpArgs false
set_option linter.unusedVariables false
set_option maxHeartbeats 4000000
set_option maxRecDepth 20000
namespace Go.X.Rv
open Go Go.X Go.X.Rp Go.X.Sl

theorem kF_m1 {l:List (Int×Int)} {k h:Int} (hs:srt 0 l) (hA:allB k=true→l≠[]) (hh:0≤h):kF l k h (-1) 0=false:=by
  unfold kF
  rw [kr_same hs]
  cases hk:allB k with
  | true=>rw [decide_eq_false (hA hk)]; rfl
  | false=>
    unfold hasB
    rw [if_neg (by simp [hk]),decide_eq_false (show ¬ h = -1 by omega),Bool.and_false]
    rfl
theorem rheld (g:Int) (y:Value) (kd hd wh k2:Int) (l:List (Int×Int)) (M:Mem) (hy:RowM M y 2 (l.map encR)) (hs:srt 0 l) (hk:0≤kd) :
    Meets Proofs.Tryz.prog 50 [rsv g (.v y) kd hd,.v (.int .i64 wh),.v (.int .i64 k2)] M (OwnR (fun s=>rsv g s k2 (if allB k2=true then 0 else wh)) 2 (l.map encR)):=by
  refine Meets.of_body [0,1,2,3,6,7,15] Proofs.Tryz.func50 rfl (by kernel_rfl) rfl fun w=>?_
  simp only [Proofs.Tryz.f50,rsv,zz,zq,↓reduceIte,zx,zj,zy,zk,zw,zb,reduceCtorEq,zd,zf,zp,zm,zh,zu,zt,zn,zc,zl,za,ze,zo,zg,nzs]
  refine CallK.own (ctxR g _ _) rfl rfl (rkeyed g y kd hd (-1) 0 l M hy (srt_keys hs) hk) rfl fun M2 hM2=>?_
  rw [kr_same hs]
  simp only [rsv,zz,zq,↓reduceIte,zx,zj,zy,zk,zw,zb,reduceCtorEq,zd,zf,zp,zm,zh,zu,zt,zn,zc,zl,za,ze,zo,zg,nzs]
  refine CallK.pure ⟨rfl,rfl⟩ rfl (shared k2 M2) ?_
  cases hA:allB k2 with
  | true=>
    simp only [zz,zq,↓reduceIte,zx,zj,zy,zk,zw,zb,reduceCtorEq,zd,zf,zp,zm,zh,zu,zt,zn,zc,zl,za,ze,zo,zg,nzs]
    exact ⟨72,rfl,rfl⟩
  | false=>
    simp only [zz,zq,↓reduceIte,zx,zj,zy,zk,zw,zb,reduceCtorEq,zd,zf,zp,zm,zh,zu,zt,zn,zc,zl,za,ze,zo,zg,nzs]
    exact ⟨72,rfl,rfl⟩
theorem keyE_val {g:Int} {l:List (Int×Int)} {k h w key:Int} (he:resvE g l k h=0):keyE g l k h w key=if whoB w=false then 1 else if ky w l=0∨ky w l≠key then 9 else 0:=by
  obtain ⟨_,hs,_⟩:=resvE_ok he
  have h1:=ky_fi w l 0 (srt_keys hs)
  have h2:=ky_nn w l (srt_keys hs)
  unfold keyE
  rw [if_neg (by simp [he])]
  by_cases hw:whoB w=false
  · rw [if_pos hw,if_pos hw]
  · rw [if_neg hw,if_neg hw]
    by_cases hc:ky w l=0∨ky w l≠key
    · rw [if_pos hc,if_pos]
      rcases hc with hc | hc
      · exact .inl (by omega)
      · exact .inr hc
    · rw [if_neg hc,if_neg]
      intro h3
      rcases h3 with h3 | h3
      · exact hc (.inl (by omega))
      · exact hc (.inr h3)
theorem whoB_dec (w:Int):decide (0≤w∧w≤7)=whoB w:=by
  unfold whoB
  by_cases h1:0≤w <;> by_cases h2:w≤7 <;> simp [h1,h2]

theorem right1 (g:Int) (y:Value) (kd hd wh old ke c:Int) (l:List (Int×Int)) (M:Mem) (hy:RowM M y 2 (l.map encR)) (he:resvE g l kd hd=0) :
    Meets Proofs.Tryz.prog 17 [rsv g (.v y) kd hd,.v (.int .i64 1),.v (.int .i64 wh),.v (.int .i64 old),.v (.int .i64 ke),.v (.int .i64 c)] M (resR (regS g l kd hd wh old ke)):=by
  refine Meets.of_body [0,1,2,3,4,5,6,12,13,14,15,16,17,18,19,21,24,30,33,37,41,58,60,61,65,81,87,91,97,101,106,110,123,125,126,132,140,144,148,149,150,151,156,175] Proofs.Tryz.func17 rfl (by kernel_rfl) rfl fun w=>?_
  obtain ⟨hg,hs,hkk,hAl,hk0,hh0⟩:=resvE_ok he
  generalize hc:regS g l kd hd wh old ke=r
  unfold regS at hc
  rw [if_neg (by simp [he])] at hc
  simp only [Proofs.Tryz.f17,rsv,zz,zq,↓reduceIte,zx,zj,zy,zk,zw,zb,reduceCtorEq,zd,zf,zp,zm,zh,zu,zt,zn,zc,zl,za,ze,zo,zg,nzs]
  refine CallK.pure ⟨rfl,rfl⟩ rfl (within wh 0 7 M) ?_
  rw [whoB_dec]
  cases hw:whoB wh with
  | false=>
    rw [if_pos (.inl hw)] at hc
    subst hc
    simp only [zz,zq,↓reduceIte,zx,zj,zy,zk,zw,zb,reduceCtorEq,zd,zf,zp,zm,zh,zu,zt,zn,zc,zl,za,ze,zo,zg,nzs]
    exact ⟨_,rfl,RowM.nil _ _⟩
  | true=>
  simp only [zz,zq,↓reduceIte,zx,zj,zy,zk,zw,zb,reduceCtorEq,zd,zf,zp,zm,zh,zu,zt,zn,zc,zl,za,ze,zo,zg,nzs]
  refine CallK.pure ⟨rfl,rfl⟩ rfl (key g y kd hd wh l M hy) ?_
  simp only [zz,zq,↓reduceIte,zx,zj,zy,zk,zw,zb,reduceCtorEq,zd,zf,zp,zm,zh,zu,zt,zn,zc,zl,za,ze,zo,zg,nzs]
  refine CallK.pure ⟨rfl,rfl⟩ rfl (within ke 0 1000 M) ?_
  by_cases hkr:ke < 0∨1000 < ke
  · rw [if_pos (.inr hkr)] at hc
    subst hc
    rw [decide_eq_false (show ¬ (0≤ke∧ke≤1000) by omega)]
    simp only [zz,zq,↓reduceIte,zx,zj,zy,zk,zw,zb,reduceCtorEq,zd,zf,zp,zm,zh,zu,zt,zn,zc,zl,za,ze,zo,zg,nzs]
    exact ⟨_,rfl,RowM.nil _ _⟩
  rw [if_neg (by simp [hw]; omega)] at hc
  rw [decide_eq_true (show (0≤ke∧ke≤1000) by omega)]
  by_cases ho:ky wh l=old
  rotate_left
  · rw [if_pos ho] at hc
    subst hc
    have c4:(ky wh l=old)=False:=eq_false ho
    simp only [zz,zq,↓reduceIte,zx,zj,zy,zk,zw,zb,reduceCtorEq,zd,zf,zp,zm,zh,zu,zt,zn,zc,zl,za,ze,zo,zg,nzs,c4]
    exact ⟨_,rfl,RowM.nil _ _⟩
  rw [if_neg (fun e=>e ho)] at hc
  have c4:(ky wh l=old)=True:=eq_true ho
  by_cases hm:g=2147483647
  · have c5:(g=2147483647)=True:=eq_true hm
    rw [if_pos hm] at hc
    subst hc
    simp only [zz,zq,↓reduceIte,zx,zj,zy,zk,zw,zb,reduceCtorEq,zd,zf,zp,zm,zh,zu,zt,zn,zc,zl,za,ze,zo,zg,nzs,c4,c5]
    exact ⟨_,rfl,RowM.nil _ _⟩
  have c5:(g=2147483647)=False:=eq_false hm
  rw [if_neg hm] at hc
  subst hc
  simp only [zz,zq,↓reduceIte,zx,zj,zy,zk,zw,zb,reduceCtorEq,zd,zf,zp,zm,zh,zu,zt,zn,zc,zl,za,ze,zo,zg,nzs,c4,c5]
  refine CallK.own (ctxR g _ _) rfl rfl (rkeyed g y kd hd wh ke l M hy (srt_keys hs) hkk.1) rfl fun M2 hM2=>?_
  simp only [rsv,zz,zq,↓reduceIte,zx,zj,zy,zk,zw,zb,reduceCtorEq,zd,zf,zp,zm,zh,zu,zt,zn,zc,zl,za,ze,zo,zg,nzs,inK,lo,hi]
  exact ⟨by omega,.own 368,rfl,rfl⟩
theorem right2 (g:Int) (y:Value) (kd hd wh ke k2 c:Int) (l:List (Int×Int)) (M:Mem) (hy:RowM M y 2 (l.map encR)) (he:resvE g l kd hd=0) :
    Meets Proofs.Tryz.prog 17 [rsv g (.v y) kd hd,.v (.int .i64 2),.v (.int .i64 wh),.v (.int .i64 ke),.v (.int .i64 k2),.v (.int .i64 c)] M (resR (rsvS g l kd hd wh ke k2)):=by
  refine Meets.of_body [0,1,2,3,4,5,6,12,13,14,15,16,17,18,19,21,24,30,33,37,41,58,60,61,65,81,87,91,97,101,106,110,123,125,126,132,140,144,148,149,150,151,156,175] Proofs.Tryz.func17 rfl (by kernel_rfl) rfl fun w=>?_
  obtain ⟨hg,hs,hkk,hAl,hk0,hh0⟩:=resvE_ok he
  have hl8:=len8 hs
  generalize hc:rsvS g l kd hd wh ke k2=r
  unfold rsvS at hc
  simp only [Proofs.Tryz.f17,rsv,zz,zq,↓reduceIte,zx,zj,zy,zk,zw,zb,reduceCtorEq,zd,zf,zp,zm,zh,zu,zt,zn,zc,zl,za,ze,zo,zg,nzs]
  refine CallK.pure ⟨rfl,rfl⟩ rfl (within wh 0 7 M) ?_
  rw [whoB_dec]
  cases hw:whoB wh with
  | false=>
    have hke:keyE g l kd hd wh ke=1:=by rw [keyE_val he,if_pos hw]
    rw [hke,if_pos (by decide)] at hc
    subst hc
    simp only [zz,zq,↓reduceIte,zx,zj,zy,zk,zw,zb,reduceCtorEq,zd,zf,zp,zm,zh,zu,zt,zn,zc,zl,za,ze,zo,zg,nzs]
    exact ⟨_,rfl,RowM.nil _ _⟩
  | true=>
  simp only [zz,zq,↓reduceIte,zx,zj,zy,zk,zw,zb,reduceCtorEq,zd,zf,zp,zm,zh,zu,zt,zn,zc,zl,za,ze,zo,zg,nzs]
  refine CallK.pure ⟨rfl,rfl⟩ rfl (key g y kd hd wh l M hy) ?_
  by_cases hz:ky wh l=0
  · have c1:(ky wh l=0)=True:=eq_true hz
    have hke:keyE g l kd hd wh ke=9:=by rw [keyE_val he,if_neg (by simp [hw]),if_pos (.inl hz)]
    rw [hke,if_pos (by decide)] at hc
    subst hc
    simp only [zz,zq,↓reduceIte,zx,zj,zy,zk,zw,zb,reduceCtorEq,zd,zf,zp,zm,zh,zu,zt,zn,zc,zl,za,ze,zo,zg,nzs,c1]
    exact ⟨_,rfl,RowM.nil _ _⟩
  have c1:(ky wh l=0)=False:=eq_false hz
  by_cases ho:ky wh l=ke
  rotate_left
  · have c2:(ky wh l=ke)=False:=eq_false ho
    have hke:keyE g l kd hd wh ke=9:=by rw [keyE_val he,if_neg (by simp [hw]),if_pos (.inr ho)]
    rw [hke,if_pos (by decide)] at hc
    subst hc
    simp only [zz,zq,↓reduceIte,zx,zj,zy,zk,zw,zb,reduceCtorEq,zd,zf,zp,zm,zh,zu,zt,zn,zc,zl,za,ze,zo,zg,nzs,c1,c2]
    exact ⟨_,rfl,RowM.nil _ _⟩
  have c2:(ky wh l=ke)=True:=eq_true ho
  have hke:keyE g l kd hd wh ke=0:=by rw [keyE_val he,if_neg (by simp [hw]),if_neg (by rintro (h | h); exact hz h; exact h ho)]
  rw [hke,if_neg (by decide)] at hc
  simp only [zz,zq,↓reduceIte,zx,zj,zy,zk,zw,zb,reduceCtorEq,zd,zf,zp,zm,zh,zu,zt,zn,zc,zl,za,ze,zo,zg,nzs,c1,c2]
  refine CallK.pure ⟨rfl,rfl⟩ rfl (rkind k2 M) ?_
  cases hK:kindB k2 with
  | false=>
    rw [if_pos hK] at hc
    subst hc
    simp only [zz,zq,↓reduceIte,zx,zj,zy,zk,zw,zb,reduceCtorEq,zd,zf,zp,zm,zh,zu,zt,zn,zc,zl,za,ze,zo,zg,nzs]
    exact ⟨_,rfl,RowM.nil _ _⟩
  | true=>
  rw [if_neg (by simp [hK])] at hc
  by_cases hkz:kd=0
  · have c3:(0 < kd)=False:=eq_false (by omega)
    rw [if_neg (fun h=>h.1 hkz)] at hc
    subst hc
    simp only [zz,zq,↓reduceIte,zx,zj,zy,zk,zw,zb,reduceCtorEq,zd,zf,zp,zm,zh,zu,zt,zn,zc,zl,za,ze,zo,zg,nzs,c3]
    refine CallK.own (ctxR g _ _) rfl rfl (rheld g y kd hd wh k2 l M hy hs hkk.1) rfl fun M2 hM2=>?_
    simp only [rsv,zz,zq,↓reduceIte,zx,zj,zy,zk,zw,zb,reduceCtorEq,zd,zf,zp,zm,zh,zu,zt,zn,zc,zl,za,ze,zo,zg,nzs]
    exact ⟨.own 688,rfl,rfl⟩
  · have c3:(0 < kd)=True:=eq_true (by omega)
    simp only [zz,zq,↓reduceIte,zx,zj,zy,zk,zw,zb,reduceCtorEq,zd,zf,zp,zm,zh,zu,zt,zn,zc,zl,za,ze,zo,zg,nzs,c3]
    refine CallK.pure ⟨rfl,rfl⟩ rfl (rhas g y kd hd wh l M hy (srt_keys hs) hkk.1) ?_
    cases hH:hasB l kd hd wh with
    | false=>
      rw [if_pos ⟨hkz,.inl hH⟩] at hc
      subst hc
      simp only [zz,zq,↓reduceIte,zx,zj,zy,zk,zw,zb,reduceCtorEq,zd,zf,zp,zm,zh,zu,zt,zn,zc,zl,za,ze,zo,zg,nzs]
      exact ⟨_,rfl,RowM.nil _ _⟩
    | true=>
    by_cases hk2:kd=k2
    · have c4:(kd=k2)=True:=eq_true hk2
      rw [if_neg (fun h=>by rcases h.2 with h | h; exact absurd h (by simp [hH]); exact h hk2)] at hc
      subst hc
      simp only [zz,zq,↓reduceIte,zx,zj,zy,zk,zw,zb,reduceCtorEq,zd,zf,zp,zm,zh,zu,zt,zn,zc,zl,za,ze,zo,zg,nzs,c4]
      refine CallK.own (ctxR g _ _) rfl rfl (rheld g y kd hd wh k2 l M hy hs hkk.1) rfl fun M2 hM2=>?_
      simp only [rsv,zz,zq,↓reduceIte,zx,zj,zy,zk,zw,zb,reduceCtorEq,zd,zf,zp,zm,zh,zu,zt,zn,zc,zl,za,ze,zo,zg,nzs]
      exact ⟨.own 688,rfl,rfl⟩
    · have c4:(kd=k2)=False:=eq_false hk2
      rw [if_pos ⟨hkz,.inr hk2⟩] at hc
      subst hc
      simp only [zz,zq,↓reduceIte,zx,zj,zy,zk,zw,zb,reduceCtorEq,zd,zf,zp,zm,zh,zu,zt,zn,zc,zl,za,ze,zo,zg,nzs,c4]
      exact ⟨_,rfl,RowM.nil _ _⟩
theorem right3 (g:Int) (y:Value) (kd hd wh ke k2 c:Int) (l:List (Int×Int)) (M:Mem) (hy:RowM M y 2 (l.map encR)) (he:resvE g l kd hd=0) :
    Meets Proofs.Tryz.prog 17 [rsv g (.v y) kd hd,.v (.int .i64 3),.v (.int .i64 wh),.v (.int .i64 ke),.v (.int .i64 k2),.v (.int .i64 c)] M (resR (relS g l kd hd wh ke k2)):=by
  refine Meets.of_body [0,1,2,3,4,5,6,12,13,14,15,16,17,18,19,21,24,30,33,37,41,58,60,61,65,81,87,91,97,101,106,110,123,125,126,132,140,144,148,149,150,151,156,175] Proofs.Tryz.func17 rfl (by kernel_rfl) rfl fun w=>?_
  obtain ⟨hg,hs,hkk,hAl,hk0,hh0⟩:=resvE_ok he
  have hl8:=len8 hs
  generalize hc:relS g l kd hd wh ke k2=r
  unfold relS at hc
  simp only [Proofs.Tryz.f17,rsv,zz,zq,↓reduceIte,zx,zj,zy,zk,zw,zb,reduceCtorEq,zd,zf,zp,zm,zh,zu,zt,zn,zc,zl,za,ze,zo,zg,nzs]
  refine CallK.pure ⟨rfl,rfl⟩ rfl (within wh 0 7 M) ?_
  rw [whoB_dec]
  cases hw:whoB wh with
  | false=>
    have hke:keyE g l kd hd wh ke=1:=by rw [keyE_val he,if_pos hw]
    rw [hke,if_pos (by decide)] at hc
    subst hc
    simp only [zz,zq,↓reduceIte,zx,zj,zy,zk,zw,zb,reduceCtorEq,zd,zf,zp,zm,zh,zu,zt,zn,zc,zl,za,ze,zo,zg,nzs]
    exact ⟨_,rfl,RowM.nil _ _⟩
  | true=>
  simp only [zz,zq,↓reduceIte,zx,zj,zy,zk,zw,zb,reduceCtorEq,zd,zf,zp,zm,zh,zu,zt,zn,zc,zl,za,ze,zo,zg,nzs]
  refine CallK.pure ⟨rfl,rfl⟩ rfl (key g y kd hd wh l M hy) ?_
  by_cases hz:ky wh l=0
  · have c1:(ky wh l=0)=True:=eq_true hz
    have hke:keyE g l kd hd wh ke=9:=by rw [keyE_val he,if_neg (by simp [hw]),if_pos (.inl hz)]
    rw [hke,if_pos (by decide)] at hc
    subst hc
    simp only [zz,zq,↓reduceIte,zx,zj,zy,zk,zw,zb,reduceCtorEq,zd,zf,zp,zm,zh,zu,zt,zn,zc,zl,za,ze,zo,zg,nzs,c1]
    exact ⟨_,rfl,RowM.nil _ _⟩
  have c1:(ky wh l=0)=False:=eq_false hz
  by_cases ho:ky wh l=ke
  rotate_left
  · have c2:(ky wh l=ke)=False:=eq_false ho
    have hke:keyE g l kd hd wh ke=9:=by rw [keyE_val he,if_neg (by simp [hw]),if_pos (.inr ho)]
    rw [hke,if_pos (by decide)] at hc
    subst hc
    simp only [zz,zq,↓reduceIte,zx,zj,zy,zk,zw,zb,reduceCtorEq,zd,zf,zp,zm,zh,zu,zt,zn,zc,zl,za,ze,zo,zg,nzs,c1,c2]
    exact ⟨_,rfl,RowM.nil _ _⟩
  have c2:(ky wh l=ke)=True:=eq_true ho
  have hke:keyE g l kd hd wh ke=0:=by rw [keyE_val he,if_neg (by simp [hw]),if_neg (by rintro (h | h); exact hz h; exact h ho)]
  rw [hke,if_neg (by decide)] at hc
  simp only [zz,zq,↓reduceIte,zx,zj,zy,zk,zw,zb,reduceCtorEq,zd,zf,zp,zm,zh,zu,zt,zn,zc,zl,za,ze,zo,zg,nzs,c1,c2]
  refine CallK.pure ⟨rfl,rfl⟩ rfl (rkind k2 M) ?_
  cases hK:kindB k2 with
  | false=>
    rw [if_pos hK] at hc
    subst hc
    simp only [zz,zq,↓reduceIte,zx,zj,zy,zk,zw,zb,reduceCtorEq,zd,zf,zp,zm,zh,zu,zt,zn,zc,zl,za,ze,zo,zg,nzs]
    exact ⟨_,rfl,RowM.nil _ _⟩
  | true=>
  rw [if_neg (by simp [hK])] at hc
  simp only [zz,zq,↓reduceIte,zx,zj,zy,zk,zw,zb,reduceCtorEq,zd,zf,zp,zm,zh,zu,zt,zn,zc,zl,za,ze,zo,zg,nzs]
  refine CallK.own (ctxR g _ _) rfl rfl (rkeyed g y kd hd (-1) 0 l M hy (srt_keys hs) hkk.1) rfl fun M2 hM2=>?_
  rw [kr_same hs,kF_m1 hs (fun hA=>(hAl hA).2) hh0]
  simp only [rsv,zz,zq,↓reduceIte,zx,zj,zy,zk,zw,zb,reduceCtorEq,zd,zf,zp,zm,zh,zu,zt,zn,zc,zl,za,ze,zo,zg,nzs,Bool.false_eq_true,if_false]
  refine CallK.pure ⟨rfl,rfl⟩ rfl (rhas g y kd hd wh l M2 (hy.le hM2) (srt_keys hs) hkk.1) ?_
  cases hH:hasB l kd hd wh with
  | false=>
    rw [if_pos hH] at hc
    subst hc
    simp only [zz,zq,↓reduceIte,zx,zj,zy,zk,zw,zb,reduceCtorEq,zd,zf,zp,zm,zh,zu,zt,zn,zc,zl,za,ze,zo,zg,nzs]
    exact ⟨.own 752,rfl,rfl⟩
  | true=>
  rw [if_neg (by simp [hH])] at hc
  by_cases hk2:kd=k2
  · have c4:(kd=k2)=True:=eq_true hk2
    rw [if_neg (fun h=>h hk2)] at hc
    subst hc
    simp only [zz,zq,↓reduceIte,zx,zj,zy,zk,zw,zb,reduceCtorEq,zd,zf,zp,zm,zh,zu,zt,zn,zc,zl,za,ze,zo,zg,nzs,c4]
    exact ⟨.own 752,rfl,rfl⟩
  · have c4:(kd=k2)=False:=eq_false hk2
    rw [if_pos hk2] at hc
    subst hc
    simp only [zz,zq,↓reduceIte,zx,zj,zy,zk,zw,zb,reduceCtorEq,zd,zf,zp,zm,zh,zu,zt,zn,zc,zl,za,ze,zo,zg,nzs,c4]
    exact ⟨_,rfl,RowM.nil _ _⟩
theorem right4 (g:Int) (y:Value) (kd hd wh ke b c:Int) (l:List (Int×Int)) (M:Mem) (hy:RowM M y 2 (l.map encR)) (he:resvE g l kd hd=0) :
    Meets Proofs.Tryz.prog 17 [rsv g (.v y) kd hd,.v (.int .i64 4),.v (.int .i64 wh),.v (.int .i64 ke),.v (.int .i64 b),.v (.int .i64 c)] M (resR (clrS g l kd hd wh ke )):=by
  refine Meets.of_body [0,1,2,3,4,5,6,12,13,14,15,16,17,18,19,21,24,30,33,37,41,58,60,61,65,81,87,91,97,101,106,110,123,125,126,132,140,144,148,149,150,151,156,175] Proofs.Tryz.func17 rfl (by kernel_rfl) rfl fun w=>?_
  obtain ⟨hg,hs,hkk,hAl,hk0,hh0⟩:=resvE_ok he
  have hl8:=len8 hs
  generalize hc:clrS g l kd hd wh ke  = r
  unfold clrS at hc
  simp only [Proofs.Tryz.f17,rsv,zz,zq,↓reduceIte,zx,zj,zy,zk,zw,zb,reduceCtorEq,zd,zf,zp,zm,zh,zu,zt,zn,zc,zl,za,ze,zo,zg,nzs]
  refine CallK.pure ⟨rfl,rfl⟩ rfl (within wh 0 7 M) ?_
  rw [whoB_dec]
  cases hw:whoB wh with
  | false=>
    have hke:keyE g l kd hd wh ke=1:=by rw [keyE_val he,if_pos hw]
    rw [hke,if_pos (by decide)] at hc
    subst hc
    simp only [zz,zq,↓reduceIte,zx,zj,zy,zk,zw,zb,reduceCtorEq,zd,zf,zp,zm,zh,zu,zt,zn,zc,zl,za,ze,zo,zg,nzs]
    exact ⟨_,rfl,RowM.nil _ _⟩
  | true=>
  simp only [zz,zq,↓reduceIte,zx,zj,zy,zk,zw,zb,reduceCtorEq,zd,zf,zp,zm,zh,zu,zt,zn,zc,zl,za,ze,zo,zg,nzs]
  refine CallK.pure ⟨rfl,rfl⟩ rfl (key g y kd hd wh l M hy) ?_
  by_cases hz:ky wh l=0
  · have c1:(ky wh l=0)=True:=eq_true hz
    have hke:keyE g l kd hd wh ke=9:=by rw [keyE_val he,if_neg (by simp [hw]),if_pos (.inl hz)]
    rw [hke,if_pos (by decide)] at hc
    subst hc
    simp only [zz,zq,↓reduceIte,zx,zj,zy,zk,zw,zb,reduceCtorEq,zd,zf,zp,zm,zh,zu,zt,zn,zc,zl,za,ze,zo,zg,nzs,c1]
    exact ⟨_,rfl,RowM.nil _ _⟩
  have c1:(ky wh l=0)=False:=eq_false hz
  by_cases ho:ky wh l=ke
  rotate_left
  · have c2:(ky wh l=ke)=False:=eq_false ho
    have hke:keyE g l kd hd wh ke=9:=by rw [keyE_val he,if_neg (by simp [hw]),if_pos (.inr ho)]
    rw [hke,if_pos (by decide)] at hc
    subst hc
    simp only [zz,zq,↓reduceIte,zx,zj,zy,zk,zw,zb,reduceCtorEq,zd,zf,zp,zm,zh,zu,zt,zn,zc,zl,za,ze,zo,zg,nzs,c1,c2]
    exact ⟨_,rfl,RowM.nil _ _⟩
  have c2:(ky wh l=ke)=True:=eq_true ho
  have hke:keyE g l kd hd wh ke=0:=by rw [keyE_val he,if_neg (by simp [hw]),if_neg (by rintro (h | h); exact hz h; exact h ho)]
  rw [hke,if_neg (by decide)] at hc
  simp only [zz,zq,↓reduceIte,zx,zj,zy,zk,zw,zb,reduceCtorEq,zd,zf,zp,zm,zh,zu,zt,zn,zc,zl,za,ze,zo,zg,nzs,c1,c2]
  by_cases hm:g=2147483647
  · have c5:(g=2147483647)=True:=eq_true hm
    rw [if_pos hm] at hc
    subst hc
    simp only [zz,zq,↓reduceIte,zx,zj,zy,zk,zw,zb,reduceCtorEq,zd,zf,zp,zm,zh,zu,zt,zn,zc,zl,za,ze,zo,zg,nzs,c5]
    exact ⟨_,rfl,RowM.nil _ _⟩
  have c5:(g=2147483647)=False:=eq_false hm
  rw [if_neg hm] at hc
  subst hc
  simp only [zz,zq,↓reduceIte,zx,zj,zy,zk,zw,zb,reduceCtorEq,zd,zf,zp,zm,zh,zu,zt,zn,zc,zl,za,ze,zo,zg,nzs,c5,inK,lo,hi]
  exact ⟨by omega,_,rfl,RowM.nil _ _⟩
end Go.X.Rv

