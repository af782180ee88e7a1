/- Preempt: what it returns. Conditions: none. -/
import Derived.Test.YtoohifeidifocaaGreatDoorResvX
open Nat renaming reduceAdd→zx,reduceMul→zj,reduceDiv→zy,reduceEqDiff→zk,reduceLT→zw,reduceLeDiff→zb,reduceBEq→zg
open Int renaming reduceEq→zd,reduceNe→zf,reduceLT→zp,reduceLE→zm,reduceAdd→zh,reduceSub→zu,reduceMul→zt,reduceNeg→zn,reduceToNat→zc,cast_ofNat_Int→zl,natCast_zero→za,natCast_one→ze,toNat_natCast→zo
namespace Go.X.Rp
end Go.X.Rp
namespace Go.X.Sl
end Go.X.Sl
set_option linter.unusedSimpArgs false
set_option linter.unusedVariables false
set_option maxHeartbeats 4000000
set_option maxRecDepth 20000
namespace Go.X.Rv
open Go Go.X Go.X.Rp Go.X.Sl

theorem ctsR {α:Type} (q0 q1:α→Value) (p:α→Bool) (f:Nat) (caps:List SV) (hcaps:SV.concs caps=true) (y:Value) (l:List α) (M:Mem) (hy:RowM M y 2 (l.map (fun x=>[q0 x,q1 x])))
    (hf : ∀ x ∈ l,Meets Proofs.Tryz.prog f (.agg [.v (q0 x),.v (q1 x)] :: caps) M fun r _ _=>r = .v (.bool (p x))) :
    Meets Proofs.Tryz.prog 95 [.v y,.fn f caps] M fun r _ _=>r = .v (.bool (l.any p)):=by
  refine Meets.of_body [0,1,4] Proofs.Tryz.func95 rfl (by kernel_rfl) (by simp only [SV.concs,SV.conc,hcaps,Bool.and_self]) fun w=>?_
  simp only [Proofs.Tryz.f95,zz,zq,↓reduceIte,zx,zj,zy,zk,zw,zb,reduceCtorEq,zd,zf,zp,zm,zh,zu,zt,zn,zc,zl,za,ze,zo,zg]
  refine CallK.pure ⟨by simp only [SV.concs,SV.conc,hcaps,Bool.and_self],rfl⟩ rfl (idxR q0 q1 p f caps hcaps y l M hy hf) ?_
  rw [← fidx_any p l 0]
  simp only [zz,zq,↓reduceIte,zx,zj,zy,zk,zw,zb,reduceCtorEq,zd,zf,zp,zm,zh,zu,zt,zn,zc,zl,za,ze,zo,zg]


abbrev ST:=List (Int×Int)×Int×Int
def outS (s:ST) (q:Int):ST:=(outL s.1 q,if outF s.1 s.2.1 s.2.2 q=true then 0 else s.2.1,if outF s.1 s.2.1 s.2.2 q=true then 0 else s.2.2)
def strS (w:Int) (s:ST):List Int→ST
  | []=>s
  | q :: r=>strS w (if q=w then s else outS s q) r
def hands (l:List (Int×Int)) (b:Int):List Int:=(l.filter fun x=>decide (x.2=b)).map (·.1)
def tookB (k h:Int) (hs:List Int):Bool:=!allB k && (decide (k≠0) && hs.any fun q=>decide (h=q))
def preS (g:Int) (l:List (Int×Int)) (k h w key b c:Int):RS:=
  if keyE g l k h w key≠0 then zr (keyE g l k h w key) else if kindB c=false∨(b < 1∨1000 < b) then zr 1 else if hands l b=[] then zr 4 else if g=2147483647 then zr 8 else
    if tookB k h (hands l b)=true then (0,g+1,(strS w (l,k,h) (hands l b)).1,c,if allB c=true then 0 else w) else (0,g+1,strS w (l,k,h) (hands l b))
theorem outS_len (s:ST) (q:Int):(outS s q).1.length≤s.1.length:=List.length_filter_le _ _
theorem preempt (g:Int) (y:Value) (kd hd wh ke b c:Int) (l:List (Int×Int)) (M:Mem) (hy:RowM M y 2 (l.map encR)) :
    Meets Proofs.Tryz.prog 41 [rsv g (.v y) kd hd,.v (.int .i64 wh),.v (.int .i64 ke),.v (.int .i64 b),.v (.int .i64 c)] M (resR (preS g l kd hd wh ke b c)):=by
  refine Meets.of_body [0,1,2,3,4,5,8,10,11,12,13,14,16,22,35,41,45,50,51,52,53,59,76,82,89] Proofs.Tryz.func41 rfl (by kernel_rfl) rfl fun w=>?_
  simp only [Proofs.Tryz.f41,rsv,zz,zq,↓reduceIte,zx,zj,zy,zk,zw,zb,reduceCtorEq,zd,zf,zp,zm,zh,zu,zt,zn,zc,zl,za,ze,zo,zg,nzs]
  refine CallK.pure ⟨rfl,rfl⟩ rfl (keyed g y kd hd wh ke l M hy) ?_
  generalize hc:preS g l kd hd wh ke b c=r
  unfold preS at hc
  by_cases he:keyE g l kd hd wh ke=0
  rotate_left
  · have c1:(keyE g l kd hd wh ke=0)=False:=eq_false he
    rw [if_pos he] at hc
    subst hc
    simp only [zz,zq,↓reduceIte,zx,zj,zy,zk,zw,zb,reduceCtorEq,zd,zf,zp,zm,zh,zu,zt,zn,zc,zl,za,ze,zo,zg,nzs,c1]
    exact ⟨_,rfl,RowM.nil _ _⟩
  rw [if_neg (by simp [he])] at hc
  obtain ⟨he1,hw,hfi,hky⟩:=keyE_ok he
  obtain ⟨hg,hs,hkk,hAl,hk0,hh0⟩:=resvE_ok he1
  have hl8:=len8 hs
  simp only [zz,zq,↓reduceIte,zx,zj,zy,zk,zw,zb,reduceCtorEq,zd,zf,zp,zm,zh,zu,zt,zn,zc,zl,za,ze,zo,zg,nzs,he]
  refine CallK.pure ⟨rfl,rfl⟩ rfl (kind c M) ?_
  cases hK:kindB c with
  | false=>
    rw [if_pos (.inl hK)] at hc
    subst hc
    simp only [zz,zq,↓reduceIte,zx,zj,zy,zk,zw,zb,reduceCtorEq,zd,zf,zp,zm,zh,zu,zt,zn,zc,zl,za,ze,zo,zg,nzs]
    exact ⟨_,rfl,RowM.nil _ _⟩
  | true=>
  by_cases hbr:b < 1∨1000 < b
  · rw [if_pos (.inr hbr)] at hc
    subst hc
    by_cases hk1:b < 1
    · have c2:(b < 1)=True:=eq_true hk1
      simp only [zz,zq,↓reduceIte,zx,zj,zy,zk,zw,zb,reduceCtorEq,zd,zf,zp,zm,zh,zu,zt,zn,zc,zl,za,ze,zo,zg,nzs,c2]
      exact ⟨_,rfl,RowM.nil _ _⟩
    · have c2:(b < 1)=False:=eq_false hk1
      have c3:(1000 < b)=True:=eq_true (by omega)
      simp only [zz,zq,↓reduceIte,zx,zj,zy,zk,zw,zb,reduceCtorEq,zd,zf,zp,zm,zh,zu,zt,zn,zc,zl,za,ze,zo,zg,nzs,c2,c3]
      exact ⟨_,rfl,RowM.nil _ _⟩
  rw [if_neg (by simp [hK]; omega)] at hc
  have c2:(b < 1)=False:=eq_false (by omega)
  have c3:(1000 < b)=False:=eq_false (by omega)
  simp only [zz,zq,↓reduceIte,zx,zj,zy,zk,zw,zb,reduceCtorEq,zd,zf,zp,zm,zh,zu,zt,zn,zc,zl,za,ze,zo,zg,nzs,c2,c3]
  refine stepK.mkFn rfl rfl ?_
  simp only [zz,zq,↓reduceIte,zx,zj,zy,zk,zw,zb,reduceCtorEq,zd,zf,zp,zm,zh,zu,zt,zn,zc,zl,za,ze,zo,zg,nzs]
  refine CallK.pubB (k:=64) rfl rfl fun bb M2 hM2 hb2=>?_
  have hy2:=hy.le hM2
  simp only [shA1,shA2,zz,zq,↓reduceIte,zx,zj,zy,zk,zw,zb,reduceCtorEq,zd,zf,zp,zm,zh,zu,zt,zn,zc,zl,za,ze,zo,zg]
  refine CallK.pure ⟨rfl,rfl⟩ rfl (ctsR (α:=Int×Int) (fun x=>.int .i64 x.1) (fun x=>.int .i64 x.2) (fun u=>decide (u.2=b)) _ _ rfl y l M2 hy2 (fun x _=>preC bb b x M2 hb2)) ?_
  have hany:(l.any fun u=>decide (u.2=b)) = !decide (hands l b=[]):=by
    unfold hands
    rw [Bool.eq_iff_iff]
    simp [List.filter_eq_nil_iff]
  rw [hany]
  by_cases hh:hands l b=[]
  · rw [if_pos hh] at hc
    subst hc
    rw [decide_eq_true hh]
    simp only [zz,zq,↓reduceIte,zx,zj,zy,zk,zw,zb,reduceCtorEq,zd,zf,zp,zm,zh,zu,zt,zn,zc,zl,za,ze,zo,zg,nzs]
    exact ⟨_,rfl,RowM.nil _ _⟩
  rw [if_neg hh] at hc
  rw [decide_eq_false hh]
  by_cases hm:g=2147483647
  · have c4:(g=2147483647)=True:=eq_true hm
    rw [if_pos hm] at hc
    subst hc
    simp only [zz,zq,↓reduceIte,zx,zj,zy,zk,zw,zb,reduceCtorEq,zd,zf,zp,zm,zh,zu,zt,zn,zc,zl,za,ze,zo,zg,nzs,c4]
    exact ⟨_,rfl,RowM.nil _ _⟩
  have c4:(g=2147483647)=False:=eq_false hm
  rw [if_neg hm] at hc
  simp only [zz,zq,↓reduceIte,zx,zj,zy,zk,zw,zb,reduceCtorEq,zd,zf,zp,zm,zh,zu,zt,zn,zc,zl,za,ze,zo,zg,nzs,c4]
  refine CallK.own (ctxR (g+1) kd hd) rfl rfl (next g y kd hd 1 l M2 hy2 (by omega) ⟨by simp only [lo]; omega,by simp only [hi]; omega⟩) rfl fun M3 hM3=>?_
  have hy3:=hy2.le hM3
  have b0:=(hb2.le hM3).at (j:=0) rfl
  simp only [SV.val] at b0
  simp only [rsv,zz,zq,↓reduceIte,zx,zj,zy,zk,zw,zb,reduceCtorEq,zd,zf,zp,zm,zh,zu,zt,zn,zc,zl,za,ze,zo,zg,nzs,hy3.len,hy3.sl,List.length_map]
  generalize hfin:strS wh (l,kd,hd) (hands l b)=fin at hc
  generalize htk:tookB kd hd (hands l b)=tk at hc
  refine LoopK.go (X:=Nat×Nat×Bool×ST) (fun x=>([(1,true,.v (.int .i64 wh)),(4,true,.v (.int .i64 c)),(5,true,.ptr 40 0 0 0),(8,true,.v (ptrV bb)),(10,true,.ptr 80 0 0 0),(11,true,.v (.int .i64 0)),(13,true,.ptr 104 0 0 0),(14,true,.v (.bool x.2.2.1)),(50,true,.v y),(51,true,.v (.int .i64 l.length)),(52,true,.v (.int .i64 x.2.1))],
      [(40,.box [.v (.int .i64 g),.v y,.v (.int .i64 kd),.v (.int .i64 hd)] none),(80,.box [.v (.int .i64 0),.v (.slice none 0 0),.v (.int .i64 0),.v (.int .i64 0)] none),(104,.box [.v (.int .i64 (g+1)),.own 800,.v (.int .i64 x.2.2.2.2.1),.v (.int .i64 x.2.2.2.2.2)] none),(800,.row 2 (x.2.2.2.1.map encR))],M3))
    (fun x=>(x.1+x.2.1=l.length∧x.2.2.2.1.length≤8)∧strS wh x.2.2.2 (hands (l.drop x.2.1) b)=fin∧(x.2.2.1 || tookB kd hd (hands (l.drop x.2.1) b))=tk) (fun x=>x.1) (l.length,0,false,l,kd,hd) ⟨⟨rfl,by simp only; omega⟩,hfin,by simpa using htk⟩ (Ent.rekeyB 104 1 384 100 2 _ rfl rfl rfl rfl rfl (Ent.of ?_)) ?_
  · simp only [zz,zq,↓reduceIte,zx,zj,zy,zk,zw,zb,reduceCtorEq,zd,zf,zp,zm,zh,zu,zt,zn,zc,zl,za,ze,zo,zg,nzs]
  rintro ⟨f,i,tk1,s⟩ ⟨⟨h1,hsl⟩,h2,h3⟩
  simp only at h1 h2 h3 hsl
  by_cases hil:i < l.length
  · have d1:((i:Int) < (l.length:Int))=True:=eq_true (by omega)
    obtain ⟨⟨a,q⟩,hx,hd'⟩:=l_drop_at (l:=l) (i:=i) hil
    have g0:=hy3.cell (i:=i) (e:=[.int .i64 a,.int .i64 q]) (by rw [List.getElem?_map,hx]; rfl) (off:=0) (by omega)
    have g1:=hy3.cell (i:=i) (e:=[.int .i64 a,.int .i64 q]) (by rw [List.getElem?_map,hx]; rfl) (off:=1) (by omega)
    have i0:=hy3.ix (i:=(i:Int)) (by omega) (by rw [List.length_map]; omega)
    simp only [List.getD_cons_zero,List.getD_cons_succ] at g0 g1
    by_cases hqb:q=b
    rotate_left
    · have c5:(q=b)=False:=eq_false hqb
      have hh':hands (l.drop i) b=hands (l.drop (i+1)) b:=by
        rw [hd']; unfold hands; rw [List.filter_cons_of_neg (by simp [hqb])]
      rw [hh'] at h2 h3
      simp only [zz,zq,↓reduceIte,zx,zj,zy,zk,zw,zb,reduceCtorEq,zd,zf,zp,zm,zh,zu,zt,zn,zc,zl,za,ze,zo,zg,nzs,d1,i0,i0.2,g0.1,g0.2.1,g1.1,g1.2.1,b0.1,b0.2,c5,inK,lo,hi]
      refine ⟨by omega,(f - 1,i+1,tk1,s),⟨⟨⟨by simp only; omega,hsl⟩,h2,h3⟩,by simp only; omega⟩,Ent.of ?_⟩
      simp only [zq,↓reduceIte,zx,zj,zy,zk,zw,zb,reduceCtorEq,zd,zf,zp,zm,zh,zu,zt,zn,zc,zl,za,ze,zo,zg,Int.natCast_add]
    · have c5:(q=b)=True:=eq_true hqb
      have hh':hands (l.drop i) b=a :: hands (l.drop (i+1)) b:=by
        rw [hd']; unfold hands; rw [List.filter_cons_of_pos (by simp [hqb])]; rfl
      rw [hh'] at h2 h3
      rw [strS] at h2
      have hcons:tookB kd hd (a :: hands (l.drop (i+1)) b)=((!allB kd && (decide (kd≠0) && decide (hd=a))) || tookB kd hd (hands (l.drop (i+1)) b)):=by
        unfold tookB
        rw [List.any_cons]
        cases allB kd <;> cases decide (kd≠0) <;> cases decide (hd=a) <;> rfl
      rw [hcons] at h3
      have hy3':=hy3
      cases tk1 with
      | true=>
        simp only [zz,zq,↓reduceIte,zx,zj,zy,zk,zw,zb,reduceCtorEq,zd,zf,zp,zm,zh,zu,zt,zn,zc,zl,za,ze,zo,zg,nzs,d1,i0,i0.2,g0.1,g0.2.1,g1.1,g1.2.1,b0.1,b0.2,c5,inK,lo,hi]
        by_cases haw:a=wh
        · have c6:(a=wh)=True:=eq_true haw
          rw [if_pos haw] at h2
          simp only [zz,zq,↓reduceIte,zx,zj,zy,zk,zw,zb,reduceCtorEq,zd,zf,zp,zm,zh,zu,zt,zn,zc,zl,za,ze,zo,zg,nzs,c6,inK,lo,hi]
          refine ⟨by omega,(f - 1,i+1,true,s),⟨⟨⟨by simp only; omega,hsl⟩,h2,(by simpa using h3)⟩,by simp only; omega⟩,Ent.of ?_⟩
          simp only [zq,↓reduceIte,zx,zj,zy,zk,zw,zb,reduceCtorEq,zd,zf,zp,zm,zh,zu,zt,zn,zc,zl,za,ze,zo,zg,Int.natCast_add]
        · have c6:(a=wh)=False:=eq_false haw
          rw [if_neg haw] at h2
          simp only [zz,zq,↓reduceIte,zx,zj,zy,zk,zw,zb,reduceCtorEq,zd,zf,zp,zm,zh,zu,zt,zn,zc,zl,za,ze,zo,zg,nzs,c6,inK,lo,hi]
          refine CallK.lendR (A:=fun t=>[.agg [.v (.int .i64 (g+1)),t,.v (.int .i64 s.2.1),.v (.int .i64 s.2.2)],.v (.int .i64 a)]) 800 (fun t t' ν ν' e=>by simp only [SV.vals,SV.val,e]) (ctxR (g+1) (outS s a).2.1 (outS s a).2.2) rfl rfl rfl (fun M6 h6=>out (g+1) s.2.1 s.2.2 a s.1 M6 (by omega)) rfl ?_
          simp only [rsv,zz,zq,↓reduceIte,zx,zj,zy,zk,zw,zb,reduceCtorEq,zd,zf,zp,zm,zh,zu,zt,zn,zc,zl,za,ze,zo,zg,nzs,inK,lo,hi]
          refine ⟨by omega,(f - 1,i+1,true,outS s a),⟨⟨⟨by simp only; omega,by have:=outS_len s a; simp only; omega⟩,h2,(by simpa using h3)⟩,by simp only; omega⟩,Ent.rekeyB 104 1 640 100 2 _ rfl rfl rfl rfl rfl (Ent.of ?_)⟩
          simp only [zz,zq,↓reduceIte,zx,zj,zy,zk,zw,zb,reduceCtorEq,zd,zf,zp,zm,zh,zu,zt,zn,zc,zl,za,ze,zo,zg,nzs,outS,Int.natCast_add]
      | false=>
      simp only [zz,zq,↓reduceIte,zx,zj,zy,zk,zw,zb,reduceCtorEq,zd,zf,zp,zm,zh,zu,zt,zn,zc,zl,za,ze,zo,zg,nzs,d1,i0,i0.2,g0.1,g0.2.1,g1.1,g1.2.1,b0.1,b0.2,c5,inK,lo,hi]
      refine CallK.pure ⟨rfl,rfl⟩ rfl (all kd M3) ?_
      cases hA:allB kd with
      | true=>
        rw [hA] at h3
        simp only [zz,zq,↓reduceIte,zx,zj,zy,zk,zw,zb,reduceCtorEq,zd,zf,zp,zm,zh,zu,zt,zn,zc,zl,za,ze,zo,zg,nzs]
        by_cases haw:a=wh
        · have c6:(a=wh)=True:=eq_true haw
          rw [if_pos haw] at h2
          simp only [zz,zq,↓reduceIte,zx,zj,zy,zk,zw,zb,reduceCtorEq,zd,zf,zp,zm,zh,zu,zt,zn,zc,zl,za,ze,zo,zg,nzs,c6,inK,lo,hi]
          refine ⟨by omega,(f - 1,i+1,false,s),⟨⟨⟨by simp only; omega,hsl⟩,h2,(by simpa using h3)⟩,by simp only; omega⟩,Ent.of ?_⟩
          simp only [zq,↓reduceIte,zx,zj,zy,zk,zw,zb,reduceCtorEq,zd,zf,zp,zm,zh,zu,zt,zn,zc,zl,za,ze,zo,zg,Int.natCast_add]
        · have c6:(a=wh)=False:=eq_false haw
          rw [if_neg haw] at h2
          simp only [zz,zq,↓reduceIte,zx,zj,zy,zk,zw,zb,reduceCtorEq,zd,zf,zp,zm,zh,zu,zt,zn,zc,zl,za,ze,zo,zg,nzs,c6,inK,lo,hi]
          refine CallK.lendR (A:=fun t=>[.agg [.v (.int .i64 (g+1)),t,.v (.int .i64 s.2.1),.v (.int .i64 s.2.2)],.v (.int .i64 a)]) 800 (fun t t' ν ν' e=>by simp only [SV.vals,SV.val,e]) (ctxR (g+1) (outS s a).2.1 (outS s a).2.2) rfl rfl rfl (fun M6 h6=>out (g+1) s.2.1 s.2.2 a s.1 M6 (by omega)) rfl ?_
          simp only [rsv,zz,zq,↓reduceIte,zx,zj,zy,zk,zw,zb,reduceCtorEq,zd,zf,zp,zm,zh,zu,zt,zn,zc,zl,za,ze,zo,zg,nzs,inK,lo,hi]
          refine ⟨by omega,(f - 1,i+1,false,outS s a),⟨⟨⟨by simp only; omega,by have:=outS_len s a; simp only; omega⟩,h2,(by simpa using h3)⟩,by simp only; omega⟩,Ent.rekeyB 104 1 640 100 2 _ rfl rfl rfl rfl rfl (Ent.of ?_)⟩
          simp only [zz,zq,↓reduceIte,zx,zj,zy,zk,zw,zb,reduceCtorEq,zd,zf,zp,zm,zh,zu,zt,zn,zc,zl,za,ze,zo,zg,nzs,outS,Int.natCast_add]
      | false=>
      rw [hA] at h3
      simp only [zz,zq,↓reduceIte,zx,zj,zy,zk,zw,zb,reduceCtorEq,zd,zf,zp,zm,zh,zu,zt,zn,zc,zl,za,ze,zo,zg,nzs]
      refine CallK.pure ⟨rfl,rfl⟩ rfl (has g y kd hd a l M3 hy3) ?_
      have hHe:hasB l kd hd a=(decide (kd≠0) && decide (hd=a)):=by unfold hasB; rw [if_neg (by simp [hA])]
      rw [← hHe] at h3
      cases hH:hasB l kd hd a with
      | true=>
        rw [hH] at h3
        simp only [zz,zq,↓reduceIte,zx,zj,zy,zk,zw,zb,reduceCtorEq,zd,zf,zp,zm,zh,zu,zt,zn,zc,zl,za,ze,zo,zg,nzs]
        by_cases haw:a=wh
        · have c6:(a=wh)=True:=eq_true haw
          rw [if_pos haw] at h2
          simp only [zz,zq,↓reduceIte,zx,zj,zy,zk,zw,zb,reduceCtorEq,zd,zf,zp,zm,zh,zu,zt,zn,zc,zl,za,ze,zo,zg,nzs,c6,inK,lo,hi]
          refine ⟨by omega,(f - 1,i+1,true,s),⟨⟨⟨by simp only; omega,hsl⟩,h2,(by simpa using h3)⟩,by simp only; omega⟩,Ent.of ?_⟩
          simp only [zq,↓reduceIte,zx,zj,zy,zk,zw,zb,reduceCtorEq,zd,zf,zp,zm,zh,zu,zt,zn,zc,zl,za,ze,zo,zg,Int.natCast_add]
        · have c6:(a=wh)=False:=eq_false haw
          rw [if_neg haw] at h2
          simp only [zz,zq,↓reduceIte,zx,zj,zy,zk,zw,zb,reduceCtorEq,zd,zf,zp,zm,zh,zu,zt,zn,zc,zl,za,ze,zo,zg,nzs,c6,inK,lo,hi]
          refine CallK.lendR (A:=fun t=>[.agg [.v (.int .i64 (g+1)),t,.v (.int .i64 s.2.1),.v (.int .i64 s.2.2)],.v (.int .i64 a)]) 800 (fun t t' ν ν' e=>by simp only [SV.vals,SV.val,e]) (ctxR (g+1) (outS s a).2.1 (outS s a).2.2) rfl rfl rfl (fun M6 h6=>out (g+1) s.2.1 s.2.2 a s.1 M6 (by omega)) rfl ?_
          simp only [rsv,zz,zq,↓reduceIte,zx,zj,zy,zk,zw,zb,reduceCtorEq,zd,zf,zp,zm,zh,zu,zt,zn,zc,zl,za,ze,zo,zg,nzs,inK,lo,hi]
          refine ⟨by omega,(f - 1,i+1,true,outS s a),⟨⟨⟨by simp only; omega,by have:=outS_len s a; simp only; omega⟩,h2,(by simpa using h3)⟩,by simp only; omega⟩,Ent.rekeyB 104 1 640 100 2 _ rfl rfl rfl rfl rfl (Ent.of ?_)⟩
          simp only [zz,zq,↓reduceIte,zx,zj,zy,zk,zw,zb,reduceCtorEq,zd,zf,zp,zm,zh,zu,zt,zn,zc,zl,za,ze,zo,zg,nzs,outS,Int.natCast_add]
      | false=>
        rw [hH] at h3
        simp only [zz,zq,↓reduceIte,zx,zj,zy,zk,zw,zb,reduceCtorEq,zd,zf,zp,zm,zh,zu,zt,zn,zc,zl,za,ze,zo,zg,nzs]
        by_cases haw:a=wh
        · have c6:(a=wh)=True:=eq_true haw
          rw [if_pos haw] at h2
          simp only [zz,zq,↓reduceIte,zx,zj,zy,zk,zw,zb,reduceCtorEq,zd,zf,zp,zm,zh,zu,zt,zn,zc,zl,za,ze,zo,zg,nzs,c6,inK,lo,hi]
          refine ⟨by omega,(f - 1,i+1,false,s),⟨⟨⟨by simp only; omega,hsl⟩,h2,(by simpa using h3)⟩,by simp only; omega⟩,Ent.of ?_⟩
          simp only [zq,↓reduceIte,zx,zj,zy,zk,zw,zb,reduceCtorEq,zd,zf,zp,zm,zh,zu,zt,zn,zc,zl,za,ze,zo,zg,Int.natCast_add]
        · have c6:(a=wh)=False:=eq_false haw
          rw [if_neg haw] at h2
          simp only [zz,zq,↓reduceIte,zx,zj,zy,zk,zw,zb,reduceCtorEq,zd,zf,zp,zm,zh,zu,zt,zn,zc,zl,za,ze,zo,zg,nzs,c6,inK,lo,hi]
          refine CallK.lendR (A:=fun t=>[.agg [.v (.int .i64 (g+1)),t,.v (.int .i64 s.2.1),.v (.int .i64 s.2.2)],.v (.int .i64 a)]) 800 (fun t t' ν ν' e=>by simp only [SV.vals,SV.val,e]) (ctxR (g+1) (outS s a).2.1 (outS s a).2.2) rfl rfl rfl (fun M6 h6=>out (g+1) s.2.1 s.2.2 a s.1 M6 (by omega)) rfl ?_
          simp only [rsv,zz,zq,↓reduceIte,zx,zj,zy,zk,zw,zb,reduceCtorEq,zd,zf,zp,zm,zh,zu,zt,zn,zc,zl,za,ze,zo,zg,nzs,inK,lo,hi]
          refine ⟨by omega,(f - 1,i+1,false,outS s a),⟨⟨⟨by simp only; omega,by have:=outS_len s a; simp only; omega⟩,h2,(by simpa using h3)⟩,by simp only; omega⟩,Ent.rekeyB 104 1 640 100 2 _ rfl rfl rfl rfl rfl (Ent.of ?_)⟩
          simp only [zz,zq,↓reduceIte,zx,zj,zy,zk,zw,zb,reduceCtorEq,zd,zf,zp,zm,zh,zu,zt,zn,zc,zl,za,ze,zo,zg,nzs,outS,Int.natCast_add]
  · have d1:((i:Int) < (l.length:Int))=False:=eq_false (by omega)
    rw [List.drop_eq_nil_of_le (by omega)] at h2 h3
    simp only [hands,List.filter_nil,List.map_nil,strS,tookB,List.any_nil,Bool.and_false,Bool.or_false] at h2 h3
    subst h2 h3
    cases tk1 with
    | false=>
      rw [if_neg (by decide)] at hc
      subst hc
      simp only [zz,zq,↓reduceIte,zx,zj,zy,zk,zw,zb,reduceCtorEq,zd,zf,zp,zm,zh,zu,zt,zn,zc,zl,za,ze,zo,zg,nzs,d1]
      exact ⟨.own 800,rfl,rfl⟩
    | true=>
      rw [if_pos rfl] at hc
      subst hc
      simp only [zz,zq,↓reduceIte,zx,zj,zy,zk,zw,zb,reduceCtorEq,zd,zf,zp,zm,zh,zu,zt,zn,zc,zl,za,ze,zo,zg,nzs,d1]
      refine CallK.lendR (A:=fun t=>[.agg [.v (.int .i64 (g+1)),t,.v (.int .i64 s.2.1),.v (.int .i64 s.2.2)]]) 800 (fun t t' ν ν' e=>by simp only [SV.vals,SV.val,e]) (ctxR (g+1) 0 0) rfl rfl rfl (fun M6 h6=>free (g+1) s.2.1 s.2.2 _ M6) rfl ?_
      simp only [rsv,zz,zq,↓reduceIte,zx,zj,zy,zk,zw,zb,reduceCtorEq,zd,zf,zp,zm,zh,zu,zt,zn,zc,zl,za,ze,zo,zg,nzs]
      refine CallK.pure ⟨rfl,rfl⟩ rfl (all c M3) ?_
      cases hA:allB c with
      | true=>
        simp only [zz,zq,↓reduceIte,zx,zj,zy,zk,zw,zb,reduceCtorEq,zd,zf,zp,zm,zh,zu,zt,zn,zc,zl,za,ze,zo,zg,nzs]
        exact ⟨.own 672,rfl,rfl⟩
      | false=>
        simp only [zz,zq,↓reduceIte,zx,zj,zy,zk,zw,zb,reduceCtorEq,zd,zf,zp,zm,zh,zu,zt,zn,zc,zl,za,ze,zo,zg,nzs]
        exact ⟨.own 672,rfl,rfl⟩
end Go.X.Rv

