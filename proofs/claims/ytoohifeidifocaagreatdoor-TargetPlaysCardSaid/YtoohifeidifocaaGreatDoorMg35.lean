/- Contracts of functions and the logic that they are proved in (5 texts in one). Conditions: none. -/
import Derived.Test.YtoohifeidifocaaGreatDoorResvZ
import Derived.Test.YtoohifeidifocaaGreatDoorMg7
import Derived.Test.YtoohifeidifocaaGreatDoorMg16
import Derived.Test.YtoohifeidifocaaGreatDoorVpV
open Nat renaming reduceAdd→zx,reduceMul→zj,reduceDiv→zy,reduceEqDiff→zk,reduceLT→zw,reduceLeDiff→zb,reduceBEq→zg
open Int renaming reduceEq→zd,reduceNe→zf,reduceLT→zp,reduceLE→zm,reduceAdd→zh,reduceSub→zu,reduceMul→zt,reduceNeg→zn,reduceToNat→zc,cast_ofNat_Int→zl,natCast_zero→za,natCast_one→ze,toNat_natCast→zo
namespace Go.X.Rp
end Go.X.Rp
namespace Go.X.Sl
end Go.X.Sl
namespace Go.X.Bg
end Go.X.Bg
namespace Go.X.Nm
end Go.X.Nm
namespace Go.X.Bp
end Go.X.Bp
namespace Go.X.Sb
end Go.X.Sb
namespace Go.X.Vo
end Go.X.Vo
set_option linter.unusedSimpArgs false
set_option linter.unusedVariables false
set_option maxHeartbeats 4000000
set_option maxRecDepth 20000
namespace Go.X.Rv
open Go Go.X Go.X.Rp Go.X.Sl

/-- the hands that have a key, of a table of keys -/
def hl (f:Int→Int) (b:Int):Nat→Int→List Int
  | 0,_=>[]
  | n+1,a=>if f a=b then a :: hl f b n (a+1) else hl f b n (a+1)
theorem hl_snoc (f:Int→Int) (b:Int) : ∀ (n:Nat) (a:Int),hl f b (n+1) a=hl f b n a++if f (a+n)=b then [a+n] else []
  | 0,a=>by simp only [hl,List.nil_append,za,Int.add_zero]
  | n+1,a=>by
    rw [hl,hl_snoc f b n (a+1),hl]
    have e:a+1+(n:Int)=a+((n+1:Nat):Int):=by omega
    rw [e]
    split <;> rfl
theorem hl_len (f:Int→Int) (b:Int) : ∀ (n:Nat) (a:Int),(hl f b n a).length≤n
  | 0,_=>Nat.le_refl _
  | n+1,a=>by
    have:=hl_len f b n (a+1)
    rw [hl]
    split
    · simp; omega
    · omega
theorem hl_gen (f:Int→Int) (b:Int) (hb:1≤b) : ∀ (n:Nat) (a:Int),hl f b n a=((gen f n a).filter fun x=>decide (x.2=b)).map (·.1)
  | 0,_=>rfl
  | n+1,a=>by
    rw [hl,gen,hl_gen f b hb n (a+1)]
    by_cases h:f a=b
    · rw [if_pos h,if_pos (by omega),List.filter_cons_of_pos (by simp [h])]
      rfl
    · rw [if_neg h]
      split
      · rw [List.filter_cons_of_neg (by simp [h])]
      · rfl
theorem hl_hands {l:List (Int×Int)} (b:Int) (hb:1≤b) (hs:srt 0 l):hl (fun h=>ky h l) b 8 0=hands l b:=by
  rw [hl_gen _ b hb,gen_srt rfl hs]
  rfl
theorem ix_any (k:Int) : ∀ (l:List Int) (i:Nat),decide (0≤ix k l i)=l.any fun q=>decide (k=q)
  | [],i=>by simp [ix]
  | x :: l,i=>by
    rw [ix,List.any_cons]
    by_cases h:k=x
    · simp [h]
    · rw [if_neg h,ix_any k l (i+1)]
      simp [h]
def okS (s:ST):Prop:=srt 0 s.1∧(allB s.2.1=true→s.1≠[])∧0≤s.2.1
theorem okS_out {s:ST} (h:okS s) (q:Int):okS (outS s q):=by
  obtain ⟨h1,h2,h3⟩:=h
  refine ⟨srt_filter h1,?_,?_⟩
  · unfold outS
    simp only
    by_cases hf:outF s.1 s.2.1 s.2.2 q=true
    · rw [if_pos hf]
      intro hA
      exact absurd hA (by decide)
    · rw [if_neg hf]
      intro hA hE
      have:=flag_eq (h:=s.2.2) q h1 h2
      apply hf
      rw [← this]
      unfold kF
      rw [hA,kr_del q h1]
      have:(s.1.filter fun x=>!decide (x.1=q))=[]:=hE
      rw [this]
      simp
  · unfold outS
    simp only
    split
    · omega
    · exact h3
theorem outS_key {s:ST} (h:okS s) (q:Int):outS s q=(kr s.1 q 0,if kF s.1 s.2.1 s.2.2 q 0=true then 0 else s.2.1,if kF s.1 s.2.1 s.2.2 q 0=true then 0 else s.2.2):=by
  rw [kr_del q h.1,flag_eq q h.1 h.2.1]
  rfl
theorem right5 (g:Int) (y:Value) (kd hd wh ke b c:Int) (l:List (Int×Int)) (M:Mem) (hy:RowM M y 2 (l.map encR)) (he:resvE g l kd hd=0) :
    Meets Proofs.Tryz.prog 17 [rsv g (.v y) kd hd,.v (.int .i64 5),.v (.int .i64 wh),.v (.int .i64 ke),.v (.int .i64 b),.v (.int .i64 c)] M (resR (preS g l kd hd wh ke b c)):=by
  refine Meets.of_body [0,1,2,3,4,5,6,12,13,14,15,16,17,18,19,21,24,30,33,37,41,58,60,61,65,81,87,91,97,101,106,110,123,125,126,132,140,144,148,149,150,151,156,175] Proofs.Tryz.func17 rfl (by kernel_rfl) rfl fun w=>?_
  obtain ⟨hg,hs,hkk,hAl,hk0,hh0⟩:=resvE_ok he
  have hl8:=len8 hs
  generalize hc:preS g l kd hd wh ke b c=r
  unfold preS at hc
  simp only [Proofs.Tryz.f17,rsv,zz,zq,↓reduceIte,zx,zj,zy,zk,zw,zb,reduceCtorEq,zd,zf,zp,zm,zh,zu,zt,zn,zc,zl,za,ze,zo,zg,nzs]
  refine CallK.pure ⟨rfl,rfl⟩ rfl (within wh 0 7 M) ?_
  rw [whoB_dec]
  cases hw:whoB wh with
  | false=>
    have hke:keyE g l kd hd wh ke=1:=by rw [keyE_val he,if_pos hw]
    rw [hke,if_pos (by decide)] at hc
    subst hc
    simp only [zz,zq,↓reduceIte,zx,zj,zy,zk,zw,zb,reduceCtorEq,zd,zf,zp,zm,zh,zu,zt,zn,zc,zl,za,ze,zo,zg,nzs]
    exact ⟨_,rfl,RowM.nil _ _⟩
  | true=>
  simp only [zz,zq,↓reduceIte,zx,zj,zy,zk,zw,zb,reduceCtorEq,zd,zf,zp,zm,zh,zu,zt,zn,zc,zl,za,ze,zo,zg,nzs]
  refine CallK.pure ⟨rfl,rfl⟩ rfl (key g y kd hd wh l M hy) ?_
  by_cases hz:ky wh l=0
  · have c1:(ky wh l=0)=True:=eq_true hz
    have hke:keyE g l kd hd wh ke=9:=by rw [keyE_val he,if_neg (by simp [hw]),if_pos (.inl hz)]
    rw [hke,if_pos (by decide)] at hc
    subst hc
    simp only [zz,zq,↓reduceIte,zx,zj,zy,zk,zw,zb,reduceCtorEq,zd,zf,zp,zm,zh,zu,zt,zn,zc,zl,za,ze,zo,zg,nzs,c1]
    exact ⟨_,rfl,RowM.nil _ _⟩
  have c1:(ky wh l=0)=False:=eq_false hz
  by_cases ho:ky wh l=ke
  rotate_left
  · have c2:(ky wh l=ke)=False:=eq_false ho
    have hke:keyE g l kd hd wh ke=9:=by rw [keyE_val he,if_neg (by simp [hw]),if_pos (.inr ho)]
    rw [hke,if_pos (by decide)] at hc
    subst hc
    simp only [zz,zq,↓reduceIte,zx,zj,zy,zk,zw,zb,reduceCtorEq,zd,zf,zp,zm,zh,zu,zt,zn,zc,zl,za,ze,zo,zg,nzs,c1,c2]
    exact ⟨_,rfl,RowM.nil _ _⟩
  have c2:(ky wh l=ke)=True:=eq_true ho
  have hke:keyE g l kd hd wh ke=0:=by rw [keyE_val he,if_neg (by simp [hw]),if_neg (by rintro (h | h); exact hz h; exact h ho)]
  rw [hke,if_neg (by decide)] at hc
  simp only [zz,zq,↓reduceIte,zx,zj,zy,zk,zw,zb,reduceCtorEq,zd,zf,zp,zm,zh,zu,zt,zn,zc,zl,za,ze,zo,zg,nzs,c1,c2]
  refine CallK.pure ⟨rfl,rfl⟩ rfl (rkind c M) ?_
  cases hK:kindB c with
  | false=>
    rw [if_pos (.inl hK)] at hc
    subst hc
    simp only [zz,zq,↓reduceIte,zx,zj,zy,zk,zw,zb,reduceCtorEq,zd,zf,zp,zm,zh,zu,zt,zn,zc,zl,za,ze,zo,zg,nzs]
    exact ⟨_,rfl,RowM.nil _ _⟩
  | true=>
  simp only [zz,zq,↓reduceIte,zx,zj,zy,zk,zw,zb,reduceCtorEq,zd,zf,zp,zm,zh,zu,zt,zn,zc,zl,za,ze,zo,zg,nzs]
  refine CallK.pure ⟨rfl,rfl⟩ rfl (within b 1 1000 M) ?_
  by_cases hbr:b < 1∨1000 < b
  · rw [if_pos (.inr hbr)] at hc
    subst hc
    rw [decide_eq_false (show ¬ (1≤b∧b≤1000) by omega)]
    simp only [zz,zq,↓reduceIte,zx,zj,zy,zk,zw,zb,reduceCtorEq,zd,zf,zp,zm,zh,zu,zt,zn,zc,zl,za,ze,zo,zg,nzs]
    exact ⟨_,rfl,RowM.nil _ _⟩
  rw [if_neg (by simp [hK]; omega)] at hc
  rw [decide_eq_true (show (1≤b∧b≤1000) by omega)]
  simp only [zz,zq,↓reduceIte,zx,zj,zy,zk,zw,zb,reduceCtorEq,zd,zf,zp,zm,zh,zu,zt,zn,zc,zl,za,ze,zo,zg,nzs]
  refine LoopK.nilRow 17 136 1 rfl rfl rfl ?_
  have hhl:=hl_hands b (by omega) hs
  refine LoopK.go (X:=Nat×Nat) (fun x=>([(2,true,.v (.int .i64 wh)),(4,true,.v (.int .i64 b)),(5,true,.v (.int .i64 c)),(6,true,.ptr 48 0 0 0),(12,true,.ptr 96 0 0 0),(13,true,.v (.int .i64 0)),(17,true,.own 1088),(125,true,.v (.int .i64 x.2))],
      [(1088,.row 1 ((hl (fun h=>ky h l) b x.2 0).map encI)),(48,.box [.v (.int .i64 g),.v y,.v (.int .i64 kd),.v (.int .i64 hd)] none),(96,.box [.v (.int .i64 0),.v (.slice none 0 0),.v (.int .i64 0),.v (.int .i64 0)] none)],M))
    (fun x=>x.1+x.2=8) (fun x=>x.1) (8,0) rfl (Ent.of ?_) ?_
  · simp only [zq,↓reduceIte,zx,zj,zy,zk,zw,zb,reduceCtorEq,zd,zf,zp,zm,zh,zu,zt,zn,zc,zl,za,ze,zo,zg,hl,List.map_nil]
  rintro ⟨f,j⟩ h1
  simp only at h1
  by_cases hj:j < 8
  · have d1:((j:Int) < 8)=True:=eq_true (by omega)
    have hgs:=hl_snoc (fun h=>ky h l) b j 0
    have hgl:=hl_len (fun h=>ky h l) b j 0
    simp only [Int.zero_add] at hgs
    simp only [zz,zq,↓reduceIte,zx,zj,zy,zk,zw,zb,reduceCtorEq,zd,zf,zp,zm,zh,zu,zt,zn,zc,zl,za,ze,zo,zg,nzs,d1]
    refine CallK.pure ⟨rfl,rfl⟩ rfl (key g y kd hd j l M hy) ?_
    by_cases hw2:ky (j:Int) l=b
    · have d2:(ky (j:Int) l=b)=True:=eq_true hw2
      rw [if_pos hw2] at hgs
      simp only [zz,zq,↓reduceIte,zx,zj,zy,zk,zw,zb,reduceCtorEq,zd,zf,zp,zm,zh,zu,zt,zn,zc,zl,za,ze,zo,zg,nzs,d2,inK,lo,hi,List.length_map]
      refine ⟨⟨by omega,by omega⟩,by omega,(f - 1,j+1),⟨by simp only; omega,by simp only; omega⟩,Ent.of ?_⟩
      simp only [zq,↓reduceIte,zx,zj,zy,zk,zw,zb,reduceCtorEq,zd,zf,zp,zm,zh,zu,zt,zn,zc,zl,za,ze,zo,zg,hgs,List.map_append,List.map_cons,List.map_nil,encI,Int.natCast_add]
    · have d2:(ky (j:Int) l=b)=False:=eq_false hw2
      rw [if_neg hw2,List.append_nil] at hgs
      simp only [zz,zq,↓reduceIte,zx,zj,zy,zk,zw,zb,reduceCtorEq,zd,zf,zp,zm,zh,zu,zt,zn,zc,zl,za,ze,zo,zg,nzs,d2,inK,lo,hi]
      refine ⟨by omega,(f - 1,j+1),⟨by simp only; omega,by simp only; omega⟩,Ent.of ?_⟩
      simp only [zq,↓reduceIte,zx,zj,zy,zk,zw,zb,reduceCtorEq,zd,zf,zp,zm,zh,zu,zt,zn,zc,zl,za,ze,zo,zg,hgs,Int.natCast_add]
  have d1:((j:Int) < 8)=False:=eq_false (by omega)
  have ej:j=8:=by omega
  subst ej
  rw [hhl]
  have hln:(hands l b).length≤8:=by rw [← hhl]; exact hl_len _ _ 8 0
  have hlen:(((hands l b).length:Int)=0)=(hands l b=[]):=by
    apply propext
    rw [← List.length_eq_zero_iff]
    omega
  by_cases hh:hands l b=[]
  · have d2:=hlen.trans (eq_true hh)
    rw [if_pos hh] at hc
    subst hc
    simp only [zz,zq,↓reduceIte,zx,zj,zy,zk,zw,zb,reduceCtorEq,zd,zf,zp,zm,zh,zu,zt,zn,zc,zl,za,ze,zo,zg,nzs,d1,d2,List.length_map]
    exact ⟨_,rfl,RowM.nil _ _⟩
  have d2:=hlen.trans (eq_false hh)
  rw [if_neg hh] at hc
  by_cases hm:g=2147483647
  · have c5:(g=2147483647)=True:=eq_true hm
    rw [if_pos hm] at hc
    subst hc
    simp only [zz,zq,↓reduceIte,zx,zj,zy,zk,zw,zb,reduceCtorEq,zd,zf,zp,zm,zh,zu,zt,zn,zc,zl,za,ze,zo,zg,nzs,d1,d2,c5,List.length_map]
    exact ⟨_,rfl,RowM.nil _ _⟩
  have c5:(g=2147483647)=False:=eq_false hm
  rw [if_neg hm] at hc
  simp only [zz,zq,↓reduceIte,zx,zj,zy,zk,zw,zb,reduceCtorEq,zd,zf,zp,zm,zh,zu,zt,zn,zc,zl,za,ze,zo,zg,nzs,d1,d2,c5,List.length_map]
  refine CallK.own (ctxR g _ _) rfl rfl (rkeyed g y kd hd (-1) 0 l M hy (srt_keys hs) hkk.1) rfl fun M2 hM2=>?_
  rw [kr_same hs,kF_m1 hs (fun hA=>(hAl hA).2) hh0]
  simp only [rsv,zz,zq,↓reduceIte,zx,zj,zy,zk,zw,zb,reduceCtorEq,zd,zf,zp,zm,zh,zu,zt,zn,zc,zl,za,ze,zo,zg,nzs,Bool.false_eq_true,if_false,List.length_map]
  generalize hfin:strS wh (l,kd,hd) (hands l b)=fin at hc
  refine LoopK.go (X:=Nat×Nat×ST×Mem) (fun x=>([(2,true,.v (.int .i64 wh)),(4,true,.v (.int .i64 b)),(5,true,.v (.int .i64 c)),(6,true,.ptr 48 0 0 0),(12,true,.ptr 96 0 0 0),(13,true,.v (.int .i64 0)),(17,true,.own 1088),(19,true,.ptr 152 0 0 0),(148,true,.own 1088),(149,true,.v (.int .i64 (hands l b).length)),(150,true,.v (.int .i64 x.2.1))],
      [(1088,.row 1 ((hands l b).map encI)),(48,.box [.v (.int .i64 g),.v y,.v (.int .i64 kd),.v (.int .i64 hd)] none),(96,.box [.v (.int .i64 0),.v (.slice none 0 0),.v (.int .i64 0),.v (.int .i64 0)] none),(152,.box [.v (.int .i64 g),.own 1600,.v (.int .i64 x.2.2.1.2.1),.v (.int .i64 x.2.2.1.2.2)] none),(1600,.row 2 (x.2.2.1.1.map encR))],x.2.2.2))
    (fun x=>(x.1+x.2.1=(hands l b).length∧M2.le x.2.2.2)∧okS x.2.2.1∧strS wh x.2.2.1 ((hands l b).drop x.2.1)=fin) (fun x=>x.1) ((hands l b).length,0,(l,kd,hd),M2) ⟨⟨rfl,Mem.le.refl M2⟩,⟨hs,fun hA=>(hAl hA).2,hkk.1⟩,hfin⟩ (Ent.rekeyB 152 1 1176 200 2 _ rfl rfl rfl rfl rfl (Ent.of ?_)) ?_
  · simp only [zz,zq,↓reduceIte,zx,zj,zy,zk,zw,zb,reduceCtorEq,zd,zf,zp,zm,zh,zu,zt,zn,zc,zl,za,ze,zo,zg,nzs]
  rintro ⟨f,i,s,N⟩ ⟨⟨h1,hN⟩,hok,h2⟩
  simp only at h1 h2 hN hok
  have hyN:=(hy.le hM2).le hN
  by_cases hil:i < (hands l b).length
  · have e1:((i:Int) < ((hands l b).length:Int))=True:=eq_true (by omega)
    obtain ⟨q,hx,hd'⟩:=l_drop_at (l:=hands l b) (i:=i) hil
    rw [hd',strS] at h2
    have hgi:((hands l b).map encI).getD i []=[.int .i64 q]:=by rw [List.getD_eq_getElem?_getD,List.getElem?_map,hx]; rfl
    by_cases hqw:q=wh
    · have e2:(q=wh)=True:=eq_true hqw
      rw [if_pos hqw] at h2
      simp only [zz,zq,↓reduceIte,zx,zj,zy,zk,zw,zb,reduceCtorEq,zd,zf,zp,zm,zh,zu,zt,zn,zc,zl,za,ze,zo,zg,nzs,e1,e2,hgi,List.length_map,List.getD_cons_zero,inK,lo,hi]
      refine ⟨by omega,hil,by omega,(f - 1,i+1,s,N),⟨⟨⟨by simp only; omega,hN⟩,hok,h2⟩,by simp only; omega⟩,Ent.of ?_⟩
      simp only [zq,↓reduceIte,zx,zj,zy,zk,zw,zb,reduceCtorEq,zd,zf,zp,zm,zh,zu,zt,zn,zc,zl,za,ze,zo,zg,Int.natCast_add]
    · have e2:(q=wh)=False:=eq_false hqw
      rw [if_neg hqw] at h2
      simp only [zz,zq,↓reduceIte,zx,zj,zy,zk,zw,zb,reduceCtorEq,zd,zf,zp,zm,zh,zu,zt,zn,zc,zl,za,ze,zo,zg,nzs,e1,e2,hgi,List.length_map,List.getD_cons_zero,inK,lo,hi]
      refine ⟨by omega,hil,CallK.pub (k:=1600) rfl fun v N3 hN3 hv=>?_⟩
      simp only [zz,zq,↓reduceIte,zx,zj,zy,zk,zw,zb,reduceCtorEq,zd,zf,zp,zm,zh,zu,zt,zn,zc,zl,za,ze,zo,zg,sp1,sp2,sp3,nzs]
      refine CallK.own (ctxR g _ _) rfl rfl (rkeyed g v s.2.1 s.2.2 q 0 s.1 N3 hv (srt_keys hok.1) hok.2.2) rfl fun N4 hN4=>?_
      simp only [rsv,zz,zq,↓reduceIte,zx,zj,zy,zk,zw,zb,reduceCtorEq,zd,zf,zp,zm,zh,zu,zt,zn,zc,zl,za,ze,zo,zg,sp1,sp2,sp3,nzs,inK,lo,hi]
      have hk:=outS_key hok q
      refine ⟨by omega,(f - 1,i+1,outS s q,N4),⟨⟨⟨by simp only; omega,(hN.trans hN3).trans hN4⟩,okS_out hok q,h2⟩,by simp only; omega⟩,Ent.rekeyB 152 1 1272 200 2 _ rfl rfl rfl rfl rfl (Ent.of ?_)⟩
      simp only [zz,zq,↓reduceIte,zx,zj,zy,zk,zw,zb,reduceCtorEq,zd,zf,zp,zm,zh,zu,zt,zn,zc,zl,za,ze,zo,zg,nzs,hk,Int.natCast_add]
  have e1:((i:Int) < ((hands l b).length:Int))=False:=eq_false (by omega)
  rw [List.drop_eq_nil_of_le (by omega),strS] at h2
  subst h2
  by_cases hkz:kd=0
  · have c3:(0 < kd)=False:=eq_false (by omega)
    have ht:tookB kd hd (hands l b)=false:=by unfold tookB; rw [hkz]; simp
    rw [ht,if_neg (by decide)] at hc
    subst hc
    simp only [zz,zq,↓reduceIte,zx,zj,zy,zk,zw,zb,reduceCtorEq,zd,zf,zp,zm,zh,zu,zt,zn,zc,zl,za,ze,zo,zg,nzs,e1,c3,inK,lo,hi]
    exact ⟨by omega,.own 1600,rfl,rfl⟩
  have c3:(0 < kd)=True:=eq_true (by omega)
  simp only [zz,zq,↓reduceIte,zx,zj,zy,zk,zw,zb,reduceCtorEq,zd,zf,zp,zm,zh,zu,zt,zn,zc,zl,za,ze,zo,zg,nzs,e1,c3]
  refine CallK.pure ⟨rfl,rfl⟩ rfl (shared kd N) ?_
  cases hA:allB kd with
  | true=>
    have ht:tookB kd hd (hands l b)=false:=by unfold tookB; rw [hA]; rfl
    rw [ht,if_neg (by decide)] at hc
    subst hc
    simp only [zz,zq,↓reduceIte,zx,zj,zy,zk,zw,zb,reduceCtorEq,zd,zf,zp,zm,zh,zu,zt,zn,zc,zl,za,ze,zo,zg,nzs,inK,lo,hi]
    exact ⟨by omega,.own 1600,rfl,rfl⟩
  | false=>
  simp only [zz,zq,↓reduceIte,zx,zj,zy,zk,zw,zb,reduceCtorEq,zd,zf,zp,zm,zh,zu,zt,zn,zc,zl,za,ze,zo,zg,nzs]
  refine CallK.lend (k:=1088) rfl rfl rfl (fun _=>rfl) (fun v2 N2 hN2 hv2=>contains v2 (hands l b) hd N2 hv2) ?_
  rw [ix_any]
  have ht:tookB kd hd (hands l b)=(hands l b).any fun q=>decide (hd=q):=by unfold tookB; rw [hA,decide_eq_true hkz]; rfl
  rw [ht] at hc
  cases hin:(hands l b).any fun q=>decide (hd=q) with
  | false=>
    rw [hin,if_neg (by decide)] at hc
    subst hc
    simp only [zz,zq,↓reduceIte,zx,zj,zy,zk,zw,zb,reduceCtorEq,zd,zf,zp,zm,zh,zu,zt,zn,zc,zl,za,ze,zo,zg,nzs,inK,lo,hi]
    exact ⟨by omega,.own 1600,rfl,rfl⟩
  | true=>
    rw [hin,if_pos rfl] at hc
    subst hc
    simp only [zz,zq,↓reduceIte,zx,zj,zy,zk,zw,zb,reduceCtorEq,zd,zf,zp,zm,zh,zu,zt,zn,zc,zl,za,ze,zo,zg,nzs]
    refine CallK.pub (k:=1600) rfl fun v N3 hN3 hv=>?_
    simp only [zz,zq,↓reduceIte,zx,zj,zy,zk,zw,zb,reduceCtorEq,zd,zf,zp,zm,zh,zu,zt,zn,zc,zl,za,ze,zo,zg,sp1,sp2,sp3,nzs]
    refine CallK.own (ctxR g _ _) rfl rfl (rheld g v s.2.1 s.2.2 wh c s.1 N3 hv hok.1 hok.2.2) rfl fun N4 hN4=>?_
    simp only [rsv,zz,zq,↓reduceIte,zx,zj,zy,zk,zw,zb,reduceCtorEq,zd,zf,zp,zm,zh,zu,zt,zn,zc,zl,za,ze,zo,zg,sp1,sp2,sp3,nzs,inK,lo,hi]
    exact ⟨by omega,.own 1432,rfl,rfl⟩
end Go.X.Rv

namespace Go.X.Rv
open Go Go.X Go.X.Rp Go.X.Sl

theorem same (g g':Int) (v v':Value) (k k' h h':Int) (l l':List (Int×Int)) (M:Mem) (hv:RowM M v 2 (l.map encR)) (hv':RowM M v' 2 (l'.map encR)) (e1:g=g') (e2:k=k') (e3:h=h') (e4:l=l') :
    Meets Proofs.Tryz.prog 19 [rsv g (.v v) k h,rsv g' (.v v') k' h'] M fun r _ _=>r = .v (.bool true):=by
  refine Meets.of_body [0,1,2,3,4] Proofs.Tryz.func19 rfl (by kernel_rfl) rfl fun w=>?_
  have c1:(g=g')=True:=eq_true e1
  have c2:(k=k')=True:=eq_true e2
  have c3:(h=h')=True:=eq_true e3
  simp only [Proofs.Tryz.f19,rsv,zz,zq,↓reduceIte,zx,zj,zy,zk,zw,zb,reduceCtorEq,zd,zf,zp,zm,zh,zu,zt,zn,zc,zl,za,ze,zo,zg,nzs,c1,c2,c3]
  refine CallK.pure ⟨rfl,rfl⟩ rfl (eqR v v' l l' M hv hv') ?_
  rw [decide_eq_true e4]
  simp only [zz,zq,↓reduceIte,zx,zj,zy,zk,zw,zb,reduceCtorEq,zd,zf,zp,zm,zh,zu,zt,zn,zc,zl,za,ze,zo,zg,nzs]
end Go.X.Rv

namespace Go.X
open Go Go.RowKit
section
variable {E:Env} {σ:Sig} {H:HS} {M:Mem} {a:Act} {w:World} {ν:Nat→Value} {K:KP} {o:Oper}
/-- a contract that hands back a pointer to a new box -/
def NewB (cs:List SV):RP:=fun r H _=>∃ k,r = .ptr k 0 0 0∧hget H k=some (.box cs none)
theorem CallK.newBox {f d:Nat} {l cs:List SV} (hl:SV.concs l=true) (hd:decide (d < E.N)=true) (h:Meets E.P f l M (NewB cs)) (hc:SV.concs cs=true) (hn:hNoKey d (hdel d H)=true)
    (hk : ∀ M',M.le M'→K ((d,true,.ptr (8 * d) 0 0 0) :: sigDrop d σ) ((8 * d,.box cs none) :: hdel d H) M'):CallK E f l d K σ H M:=by
  intro ν a w hs hh
  refine .inl ⟨h.1,?_⟩
  rw [SV.concs_vals (ν:=ν0) (ν':=ν) l hl]
  refine (h.2 w hh.mem).mono ?_
  rintro e w' ⟨s,H',M',ν',rfl,hh',k,rfl,hR⟩
  let ν2:Nat→Value:=fun j=>if j / 8=d then ν' k else ν j
  have hν : ∀ j,j / 8≠d→ν2 j=ν j:=fun j hj=>by simp [ν2,hj]
  have hν8:ν2 (8 * d)=ν' k:=by simp [ν2,show (8 * d) / 8=d by omega]
  refine ⟨_,rfl,_,_,_,⟨ν2,(hs.drop hν).put (of_decide_eq_true hd) (by simp only [cond_true,SV.val,hν8]),?_⟩,hk M' hh'.le0⟩
  refine ((hh.call hh').sublist (hdel_sub d H)).add hn hν (fun j=>?_) ?_ (fun b hb=>?_)
  · by_cases hj:j / 8=d
    · simp only [ν2,hj,if_true]; exact hh'.one k
    · simp only [ν2,hj,if_false]; exact hh.one j
  · rw [hν8]
    obtain ⟨⟨b,T,e1,e2⟩,_⟩:=hh'.holds _ (hget_mem hR)
    exact ⟨⟨b,T,e1,by rw [SV.concs_vals (ν:=ν') (ν':=ν2) cs hc]; exact e2⟩,fun _ h=>by cases h⟩
  · rw [hν8] at hb
    have hbm:b ∈ fp ν' H':=List.mem_filterMap.2 ⟨(k,_),hget_mem hR,hb⟩
    obtain ⟨h1,h2⟩:=hh'.apart b hbm
    refine ⟨fun hm=>?_,h1,Nat.le_trans hh.below.size h2⟩
    have:=hh.fp_lt (((hdel_sub d H).filterMap _).subset hm)
    simp only at h2
    omega
/-- what ties say -/
def tieEq (ys:Nat→Value):HS→Prop
  | []=>True
  | (k,.box _ (some t)) :: H=>ys k=t∧tieEq ys H
  | (_,.box _ none) :: H=>tieEq ys H
  | (_,.row _ _) :: H=>tieEq ys H
  | (_,.tab _ _) :: H=>tieEq ys H
  | (_,.mp _) :: H=>tieEq ys H
theorem tieEq_of : ∀ {H:HS},(∀ p ∈ H,p.2.holds ν w (ν p.1))→tieEq ν H
  | [],_=>trivial
  | (k,.box cs (some t)) :: H,h=>⟨(h (k,.box cs (some t)) (by simp)).2 t rfl,tieEq_of fun p hp=>h p (by simp [hp])⟩
  | (k,.box cs none) :: H,h=>tieEq_of (H:=H) fun p hp=>h p (by simp [hp])
  | (k,.row _ _) :: H,h=>tieEq_of (H:=H) fun p hp=>h p (by simp [hp])
  | (k,.tab _ _) :: H,h=>tieEq_of (H:=H) fun p hp=>h p (by simp [hp])
  | (k,.mp _) :: H,h=>tieEq_of (H:=H) fun p hp=>h p (by simp [hp])
/-- as DrawK.held, where boxes that were tied stay what they were -/
theorem DrawK.heldE {id:Nat} {ops:Array Oper} (sel:List Nat) (sch:Sch) (hm:E.P.follows .mixedOrders=true) (hB:(Region.noSelect ops && schB .any ops sch ops.size (Array.replicate ops.size false))=true)
    (h : ∀ xs:Nat→Value,tieEq xs H→stayH (pickH sel (tieH xs H)) (tieH xs H)∧wpH E ops.toList (pickH sel (tieH xs H)) M K sch σ (tieH xs H) M):DrawK E id ops K σ H M:=by
  rintro a w ⟨ν,hs,hh⟩
  simp only [Bool.and_eq_true] at hB
  have ht:=tieEq_of hh.holds
  have h1:=tieH_heap (hh.grow ((Below.refl _ _).drew):Heap E ν H M { w with drawn:=w.drawn+1 })
  exact wp_region_held hm (wpH_sound hB.1 (h1.sublist (pickH_sub sel _)) (pickH_tieds sel H) sch _ _ σ _ M a _ hB.2 ⟨ν,hs,h1⟩ ⟨(h ν ht).1,Mem.le.refl M⟩ (h ν ht).2)
/-- as CallK.lendB, where a row of the callee's own is handed back: it is published -/
theorem CallK.lendBR (B:Nat) {f d:Nat} {fn:Func} {c:Code} {l:List SV} (T:SV→SV) (hT:Ctx T) (live:List Nat) (hf:E.P.funcs[f]? = some fn) (hb:fn.body=some c) (hn:okFn fn l.length=true) (hd:decide (d < E.N)=true) (hH:lentB H=true)
    (h : ∀ xs:Nat→Value,wpC ⟨E.P,fn.ntmps,E.w0,E.M0⟩ live c (RetK E.P fn.results.toList (fun s H' M'=>∃ k sz es,s=T (.own k)∧hget H' k=some (.row sz es) ∧ ∀ v M'',M'.le M''→RowM M'' v sz es→((T (.v v)).conc=true∧(backH B xs (hpub k v H') H).2)∧K ((d,true,T (.v v)) :: σ) (backH B xs (hpub k v H') H).1 M'')) (params fn.ntmps 0 (SV.shs B l)) (lentH B xs H) M) :
    CallK E f l d K σ H M:=by
  intro ν a w hs hh
  simp only [okFn,Bool.and_eq_true,Bool.not_eq_true',decide_eq_true_eq] at hn
  refine .inl ⟨⟨fn,hf,hn.1.1,hn.1.2⟩,?_⟩
  refine calls_of_wp hf hb ?_
  rw [← SV.shs_vals (B:=B) (ν:=ν) l]
  have hlen:(SV.vals (shN B ν) (SV.shs B l)).length=l.length:=by rw [SV.vals_map,List.length_map,SV.shs_len]
  have hheap:Heap ⟨E.P,fn.ntmps,E.w0,E.M0⟩ (shN B ν) (lentH B ν H) M w:=by
    refine ⟨fun q hq=>?_,by rw [lentH_fp B ν ν H hH]; exact hh.nodup,by rw [lentH_fp B ν ν H hH]; exact hh.apart,hh.mem,hh.below,hh.le0,hh.fresh,fun j=>?_⟩
    · obtain ⟨k,cs,t,h1,rfl,hc⟩:=lentH_mem hH hq
      obtain ⟨⟨b,T,e1,e2⟩,_⟩:=hh.holds _ h1
      refine ⟨⟨b,T,by rw [shN_at]; exact e1,by rw [SV.concs_vals (ν:=ν) (ν':=shN B ν) cs hc]; exact e2⟩,fun v hv=>?_⟩
      cases hv
      exact shN_at B ν k
    · unfold shN
      split
      · exact hh.one _
      · exact hh.one _
  refine Code.wp_mono ?_ (wpC_sound c _ _ _ _ (h ν) _ w ⟨shN B ν,⟨?_,rfl,?_⟩,hheap⟩)
  · rintro e a' w' ⟨σ',H',M',⟨ν',hs',hh'⟩,hq⟩
    have key:(match rsvs E.P σ' H' M' fn.results.toList with | some (ss,C)=>C∧(fun s H' M'=>∃ k sz es,s=T (.own k)∧hget H' k=some (.row sz es) ∧ ∀ v M'',M'.le M''→RowM M'' v sz es→((T (.v v)).conc=true∧(backH B ν (hpub k v H') H).2)∧K ((d,true,T (.v v)) :: σ) (backH B ν (hpub k v H') H).1 M'') (one? ss) H' M' | none=>False) →
        a'.defers=[] ∧ ∃ v,(results fn a'.tmps).run E.P w' = .ok v w' ∧ ∃ v',Ending.returned v = .returned v' ∧ ∃ σ'' H'' M'',Rep E σ'' H'' M'' (a.put (some d) v') w'∧K σ'' H'' M'':=by
      intro hq
      split at hq
      · rename_i ss C hr
        obtain ⟨hC,k,sz,es,hk1,hk2,hk3⟩:=hq
        obtain ⟨M'',p1,p2,p3⟩:=pub_heap hh' hk2
        obtain ⟨⟨hc,ht⟩,hK⟩:=hk3 (ν' k) M'' p1 p2
        refine ⟨hs'.2.1,_,results_sound hs' hh' hr hC,_,rfl,_,_,_,⟨ν,?_,?_⟩,hK⟩
        · refine hs.put (of_decide_eq_true hd) ?_
          rw [cond_true,hk1,hT (.own k) (.v (ν' k)) ν' ν' rfl]
          exact SV.conc_val (ν:=ν) (ν':=ν') _ hc
        · refine ⟨fun q hq=>?_,by rw [backH_fp ν ht]; exact hh.nodup,fun b hb=>?_,p3.mem,p3.below,p3.le0,p3.fresh,hh.one⟩
          · obtain ⟨cs,t,h1,h2,h3,cs0,h4⟩:=backH_mem ht hq
            obtain ⟨⟨b,T,e1,e2⟩,e3⟩:=p3.holds _ h2
            have e4:=e3 _ rfl
            rw [h1]
            refine ⟨⟨b,T,?_,?_⟩,(hh.holds _ h4).2⟩
            · rw [← e4]; exact e1
            · rw [SV.concs_vals (ν:=ν') (ν':=ν) cs h3]; exact e2
          · obtain ⟨q,hq,hqb⟩:=List.mem_filterMap.1 hb
            obtain ⟨cs,t,h1,h2,h3,cs0,h4⟩:=backH_mem ht hq
            obtain ⟨_,e3⟩:=p3.holds _ h2
            have e4:=e3 _ rfl
            exact p3.apart b (List.mem_filterMap.2 ⟨_,h2,by rw [e4]; exact hqb⟩)
      · exact hq.elim
    cases e with
    | normal=>exact key hq
    | ret=>exact key hq
    | _=>exact hq.elim
  · simp only [Array.size_append,List.size_toArray,Array.size_replicate,hlen]; omega
  · intro k g s hk
    obtain ⟨i,rfl,hg,hi⟩:=lk_params hk
    simp only at hg hi
    subst hg
    have hlt:i < (SV.shs B l).length:=(List.getElem?_eq_some_iff.1 hi).1
    rw [Array.getElem?_append_left (by simp only [List.size_toArray,hlen]; rw [SV.shs_len] at hlt; omega),List.getElem?_toArray,SV.vals_map,List.getElem?_map,Nat.zero_add,hi]
    rfl
end
end Go.X

namespace Go.X.Vo
open Go Go.X Go.RowKit Go.X.Bg Go.X.Nm Go.X.Bp Go.X.Sb

abbrev Txt:=List UInt8
/-! ### volumes by names -/
/-! ### the answers -/
end Go.X.Vo

namespace Go.X.Tg
open Go Go.X Go.RowKit Go.X.Bg Go.X.Nm Go.X.Bp Go.X.Sb Go.X.Vo

mutual
theorem conc_noKey (d:Nat) : ∀ s:SV,s.conc=true→s.noKey d=true
  | .v _,_=>rfl
  | .own _,h=>by simp [SV.conc] at h
  | .ptr _ _ _ _,h=>by simp [SV.conc] at h
  | .ea _ _ _ _,_=>rfl
  | .agg l,h=>by simp only [SV.conc] at h; simp only [SV.noKey]; exact concs_noKeys d l h
  | .tup l,h=>by simp only [SV.conc] at h; simp only [SV.noKey]; exact concs_noKeys d l h
  | .fn _ l,h=>by simp only [SV.conc] at h; simp only [SV.noKey]; exact concs_noKeys d l h
theorem concs_noKeys (d:Nat) : ∀ l:List SV,SV.concs l=true→SV.noKeys d l=true
  | [],_=>rfl
  | s :: l,h=>by
    simp only [SV.concs,Bool.and_eq_true] at h
    simp only [SV.noKeys,conc_noKey d s h.1,concs_noKeys d l h.2,Bool.and_self]
end
abbrev RQ:=Int×List (Int×Int)×Int×Int
abbrev TG:=St×RQ×Txt×Nat
structure TgM (M:Mem) (T:TG) (b v rg:Value) (ws:List WV):Prop where
  bag:RowM M b 4 (T.1.1.map Bg.encT)
  vols:VolsM M v ws
  vw:ws.map (·.2)=T.1.2
  regs:RowM M rg 2 (T.2.1.2.1.map Rv.encR)
theorem TgM.le {M M':Mem} {T:TG} {b v rg:Value} {ws:List WV} (h:TgM M T b v rg ws) (hl:M.le M'):TgM M' T b v rg ws:=⟨h.bag.le hl,h.vols.le hl,h.vw,h.regs.le hl⟩
def tgC (T:TG) (b v rg:Value):List SV:=[.v b,.v v,.v (.int .i64 T.2.1.1),.v rg,.v (.int .i64 T.2.1.2.2.1),.v (.int .i64 T.2.1.2.2.2),.v (.string ⟨T.2.2.1.toArray⟩),.v (.int .i64 T.2.2.2)]
/-- right targets -/
structure TgR (T:TG):Prop where
  st:stE T.1.1 T.1.2=0
  rv:Rv.resvE T.2.1.1 T.2.1.2.1 T.2.1.2.2.1 T.2.1.2.2.2=0
  tx:T.2.2.1.length≤707 * T.2.2.2
  many:T.2.2.2≤200
def hE (R:RQ) (w:Int) (wr:Bool):Int:=if Rv.whoB w=false then 1 else if Rv.mayB R.2.1 R.2.2.1 R.2.2.2 w wr=true then 0 else 9
def tdoS (T:TG) (w:Int) (o:OpT):TG×Int:=
  if hE T.2.1 w true≠0 then (T,hE T.2.1 w true) else if (doL T.1.1 T.1.2 o).2≠0 then (T,(doL T.1.1 T.1.2 o).2) else if T.2.2.2=200 then (T,8) else
  (((doL T.1.1 T.1.2 o).1,T.2.1,T.2.2.1++frO o,T.2.2.2+1),0)
theorem tdo_right {T:TG} (h:TgR T) (w:Int) (o:OpT):TgR (tdoS T w o).1:=by
  unfold tdoS
  split
  · exact h
  split
  · exact h
  rename_i h2
  split
  · exact h
  rename_i h3
  have hE:Lg.opE o=0:=Decidable.of_not_not fun h1=>by
    have:doL T.1.1 T.1.2 o=(zSt,Lg.opE o):=if_pos h1
    rw [this] at h2
    exact h2 h1
  have hl:=frO_len hE
  refine ⟨?_,h.rv,?_,?_⟩
  · have:doL T.1.1 T.1.2 o=doA T.1.1 T.1.2 o:=if_neg (fun h=>h hE)
    rw [this]
    exact doA_right _ _ _
  · have:=h.tx
    simp only [List.length_append]
    omega
  · have:=h.many
    simp only
    omega
/-- what a call of a target's method finds: the deed's box, the document's target, the target -/
abbrev H3 (qa qb qc:Option Value) (oc rc tc:List SV):HS:=[(104,.box oc qa),(264,.box rc qb),(248,.box tc qc)]
section
variable {N:Nat} {w0:World} {M0 M:Mem} {σ:Sig} {K:KP} {d:Nat} {qa qb qc:Option Value} {oc rc tc:List SV} {T:TG} {b v rg:Value} {ws:List WV}
theorem tdoK (hd:decide (d < N)=true) (ho:SV.concs oc=true) (hr:SV.concs rc=true) (w:Int) (o:OpT) (hT:TgM M T b v rg ws) (hR:TgR T)
    (hk : ∀ b' v' ws' M',M.le M'→TgM M' (tdoS T w o).1 b' v' rg ws'→K ((d,true,.v (.int .i64 (tdoS T w o).2)) :: σ) (H3 qa qb qc oc rc (tgC (tdoS T w o).1 b' v' rg)) M') :
    CallK ⟨Proofs.Tryz.prog,N,w0,M0⟩ 5 [.ptr 248 0 0 0,.v (.int .i64 w),opT o] d K σ (H3 qa qb qc oc rc (tgC T b v rg)) M:=by
  refine CallK.lendB 8000 [0,1,2,5,6,7,8,9,10,12,24,27,38,44] Proofs.Tryz.func5 rfl (by kernel_rfl) hd (by simp only [lentB,tgC,SV.concs,SV.conc,ho,hr,Bool.and_self]) fun xs=>?_
  have hM:=Rv.may T.2.1.1 rg T.2.1.2.2.1 T.2.1.2.2.2 w true T.2.1.2.1 M hT.regs
  simp only [Rv.resvV] at hM
  obtain ⟨A,⟨g,l,k,h⟩,tx,many⟩:=T
  have h2:=hR.rv
  have h4:=hR.many
  have h5:=hR.tx
  simp only at hM h2 h4 h5
  have o1:=fun d=>concs_noKeys d oc ho
  have r1:=fun d=>concs_noKeys d rc hr
  have hmE:Rv.mayE g l k h w=if Rv.whoB w=true then 0 else 1:=if_neg (fun h=>h h2)
  generalize hS:tdoS (A,(g,l,k,h),tx,many) w o=S at *
  unfold tdoS at hS
  simp only at hS
  simp only [Proofs.Tryz.f5,tgC,opT,sd2,sd3,zz,zq,↓reduceIte,zx,zj,zy,zk,zw,zb,reduceCtorEq,zd,zf,zp,zm,zh,zu,zt,zn,zc,zl,za,ze,zo,zg,nzs,hT.bag.one,hT.vols.row.one,hT.regs.one,o1,r1]
  refine CallK.pure ⟨rfl,rfl⟩ rfl hM ?_
  rw [hmE]
  have hkeep : ∀ (e:Int),S=((A,(g,l,k,h),tx,many),e)→K ((d,true,.v (.int .i64 e)) :: σ) (H3 qa qb qc oc rc [.v b,.v v,.v (.int .i64 g),.v rg,.v (.int .i64 k),.v (.int .i64 h),.v (.string ⟨tx.toArray⟩),.v (.int .i64 many)]) M:=fun e he=>by
    subst he
    exact hk b v ws M (Mem.le.refl M) hT
  cases hw:Rv.whoB w with
  | false=>
    have e1:hE (g,l,k,h) w true=1:=if_pos hw
    rw [e1,if_pos (by decide)] at hS
    simp only [sd2,sd3,zz,zq,↓reduceIte,zx,zj,zy,zk,zw,zb,reduceCtorEq,zd,zf,zp,zm,zh,zu,zt,zn,zc,zl,za,ze,zo,zg,nzs,ho,hr]
    exact hkeep 1 hS.symm
  | true=>
  have e1:hE (g,l,k,h) w true=if Rv.mayB l k h w true=true then 0 else 9:=if_neg (by rw [hw]; decide)
  rw [e1] at hS
  cases hmb:Rv.mayB l k h w true with
  | false=>
    rw [hmb,if_pos (by decide),if_neg (by decide)] at hS
    simp only [sd2,sd3,zz,zq,↓reduceIte,zx,zj,zy,zk,zw,zb,reduceCtorEq,zd,zf,zp,zm,zh,zu,zt,zn,zc,zl,za,ze,zo,zg,nzs,ho,hr,if_true,decide_true]
    exact hkeep 9 hS.symm
  | true=>
  rw [hmb,if_pos rfl,if_neg (fun h=>h rfl)] at hS
  have hL:=ldo b v A.1 ws o M hT.bag hT.vols
  rw [hT.vw] at hL
  simp only [stV,opT] at hL
  have hop:(doL A.1 A.2 o).2=0→Lg.opE o=0:=fun h=>Decidable.of_not_not fun h1=>by
    have:doL A.1 A.2 o=(zSt,Lg.opE o):=if_pos h1
    rw [this] at h
    exact h1 h
  generalize doL A.1 A.2 o=D at *
  simp only [sd2,sd3,zz,zq,↓reduceIte,zx,zj,zy,zk,zw,zb,reduceCtorEq,zd,zf,zp,zm,zh,zu,zt,zn,zc,zl,za,ze,zo,zg,nzs,if_true,decide_true]
  refine DrawK.ent (X:=Value×Value×List WV×Mem) (fun z=>(M.le z.2.2.2∧z.2.2.1.map (·.2)=D.1.2)∧RowM z.2.2.2 z.1 4 (D.1.1.map Bg.encT)∧VolsM z.2.2.2 z.2.1 z.2.2.1) (fun z=>([(0,true,.ptr 8248 0 0 0),(5,true,.ptr 40 0 0 0),(8,true,.v (.int .i64 D.2)),(9,true,.ptr 72 0 0 0)],
    [(72,.box [.v z.1,.v z.2.1] none),(40,.box [.v (.int .i64 o.1),.v (.string ⟨o.2.1.toArray⟩),.v (.string ⟨o.2.2.1.toArray⟩),.v (.int .i64 o.2.2.2.1),.v (.string ⟨o.2.2.2.2.toArray⟩)] none),(8104,.box oc (some (xs 104))),(8264,.box rc (some (xs 264))),(8248,.box [.v b,.v v,.v (.int .i64 g),.v rg,.v (.int .i64 k),.v (.int .i64 h),.v (.string ⟨tx.toArray⟩),.v (.int .i64 many)] (some (xs 248)))],z.2.2.2)) ?_ ?_
  · refine DrawK.heldE [8248,40] (tk [0,4,1,2,3] (.two 5 (tk [6,7,8] (.one 9 (.one 10 (tk [11] .done)))) 9 (.one 5 (tk [6,7,8] (.one 10 (tk [11] .done)))))) (by kernel_rfl) (by kernel_rfl) fun ys hy=>?_
    simp only [tieEq] at hy
    simp only [sd2,sd3,zz,zq,↓reduceIte,zx,zj,zy,zk,zw,zb,reduceCtorEq,zd,zf,zp,zm,zh,zu,zt,zn,zc,zl,za,ze,zo,zg,nzs,se1,se2,tks,hT.bag.one,hT.vols.row.one,hy,o1,r1]
    refine ⟨?_,?_⟩
    all_goals
      refine CallK.stM (T:=fun s=>.tup [s,.v (.int .i64 D.2)]) (fun _ _=>rfl) rfl rfl hL fun b5 v5 ws5 M5 hM5 hw5 hb5 hv5=>?_
      simp only [zz,zq,↓reduceIte,zx,zj,zy,zk,zw,zb,reduceCtorEq,zd,zf,zp,zm,zh,zu,zt,zn,zc,zl,za,ze,zo,zg,nzs,se1,se2,tks,stV,hb5.one,hv5.row.one,hM5,hy,o1,r1]
      exact ⟨(b5,v5,ws5,M5),⟨⟨hM5,hw5⟩,hb5,hv5⟩,Ent.heap (HEnt.untie (k:=40) rfl) (Ent.of (by simp only [zq,↓reduceIte,zx,zj,zy,zk,zw,zb,reduceCtorEq,zd,zf,zp,zm,zh,zu,zt,zn,zc,zl,za,ze,zo,zg,hset]))⟩
  rintro ⟨b2,v2,ws2,M2⟩ ⟨⟨hM2,hw2⟩,hb2,hv2⟩
  simp only at hM2 hw2 hb2 hv2
  have hkeep2 : ∀ (e:Int),S=((A,(g,l,k,h),tx,many),e)→K ((d,true,.v (.int .i64 e)) :: σ) (H3 qa qb qc oc rc [.v b,.v v,.v (.int .i64 g),.v rg,.v (.int .i64 k),.v (.int .i64 h),.v (.string ⟨tx.toArray⟩),.v (.int .i64 many)]) M2:=fun e he=>by
    subst he
    exact hk b v ws M2 hM2 (hT.le hM2)
  by_cases h6:D.2=0
  rotate_left
  · have c6:=eq_false h6
    rw [if_pos h6] at hS
    simp only [sd2,sd3,zz,zq,↓reduceIte,zx,zj,zy,zk,zw,zb,reduceCtorEq,zd,zf,zp,zm,zh,zu,zt,zn,zc,zl,za,ze,zo,zg,nzs,c6,ho,hr]
    exact hkeep2 _ hS.symm
  rw [if_neg (fun h=>h h6)] at hS
  have hop2:=hop h6
  by_cases h7:many=200
  · have c7:((many:Int)=200)=True:=eq_true (by omega)
    rw [if_pos h7] at hS
    simp only [sd2,sd3,zz,zq,↓reduceIte,zx,zj,zy,zk,zw,zb,reduceCtorEq,zd,zf,zp,zm,zh,zu,zt,zn,zc,zl,za,ze,zo,zg,nzs,h6,c7,ho,hr]
    exact hkeep2 _ hS.symm
  have c7:((many:Int)=200)=False:=eq_false (by omega)
  rw [if_neg h7] at hS
  subst hS
  have hEn:=Lg.encodeW o M2
  rw [hop2,if_pos rfl] at hEn
  simp only [Lg.opV] at hEn
  obtain ⟨p1,p2⟩:=put_body hop2
  have hP:=Fr.put 1 (Lg.bodyS o) M2 (body_max hop2)
  rw [p1,p2] at hP
  simp only [Fr.frV] at hP
  have hfl:=frO_len hop2
  simp only [sd2,sd3,zz,zq,↓reduceIte,zx,zj,zy,zk,zw,zb,reduceCtorEq,zd,zf,zp,zm,zh,zu,zt,zn,zc,zl,za,ze,zo,zg,nzs,h6,c7]
  refine CallK.pure ⟨rfl,rfl⟩ rfl hEn ?_
  simp only [sd2,sd3,zz,zq,↓reduceIte,zx,zj,zy,zk,zw,zb,reduceCtorEq,zd,zf,zp,zm,zh,zu,zt,zn,zc,zl,za,ze,zo,zg,nzs]
  refine CallK.pure ⟨rfl,rfl⟩ rfl hP ?_
  simp only [sd2,sd3,zz,zq,↓reduceIte,zx,zj,zy,zk,zw,zb,reduceCtorEq,zd,zf,zp,zm,zh,zu,zt,zn,zc,zl,za,ze,zo,zg,nzs]
  refine DrawK.heldE [72] (tk [0,1,2,3,4,8,10,5,11,6,12] (.two 7 (tk [9] (.one 13 (tk [14,15,16] (.one 17 (tk [18,19] (.one 20 (tk [21,22] (.one 23 .done)))))))) 13 (tk [14] (.one 7 (tk [9,15,16] (.one 17 (tk [18,19] (.one 20 (tk [21,22] (.one 23 .done)))))))))) (by kernel_rfl) (by kernel_rfl) fun ys hy=>?_
  simp only [tieEq] at hy
  simp only [sd2,sd3,zz,zq,↓reduceIte,zx,zj,zy,zk,zw,zb,reduceCtorEq,zd,zf,zp,zm,zh,zu,zt,zn,zc,zl,za,ze,zo,zg,nzs,se1,se2,tks,hb2.one,hv2.row.one,hT.regs.one,hy,inK,lo,hi,ho,hr]
  have hK:=hk b2 v2 ws2 M2 hM2 ⟨hb2,hv2,hw2,hT.regs.le hM2⟩
  simp only [tgC,Int.natCast_add,ze] at hK
  exact ⟨⟨by omega,⟨by omega,by omega⟩,hK⟩,⟨by omega,by omega⟩,by omega,hK⟩
end
end Go.X.Tg

