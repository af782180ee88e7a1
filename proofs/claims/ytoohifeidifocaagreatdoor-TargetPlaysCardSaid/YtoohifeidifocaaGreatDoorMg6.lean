/- Contracts of functions and the logic that they are proved in (4 texts in one). Conditions: none. -/
import Derived.Test.YtoohifeidifocaaGreatDoorMg5
import Derived.OrdersHeld
open Nat renaming reduceAdd→zx,reduceMul→zj,reduceDiv→zy,reduceEqDiff→zk,reduceLT→zw,reduceLeDiff→zb,reduceBEq→zg
open Int renaming reduceEq→zd,reduceNe→zf,reduceLT→zp,reduceLE→zm,reduceAdd→zh,reduceSub→zu,reduceMul→zt,reduceNeg→zn,reduceToNat→zc,cast_ofNat_Int→zl,natCast_zero→za,natCast_one→ze,toNat_natCast→zo
namespace Go.X.Pol
end Go.X.Pol
namespace Go.X.Pl
end Go.X.Pl
namespace Go.X.Rp
end Go.X.Rp
namespace Go.X.Pd
end Go.X.Pd
namespace Go.X.Md
end Go.X.Md
namespace Go.X.Mv
end Go.X.Mv
set_option linter.unusedSimpArgs false
set_option linter.unusedVariables false
set_option maxHeartbeats 4000000
set_option maxRecDepth 20000
namespace Go.X.Pt
open Go Go.X Go.X.Pol Go.X.Pl Go.X.Rp Go.X.Pd Go.X.Md Go.X.Mv

/-- one byte more -/
def stp (m p c:Nat):Nat:=pmod (p * 2 ^ 8+c) m
def prf (m:Nat) (s:List UInt8) (p:Nat):Nat:=s.foldl (fun p c=>stp m p c.toNat) p

theorem double {m x e:Nat} (hm:m≠0) (he:e < 2):pmod (2 * pmod x m+e) m=pmod (2 * x+e) m:=by
  have h1 : ∀ y,2 * y+e=2 * y ^^^ e:=fun y=>by rw [Nat.xor_comm,bit_xor he,Nat.add_comm]
  have h2 : ∀ y,2 * y=mulp y 2:=fun y=>by
    have:=mulp_pow1 y 1
    rw [Nat.pow_one] at this
    rw [mulp_comm,this,Nat.mul_comm]
  rw [h1,h1,pmod_xor hm,pmod_xor hm,h2,h2,pmod_mul_left hm]
theorem and_top {q k:Nat} (h:q < 2 ^ (k+1)):(0 < q &&& 2 ^ k)↔2 ^ k≤q:=by
  rcases Nat.lt_or_ge q (2 ^ k) with h1 | h1
  · have:q &&& 2 ^ k=0:=by
      apply Nat.eq_of_testBit_eq
      intro j
      rw [Nat.testBit_and,Nat.testBit_two_pow,Nat.zero_testBit]
      by_cases hj:k=j
      · subst hj; rw [Nat.testBit_lt_two_pow h1]; rfl
      · simp [hj]
    rw [this]
    omega
  · refine ⟨fun _=>h1,fun _=>Nat.pos_of_ne_zero fun e=>?_⟩
    have h0:=Nat.two_pow_pos k
    have h2:(q &&& 2 ^ k).testBit k=true:=by
      rw [Nat.pow_succ] at h
      rw [Nat.testBit_and,Nat.testBit_two_pow,Nat.testBit_eq_decide_div_mod_eq]
      have:q / 2 ^ k=1:=Nat.div_eq_of_lt_le (by omega) (by omega)
      rw [this]
      simp
    rw [e,Nat.zero_testBit] at h2
    cases h2
theorem red_bit {m q:Nat} (hm:m≠0) (h:q < 2 ^ (sz m)):pmod q m=if 2 ^ (sz m - 1)≤q then q ^^^ m else q:=by
  obtain ⟨g1,g2,g3⟩:=sz_rng hm
  have hs:=sz_pos.2 hm
  split
  · rename_i h1
    rw [g3] at h g2
    have h2:=xor_drop h1 h g1 g2
    exact (divmod_uniq (q:=1) (r:=q ^^^ m) (by rw [mulp_one,Nat.xor_comm m,Nat.xor_assoc,Nat.xor_self,Nat.xor_zero]) (by have:=sz_le.2 h2; omega)).2
  · rename_i h1
    exact pmod_small (by have:=sz_le.2 (show q < 2 ^ (sz m - 1) by omega); omega)

theorem strIx_at {s:List UInt8} {i:Nat} {b:UInt8} (h:s[i]? = some b):strIx s (i:Int)=((b.toNat:Nat):Int):=by
  unfold strIx
  rw [zo,List.getD_eq_getElem?_getD,h]
  rfl
theorem push (p m:Nat) (s:List UInt8) (M:Mem) (h2:2≤m) (hm:m≤2147483647) (hp:p≤2147483647) (hs:s.length≤maxLen) :
    Meets Proofs.Tryz.prog 146 [.v (.int .i64 (p:Int)),.v (.string ⟨s.toArray⟩),.v (.int .i64 (m:Int))] M fun r _ _=>r = .v (.int .i64 ((prf m s p:Nat):Int)):=by
  refine Meets.of_body [0,1,2,6,7,9,11,12,13] Proofs.Tryz.func146 rfl (by kernel_rfl) rfl fun w=>?_
  have h0:m≠0:=by omega
  generalize hc:prf m s p=c
  simp only [maxLen] at hs
  simp only [Proofs.Tryz.f146,zz,zq,↓reduceIte,zx,zj,zy,zk,zw,zb,reduceCtorEq,zd,zf,zp,zm,zh,zu,zt,zn,zc,zl,za,ze,zo,zg]
  refine LoopK.go (X:=Nat×Nat×Nat) (fun x=>([(0,true,.v (.int .i64 (x.2.2:Int))),(1,true,.v (.string ⟨s.toArray⟩)),(2,true,.v (.int .i64 m)),(11,true,.v (.int .i64 s.length)),(12,true,.v (.int .i64 x.2.1))],[],M))
    (fun x=>(x.1+x.2.1=s.length∧x.2.2≤2147483647)∧prf m (s.drop x.2.1) x.2.2=c) (fun x=>x.1) (s.length,0,p) ⟨⟨rfl,hp⟩,hc⟩ (Ent.of ?_) ?_
  · simp only [zq,↓reduceIte,zx,zj,zy,zk,zw,zb,reduceCtorEq,zd,zf,zp,zm,zh,zu,zt,zn,zc,zl,za,ze,zo,zg]
  rintro ⟨f,i,q⟩ ⟨⟨h3,h4⟩,h5⟩
  simp only at h3 h4 h5
  simp only [zz,zq,↓reduceIte,zx,zj,zy,zk,zw,zb,reduceCtorEq,zd,zf,zp,zm,zh,zu,zt,zn,zc,zl,za,ze,zo,zg,inK,lo,hi,uw (show q < 18446744073709551616 by omega),mw,b64u]
  refine ⟨fun h6=>?_,fun h6=>?_⟩
  · obtain ⟨b,hb,hd⟩:=drop_at (l:=s) (i:=i) (by omega)
    have e1:=strIx_at hb
    have hb2:b.toNat < 256:=UInt8.toNat_lt b
    rw [hd] at h5
    simp only [prf,List.foldl_cons] at h5
    have hz:=red_le (x:=q * 2 ^ 8+b.toNat) h0 hm
    refine ⟨(fun h=>by cases h),by omega,by omega,(fun h=>by cases h),?_⟩
    rw [e1,uw (show b.toNat < 18446744073709551616 by omega),orw (show q * 2 ^ 8 < 18446744073709551616 by omega) (show b.toNat < 18446744073709551616 by omega),or_low (k:=8) (by omega)]
    refine CallK.pure ⟨rfl,rfl⟩ rfl (over _ m M (by omega) hm h0) ?_
    simp only [zz,zq,↓reduceIte,zx,zj,zy,zk,zw,zb,reduceCtorEq,zd,zf,zp,zm,zh,zu,zt,zn,zc,zl,za,ze,zo,zg,inK,lo,hi,iw (show pmod (q * 2 ^ 8+b.toNat) m < 9223372036854775808 by omega)]
    refine ⟨(fun h=>by cases h),by omega,(f - 1,i+1,pmod (q * 2 ^ 8+b.toNat) m),⟨⟨⟨by simp only; omega,by simp only; omega⟩,h5⟩,by simp only; omega⟩,Ent.of ?_⟩
    simp only [zq,↓reduceIte,zx,zj,zy,zk,zw,zb,reduceCtorEq,zd,zf,zp,zm,zh,zu,zt,zn,zc,zl,za,ze,zo,zg,Int.natCast_add]
  · have hd:s.drop i=[]:=List.drop_eq_nil_of_le (by omega)
    rw [hd] at h5
    simp only [prf,List.foldl_nil] at h5
    rw [h5]

theorem plain (m:Nat) (s:List UInt8) (M:Mem) (h2:2≤m) (hm:m≤2147483647) (hs:s.length≤maxLen) :
    Meets Proofs.Tryz.prog 111 [.v (.int .i64 (m:Int)),.v (.string ⟨s.toArray⟩)] M fun r _ _=>r = .v (.int .i64 ((prf m s 1:Nat):Int)):=by
  refine Meets.of_body [0,1,4,6] Proofs.Tryz.func111 rfl (by kernel_rfl) rfl fun w=>?_
  have h0:m≠0:=by omega
  have h1:pmod 1 m=1:=pmod_small (by
    have h3:sz 1=1:=rfl
    have h4:=lt_sz.2 (show 2 ^ 1≤m by omega)
    omega)
  simp only [Proofs.Tryz.f111,zz,zq,↓reduceIte,zx,zj,zy,zk,zw,zb,reduceCtorEq,zd,zf,zp,zm,zh,zu,zt,zn,zc,zl,za,ze,zo,zg]
  refine CallK.pure ⟨rfl,rfl⟩ rfl (over 1 m M (by omega) hm h0) ?_
  rw [h1]
  simp only [zz,zq,↓reduceIte,zx,zj,zy,zk,zw,zb,reduceCtorEq,zd,zf,zp,zm,zh,zu,zt,zn,zc,zl,za,ze,zo,zg,iw (show 1 < 9223372036854775808 by omega)]
  refine ⟨(fun h=>by cases h),CallK.pure ⟨rfl,rfl⟩ rfl (push 1 m s M h2 hm (by omega) hs) ?_⟩
  simp only [zz,zq,↓reduceIte,zx,zj,zy,zk,zw,zb,reduceCtorEq,zd,zf,zp,zm,zh,zu,zt,zn,zc,zl,za,ze,zo,zg]

theorem tdN (a b:Nat):(a:Int).tdiv (b:Int)=((a / b:Nat):Int):=(Int.ofNat_tdiv a b).symm
theorem rprint (m:Nat) (s:List UInt8) (M:Mem) (h2:2≤m) (hm:m≤2147483647) (hs:s.length≤maxLen) :
    Meets Proofs.Tryz.prog 83 [.v (.int .i64 (m:Int)),.v (.string ⟨s.toArray⟩)] M fun r _ _=>r = .v (.int .i64 ((prf m s 1:Nat):Int)):=by
  refine Meets.of_body [0,1,2,4,5,6,7,8,9,13,18,19,20,23] Proofs.Tryz.func83 rfl (by kernel_rfl) rfl fun w=>?_
  have h0:m≠0:=by omega
  generalize hc:prf m s 1=c
  simp only [maxLen] at hs
  have hsm:=sz31 hm
  have hsm0:=sz_pos.2 h0
  obtain ⟨g1,g2,g3⟩:=sz_rng h0
  simp only [Proofs.Tryz.f83,zz,zq,↓reduceIte,zx,zj,zy,zk,zw,zb,reduceCtorEq,zd,zf,zp,zm,zh,zu,zt,zn,zc,zl,za,ze,zo,zg]
  refine ⟨fun _=>trivial,?_⟩
  refine LoopK.go (X:=Nat) (fun i=>([(1,true,.v (.string ⟨s.toArray⟩)),(2,true,.ptr 16 0 0 0),(5,true,.ptr 40 0 0 0)],[(40,.box [.v (.int .i64 ((2 ^ i:Nat):Int))] none),(16,.box [.v (.int .i64 (m:Int))] none)],M))
    (fun i=>i≤sz m - 1) (fun i=>sz m - i) 0 (Nat.zero_le _) (Ent.of ?_) ?_
  · simp only [zq,↓reduceIte,zx,zj,zy,zk,zw,zb,reduceCtorEq,zd,zf,zp,zm,zh,zu,zt,zn,zc,zl,za,ze,zo,zg,Nat.pow_zero]
  intro i hi'
  have hp2:2 ^ (i+1)=2 * 2 ^ i:=by rw [Nat.pow_succ,Nat.mul_comm]
  have hpi:2 ^ i≤1073741824:=Nat.pow_le_pow_right (n:=2) (j:=30) (by omega) (by omega)
  simp only [zz,zq,↓reduceIte,zx,zj,zy,zk,zw,zb,reduceCtorEq,zd,zf,zp,zm,zh,zu,zt,zn,zc,zl,za,ze,zo,zg,inK,lo,hi]
  refine ⟨by omega,fun h3=>⟨by omega,fun _=>trivial,i+1,⟨?_,by omega⟩,Ent.of ?_⟩,fun h3=>⟨fun _=>trivial,?_⟩⟩
  · have:i+1 < sz m:=lt_sz.2 (by omega)
    omega
  · have e:((2 ^ (i+1):Nat):Int)=((2 ^ i:Nat):Int) * 2:=by rw [hp2]; generalize 2 ^ i=z; omega
    simp only [zq,↓reduceIte,zx,zj,zy,zk,zw,zb,reduceCtorEq,zd,zf,zp,zm,zh,zu,zt,zn,zc,zl,za,ze,zo,zg,e]
  have hik:i=sz m - 1:=by
    have:sz m≤i+1:=sz_le.2 (by omega)
    omega
  subst hik
  clear hi' h3 hp2
  generalize hT:2 ^ (sz m - 1)=T at *
  refine stepK.mkFn rfl rfl ?_
  simp only [zz,zq,↓reduceIte,zx,zj,zy,zk,zw,zb,reduceCtorEq,zd,zf,zp,zm,zh,zu,zt,zn,zc,zl,za,ze,zo,zg]
  refine LoopK.go (X:=Nat×Nat×Nat) (fun x=>([(1,true,.v (.string ⟨s.toArray⟩)),(6,true,.ptr 48 0 0 0),(7,true,.fn 123 [.ptr 48 0 0 0,.ptr 40 0 0 0,.ptr 16 0 0 0]),(18,true,.v (.int .i64 s.length)),(19,true,.v (.int .i64 x.2.1))],
      [(48,.box [.v (.int .i64 (x.2.2:Int))] none),(40,.box [.v (.int .i64 (T:Int))] none),(16,.box [.v (.int .i64 (m:Int))] none)],M))
    (fun x=>(x.1+x.2.1=s.length∧x.2.2 < T)∧prf m (s.drop x.2.1) x.2.2=c) (fun x=>x.1) (s.length,0,1) ⟨⟨rfl,?_⟩,hc⟩ (Ent.of ?_) ?_
  · simp only
    have:=@lt_sz m 1
    rw [← hT]
    have:2 ^ 1≤2 ^ (sz m - 1):=Nat.pow_le_pow_right (by omega) (by omega)
    omega
  · simp only [zq,↓reduceIte,zx,zj,zy,zk,zw,zb,reduceCtorEq,zd,zf,zp,zm,zh,zu,zt,zn,zc,zl,za,ze,zo,zg]
  rintro ⟨f,i,q⟩ ⟨⟨h3,h4⟩,h5⟩
  simp only at h3 h4 h5
  simp only [zz,zq,↓reduceIte,zx,zj,zy,zk,zw,zb,reduceCtorEq,zd,zf,zp,zm,zh,zu,zt,zn,zc,zl,za,ze,zo,zg,inK,lo,hi]
  refine ⟨fun h6=>?_,fun h6=>?_⟩
  · obtain ⟨b,hb,hd⟩:=drop_at (l:=s) (i:=i) (by omega)
    have e1:=strIx_at hb
    have hb2:b.toNat < 256:=UInt8.toNat_lt b
    rw [hd] at h5
    simp only [prf,List.foldl_cons] at h5
    generalize hB:b.toNat=B at *
    refine LoopK.go (X:=Nat) (fun j=>([(1,true,.v (.string ⟨s.toArray⟩)),(6,true,.ptr 48 0 0 0),(7,true,.fn 123 [.ptr 48 0 0 0,.ptr 40 0 0 0,.ptr 16 0 0 0]),(8,true,.v (.int .i64 i)),(9,true,.v (.int .i64 ((128 / 2 ^ j:Nat):Int))),(18,true,.v (.int .i64 s.length)),(19,true,.v (.int .i64 i))],
        [(48,.box [.v (.int .i64 ((pmod (q * 2 ^ j+B / 2 ^ (8 - j)) m:Nat):Int))] none),(40,.box [.v (.int .i64 (T:Int))] none),(16,.box [.v (.int .i64 (m:Int))] none)],M))
      (fun j=>j≤8) (fun j=>8 - j) 0 (Nat.zero_le _) (Ent.of ?_) ?_
    · have hq:pmod (q * 2 ^ 0+B / 2 ^ (8 - 0)) m=q:=by
        rw [Nat.pow_zero,Nat.mul_one,Nat.div_eq_of_lt (show B < 2 ^ (8 - 0) by omega),Nat.add_zero]
        exact pmod_small (by have:=sz_le.2 (show q < 2 ^ (sz m - 1) by omega); omega)
      simp only [zq,↓reduceIte,zx,zj,zy,zk,zw,zb,reduceCtorEq,zd,zf,zp,zm,zh,zu,zt,zn,zc,zl,za,ze,zo,zg,hq,Nat.pow_zero,Nat.div_one]
    intro j hj
    have hV:128 / 2 ^ j≤128:=Nat.div_le_self _ _
    have hV2:j≤7→128 / 2 ^ j=2 ^ (7 - j):=fun h=>by
      have:j=0∨j=1∨j=2∨j=3∨j=4∨j=5∨j=6∨j=7:=by omega
      rcases this with rfl | rfl | rfl | rfl | rfl | rfl | rfl | rfl <;> rfl
    have hBV:B / (128 / 2 ^ j)≤B:=Nat.div_le_self _ _
    have hP:=red_lt (x:=q * 2 ^ j+B / 2 ^ (8 - j)) h0
    rw [hT] at hP
    have hstep:j≤7→pmod (2 * pmod (q * 2 ^ j+B / 2 ^ (8 - j)) m+B / (128 / 2 ^ j) % 2) m=pmod (q * 2 ^ (j+1)+B / 2 ^ (8 - (j+1))) m:=fun h=>by
      rw [double h0 (Nat.mod_lt _ (by omega)),hV2 h]
      congr 1
      rw [show 8 - j=(7 - j)+1 by omega,show 8 - (j+1)=7 - j by omega,Nat.pow_succ,Nat.pow_succ,← Nat.div_div_eq_div_mul,Nat.mul_add,Nat.mul_left_comm,Nat.mul_comm 2 (2 ^ j)]
      omega
    have hV3:=pm2 128 j
    have hV8 : ¬ 0 < 128 / 2 ^ j→j=8:=fun h=>by
      rcases Nat.lt_or_ge j 8 with h8 | h8
      · rw [hV2 (by omega)] at h
        exact (h (Nat.two_pow_pos _)).elim
      · omega
    generalize hPe:pmod (q * 2 ^ j+B / 2 ^ (8 - j)) m=P at *
    simp only [zz,zq,↓reduceIte,zx,zj,zy,zk,zw,zb,reduceCtorEq,zd,zf,zp,zm,zh,zu,zt,zn,zc,zl,za,ze,zo,zg,inK,lo,hi,e1,tm2,td2,iw (show B < 9223372036854775808 by omega),tdN]
    refine ⟨fun h7=>?_,fun h7=>?_⟩
    · have hj7:j≤7:=by
        rcases Nat.lt_or_ge j 8 with h | h
        · omega
        · have:j=8:=by omega
          subst this
          simp at h7
      replace hstep:=hstep hj7
      refine ⟨by omega,(fun h=>by cases h),⟨by omega,i64N (by omega)⟩,?_⟩
      generalize 128 / 2 ^ j=V at *
      have hE:B / V % 2 < 2:=Nat.mod_lt _ (by omega)
      generalize B / V % 2=e at *
      have hQ:2 * P+e < 2 ^ (sz m):=by rw [g3,Nat.pow_succ,hT]; omega
      have hr:=red_bit h0 hQ
      have ha:=and_top (q:=2 * P+e) (k:=sz m - 1) (by rw [← g3]; exact hQ)
      rw [hT] at hr ha
      refine CallK.boxes [0,1,2,3,12] Proofs.Tryz.func123 rfl (by kernel_rfl) rfl rfl fun xs=>?_
      have eS:2 * (P:Int)+(e:Int)=((2 * P+e:Nat):Int):=by omega
      simp only [Proofs.Tryz.f123,sd1,zz,zq,↓reduceIte,zx,zj,zy,zk,zw,zb,reduceCtorEq,zd,zf,zp,zm,zh,zu,zt,zn,zc,zl,za,ze,zo,zg,inK,lo,hi,eS,td2,hV3]
      refine ⟨by omega,by omega,fun _=>trivial,by omega,fun h9=>?_,fun h9=>?_⟩
      · rw [if_pos (ha.1 (by omega)),hstep] at hr
        refine ⟨by omega,fun _=>trivial,i64N (by rw [← hV3]; omega),j+1,⟨by omega,by omega⟩,Ent.of ?_⟩
        simp only [zq,↓reduceIte,zx,zj,zy,zk,zw,zb,reduceCtorEq,zd,zf,zp,zm,zh,zu,zt,zn,zc,zl,za,ze,zo,zg,hr]
      · rw [if_neg (fun h=>by have:=ha.2 h; omega),hstep] at hr
        refine ⟨i64N (by rw [← hV3]; omega),j+1,⟨by omega,by omega⟩,Ent.of ?_⟩
        simp only [zq,↓reduceIte,zx,zj,zy,zk,zw,zb,reduceCtorEq,zd,zf,zp,zm,zh,zu,zt,zn,zc,zl,za,ze,zo,zg,hr]
    · have hj8:j=8:=hV8 (by omega)
      have hP8:stp m q B=P:=by rw [← hPe,hj8,stp,Nat.sub_self,Nat.pow_zero,Nat.div_one]
      rw [hP8] at h5
      refine ⟨by omega,(f - 1,i+1,P),⟨⟨⟨by simp only; omega,hP⟩,h5⟩,by simp only; omega⟩,Ent.of ?_⟩
      simp only [zq,↓reduceIte,zx,zj,zy,zk,zw,zb,reduceCtorEq,zd,zf,zp,zm,zh,zu,zt,zn,zc,zl,za,ze,zo,zg,Int.natCast_add]
  · have hd:s.drop i=[]:=List.drop_eq_nil_of_le (by omega)
    rw [hd] at h5
    simp only [prf,List.foldl_nil] at h5
    rw [h5]
end Go.X.Pt

namespace Go.X
open Go Go.RowKit

/-- the order in which a drawn region is walked: 'take' a quiet operation first; fork over all that may come up -/
inductive Sch where
  | done
  | take (i:Nat) (n:Sch)
  | one (i:Nat) (n:Sch)
  | two (i:Nat) (n:Sch) (j:Nat) (m:Sch)

def schB (md:Region.Mode) (ops:Array Oper):Sch→Nat→Array Bool→Bool
  | .done,_,listed=>(Region.ready md ops listed).isEmpty
  | .take i n,f+1,listed=>(Region.free md ops listed i && (Region.ready md ops listed).contains i) && schB md ops n f (listed.setIfInBounds i true)
  | .one i n,f+1,listed=>Region.ready md ops listed == [i] && schB md ops n f (listed.setIfInBounds i true)
  | .two i n j m,f+1,listed=>Region.ready md ops listed == [i,j] && (schB md ops n f (listed.setIfInBounds i true) && schB md ops m f (listed.setIfInBounds j true))
  | _,0,_=>false

def pickH (sel:List Nat):HS→HS
  | []=>[]
  | (k,.box cs t) :: H=>bif memN k sel && (SV.concs cs && t.isSome) then (k,.box cs t) :: pickH sel H else pickH sel H
  | (_,.row _ _) :: H=>pickH sel H
  | (_,.tab _ _) :: H=>pickH sel H
  | (_,.mp _) :: H=>pickH sel H

def stayH:HS→HS→Prop
  | [],_=>True
  | (k,p) :: r,H=>hget H k=some p∧stayH r H

/-- a quiet operation, at what of memory stays -/
def qtK (E:Env) (o:Oper) (Hs:HS) (Ms:Mem) (K:KP) (σ:Sig) (H:HS) (M:Mem):Option Bool→Option Nat→Prop
  | some g,some d=>(d < E.N∧(g=true→(pev E.P Hs Ms σ o.op).1=true∧(pev E.P Hs Ms σ o.op).2.2))∧K ((d,g,(pev E.P Hs Ms σ o.op).2.1) :: σ) H M
  | _,_=>False
def efC (Hs:HS) (Ms:Mem) (K:KP) (σ':Sig) (H':HS) (M':Mem):Prop:=(stayH Hs H'∧Ms.le M')∧K σ' H' M'
@[congr] theorem efC_congr {Hs Hs':HS} {Ms:Mem} {K:KP} {σ σ':Sig} {H H':HS} {M:Mem} (h0:Hs=Hs') (h:σ=σ') (h':H=H'):efC Hs Ms K σ H M=efC Hs' Ms K σ' H' M:=by rw [h0,h,h']
def efK (E:Env) (o:Oper) (Hs:HS) (Ms:Mem) (K:KP) (σ:Sig) (H:HS) (M:Mem):Option Bool→Prop
  | some g=>stepK E o g (efC Hs Ms K) σ H M
  | none=>False
def opt1 (f:Oper→Prop):Option Oper→Prop
  | some o=>f o
  | none=>False

def wpH (E:Env) (ops:List Oper) (Hs:HS) (Ms:Mem) (K:KP):Sch→Sig→HS→Mem→Prop
  | .done,σ,H,M=>K σ H M
  | .take i n,σ,H,M=>opt1 (fun o=>qtK E o Hs Ms (wpH E ops Hs Ms K n) σ H M (gdOf ops σ o.guard) o.dst) ops[i]?
  | .one i n,σ,H,M=>opt1 (fun o=>efK E o Hs Ms (wpH E ops Hs Ms K n) σ H M (gdOf ops σ o.guard)) ops[i]?
  | .two i n j m,σ,H,M=>opt1 (fun o=>efK E o Hs Ms (wpH E ops Hs Ms K n) σ H M (gdOf ops σ o.guard)) ops[i]? ∧ opt1 (fun o=>efK E o Hs Ms (wpH E ops Hs Ms K m) σ H M (gdOf ops σ o.guard)) ops[j]?

@[congr] theorem qtK_congr {E:Env} {o:Oper} {Hs Hs':HS} {Ms:Mem} {K:KP} {σ σ':Sig} {H H':HS} {M:Mem} {g g':Option Bool} {d d':Option Nat} (h0:Hs=Hs') (h:σ=σ') (h':H=H') (hg:g=g') (hd:d=d'):qtK E o Hs Ms K σ H M g d=qtK E o Hs' Ms K σ' H' M g' d':=by rw [h0,h,h',hg,hd]
@[congr] theorem efK_congr {E:Env} {o:Oper} {Hs Hs':HS} {Ms:Mem} {K:KP} {σ σ':Sig} {H H':HS} {M:Mem} {g g':Option Bool} (h0:Hs=Hs') (h:σ=σ') (h':H=H') (hg:g=g'):efK E o Hs Ms K σ H M g=efK E o Hs' Ms K σ' H' M g':=by rw [h0,h,h',hg]
@[congr] theorem opt1_congr {f:Oper→Prop} {x y:Option Oper} (h:x=y):opt1 f x=opt1 f y:=by rw [h]
@[congr] theorem wpH_congr {E:Env} {ops:List Oper} {Hs Hs':HS} {Ms:Mem} {K:KP} {s:Sch} {σ σ':Sig} {H H':HS} {M:Mem} (h0:Hs=Hs') (h:σ=σ') (h':H=H'):wpH E ops Hs Ms K s σ H M=wpH E ops Hs' Ms K s σ' H' M:=by rw [h0,h,h']

section
variable {E:Env} {σ:Sig} {H Hs:HS} {M Ms:Mem} {ν ν':Nat→Value} {a:Act} {w:World}

def tieds (ν:Nat→Value):HS→Prop
  | []=>True
  | (k,.box cs t) :: H=>(SV.concs cs=true∧t=some (ν k))∧tieds ν H
  | (_,.row _ _) :: _=>False
  | (_,.tab _ _) :: _=>False
  | (_,.mp _) :: _=>False
theorem tieds_mem : ∀ {Hs:HS} {q:Nat×PO},tieds ν Hs→q ∈ Hs → ∃ cs,q.2 = .box cs (some (ν q.1))∧SV.concs cs=true
  | (k,.box cs t) :: H,q,h,hq=>by
    obtain ⟨⟨h1,rfl⟩,h2⟩:=h
    rcases List.mem_cons.1 hq with rfl | hq
    · exact ⟨cs,rfl,h1⟩
    · exact tieds_mem h2 hq
  | (k,.row _ _) :: H,q,h,_=>h.elim
  | (k,.tab _ _) :: H,q,h,_=>h.elim
  | (k,.mp _) :: H,q,h,_=>h.elim
  | [],q,_,hq=>by cases hq
theorem stayH_mem : ∀ {Hs:HS} {q:Nat×PO},stayH Hs H→q ∈ Hs→q ∈ H
  | (k,p) :: r,q,h,hq=>by
    rcases List.mem_cons.1 hq with rfl | hq
    · exact hget_mem h.1
    · exact stayH_mem h.2 hq
  | [],q,_,hq=>by cases hq
theorem fp_eq : ∀ {Hs:HS},(∀ q ∈ Hs,ν' q.1=ν q.1)→fp ν' Hs=fp ν Hs
  | [],_=>rfl
  | q :: H,h=>by
    have:=fp_eq (Hs:=H) fun q hq=>h q (List.mem_cons_of_mem _ hq)
    have h0:=h q List.mem_cons_self
    simp only [fp,List.filterMap_cons] at this ⊢
    rw [h0,this]

/-- what stays of memory, at the values of the region's beginning -/
theorem Heap.stay {w0:World} (h0:Heap E ν Hs Ms w0) (ht:tieds ν Hs) (hh:Heap E ν' H M w) (hs:stayH Hs H) (hle:Ms.le M):Heap E ν Hs Ms w ∧ ∀ q ∈ Hs,ν' q.1=ν q.1:=by
  have e : ∀ q ∈ Hs,ν' q.1=ν q.1:=fun q hq=>by
    obtain ⟨cs,h1,_⟩:=tieds_mem ht hq
    have:=hh.holds q (stayH_mem hs hq)
    rw [h1] at this
    exact this.2 _ rfl
  refine ⟨⟨fun q hq=>?_,h0.nodup,h0.apart,fun b o hb=>hh.mem b o (hle b o hb),hh.below,h0.le0,h0.fresh,h0.one⟩,e⟩
  obtain ⟨cs,h1,h2⟩:=tieds_mem ht hq
  have:=hh.holds q (stayH_mem hs hq)
  rw [h1,e q hq] at this
  rw [h1]
  obtain ⟨⟨b,T,e1,e2⟩,e3⟩:=this
  exact ⟨⟨b,T,e1,by rw [SV.concs_vals (ν:=ν') (ν':=ν) cs h2]; exact e2⟩,e3⟩

theorem Heap.again (h0:Heap E ν Hs Ms w) (ht:tieds ν Hs) (e : ∀ q ∈ Hs,ν' q.1=ν q.1) (h1 : ∀ k,(ν' k).oneCell'=true):Heap E ν' Hs Ms w:=by
  have hf:=fp_eq (ν:=ν) (ν':=ν') e
  refine ⟨fun q hq=>?_,by rw [hf]; exact h0.nodup,by rw [hf]; exact h0.apart,h0.mem,h0.below,h0.le0,h0.fresh,h1⟩
  obtain ⟨cs,h1,h2⟩:=tieds_mem ht hq
  have:=h0.holds q hq
  rw [h1] at this
  rw [h1,e q hq]
  obtain ⟨⟨b,T,e1,e2⟩,e3⟩:=this
  exact ⟨⟨b,T,e1,by rw [SV.concs_vals (ν:=ν) (ν':=ν') cs h2]; exact e2⟩,e3⟩

theorem wpH_sound {ops:Array Oper} {K:KP} {w0:World} (hsel:Region.noSelect ops=true) (h0:Heap E ν Hs Ms w0) (ht:tieds ν Hs) :
    ∀ (sch:Sch) (f:Nat) (listed:Array Bool) (σ:Sig) (H:HS) (M:Mem) (a:Act) (w:World),schB .any ops sch f listed=true→Rep E σ H M a w→(stayH Hs H∧Ms.le M)→wpH E ops.toList Hs Ms K sch σ H M →
      wpAnyH E.P .any ops (fun e a w=>e=Exit.normal ∧ ∃ σ H M,Rep E σ H M a w∧K σ H M) (fun w=>Heap E ν Hs Ms w) f listed a w
  | .done,f,listed,σ,H,M,a,w,hB,hr,_,h=>by
    exact wpAnyH_done (by simpa [schB] using hB) ⟨rfl,σ,H,M,hr,h⟩ f
  | .take i n,f+1,listed,σ,H,M,a,w,hB,⟨ν',hs,hh⟩,⟨hsub,hle⟩,h=>by
    simp only [schB,Bool.and_eq_true] at hB
    obtain ⟨⟨hf,hrd⟩,hB⟩:=hB
    simp only [wpH] at h
    cases ho:ops[i]? with
    | none=>rw [show ops.toList[i]? = none by rw [Array.getElem?_toList]; exact ho] at h; exact h.elim
    | some o=>
      rw [show ops.toList[i]? = some o by rw [Array.getElem?_toList]; exact ho] at h
      simp only [opt1] at h
      cases hg:gdOf ops.toList σ o.guard with
      | none=>rw [hg] at h; exact h.elim
      | some g=>
        cases hd:o.dst with
        | none=>rw [hg,hd] at h; exact h.elim
        | some d=>
          rw [hg,hd] at h
          obtain ⟨⟨hN,h1⟩,hK⟩:=h
          have hgd:=gd_spec hs hg o rfl
          obtain ⟨hS,hke⟩:=Heap.stay h0 ht hh hsub hle
          refine wpAnyH_take (v:=bif g then (pev E.P Hs Ms σ o.op).2.1.val ν' else undef) ho hsel hf hrd (fun c a w h=>by obtain ⟨h,_⟩:=h; cases h) ?_ hS ?_
          · cases g with
            | true=>
              obtain ⟨hg1,hc⟩:=h1 rfl
              refine .inl ⟨by simpa using hgd,fun w1 hw1=>?_⟩
              exact pev_sound hs (Heap.again hw1 ht hke hh.one) o hg1 hc
            | false=>exact .inr ⟨by simpa using hgd,rfl⟩
          · refine wpH_sound hsel h0 ht n f _ _ H M _ w hB ⟨ν',?_,hh⟩ ⟨hsub,hle⟩ hK
            rw [hd]
            exact hs.put hN rfl
  | .one i n,f+1,listed,σ,H,M,a,w,hB,hr,hsm,h=>by
    simp only [schB,Bool.and_eq_true,beq_iff_eq] at hB
    refine wpAnyH_all hB.1 (by simp) fun j hj=>?_
    obtain rfl:j=i:=by simpa using hj
    exact wpH_op hsel h0 ht n f listed σ H M a w hB.2 hr hsm h
  | .two i n i' m,f+1,listed,σ,H,M,a,w,hB,hr,hsm,h=>by
    simp only [schB,Bool.and_eq_true,beq_iff_eq] at hB
    refine wpAnyH_all hB.1 (by simp) fun j hj=>?_
    rcases (by simpa using hj:j=i∨j=i') with rfl | rfl
    · exact wpH_op hsel h0 ht n f listed σ H M a w hB.2.1 hr hsm h.1
    · exact wpH_op hsel h0 ht m f listed σ H M a w hB.2.2 hr hsm h.2
  | .take _ _,0,_,_,_,_,_,_,hB,_,_,_=>by simp [schB] at hB
  | .one _ _,0,_,_,_,_,_,_,hB,_,_,_=>by simp [schB] at hB
  | .two _ _ _ _,0,_,_,_,_,_,_,hB,_,_,_=>by simp [schB] at hB
where
  wpH_op {ops:Array Oper} {K:KP} {w0:World} (hsel:Region.noSelect ops=true) (h0:Heap E ν Hs Ms w0) (ht:tieds ν Hs) {i:Nat} (n:Sch) (f:Nat) (listed:Array Bool) (σ:Sig) (H:HS) (M:Mem) (a:Act) (w:World)
      (hB:schB .any ops n f (listed.setIfInBounds i true)=true) (hr:Rep E σ H M a w) (_:stayH Hs H∧Ms.le M)
      (h:opt1 (fun o=>efK E o Hs Ms (wpH E ops.toList Hs Ms K n) σ H M (gdOf ops.toList σ o.guard)) ops.toList[i]?) :
      wpOp E.P ops (fun e a w=>e=Exit.normal ∧ ∃ σ H M,Rep E σ H M a w∧K σ H M) i (fun a' w'=>Heap E ν Hs Ms w'∧wpAnyH E.P .any ops (fun e a w=>e=Exit.normal ∧ ∃ σ H M,Rep E σ H M a w∧K σ H M) (fun w=>Heap E ν Hs Ms w) f (listed.setIfInBounds i true) a' w') a w:=by
    cases ho:ops[i]? with
    | none=>rw [show ops.toList[i]? = none by rw [Array.getElem?_toList]; exact ho] at h; exact h.elim
    | some o=>
      rw [show ops.toList[i]? = some o by rw [Array.getElem?_toList]; exact ho] at h
      simp only [opt1] at h
      obtain ⟨ν',hs,hh⟩:=hr
      cases hg:gdOf ops.toList σ o.guard with
      | none=>rw [hg] at h; exact h.elim
      | some g=>
        rw [hg] at h
        simp only [efK] at h
        have hgd:=gd_spec hs hg o rfl
        have key:=stepK_sound (Nx:=fun a' w'=>Heap E ν Hs Ms w'∧wpAnyH E.P .any ops (fun e a w=>e=Exit.normal ∧ ∃ σ H M,Rep E σ H M a w∧K σ H M) (fun w=>Heap E ν Hs Ms w) f (listed.setIfInBounds i true) a' w')
          (Qx:=fun e a w=>e=Exit.normal ∧ ∃ σ H M,Rep E σ H M a w∧K σ H M)
          (fun σ1 H1 M1 a1 w1 hr1 hk1=>by
            obtain ⟨ν1,hs1,hh1⟩:=hr1
            exact ⟨(Heap.stay h0 ht hh1 hk1.1.1 hk1.1.2).1,wpH_sound hsel h0 ht n f _ σ1 H1 M1 a1 w1 hB ⟨ν1,hs1,hh1⟩ hk1.1 hk1.2⟩) hs hh h
        unfold wpOp
        simp only [ho]
        have hgd':Region.wanted o (yielded ops a.tmps)=g:=by simpa using hgd
        rw [hgd']
        cases g with
        | true=>simp only [if_true] at key ⊢; exact .inl key
        | false=>simp only [Bool.false_eq_true,if_false] at key ⊢; exact key

theorem tieH_heap (hh:Heap E ν H M w):Heap E ν (tieH ν H) M w:=by
  refine ⟨fun q hq=>?_,by rw [tieH_fp]; exact hh.nodup,by rw [tieH_fp]; exact hh.apart,hh.mem,hh.below,hh.le0,hh.fresh,hh.one⟩
  have : ∀ {H:HS} {q:Nat×PO},q ∈ tieH ν H→((∃ cs t,(q.1,PO.box cs t) ∈ H∧q.2 = .box cs (some (ν q.1)))∨q ∈ H):=by
    intro H
    induction H with
    | nil=>intro q h; simp [tieH] at h
    | cons p H ih=>
      intro q h
      obtain ⟨k,p⟩:=p
      cases p with
      | box cs t=>
        simp only [tieH] at h
        rcases List.mem_cons.1 h with rfl | h
        · exact .inl ⟨cs,t,List.mem_cons_self,rfl⟩
        · rcases ih h with ⟨cs',t',h1,h2⟩ | h1
          · exact .inl ⟨cs',t',List.mem_cons_of_mem _ h1,h2⟩
          · exact .inr (List.mem_cons_of_mem _ h1)
      | row sz es=>
        simp only [tieH] at h
        rcases List.mem_cons.1 h with rfl | h
        · exact .inr List.mem_cons_self
        · rcases ih h with ⟨cs',t',h1,h2⟩ | h1
          · exact .inl ⟨cs',t',List.mem_cons_of_mem _ h1,h2⟩
          · exact .inr (List.mem_cons_of_mem _ h1)
      | tab sz es=>
        simp only [tieH] at h
        rcases List.mem_cons.1 h with rfl | h
        · exact .inr List.mem_cons_self
        · rcases ih h with ⟨cs',t',h1,h2⟩ | h1
          · exact .inl ⟨cs',t',List.mem_cons_of_mem _ h1,h2⟩
          · exact .inr (List.mem_cons_of_mem _ h1)
      | mp es=>
        simp only [tieH] at h
        rcases List.mem_cons.1 h with rfl | h
        · exact .inr List.mem_cons_self
        · rcases ih h with ⟨cs',t',h1,h2⟩ | h1
          · exact .inl ⟨cs',t',List.mem_cons_of_mem _ h1,h2⟩
          · exact .inr (List.mem_cons_of_mem _ h1)
  rcases this hq with ⟨cs,t,h1,h2⟩ | h1
  · have:=hh.holds _ h1
    rw [h2]
    exact ⟨this.1,fun v hv=>by cases hv; rfl⟩
  · exact hh.holds _ h1

theorem pickH_sub (sel:List Nat) : ∀ H:HS,(pickH sel H).Sublist H
  | []=>List.Sublist.slnil
  | (k,.box cs t) :: H=>by
    simp only [pickH]
    cases (memN k sel && (SV.concs cs && t.isSome))
    · exact (pickH_sub sel H).cons _
    · exact (pickH_sub sel H).cons_cons _
  | (k,.row _ _) :: H=>(pickH_sub sel H).cons _
  | (k,.tab _ _) :: H=>(pickH_sub sel H).cons _
  | (k,.mp _) :: H=>(pickH_sub sel H).cons _
theorem pickH_tieds (sel:List Nat) : ∀ H:HS,tieds ν (pickH sel (tieH ν H))
  | []=>trivial
  | (k,.box cs t) :: H=>by
    simp only [pickH,tieH]
    cases hb:(memN k sel && (SV.concs cs && (some (ν k)).isSome))
    · exact pickH_tieds sel H
    · simp only [Bool.and_eq_true] at hb
      exact ⟨⟨hb.2.1,rfl⟩,pickH_tieds sel H⟩
  | (k,.row _ _) :: H=>pickH_tieds sel H
  | (k,.tab _ _) :: H=>pickH_tieds sel H
  | (k,.mp _) :: H=>pickH_tieds sel H

/-- a region that draws its order, walked after a plan: quiet operations taken first, at what of memory stays (the boxes 'sel', tied; all that is known) -/
theorem DrawK.held {id:Nat} {ops:Array Oper} {K:KP} (sel:List Nat) (sch:Sch) (hm:E.P.follows .mixedOrders=true) (hB:(Region.noSelect ops && schB .any ops sch ops.size (Array.replicate ops.size false))=true)
    (h : ∀ xs:Nat→Value,stayH (pickH sel (tieH xs H)) (tieH xs H)∧wpH E ops.toList (pickH sel (tieH xs H)) M K sch σ (tieH xs H) M):DrawK E id ops K σ H M:=by
  rintro a w ⟨ν,hs,hh⟩
  simp only [Bool.and_eq_true] at hB
  have h1:=tieH_heap (hh.grow ((Below.refl _ _).drew):Heap E ν H M { w with drawn:=w.drawn+1 })
  exact wp_region_held hm (wpH_sound hB.1 (h1.sublist (pickH_sub sel _)) (pickH_tieds sel H) sch _ _ σ _ M a _ hB.2 ⟨ν,hs,h1⟩ ⟨(h ν).1,Mem.le.refl M⟩ (h ν).2)
/-- .. no box is looked at -/
theorem DrawK.plan {id:Nat} {ops:Array Oper} {K:KP} (sch:Sch) (hm:E.P.follows .mixedOrders=true) (hB:(Region.noSelect ops && schB .any ops sch ops.size (Array.replicate ops.size false))=true)
    (h:wpH E ops.toList [] M K sch σ H M):DrawK E id ops K σ H M:=by
  rintro a w ⟨ν,hs,hh⟩
  simp only [Bool.and_eq_true] at hB
  have h1:=(hh.grow ((Below.refl _ _).drew):Heap E ν H M { w with drawn:=w.drawn+1 })
  exact wp_region_held hm (wpH_sound hB.1 (h1.sublist (List.nil_sublist H)) trivial sch _ _ σ _ M a _ hB.2 ⟨ν,hs,h1⟩ ⟨trivial,Mem.le.refl M⟩ h)
end
theorem nzs:(((1:Nat)≠0)=True)∧(((2:Nat)≠0)=True)∧(((3:Nat)≠0)=True)∧(((4:Nat)≠0)=True)∧(∀ k,(Shp.int k≠Shp.bad)=True)∧((Shp.str≠Shp.bad)=True)∧((Shp.bool≠Shp.bad)=True)∧((∀ _:Nat,True)=True):=by simp
theorem Mem.le_self (M:Mem):Mem.le M M=True:=eq_true (Mem.le.refl M)
theorem se1:type_of% (And.intro (And.intro (And.intro @wpH.eq_1 @wpH.eq_2) (And.intro @wpH.eq_3 @wpH.eq_4)) (And.intro (And.intro (And.intro @opt1.eq_1 @efC.eq_1) @efK.eq_1) (And.intro @qtK.eq_1 @Mem.le_self))):=And.intro (And.intro (And.intro @wpH.eq_1 @wpH.eq_2) (And.intro @wpH.eq_3 @wpH.eq_4)) (And.intro (And.intro (And.intro @opt1.eq_1 @efC.eq_1) @efK.eq_1) (And.intro @qtK.eq_1 @Mem.le_self))
theorem isS {α:Type} (x:α):(some x).isSome=true:=rfl
theorem se2:type_of% (And.intro (And.intro (And.intro @stayH.eq_1 @stayH.eq_2) (And.intro @pickH.eq_1 @pickH.eq_2)) (And.intro (And.intro @pickH.eq_3 @tieH.eq_1) (And.intro @tieH.eq_2 (And.intro @tieH.eq_3 @isS)))):=And.intro (And.intro (And.intro @stayH.eq_1 @stayH.eq_2) (And.intro @pickH.eq_1 @pickH.eq_2)) (And.intro (And.intro @pickH.eq_3 @tieH.eq_1) (And.intro @tieH.eq_2 (And.intro @tieH.eq_3 @isS)))
end Go.X

namespace Go.X
open Go Go.RowKit

section
variable {E:Env} {σ:Sig} {H:HS} {M:Mem} {a:Act} {w:World} {ν:Nat→Value} {K:KP}

theorem RowM.one {v:Value} {sz:Nat} {es:List (List Value)} (h:RowM M v sz es):v.oneCell'=true:=by
  have:=h.sl
  cases v <;> first | rfl | cases this

/-- a call that hands back what is known -/
theorem CallK.res {f d:Nat} {l:List SV} {R:SV→Mem→Prop} (hl:SV.concs l=true) (hd:decide (d < E.N)=true) (h:Meets E.P f l M (fun r _ M'=>R r M')) (hc : ∀ r M',R r M'→r.conc=true)
    (hk : ∀ r M',M.le M'→R r M'→K ((d,true,r) :: σ) H M'):CallK E f l d K σ H M:=by
  intro ν a w hs hh
  refine .inl ⟨h.1,?_⟩
  rw [SV.concs_vals (ν:=ν0) (ν':=ν) l hl]
  refine (h.2 w hh.mem).mono ?_
  rintro e w' ⟨s,H',M',ν',rfl,hh',hR⟩
  refine ⟨_,rfl,_,_,_,⟨ν,hs.put (of_decide_eq_true hd) (by rw [cond_true]; exact SV.conc_val s (hc _ _ hR)),hh.call hh'⟩,hk s M' hh'.le0 hR⟩

/-- what the callee hands back as its own, known from now on -/
theorem Meets.pub {P:Program} {f:FuncId} {args:List SV} {T:SV→SV} {sz:Nat} {Φ:List (List Value)→Mem→Prop} (hT:Ctx T) (hΦ : ∀ es M M',M.le M'→Φ es M→Φ es M')
    (h:Meets P f args M (fun r H M'=>∃ s es,r=T s∧IsRow H M' s sz es∧Φ es M')):Meets P f args M (fun r _ M'=>∃ v es,r=T (.v v)∧RowM M' v sz es∧Φ es M'):=by
  refine ⟨h.1,fun w hw=>(h.2 w hw).mono ?_⟩
  rintro e w' ⟨s,H',M',ν,rfl,hh,s',es,rfl,hR,hp⟩
  cases s' with
  | v x=>exact ⟨_,H',M',ν,rfl,hh,x,es,rfl,hR,hp⟩
  | own k=>
    obtain ⟨M'',h1,h2,h3⟩:=pub_heap hh hR
    refine ⟨T (.v (ν k)),_,M'',ν,?_,h3,ν k,es,rfl,h2,hΦ _ _ _ h1 hp⟩
    rw [hT (.own k) (.v (ν k)) ν ν rfl]
  | _=>exact hR.elim

/-- nil, as a row of the callee's own -/
theorem Meets.nilOwn {P:Program} {f:FuncId} {args:List SV} {sz:Nat} (h:Meets P f args M (fun r _ _=>r = .v (.slice none 0 0))):Meets P f args M (OwnR (fun s=>s) sz []):=by
  refine ⟨h.1,fun w hw=>(h.2 w hw).mono ?_⟩
  rintro e w' ⟨s,H',M',ν,rfl,hh,rfl⟩
  refine ⟨.own 0,[(0,.row sz [])],M',fun _=>.slice none 0 0,rfl,⟨fun p hp=>?_,by simp [fp,blk?],by simp [fp,blk?],hh.mem,hh.below,hh.le0,hh.fresh,fun _=>rfl⟩,0,rfl,rfl⟩
  simp only [List.mem_singleton] at hp
  subst hp
  exact ⟨fun e he=>by simp at he,.inl ⟨rfl,rfl⟩⟩
end
def tk:List Nat→Sch→Sch
  | [],s=>s
  | i :: l,s=>.take i (tk l s)
def ones':List Nat→Sch→Sch
  | [],s=>s
  | i :: l,s=>.one i (ones' l s)
theorem tks:type_of% (And.intro (And.intro @tk.eq_1 @tk.eq_2) (And.intro @ones'.eq_1 @ones'.eq_2)):=And.intro (And.intro @tk.eq_1 @tk.eq_2) (And.intro @ones'.eq_1 @ones'.eq_2)
theorem l_drop_at {α:Type} {l:List α} {i:Nat} (h:i < l.length) : ∃ x,l[i]? = some x∧l.drop i=x :: l.drop (i+1):=
  ⟨_,List.getElem?_eq_getElem h,List.drop_eq_getElem_cons h⟩
/-- the place of the first that is so, or -1 -/
def fidx {α:Type} (p:α→Bool):List α→Nat→Int
  | [],_=>-1
  | x :: l,i=>if p x=true then (i:Int) else fidx p l (i+1)
theorem fidx_iff {α:Type} (p:α→Bool) : ∀ (l:List α) (i:Nat),0≤fidx p l i↔l.any p=true
  | [],i=>by simp [fidx]
  | x :: l,i=>by
    have:=fidx_iff p l (i+1)
    by_cases hp:p x=true
    · simp [fidx,hp]
    · simp [fidx,hp,this]
theorem fidx_any {α:Type} (p:α→Bool) (l:List α) (i:Nat):decide (0≤fidx p l i)=l.any p:=by
  have:=fidx_iff p l i
  cases h:l.any p with
  | true=>exact decide_eq_true (this.2 h)
  | false=>exact decide_eq_false (fun h'=>by rw [this.1 h'] at h; cases h)
end Go.X

namespace Go.X
open Go Go.RowKit

def vv (es:List (List Value)):List (List SV):=es.map (·.map .v)
theorem vals_v (ν:Nat→Value) : ∀ l:List Value,SV.vals ν (l.map .v)=l
  | []=>rfl
  | x :: l=>by simp only [List.map_cons,SV.vals,SV.val,vals_v ν l]
def tabOf:Option PO→Option (Nat×List (List SV))
  | some (.row sz es)=>some (sz,vv es)
  | some (.tab sz es)=>some (sz,es)
  | _=>none
/-- a part's cells -/
def tabP (sz:Nat):Nat→List (Nat×SV)→List (List SV)×Prop
  | _,[]=>([],True)
  | j,(i,s) :: r=>(cellsSV s :: (tabP sz (j+1) r).1,((i=j∧(cellsSV s).length=sz)∧oneS s=true∧ones (cellsSV s)=true)∧(tabP sz (j+1) r).2)

section
variable {E:Env} {σ:Sig} {H:HS} {M:Mem} {a:Act} {w:World} {ν:Nat→Value} {K:KP} {o:Oper}

theorem tabP_spec {sz:Nat} {ν:Nat→Value} (h1 : ∀ k,(ν k).oneCell'=true) : ∀ {ps:List (Nat×SV)} {j:Nat},(tabP sz j ps).2 →
    (ps.map fun p=>(p.2.val ν).cells.toList)=(tabP sz j ps).1.map (SV.vals ν)∧(∀ i (p:Nat×SV),ps[i]? = some p→p.1=j+i) ∧ ∀ e ∈ (tabP sz j ps).1.map (SV.vals ν),e.length=sz ∧ ∀ c ∈ e,c.oneCell'=true
  | [],j,_=>by simp [tabP]
  | (i,s) :: r,j,h=>by
    simp only [tabP] at h ⊢
    obtain ⟨⟨⟨rfl,h2⟩,h3,h4⟩,h5⟩:=h
    obtain ⟨g1,g2,g3⟩:=tabP_spec h1 (ps:=r) (j:=i+1) h5
    have hc:=cells_of_one h3 ν (fun k=>cells_one (h1 k))
    refine ⟨by simp only [List.map_cons,g1,hc,List.toList_toArray],fun k p hk=>?_,fun e he=>?_⟩
    · cases k with
      | zero=>simp only [List.getElem?_cons_zero,Option.some.injEq] at hk; subst hk; rfl
      | succ k=>
        simp only [List.getElem?_cons_succ] at hk
        have:=g2 k p hk
        omega
    · simp only [List.map_cons,List.mem_cons] at he
      rcases he with rfl | he
      · exact ⟨by rw [SV.vals_map,List.length_map]; exact h2,ones_mem h4 h1⟩
      · exact g3 e he

/-- a literal whose parts may be rows of the call's own -/
theorem OpK.bsTab {t n d e sz bt:Nat} {zs:List Value} {ps:Array (Nat×Operand)} {l:List (Nat×SV)} (ho:o.op = .buildSlice t n ps) (hd:o.dst=some d) (hsl:slT E.P t=some (e,sz,bt,zs)) (hp:partsO σ ps.toList=some (true,l))
    (hc:(decide (d < E.N) && decide (l.length=n) && decide (n * sz≤16777216) && decide (n≤16777216))=true) (hrow:(tabP sz 0 l).2) (hn:(hNoKey d (hdel d H) && noKeyss d (tabP sz 0 l).1)=true)
    (hK:K ((d,true,.own (8 * d)) :: sigDrop d σ) ((8 * d,.tab sz (tabP sz 0 l).1) :: hdel d H) M):OpK E o K σ H M:=by
  simp only [Bool.and_eq_true,decide_eq_true_eq] at hc hn
  obtain ⟨⟨⟨hN,hlen⟩,hsm⟩,hsm2⟩:=hc
  obtain ⟨i,z,hu,hi,hz,rfl,rfl,rfl⟩:=slT_spec hsl
  refine opK_of fun ν a w hs hh=>?_
  obtain ⟨g1,g2,g3⟩:=tabP_spec hh.one hrow
  generalize htp:(tabP i.size 0 l).1=T1 at *
  have e1:=partsO_spec hs hp rfl
  have hesl:(T1.map (SV.vals ν)).length=n:=by rw [← g1,List.length_map,hlen]
  have hfl:=flatten_len (fun e he=>(g3 e he).1)
  have hfill : ∀ cs:Array Value,cs.size=n * i.size→Instr.fill (fun j=>some (j * i.size,i.size)) cs (l.map fun p=>(p.1,p.2.val ν))=some ((T1.map (SV.vals ν)).flatten).toArray:=by
    intro cs hcs
    have:=fillRow (sz:=i.size) (l.map fun p=>(p.1,p.2.val ν)) (T1.map (SV.vals ν)) 0 [] cs.toList (by rw [List.map_map]; exact g1)
      (fun k p hk=>by
        rw [List.getElem?_map,Option.map_eq_some_iff] at hk
        obtain ⟨q,hq,rfl⟩:=hk
        exact g2 k q hq) (fun e he=>(g3 e he).1) (by simp) (by simp [hcs,hlen])
    simpa using this
  refine ⟨.slice (some ⟨w.heap.size,0,none⟩) n n,w.alloc (.cells ((T1.map (SV.vals ν)).flatten).toArray e),?_,_,_,_,?_,hK⟩
  · simp only [execOp,ho,Sem.run_bind]
    have:(Instr.buildSlice t n (ps.map fun (x:Nat×Operand)=>match x with | (i,x)=>(i,a.eval x))).run E.P w = .ok (.slice (some ⟨w.heap.size,0,none⟩) n n) (w.alloc (.cells ((T1.map (SV.vals ν)).flatten).toArray e)):=by
      by_cases h0:n * i.size=0
      · have hf:=hfill (Array.map (fun x=>default) (Array.range 0)) (by simp [h0])
        simp [Instr.buildSlice,run_underlying hu,sizeOf,typeInfo,zeroValue,hi,hz,h0,newRow,e1,hf]
      · have hf:=hfill ((Array.range (n * i.size)).map (z.cells[· % z.cells.size]!)) (by simp)
        simp [Instr.buildSlice,run_underlying hu,sizeOf,typeInfo,zeroValue,hi,hz,h0,newRow,e1,hf,show ¬ 16777216 < n * i.size by omega]
    rw [this]
    rfl
  · rw [hd]
    refine Rep.fresh hs hh hN (hdel_sub d H) hn.1 (below_alloc w _) rfl (fun ν' hν'=>?_) (fun b hb=>by simp only [blk?,Option.some.injEq] at hb; omega) (fun ν' h=>h)
    rw [PO.tab_row,noKeyss_vals hν' hn.2]
    refine ⟨g3,.inr ⟨w.heap.size,n,e,[],by rw [hesl],by omega,by simp only [maxLen]; omega,by simp [hesl],?_⟩⟩
    rw [List.append_nil]
    exact heap_alloc_at w _

/-! ### other forms of the same memory -/
def HEnt (E:Env) (H:HS) (M:Mem) (H':HS):Prop:=∀ ν w,Heap E ν H M w→Heap E ν H' M w
theorem HEnt.refl:HEnt E H M H:=fun _ _ h=>h
theorem HEnt.trans {H' H'':HS} (h:HEnt E H M H') (h':HEnt E H' M H''):HEnt E H M H'':=fun ν w x=>h' ν w (h ν w x)
theorem OpK.heap {H':HS} (h:HEnt E H M H') (hk:OpK E o K σ H' M):OpK E o K σ H M:=by
  rintro a w ⟨ν,hs,hh⟩
  exact hk a w ⟨ν,hs,h ν w hh⟩
theorem CallK.heap {f d:Nat} {l:List SV} {H':HS} (h:HEnt E H M H') (hk:CallK E f l d K σ H' M):CallK E f l d K σ H M:=fun ν a w hs hh=>hk ν a w hs (h ν w hh)
theorem LoopK.heap {live:List Nat} {body:Code} {Q:QP} {H':HS} (h:HEnt E H M H') (hk:LoopK E live body Q σ H' M):LoopK E live body Q σ H M:=by
  rintro a w ⟨ν,hs,hh⟩
  exact hk a w ⟨ν,hs,h ν w hh⟩
theorem DrawK.heap {id:Nat} {ops:Array Oper} {H':HS} (h:HEnt E H M H') (hk:DrawK E id ops K σ H' M):DrawK E id ops K σ H M:=by
  rintro a w ⟨ν,hs,hh⟩
  exact hk a w ⟨ν,hs,h ν w hh⟩
theorem Ent.heap {S:Sig×HS×Mem} {H':HS} (h:HEnt E H M H') (hk:Ent E σ H' M S):Ent E σ H M S:=by
  rintro a w ⟨ν,hs,hh⟩
  exact hk a w ⟨ν,hs,h ν w hh⟩
/-- a row whose cells are all known, as such, and the other way round -/
theorem HEnt.set {k:Nat} {p q:PO} (hk:hget H k=some p) (h : ∀ ν w,p.holds ν w (ν k)→q.holds ν w (ν k)):HEnt E H M (hset k q H):=by
  intro ν w hh
  refine ⟨fun r hr=>?_,by rw [hset_fp]; exact hh.nodup,fun b hb=>hh.apart b (by rw [hset_fp] at hb; exact hb),hh.mem,hh.below,hh.le0,hh.fresh,hh.one⟩
  rcases hset_mem hr with rfl | hr
  · exact h ν w (hh.holds _ (hget_mem hk))
  · exact hh.holds _ hr
theorem HEnt.sub {H':HS} (h:H'.Sublist H):HEnt E H M H':=fun _ _ hh=>hh.sublist h
end
theorem vv_cons (e:List Value) (es:List (List Value)):vv (e :: es)=e.map .v :: vv es:=rfl
theorem vv_len (es:List (List Value)):(vv es).length=es.length:=List.length_map _
theorem noKeys_v (d:Nat) : ∀ l:List Value,SV.noKeys d (l.map .v)=true
  | []=>rfl
  | x :: l=>by simp only [List.map_cons,SV.noKeys,SV.noKey,noKeys_v d l,Bool.and_self]
theorem noKeyss_vv (d:Nat) : ∀ es:List (List Value),noKeyss d (vv es)=true
  | []=>rfl
  | e :: r=>by rw [vv_cons,noKeyss,noKeys_v,noKeyss_vv d r]; rfl
theorem noKeyss_app (d:Nat) : ∀ es es':List (List SV),noKeyss d (es++es')=(noKeyss d es && noKeyss d es')
  | [],es'=>by simp [noKeyss]
  | e :: r,es'=>by rw [List.cons_append,noKeyss,noKeyss,noKeyss_app d r es',Bool.and_assoc]
theorem pubs_v (k:Nat) (v:Value) : ∀ l:List Value,SV.pubs k v (l.map .v)=l.map .v
  | []=>rfl
  | x :: l=>by simp only [List.map_cons,SV.pubs,SV.pub,pubs_v k v l]
theorem pubss_vv (k:Nat) (v:Value) : ∀ es:List (List Value),pubss k v (vv es)=vv es
  | []=>rfl
  | e :: r=>by rw [vv_cons,pubss,pubs_v,pubss_vv k v r]
theorem pubss_app (k:Nat) (v:Value) : ∀ es es':List (List SV),pubss k v (es++es')=pubss k v es++pubss k v es'
  | [],_=>rfl
  | e :: r,es'=>by rw [List.cons_append,pubss,pubss,pubss_app k v r es',List.cons_append]
theorem tieH_mp (xs:Nat→Value) (k:Nat) (es:List (Value×Value)) (H:HS):tieH xs ((k,.mp es) :: H)=(k,.mp es) :: tieH xs H:=rfl
theorem pickH_mp (sel:List Nat) (k:Nat) (es:List (Value×Value)) (H:HS):pickH sel ((k,.mp es) :: H)=pickH sel H:=rfl
theorem tieH_tab (xs:Nat→Value) (k sz:Nat) (es:List (List SV)) (H:HS):tieH xs ((k,.tab sz es) :: H)=(k,.tab sz es) :: tieH xs H:=rfl
theorem pickH_tab (sel:List Nat) (k sz:Nat) (es:List (List SV)) (H:HS):pickH sel ((k,.tab sz es) :: H)=pickH sel H:=rfl
theorem st1:type_of% (And.intro (And.intro (And.intro (And.intro @tieH_tab @tieH_mp) (And.intro @pickH_mp @pickH_tab)) (And.intro (And.intro @tabOf.eq_1 @tabOf.eq_2) (And.intro @tabP.eq_1 @tabP.eq_2))) (And.intro (And.intro (And.intro @vv_len @noKeyss_vv) (And.intro @noKeyss_app @pubss_vv)) @pubss_app)):=
  And.intro (And.intro (And.intro (And.intro @tieH_tab @tieH_mp) (And.intro @pickH_mp @pickH_tab)) (And.intro (And.intro @tabOf.eq_1 @tabOf.eq_2) (And.intro @tabP.eq_1 @tabP.eq_2))) (And.intro (And.intro (And.intro @vv_len @noKeyss_vv) (And.intro @noKeyss_app @pubss_vv)) @pubss_app)
end Go.X

