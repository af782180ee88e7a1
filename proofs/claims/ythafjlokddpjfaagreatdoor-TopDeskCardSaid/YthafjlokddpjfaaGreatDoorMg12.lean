/- Contracts of functions and the logic that they are proved in (6 texts in one). Conditions: none. -/
import Derived.Test.YthafjlokddpjfaaGreatDoorMg11
import Derived.Test.YthafjlokddpjfaaGreatDoorMg8
import Derived.KernelRfl
import Derived.Test.YthafjlokddpjfaaGreatDoorMg4
import Derived.Test.YthafjlokddpjfaaGreatDoorMg5
open Go.Proofs.Tryz renaming prog → qz
open Nat renaming reduceAdd→zx,reduceMul→zj,reduceDiv→zy,reduceEqDiff→zk,reduceLT→zw,reduceLeDiff→zb,reduceBEq→zg
open Int renaming reduceEq→zd,reduceNe→zf,reduceLT→zp,reduceLE→zm,reduceAdd→zh,reduceSub→zu,reduceMul→zt,reduceNeg→zn,reduceToNat→zc,cast_ofNat_Int→zl,natCast_zero→za,natCast_one→ze,toNat_natCast→zo
namespace Go.X.Pol
end Go.X.Pol
namespace Go.X.Pl
end Go.X.Pl
namespace Go.X.Rp
end Go.X.Rp
namespace Go.X.Pd
end Go.X.Pd
namespace Go.X.Md
end Go.X.Md
namespace Go.X.Mv
end Go.X.Mv
set_option linter.unusedSimpArgs false
set_option linter.unusedVariables false
set_option maxHeartbeats 4000000
set_option maxRecDepth 20000
namespace Go.Proofs
open Go.Shelf
def Tryz.lays167_ren:Go.Shelf.Ren:=⟨fun | 167=>15 | 240=>27 | 276=>52 | n=>n,fun | 70=>49 | 5=>5 | 75=>54 | 0=>0 | 72=>52 | 37=>50 | 4=>4 | 164=>106 | 80=>58 | 9=>9 | 20=>20 | n=>n,fun | n=>n⟩
theorem Tryz.lays167:Go.Proofs.Lays.n167 Tryz.prog Tryz.lays167_ren:={
 mixed:=by kernel_rfl,
 f167:=Tryz.func15.trans (congrArg some (by kernel_rfl)),
 f240:=Tryz.func27.trans (congrArg some (by kernel_rfl)),
 f276:=Tryz.func52.trans (congrArg some (by kernel_rfl)),
 t0:=Tryz.underlying0,
 a0:=Tryz.isAgg0,
 z0:=Tryz.sizeOf0,
 v0:=Tryz.zeroValue0,
 t4:=Tryz.underlying4,
 a4:=Tryz.isAgg4,
 z4:=Tryz.sizeOf4,
 v4:=Tryz.zeroValue4,
 t5:=Tryz.underlying5,
 a5:=Tryz.isAgg5,
 z5:=Tryz.sizeOf5,
 v5:=Tryz.zeroValue5,
 t9:=Tryz.underlying9,
 a9:=Tryz.isAgg9,
 z9:=Tryz.sizeOf9,
 v9:=Tryz.zeroValue9,
 t20:=Tryz.underlying20,
 a20:=Tryz.isAgg20,
 z20:=Tryz.sizeOf20,
 v20:=Tryz.zeroValue20,
 t37:=Tryz.underlying50,
 a37:=Tryz.isAgg50,
 z37:=Tryz.sizeOf50,
 v37:=Tryz.zeroValue50,
 t70:=Tryz.underlying49,
 a70:=Tryz.isAgg49,
 z70:=Tryz.sizeOf49,
 v70:=Tryz.zeroValue49,
 t72:=Tryz.underlying52,
 a72:=Tryz.isAgg52,
 z72:=Tryz.sizeOf52,
 v72:=Tryz.zeroValue52,
 t75:=Tryz.underlying54,
 a75:=Tryz.isAgg54,
 z75:=Tryz.sizeOf54,
 v75:=Tryz.zeroValue54,
 t164:=Tryz.underlying106,
 a164:=Tryz.isAgg106,
 z164:=Tryz.sizeOf106,
 v164:=Tryz.zeroValue106 }

theorem Tryz.extra167:Builder.Extra Tryz.prog Tryz.lays167_ren:={ sizeBuilder:=by kernel_rfl,liesBuilder:=by kernel_rfl,t5:=Tryz.underlying5,a5:=Tryz.isAgg5,z5:=Tryz.sizeOf5,v5:=Tryz.zeroValue5,infoByte:=by kernel_rfl,cellsByte:=by kernel_rfl,sizeByte:=by kernel_rfl,neB5:=by decide }
end Go.Proofs
namespace Go.X.Dk
open Go Go.X Go.RowKit
/-- lengths of what is shown -/
theorem show1_len (b:UInt8):(show1 b).length≤3:=by
 unfold show1
 split <;> simp
theorem show_len : ∀ s:Tx,(s.flatMap show1).length≤3 * s.length
 | []=>by simp
 | b :: s=>by
   rw [List.flatMap_cons,List.length_append,List.length_cons]
   have:=show1_len b
   have:=show_len s
   omega
theorem hex_at {n:Nat} (h:n < 16):(([48,49,50,51,52,53,54,55,56,57,97,98,99,100,101,102]:Tx).drop n).take (n+1 - n)=[hexS n]:=by
 have : ∀ n:Fin 16,(([48,49,50,51,52,53,54,55,56,57,97,98,99,100,101,102]:Tx).drop n.val).take (n.val+1 - n.val)=[hexS n.val]:=by decide
 exact this ⟨n,h⟩
theorem shown_m {s:Tx} {M:Mem} (hs:s.length≤1000000):Meets qz 71 [.v (.string ⟨s.toArray⟩)] M fun r _ _=>r = .v (.string ⟨(showS s).toArray⟩):=by
 refine Meets.of_body [0,2,3,4,5,7,9,10,11,29] Proofs.Tryz.func71 rfl (by kernel_rfl) rfl fun w=>?_
 by_cases h0:s=[]
 · have e0:(s=[])=True:=eq_true h0
   simp only [Proofs.Tryz.f71,zz,zq,↓reduceIte,zx,zj,zy,zk,zw,zb,reduceCtorEq,zd,zf,zp,zm,zh,zu,zt,zn,zc,zl,za,ze,zo,zg,nzs,e0,decide_true,true_implies,Bool.true_eq_false,false_implies,and_true]
   rw [h0]; rfl
 · have e0:(s=[])=False:=eq_false h0
   simp only [Proofs.Tryz.f71,zz,zq,↓reduceIte,zx,zj,zy,zk,zw,zb,reduceCtorEq,zd,zf,zp,zm,zh,zu,zt,zn,zc,zl,za,ze,zo,zg,nzs,e0,decide_false,true_implies,Bool.false_eq_true,false_implies,true_and]
   refine OpK.bldNewC (e:=5) rfl rfl rfl ⟨_,_,rfl,rfl,rfl⟩ fun b M1 hM1 hb0 hB=>?_
   simp only [zz,zq,↓reduceIte,zx,zj,zy,zk,zw,zb,reduceCtorEq,zd,zf,zp,zm,zh,zu,zt,zn,zc,zl,za,ze,zo,zg,nzs]
   refine LoopK.go (X:=Nat×Mem) (fun x=>([(0,true,.v (.string ⟨s.toArray⟩)),(3,true,.v (ptrV b)),(9,true,.v (.int .i64 (s.length:Int))),(10,true,.v (.int .i64 (x.1:Int)))],[],x.2)) (fun x=>x.1≤s.length∧BldC ⟨qz,49,w,M⟩ 52 5 b ((s.take x.1).flatMap show1) x.2) (fun x=>s.length - x.1) (0,M1) ⟨Nat.zero_le _,hB⟩ (Ent.of ?_) ?_
   · simp only [zq,↓reduceIte,zx,zj,zy,zk,zw,zb,reduceCtorEq,zd,zf,zp,zm,zh,zu,zt,zn,zc,zl,za,ze,zo,zg,za]
   rintro ⟨k,M2⟩ ⟨k1,k2⟩
   simp only at k1 k2
   by_cases hk:k < s.length
   · have d1:((k:Int) < (s.length:Int))=True:=eq_true (by omega)
     obtain ⟨c,hc⟩ : ∃ c,s[k]? = some c:=⟨_,List.getElem?_eq_getElem hk⟩
     have hx:strIx s (k:Int)=((c.toNat:Nat):Int):=by
      unfold strIx
      simp [hc]
     have htk:s.take (k+1)=s.take k++[c]:=by rw [List.take_add_one,hc]; rfl
     simp only [zz,zq,↓reduceIte,zx,zj,zy,zk,zw,zb,reduceCtorEq,zd,zf,zp,zm,zh,zu,zt,zn,zc,zl,za,ze,zo,zg,nzs,d1,hx]
     have hlen:=show_len (s.take k)
     rw [List.length_take] at hlen
     have hnx:(s.take (k+1)).flatMap show1=(s.take k).flatMap show1++show1 c:=by
      rw [htk,List.flatMap_append]
      simp
     refine ⟨by omega,fun hp=>?_,fun hp=>?_⟩
     · have hs1:show1 c=[c]:=if_pos ⟨by unfold plainB; rw [decide_eq_true_iff]; omega,by omega⟩
       refine CallK.bldByteC Proofs.Tryz.lays167 Proofs.Tryz.extra167 rfl rfl rfl rfl ⟨_,Proofs.Tryz.func15,by kernel_rfl,by kernel_rfl⟩ k2 (by omega) fun M3 hB3 _=>?_
       simp only [zz,zq,↓reduceIte,zx,zj,zy,zk,zw,zb,reduceCtorEq,zd,zf,zp,zm,zh,zu,zt,zn,zc,zl,za,ze,zo,zg,nzs]
       refine ⟨in64 (by omega) (by omega),(k+1,M3),⟨⟨by omega,by rw [hnx,hs1]; exact hB3⟩,by simp only; omega⟩,Ent.of ?_⟩
       simp only [zq,↓reduceIte,zx,zj,zy,zk,zw,zb,reduceCtorEq,zd,zf,zp,zm,zh,zu,zt,zn,zc,zl,za,ze,zo,zg,Int.natCast_add]
     · have hs1:show1 c=[37,hexS (c.toNat / 16),hexS (c.toNat % 16)]:=if_neg fun h=>by have h1:=of_decide_eq_true h.1; have h2:=h.2; have h3:=hp (by omega); omega
       have hcl:=UInt8.toNat_lt c
       have x1:(c.toNat:Int) / 2 ^ 4=((c.toNat / 16:Nat):Int):=by omega
       have x2:c.toNat &&& 15=c.toNat % 16:=Nat.and_two_pow_sub_one_eq_mod c.toNat 4
       have q16:c.toNat / 16 < 16:=by omega
       have r16:c.toNat % 16 < 16:=Nat.mod_lt _ (by decide)
       have y1:=hex_at q16
       have y2:=hex_at r16
       have hi8:hi .u8=255:=rfl
       generalize c.toNat / 16=q at *
       generalize c.toNat % 16=r at *
       have z1:((q:Int)+1).toNat=q+1:=by omega
       have z2:((r:Int)+1).toNat=r+1:=by omega
       refine DrawK.tail 14 rfl (by kernel_rfl) ?_
       simp only [zz,zq,↓reduceIte,zx,zj,zy,zk,zw,zb,reduceCtorEq,zd,zf,zp,zm,zh,zu,zt,zn,zc,zl,za,ze,zo,zg,nzs,x1,x2,z1,z2,y1,y2,hi8,List.length_cons,List.length_nil,List.cons_append,List.nil_append]
       refine ⟨by decide,by decide,⟨by show (0:Int)≤_; omega,by show _≤(255:Int); omega⟩,by omega,by omega,by omega,⟨by show (0:Int)≤_; omega,by show _≤(255:Int); omega⟩,by omega,?_⟩
       have hsz:(ByteArray.mk #[37,hexS q,hexS r]).size=3:=rfl
       refine CallK.bldStrC Proofs.Tryz.lays166 Proofs.Tryz.extra166 rfl rfl rfl rfl ⟨_,Proofs.Tryz.func13,by kernel_rfl,by kernel_rfl⟩ k2 (by omega) fun M3 hB3 _=>?_
       simp only [zz,zq,↓reduceIte,zx,zj,zy,zk,zw,zb,reduceCtorEq,zd,zf,zp,zm,zh,zu,zt,zn,zc,zl,za,ze,zo,zg,nzs]
       refine ⟨in64 (by omega) (by omega),(k+1,M3),⟨⟨by omega,by rw [hnx,hs1]; exact hB3⟩,by simp only; omega⟩,Ent.of ?_⟩
       simp only [zq,↓reduceIte,zx,zj,zy,zk,zw,zb,reduceCtorEq,zd,zf,zp,zm,zh,zu,zt,zn,zc,zl,za,ze,zo,zg,Int.natCast_add]
   · have d1:((k:Int) < (s.length:Int))=False:=eq_false (by omega)
     simp only [zz,zq,↓reduceIte,zx,zj,zy,zk,zw,zb,reduceCtorEq,zd,zf,zp,zm,zh,zu,zt,zn,zc,zl,za,ze,zo,zg,nzs,d1]
     have hke:k=s.length:=by omega
     have hsh:showS s=(s.take k).flatMap show1:=by
      rw [hke,List.take_length]
      exact if_neg h0
     refine CallK.bldStringC Proofs.Tryz.lays169 Proofs.Tryz.extra169 rfl rfl rfl rfl ⟨_,Proofs.Tryz.func16,by kernel_rfl,by kernel_rfl⟩ k2 ?_
     simp only [zz,zq,↓reduceIte,zx,zj,zy,zk,zw,zb,reduceCtorEq,zd,zf,zp,zm,zh,zu,zt,zn,zc,zl,za,ze,zo,zg,nzs,hsh]
end Go.X.Dk

namespace Go.X.Pol

def sz (n:Nat):Nat:=if n=0 then 0 else n.log2+1

theorem sz_le {n k:Nat}:sz n≤k↔n < 2 ^ k:=by
 unfold sz
 split
 · rename_i h
   subst h
   exact ⟨fun _=>Nat.two_pow_pos k,fun _=>Nat.zero_le k⟩
 · rename_i h
   rw [Nat.succ_le_iff,Nat.log2_lt h]
theorem lt_sz {n k:Nat}:k < sz n↔2 ^ k≤n:=by
 have:=@sz_le n k
 omega
theorem sz_zero:sz 0=0:=rfl
theorem sz_pos {n:Nat}:0 < sz n↔n≠0:=by
 rw [lt_sz]; simp; omega
theorem sz_eq {n k:Nat} (h1:2 ^ k≤n) (h2:n < 2 ^ (k+1)):sz n=k+1:=by
 have:=lt_sz.2 h1
 have:=sz_le.2 h2
 omega
theorem sz_rng {n:Nat} (h:n≠0):2 ^ (sz n - 1)≤n∧n < 2 ^ (sz n)∧sz n=(sz n - 1)+1:=by
 have:=sz_pos.2 h
 exact ⟨lt_sz.1 (by omega),sz_le.1 (Nat.le_refl _),by omega⟩
theorem xor_pow (x y k:Nat):(x ^^^ y) * 2 ^ k=x * 2 ^ k ^^^ y * 2 ^ k:=by
 have:=Nat.shiftLeft_xor_distrib (a:=x) (b:=y) (i:=k)
 simpa only [Nat.shiftLeft_eq] using this
theorem two_xor (x y:Nat):2 * (x ^^^ y)=2 * x ^^^ 2 * y:=by
 have:=xor_pow x y 1
 simp only [Nat.pow_one] at this
 rw [Nat.mul_comm 2,this,Nat.mul_comm 2,Nat.mul_comm 2]
theorem xor_top {x y n:Nat} (h1:2 ^ n≤x) (h2:x < 2 ^ (n+1)) (h3:y < 2 ^ n):2 ^ n≤x ^^^ y∧x ^^^ y < 2 ^ (n+1):=by
 have hp:2 ^ (n+1)=2 * 2 ^ n:=by rw [Nat.pow_succ]; omega
 have hx:x / 2 ^ n=1:=Nat.div_eq_of_lt_le (by omega) (by omega)
 have hy:y / 2 ^ n=0:=Nat.div_eq_of_lt h3
 have:=Nat.xor_div_two_pow (a:=x) (b:=y) (n:=n)
 rw [hx,hy] at this
 refine ⟨?_,Nat.xor_lt_two_pow h2 (by omega)⟩
 have hq:(x ^^^ y) / 2 ^ n≠0:=by rw [this]; decide
 rcases Nat.lt_or_ge (x ^^^ y) (2 ^ n) with h | h
 · exact (hq (Nat.div_eq_of_lt h)).elim
 · exact h
theorem xor_drop {x y n:Nat} (h1:2 ^ n≤x) (h2:x < 2 ^ (n+1)) (h3:2 ^ n≤y) (h4:y < 2 ^ (n+1)):x ^^^ y < 2 ^ n:=by
 have hp:2 ^ (n+1)=2 * 2 ^ n:=by rw [Nat.pow_succ]; omega
 have hx:x / 2 ^ n=1:=Nat.div_eq_of_lt_le (by omega) (by omega)
 have hy:y / 2 ^ n=1:=Nat.div_eq_of_lt_le (by omega) (by omega)
 have:=Nat.xor_div_two_pow (a:=x) (b:=y) (n:=n)
 rw [hx,hy,Nat.xor_self] at this
 have h0:=Nat.two_pow_pos n
 rcases Nat.lt_or_ge (x ^^^ y) (2 ^ n) with h | h
 · exact h
 · have:=Nat.div_pos h h0
   omega
theorem bit_xor {e x:Nat} (he:e < 2):e ^^^ 2 * x=e+2 * x:=by
 have h1:=Nat.xor_div_two (a:=e) (b:=2 * x)
 rw [show e / 2=0 by omega,Nat.mul_div_cancel_left x (by omega),Nat.zero_xor] at h1
 have h2:=@Nat.xor_mod_two_eq_one e (2 * x)
 have:(2 * x) % 2=0:=by omega
 rw [this] at h2
 have:e=0∨e=1:=by omega
 rcases this with rfl | rfl
 · simp
 · have h3:(1 ^^^ 2 * x) % 2=1:=h2.2 (by decide)
   omega
theorem xor_cancel {a b c:Nat} (h:a ^^^ b=c):a=c ^^^ b:=by
 rw [← h,Nat.xor_assoc,Nat.xor_self,Nat.xor_zero]
theorem xor_eq_zero {a b:Nat} (h:a ^^^ b=0):a=b:=by
 rw [xor_cancel h,Nat.zero_xor]

/-- the product of two polynomials -/
def mulp (a b:Nat):Nat:=if a=0 then 0 else (if a % 2=1 then b else 0) ^^^ 2 * mulp (a / 2) b
termination_by a
decreasing_by omega

theorem mulp_zero (b:Nat):mulp 0 b=0:=by rw [mulp]; rfl
theorem mulp_rec (a b:Nat):mulp a b=(if a % 2=1 then b else 0) ^^^ 2 * mulp (a / 2) b:=by
 by_cases h:a=0
 · subst h; simp [mulp_zero]
 · rw [mulp,if_neg h]
theorem halves {P:Nat→Prop} (h0:P 0) (h : ∀ a,a≠0→P (a / 2)→P a) : ∀ a,P a:=by
 intro a
 induction a using Nat.strongRecOn with
 | _ a ih=>
   by_cases h1:a=0
   · subst h1; exact h0
   · exact h a h1 (ih _ (by omega))
theorem mulp_zero_right (a:Nat):mulp a 0=0:=by
 refine halves (P:=fun a=>mulp a 0=0) (mulp_zero 0) (fun a _ ih=>?_) a
 rw [mulp_rec,ih]; simp
theorem mulp_xor_right (a b c:Nat):mulp a (b ^^^ c)=mulp a b ^^^ mulp a c:=by
 refine halves (P:=fun a=>mulp a (b ^^^ c)=mulp a b ^^^ mulp a c) (by simp [mulp_zero]) (fun a _ ih=>?_) a
 rw [mulp_rec a (b ^^^ c),mulp_rec a b,mulp_rec a c,ih,two_xor]
 split
 · ac_rfl
 · simp only [Nat.zero_xor]
theorem mulp_two_right (a b:Nat):mulp a (2 * b)=2 * mulp a b:=by
 refine halves (P:=fun a=>mulp a (2 * b)=2 * mulp a b) (by simp [mulp_zero]) (fun a _ ih=>?_) a
 rw [mulp_rec a (2 * b),mulp_rec a b,ih,two_xor]
 split
 · rfl
 · simp only [Nat.mul_zero]
theorem mulp_two (a b:Nat):mulp (2 * a) b=2 * mulp a b:=by
 rw [mulp_rec,if_neg (by omega),Nat.mul_div_cancel_left a (by omega),Nat.zero_xor]
theorem mulp_one (b:Nat):mulp 1 b=b:=by
 rw [mulp_rec]; simp [mulp_zero]
theorem mulp_xor (a c b:Nat):mulp (a ^^^ c) b=mulp a b ^^^ mulp c b:=by
 refine halves (P:=fun a=>∀ c,mulp (a ^^^ c) b=mulp a b ^^^ mulp c b) (fun c=>by simp [mulp_zero]) (fun a _ ih c=>?_) a c
 rw [mulp_rec (a ^^^ c),mulp_rec a,mulp_rec c,Nat.xor_div_two,ih,two_xor]
 by_cases h1:a % 2=1 <;> by_cases h2:c % 2=1 <;> simp only [Nat.xor_mod_two_eq_one,h1,h2,if_true,if_false,iff_true,iff_false,not_true,not_false_eq_true,Nat.zero_xor]
 · rw [show b ^^^ 2 * mulp (a / 2) b ^^^ (b ^^^ 2 * mulp (c / 2) b)=(b ^^^ b) ^^^ (2 * mulp (a / 2) b ^^^ 2 * mulp (c / 2) b) by ac_rfl,Nat.xor_self,Nat.zero_xor]
 · ac_rfl
 · ac_rfl
theorem mod_xor (a:Nat):a=a % 2 ^^^ 2 * (a / 2):=by
 rw [bit_xor (by omega)]; omega
theorem mulp_one_right (a:Nat):mulp a 1=a:=by
 refine halves (P:=fun a=>mulp a 1=a) (mulp_zero 1) (fun a _ ih=>?_) a
 rw [mulp_rec,ih]
 conv=>rhs; rw [mod_xor a]
 split
 · rename_i h; rw [h]
 · rename_i h; rw [show a % 2=0 by omega]
theorem mulp_comm (a b:Nat):mulp a b=mulp b a:=by
 refine halves (P:=fun a=>mulp a b=mulp b a) (by rw [mulp_zero,mulp_zero_right]) (fun a _ ih=>?_) a
 conv=>rhs; rw [mod_xor a,mulp_xor_right,mulp_two_right]
 rw [mulp_rec a b,ih]
 split
 · rename_i h; rw [h,mulp_one_right]
 · rename_i h; rw [show a % 2=0 by omega,mulp_zero_right]
theorem mulp_pow (a b k:Nat):mulp (a * 2 ^ k) b=mulp a b * 2 ^ k:=by
 induction k with
 | zero=>simp
 | succ k ih=>rw [Nat.pow_succ,← Nat.mul_assoc,Nat.mul_comm _ 2,mulp_two,ih,Nat.mul_left_comm,Nat.mul_comm 2]
theorem mulp_pow1 (b k:Nat):mulp (2 ^ k) b=b * 2 ^ k:=by
 have:=mulp_pow 1 b k
 rw [Nat.one_mul,mulp_one] at this
 exact this

theorem mulp_rng : ∀ (k l a b:Nat),2 ^ k≤a→a < 2 ^ (k+1)→2 ^ l≤b→b < 2 ^ (l+1)→2 ^ (k+l)≤mulp a b∧mulp a b < 2 ^ (k+l+1)
 | 0,l,a,b,h1,h2,h3,h4=>by
   obtain rfl:a=1:=by simp at h1 h2; omega
   rw [mulp_one,Nat.zero_add]
   exact ⟨h3,h4⟩
 | k+1,l,a,b,h1,h2,h3,h4=>by
   have e1:2 ^ (k+1)=2 * 2 ^ k:=by rw [Nat.pow_succ]; omega
   have e2:2 ^ (k+1+1)=2 * 2 ^ (k+1):=by rw [Nat.pow_succ]; omega
   obtain ⟨g1,g2⟩:=mulp_rng k l (a / 2) b (by omega) (by omega) h3 h4
   have e3:2 ^ (k+1+l)=2 * 2 ^ (k+l):=by rw [show k+1+l=(k+l)+1 by omega,Nat.pow_succ]; omega
   have e4:2 ^ (k+1+l+1)=2 * 2 ^ (k+l+1):=by rw [show k+1+l+1=(k+l+1)+1 by omega,Nat.pow_succ]; omega
   have e5:2 ^ (l+1)≤2 ^ (k+1+l):=Nat.pow_le_pow_right (by omega) (by omega)
   rw [mulp_rec,Nat.xor_comm]
   have hy:(if a % 2=1 then b else 0) < 2 ^ (k+1+l):=by split <;> omega
   exact xor_top (by omega) (by omega) hy
theorem sz_mulp {a b:Nat} (ha:a≠0) (hb:b≠0):sz (mulp a b)+1=sz a+sz b:=by
 obtain ⟨h1,h2,h3⟩:=sz_rng ha
 obtain ⟨h4,h5,h6⟩:=sz_rng hb
 rw [h3] at h2
 rw [h6] at h5
 obtain ⟨h7,h8⟩:=mulp_rng _ _ _ _ h1 h2 h4 h5
 rw [sz_eq h7 h8]
 omega
theorem sz_mul_pow {b k:Nat} (hb:b≠0):sz (b * 2 ^ k)=sz b+k:=by
 have h:=sz_mulp (a:=2 ^ k) (Nat.ne_of_gt (Nat.two_pow_pos k)) hb
 rw [mulp_pow1,sz_eq (n:=2 ^ k) (k:=k) (Nat.le_refl _) (Nat.pow_lt_pow_right (by omega) (by omega))] at h
 omega
theorem sz_xor {a b n:Nat} (h1:sz a≤n) (h2:sz b≤n):sz (a ^^^ b)≤n:=by
 rw [sz_le] at *
 exact Nat.xor_lt_two_pow h1 h2
theorem sz_xor_drop {a b:Nat} (h:a≠0) (he:sz a=sz b):sz (a ^^^ b) < sz a:=by
 obtain ⟨h1,h2,h3⟩:=sz_rng h
 have hb:b≠0:=sz_pos.1 (by rw [← he]; exact sz_pos.2 h)
 obtain ⟨h4,h5,h6⟩:=sz_rng hb
 rw [h3] at h2
 rw [← he] at h4 h5
 rw [h3] at h5
 have:=sz_le.2 (xor_drop h1 h2 h4 h5)
 omega

theorem uniq {q q' r r' b:Nat} (h:mulp q b ^^^ r=mulp q' b ^^^ r') (h1:sz r < sz b) (h2:sz r' < sz b):q=q'∧r=r':=by
 have hb:b≠0:=sz_pos.1 (by omega)
 have h3:mulp (q ^^^ q') b=r ^^^ r':=by
  rw [mulp_xor]
  have:=xor_cancel h
  rw [this,show mulp q' b ^^^ r' ^^^ r ^^^ mulp q' b=(mulp q' b ^^^ mulp q' b) ^^^ (r ^^^ r') by ac_rfl,Nat.xor_self,Nat.zero_xor]
 by_cases hq:q ^^^ q'=0
 · rw [hq,mulp_zero] at h3
   exact ⟨xor_eq_zero hq,xor_eq_zero h3.symm⟩
 · have h4:=sz_mulp hq hb
   rw [h3] at h4
   have h5:=sz_xor (n:=sz b - 1) (a:=r) (b:=r') (by omega) (by omega)
   have:=sz_pos.2 hq
   omega

/-- division -/
def pdm:Nat→Nat→Nat→Nat×Nat
 | 0,a,_=>(0,a)
 | f+1,a,b=>if sz a < sz b then (0,a) else ((pdm f (a ^^^ b * 2 ^ (sz a - sz b)) b).1 ^^^ 2 ^ (sz a - sz b),(pdm f (a ^^^ b * 2 ^ (sz a - sz b)) b).2)
theorem sz_step {a b:Nat} (hb:b≠0) (h:sz b≤sz a):sz (a ^^^ b * 2 ^ (sz a - sz b)) < sz a:=by
 have ha:a≠0:=sz_pos.1 (by have:=sz_pos.2 hb; omega)
 exact sz_xor_drop ha (by rw [sz_mul_pow hb]; omega)
theorem pdm_spec : ∀ (f a b:Nat),b≠0→sz a≤f→a=mulp (pdm f a b).1 b ^^^ (pdm f a b).2∧sz (pdm f a b).2 < sz b
 | 0,a,b,hb,hf=>by
   simp only [pdm,mulp_zero,Nat.zero_xor,true_and]
   have:=sz_pos.2 hb
   omega
 | f+1,a,b,hb,hf=>by
   simp only [pdm]
   split
   · rename_i h
     simp only [mulp_zero,Nat.zero_xor,true_and]
     exact h
   · rename_i h
     obtain ⟨h1,h2⟩:=pdm_spec f (a ^^^ b * 2 ^ (sz a - sz b)) b hb (by have:=sz_step hb (show sz b≤sz a by omega); omega)
     refine ⟨?_,h2⟩
     have h3:=xor_cancel h1
     simp only [mulp_xor,mulp_pow1]
     refine h3.trans ?_
     ac_rfl
def pdiv (a b:Nat):Nat:=(pdm (sz a) a b).1
def pmod (a b:Nat):Nat:=(pdm (sz a) a b).2
theorem divmod {a b:Nat} (hb:b≠0):a=mulp (pdiv a b) b ^^^ pmod a b∧sz (pmod a b) < sz b:=pdm_spec _ a b hb (Nat.le_refl _)
theorem divmod_uniq {a b q r:Nat} (h:a=mulp q b ^^^ r) (hr:sz r < sz b):pdiv a b=q∧pmod a b=r:=by
 have hb:b≠0:=sz_pos.1 (by omega)
 obtain ⟨h1,h2⟩:=divmod (a:=a) hb
 exact uniq (by rw [← h1,← h]) h2 hr
theorem pmod_small {a m:Nat} (h:sz a < sz m):pmod a m=a:=(divmod_uniq (q:=0) (by rw [mulp_zero,Nat.zero_xor]) h).2
/-! ### Lists of coefficients -/
theorem testBit_flip (x k i:Nat):(x ^^^ 2 ^ k).testBit i=if i=k then !x.testBit i else x.testBit i:=by
 rw [Nat.testBit_xor,Nat.testBit_two_pow]
 by_cases h:k=i
 · subst h; simp
 · rw [if_neg (fun e=>h e.symm)]; simp [h]
theorem mod_succ (b i:Nat):b % 2 ^ (i+1)=b % 2 ^ i ^^^ (if b.testBit i then 2 ^ i else 0):=by
 apply Nat.eq_of_testBit_eq
 intro j
 rw [Nat.testBit_xor,Nat.testBit_mod_two_pow,Nat.testBit_mod_two_pow]
 have:(if b.testBit i then 2 ^ i else 0).testBit j=(b.testBit i && decide (i=j)):=by
  cases b.testBit i
  · simp
  · simp [Nat.testBit_two_pow]
 rw [this]
 by_cases h1:j < i
 · simp [show j < i+1 by omega,h1,show ¬ i=j by omega]
 · by_cases h2:i=j
   · subst h2; simp
   · simp [show ¬ j < i+1 by omega,h1,h2]
/-- an addend whose bits are free is an or -/
theorem or_pow {q s:Nat} (h:q.testBit s=false):q ||| 2 ^ s=q ^^^ 2 ^ s:=by
 apply Nat.eq_of_testBit_eq
 intro i
 rw [Nat.testBit_or,Nat.testBit_xor,Nat.testBit_two_pow]
 by_cases hi:s=i
 · subst hi; simp [h]
 · simp [hi]
theorem or_low {p c k:Nat} (h:c < 2 ^ k):p * 2 ^ k ||| c=p * 2 ^ k+c:=by
 have:=Nat.shiftLeft_add_eq_or_of_lt h p
 rw [Nat.shiftLeft_eq] at this
 exact this.symm
end Go.X.Pol

namespace Go.X.Pl
open Go Go.X Go.X.Pol

theorem sz_shift {x k:Nat} (h:2 ^ k≤x):sz x=k+sz (x / 2 ^ k):=by
 have h0:=Nat.two_pow_pos k
 have h1:x / 2 ^ k≠0:=Nat.ne_of_gt (Nat.div_pos h h0)
 obtain ⟨h2,h3,h4⟩:=sz_rng h1
 have h5:=Nat.div_mul_le_self x (2 ^ k)
 have h6:2 ^ (sz (x / 2 ^ k) - 1) * 2 ^ k≤x:=Nat.le_trans (Nat.mul_le_mul_right _ h2) h5
 have h7:x < 2 ^ sz (x / 2 ^ k) * 2 ^ k:=(Nat.div_lt_iff_lt_mul h0).1 h3
 rw [← Nat.pow_add] at h6 h7
 rw [sz_eq (k:=sz (x / 2 ^ k) - 1+k) h6 (by rw [show sz (x / 2 ^ k) - 1+k+1=sz (x / 2 ^ k)+k by omega]; exact h7)]
 omega

def tabB (T:List UInt8):Bool:=T.length == 256 && (List.range 256).all fun i=>strIx T (i:Int) == (sz i:Int)
theorem tab (T:List UInt8) (hT:tabB T=true) (c y:Int) (n x:Nat) (hy:y=(n:Int)) (hn:n < 256) (hx:(sz x:Int)=c+sz n) (hc:0≤c∧c≤56) :
  Shp.int IntKind.u64≠Shp.bad∧(0≤IntKind.u8.wrap y∧IntKind.u8.wrap y < (T.length:Int))∧Shp.int IntKind.u8≠Shp.bad∧inK IntKind.i64 (c+IntKind.i64.wrap (strIx T (IntKind.u8.wrap y))) ∧
   SV.v (Value.int IntKind.i64 (c+IntKind.i64.wrap (strIx T (IntKind.u8.wrap y))))=SV.v (Value.int IntKind.i64 ((sz x:Nat):Int)):=by
 simp only [tabB,Bool.and_eq_true,beq_iff_eq,List.all_eq_true,List.mem_range] at hT
 obtain ⟨h1,h2⟩:=hT
 have h3:=h2 n hn
 have h4:IntKind.u8.wrap y=(n:Int):=by rw [hy]; exact wrap_in (k:=.u8) ⟨by simp only [lo]; omega,by simp only [hi]; omega⟩
 have h5:sz n≤8:=sz_le.2 (by omega)
 rw [h4,h3,h1,wrap_in (k:=.i64) (n:=((sz n:Nat):Int)) ⟨by simp only [lo]; omega,by simp only [hi]; omega⟩,hx]
 exact ⟨(fun h=>by cases h),⟨by omega,by omega⟩,(fun h=>by cases h),⟨by simp only [lo]; omega,by simp only [hi]; omega⟩,rfl⟩
theorem tab0 (T:List UInt8) (hT:tabB T=true) (y:Int) (n x:Nat) (hy:y=(n:Int)) (hn:n < 256) (hx:(sz x:Int)=sz n) :
 Shp.int IntKind.u64≠Shp.bad∧(0≤IntKind.u8.wrap y∧IntKind.u8.wrap y < (T.length:Int))∧Shp.int IntKind.u8≠Shp.bad∧inK IntKind.i64 (0+IntKind.i64.wrap (strIx T (IntKind.u8.wrap y))) ∧
  SV.v (Value.int IntKind.i64 (0+IntKind.i64.wrap (strIx T (IntKind.u8.wrap y))))=SV.v (Value.int IntKind.i64 ((sz x:Nat):Int)):=tab T hT 0 y n x hy hn (by omega) (by omega)

theorem len64 (x:Nat) (M:Mem) (hx:x < 18446744073709551616) :
  Meets qz 187 [.v (.int .u64 (x:Int))] M fun r _ _=>r = .v (.int .i64 ((sz x:Nat):Int)):=by
 refine Meets.of_body [0,2,4,8,14] Proofs.Tryz.func187 rfl (by kernel_rfl) rfl fun w=>?_
 simp only [Proofs.Tryz.f187,zz,zq,seval,zl,za,ze,zo,inK,lo,hi]
 rw [show ((IntKind.u64.bits:Nat):Int)=64 from rfl]
 have e1:4294967296≤x→sz x=32+sz (x / 4294967296):=fun h=>sz_shift (k:=32) h
 have e2 : ∀ y,65536≤y→sz y=16+sz (y / 65536):=fun y h=>sz_shift (k:=16) h
 have e3 : ∀ y,256≤y→sz y=8+sz (y / 256):=fun y h=>sz_shift (k:=8) h
 have tx:=e2 x
 have ty:=e2 (x / 4294967296)
 have t1:=e3 x
 have t2:=e3 (x / 4294967296)
 have t3:=e3 (x / 65536)
 have t4:=e3 (x / 4294967296 / 65536)
 refine ⟨fun h1=>⟨by omega,fun h2=>⟨by omega,fun h3=>⟨by omega,?_⟩,fun h3=>?_⟩,fun h2=>⟨fun h3=>⟨by omega,?_⟩,fun h3=>?_⟩⟩,
  fun h1=>⟨fun h2=>⟨by omega,fun h3=>⟨by omega,?_⟩,fun h3=>?_⟩,fun h2=>⟨fun h3=>⟨by omega,?_⟩,fun h3=>?_⟩⟩⟩
 · exact tab _ (by kernel_rfl) _ _ (x / 4294967296 / 65536 / 256) x (by omega) (by omega) (by omega) (by omega)
 · exact tab _ (by kernel_rfl) _ _ (x / 4294967296 / 65536) x (by omega) (by omega) (by omega) (by omega)
 · exact tab _ (by kernel_rfl) _ _ (x / 4294967296 / 256) x (by omega) (by omega) (by omega) (by omega)
 · exact tab _ (by kernel_rfl) _ _ (x / 4294967296) x (by omega) (by omega) (by omega) (by omega)
 · exact tab _ (by kernel_rfl) _ _ (x / 65536 / 256) x (by omega) (by omega) (by omega) (by omega)
 · exact tab _ (by kernel_rfl) _ _ (x / 65536) x (by omega) (by omega) (by omega) (by omega)
 · exact tab _ (by kernel_rfl) _ _ (x / 256) x (by omega) (by omega) (by omega) (by omega)
 · exact tab0 _ (by kernel_rfl) _ x x (by omega) (by omega) (by omega)

theorem deg (x:Nat) (M:Mem) (hx:x < 18446744073709551616) :
  Meets qz 164 [.v (.int .u64 (x:Int))] M fun r _ _=>r = .v (.int .i64 ((sz x:Nat) - 1:Int)):=by
 refine Meets.of_body [0,2] Proofs.Tryz.func164 rfl (by kernel_rfl) rfl fun w=>?_
 simp only [Proofs.Tryz.f164,zz,zq,seval,zl,za,ze,zo,inK,lo,hi]
 refine CallK.pure ⟨rfl,rfl⟩ rfl (len64 x M hx) ?_
 have:sz x≤64:=sz_le.2 hx
 simp only [zz,zq,seval,zl,za,ze,zo,inK,lo,hi]
 omega

theorem pw (s:Nat):(2:Int) ^ s=((2 ^ s:Nat):Int):=by simp
theorem mw (a s:Nat):(a:Int) * 2 ^ s=((a * 2 ^ s:Nat):Int):=by simp
theorem dw (a s:Nat):(a:Int) / 2 ^ s=((a / 2 ^ s:Nat):Int):=by simp
theorem mwc (a s:Nat):(a:Int) * ((2 ^ s:Nat):Int)=((a * 2 ^ s:Nat):Int):=by simp
theorem b64:((IntKind.i64.bits:Nat):Int)=64:=rfl
theorem b64u:((IntKind.u64.bits:Nat):Int)=64:=rfl
theorem uw {a:Nat} (h:a < 18446744073709551616):IntKind.u64.wrap (a:Int)=(a:Int):=wrap_in (k:=.u64) ⟨by simp only [lo]; omega,by simp only [hi]; omega⟩
theorem iw {a:Nat} (h:a < 9223372036854775808):IntKind.i64.wrap (a:Int)=(a:Int):=wrap_in (k:=.i64) ⟨by simp only [lo]; omega,by simp only [hi]; omega⟩
theorem orw {x y:Nat} (hx:x < 18446744073709551616) (hy:y < 18446744073709551616):orV .u64 (x:Int) (y:Int)=((x ||| y:Nat):Int):=by
 show IntKind.u64.wrap ((BitVec.ofInt 64 (x:Int) ||| BitVec.ofInt 64 (y:Int)).toNat:Int)=_
 have hl:=Nat.or_lt_two_pow (n:=64) hx hy
 rw [BitVec.toNat_or,toNat_ofInt _ _ (by omega) (by omega),toNat_ofInt _ _ (by omega) (by omega),zo,zo]
 exact uw hl
theorem sz31 {a:Nat} (h:a≤2147483647):sz a≤31:=sz_le.2 (by omega)
theorem p31 {i:Nat} (h:i≤31):2 ^ i≤2147483648:=Nat.pow_le_pow_right (n:=2) (by omega) h
theorem sz_mulp_le {a b n m:Nat} (h1:sz a≤n) (h2:sz b≤m):sz (mulp a b)≤n+m:=by
 by_cases ha:a=0
 · subst ha; rw [mulp_zero]; simp [sz_zero]
 by_cases hb:b=0
 · subst hb; rw [mulp_zero_right]; simp [sz_zero]
 have:=sz_mulp ha hb
 omega
theorem mulp_step (a b i:Nat):mulp (b % 2 ^ (i+1)) a=mulp (b % 2 ^ i) a ^^^ (if b / 2 ^ i % 2=1 then a * 2 ^ i else 0):=by
 rw [mod_succ,mulp_xor,Nat.testBit_eq_decide_div_mod_eq]
 by_cases h:b / 2 ^ i % 2=1
 · simp only [h,decide_true,if_true,mulp_pow1]
 · simp only [h,decide_false,Bool.false_eq_true,if_false,mulp_zero]
theorem sz_mod (b i:Nat):sz (b % 2 ^ i)≤i:=sz_le.2 (Nat.mod_lt _ (Nat.two_pow_pos i))

theorem times (a b:Nat) (M:Mem) (ha:a≤2147483647) (hb:b≤2147483647) :
  Meets qz 49 [.v (.int .i64 (a:Int)),.v (.int .i64 (b:Int))] M fun r _ _=>r = .v (.int .u64 ((mulp a b:Nat):Int)):=by
 refine Meets.of_body [0,1,4,5,6,10,17] Proofs.Tryz.func49 rfl (by kernel_rfl) rfl fun w=>?_
 simp only [Proofs.Tryz.f49,zz,zq,seval,zl,za,ze,zo]
 refine LoopK.go (X:=Nat) (fun i=>([(0,true,.v (.int .i64 a)),(1,true,.v (.int .i64 b)),(5,true,.v (.int .u64 ((mulp (b % 2 ^ i) a:Nat):Int))),(6,true,.v (.int .i64 i))],[],M))
  (fun i=>i≤sz b) (fun i=>sz b - i) 0 (Nat.zero_le _) (Ent.of ?_) ?_
 · simp only [zq,seval,zl,za,ze,zo,Nat.pow_zero,Nat.mod_one,mulp_zero]
 intro i hi'
 have hs:=sz31 hb
 have h1:mulp (b % 2 ^ i) a < 2 ^ 62:=sz_le.1 (Nat.le_trans (sz_mulp_le (sz_mod b i) (sz31 ha)) (by omega))
 have h2:a * 2 ^ i≤2147483647 * 2147483648:=Nat.mul_le_mul ha (p31 (by omega))
 have h3:b / 2 ^ i≤b:=Nat.div_le_self _ _
 have h4:=mulp_step a b i
 simp only [zz,zq,seval,zl,za,ze,zo,inK,lo,hi,b64,b64u,uw (show a < 18446744073709551616 by omega),mw,dw,Nat.and_one_is_mod]
 refine ⟨by omega,fun h5=>?_,fun h5=>?_⟩
 · have h6:i < sz b:=lt_sz.2 (by
    rcases Nat.lt_or_ge b (2 ^ i) with h | h
    · rw [Nat.div_eq_of_lt h] at h5; omega
    · exact h)
   refine ⟨by omega,by omega,fun h7=>⟨(fun h=>by cases h),by omega,by omega,by omega,i+1,⟨by omega,by omega⟩,Ent.of ?_⟩,fun h7=>⟨by omega,i+1,⟨by omega,by omega⟩,Ent.of ?_⟩⟩
   · rw [if_pos (by omega)] at h4
     simp only [zq,seval,zl,za,ze,zo,h4,Int.natCast_add]
   · rw [if_neg (by omega),Nat.xor_zero] at h4
     simp only [zq,seval,zl,za,ze,zo,h4,Int.natCast_add]
 · have h6:b < 2 ^ i:=by
    rcases Nat.lt_or_ge b (2 ^ i) with h | h
    · exact h
    · have:=Nat.div_pos h (Nat.two_pow_pos i)
      omega
   rw [Nat.mod_eq_of_lt h6,mulp_comm]

theorem over (a b:Nat) (M:Mem) (ha:a < 18446744073709551616) (hb:b≤2147483647) (hb0:b≠0) :
  Meets qz 112 [.v (.int .u64 (a:Int)),.v (.int .i64 (b:Int))] M fun r _ _=>r = .tup [.v (.int .u64 ((pdiv a b:Nat):Int)),.v (.int .u64 ((pmod a b:Nat):Int))]:=by
 refine Meets.of_body [0,1,4,5,6,7,8,15] Proofs.Tryz.func112 rfl (by kernel_rfl) rfl fun w=>?_
 have hb':b < 18446744073709551616:=by omega
 have hsb:=sz_pos.2 hb0
 simp only [Proofs.Tryz.f112,zz,zq,seval,zl,za,ze,zo,uw hb']
 refine ⟨(fun h=>by cases h),?_⟩
 refine CallK.pure ⟨rfl,rfl⟩ rfl (deg b M hb') ?_
 simp only [zz,zq,seval,zl,za,ze,zo]
 refine LoopK.go (X:=Nat×Nat) (fun p=>([(0,true,.v (.int .u64 (p.2:Int))),(1,true,.v (.int .i64 b)),(6,true,.v (.int .u64 (p.1:Int))),(7,true,.v (.int .i64 ((sz b:Nat) - 1:Int)))],[],M))
  (fun p=>((a=mulp p.1 b ^^^ p.2 ∧ ∀ j,j+sz b≤sz p.2→p.1.testBit j=false)∧p.2 < 2 ^ 64)∧p.1 < 2 ^ 64) (fun p=>sz p.2) (0,a) ⟨⟨⟨by rw [mulp_zero,Nat.zero_xor],fun j _=>Nat.zero_testBit j⟩,ha⟩,Nat.two_pow_pos 64⟩ (Ent.of ?_) ?_
 · simp only [zq,seval,zl,za,ze,zo]
 rintro ⟨q,x⟩ ⟨⟨⟨h1,h2⟩,h3⟩,h4⟩
 simp only at h1 h2 h3 h4
 have h3':x < 18446744073709551616:=h3
 have h4':q < 18446744073709551616:=h4
 have hsx:sz x≤64:=sz_le.2 h3
 simp only [zz,zq,seval,zl,za,ze,zo]
 refine CallK.pure ⟨rfl,rfl⟩ rfl (deg x M h3') ?_
 simp only [zz,zq,seval,zl,za,ze,zo]
 refine ⟨fun h5=>?_,fun h5=>?_⟩
 · refine CallK.pure ⟨rfl,rfl⟩ rfl (deg x M h3') ?_
   have hs:(sz x:Int) - 1 - ((sz b:Int) - 1)=((sz x - sz b:Nat):Int):=by omega
   have h6:2 ^ (sz x - sz b) < 2 ^ 64:=Nat.pow_lt_pow_right (by omega) (by omega)
   have h6':2 ^ (sz x - sz b) < 18446744073709551616:=h6
   have h7:sz (b * 2 ^ (sz x - sz b))=sz x:=by rw [sz_mul_pow hb0]; omega
   have h8:b * 2 ^ (sz x - sz b) < 2 ^ 64:=sz_le.1 (by omega)
   have h9:=sz_step hb0 (show sz b≤sz x by omega)
   have h10:=h2 (sz x - sz b) (by omega)
   have h11:(0:Int)≤((2 ^ (sz x - sz b):Nat):Int)∧((2 ^ (sz x - sz b):Nat):Int)≤18446744073709551615:=by
    clear h10 h9 h8 h7 h6 hs
    generalize 2 ^ (sz x - sz b)=P at h6' ⊢
    omega
   simp only [zz,zq,seval,zl,za,ze,zo,inK,lo,hi,hs,pw,mwc,Int.one_mul,b64,b64u,uw hb',orw h4' h6',or_pow h10]
   refine ⟨by omega,⟨by omega,h11⟩,(fun h=>by cases h),by omega,by omega,(q ^^^ 2 ^ (sz x - sz b),x ^^^ b * 2 ^ (sz x - sz b)),⟨⟨⟨⟨?_,fun j hj=>?_⟩,Nat.xor_lt_two_pow h3 h8⟩,Nat.xor_lt_two_pow h4 h6⟩,h9⟩,Ent.of ?_⟩
   · simp only
     rw [mulp_xor,mulp_pow1]
     conv=>lhs; rw [h1]
     rw [show mulp q b ^^^ b * 2 ^ (sz x - sz b) ^^^ (x ^^^ b * 2 ^ (sz x - sz b))=(mulp q b ^^^ x) ^^^ (b * 2 ^ (sz x - sz b) ^^^ b * 2 ^ (sz x - sz b)) by ac_rfl,Nat.xor_self,Nat.xor_zero]
   · simp only at hj ⊢
     rw [testBit_flip,if_neg (by omega)]
     exact h2 j (by omega)
   · simp only [zq,seval,zl,za,ze,zo]
 · obtain ⟨e1,e2⟩:=divmod_uniq h1 (show sz x < sz b by omega)
   rw [e1,e2]

/-! ### the exported functions -/
def bad (a:Int):Prop:=a < 0∨2147483647 < a
instance (a:Int):Decidable (bad a):=inferInstanceAs (Decidable (_∨_))
def er (a:Int):Int:=if a < 0∨2147483647 < a then 1 else 0
theorem er_bad {a:Int} (h:a < 0∨2147483647 < a):er a=1:=if_pos h
theorem er_ok {a:Int} (h : ¬ (a < 0∨2147483647 < a)):er a=0:=if_neg h
theorem check (a:Int) (M:Mem):Meets qz 105 [.v (.int .i64 a)] M fun r _ _=>r = .v (.int .i64 (er a)):=by
 refine Meets.of_body [0,2,8] Proofs.Tryz.func105 rfl (by kernel_rfl) rfl fun w=>?_
 simp only [Proofs.Tryz.f105,zz,zq,seval,zl,za,ze,zo]
 refine ⟨fun h=>?_,fun h=>?_⟩
 · rw [er_bad (by omega)]
 · rw [er_ok (by omega)]
def er2 (a b:Int):Int:=if a < 0∨2147483647 < a then 1 else er b
theorem two (a b:Int) (M:Mem):Meets qz 48 [.v (.int .i64 a),.v (.int .i64 b)] M fun r _ _=>r = .v (.int .i64 (er2 a b)):=by
 refine Meets.of_body [0,1,4,5,9] Proofs.Tryz.func48 rfl (by kernel_rfl) rfl fun w=>?_
 simp only [Proofs.Tryz.f48,zz,zq,seval,zl,za,ze,zo]
 refine CallK.pure ⟨rfl,rfl⟩ rfl (check a M) ?_
 simp only [zz,zq,seval,zl,za,ze,zo,er2]
 by_cases h:a < 0∨2147483647 < a
 · simp only [er_bad h,if_pos h,zq,seval,zl,za,ze,zo]
 · simp only [er_ok h,if_neg h,zq,seval,zl,za,ze,zo]
   refine CallK.pure ⟨rfl,rfl⟩ rfl (check b M) ?_
   simp only [zz,zq,seval,zl,za,ze,zo]
theorem er2_ok {a b:Nat} (ha:a≤2147483647) (hb:b≤2147483647):er2 a b=0:=by
 unfold er2; rw [if_neg (by omega),er_ok (by omega)]
/-- what Mul returns -/
def mulV (a b:Nat):SV:=if mulp a b≤2147483647 then .tup [.v (.int .i64 ((mulp a b:Nat):Int)),.v (.int .i64 0)] else .tup [.v (.int .i64 0),.v (.int .i64 2)]
theorem mulp_62 {a b:Nat} (ha:a≤2147483647) (hb:b≤2147483647):mulp a b < 4611686018427387904:=sz_le.1 (Nat.le_trans (sz_mulp_le (sz31 ha) (sz31 hb)) (show 31+31≤62 by omega))
theorem Mul (a b:Nat) (M:Mem) (ha:a≤2147483647) (hb:b≤2147483647):Meets qz 25 [.v (.int .i64 (a:Int)),.v (.int .i64 (b:Int))] M fun r _ _=>r=mulV a b:=by
 refine Meets.of_body [0,1,4,5,6,7,12,18] Proofs.Tryz.func25 rfl (by kernel_rfl) rfl fun w=>?_
 have hm:=mulp_62 ha hb
 simp only [Proofs.Tryz.f25,zz,zq,seval,zl,za,ze,zo]
 refine CallK.pure ⟨rfl,rfl⟩ rfl (two a b M) ?_
 simp only [zz,zq,seval,zl,za,ze,zo,er2_ok ha hb]
 refine CallK.pure ⟨rfl,rfl⟩ rfl (times a b M ha hb) ?_
 simp only [zz,zq,seval,zl,za,ze,zo,iw (show mulp a b < 9223372036854775808 by omega),mulV]
 refine ⟨fun h=>?_,fun h=>⟨(fun h=>by cases h),?_⟩⟩
 · rw [if_neg (by omega)]
 · rw [if_pos (by omega)]
/-! ### greatest common divisors -/
end Go.X.Pl

namespace Go.X.Rp
open Go Go.X Go.X.Pol Go.X.Pl

theorem drop_at {α:Type} {l:List α} {i:Nat} (h:i < l.length) : ∃ x,l[i]? = some x∧l.drop i=x :: l.drop (i+1):=
 ⟨_,List.getElem?_eq_getElem h,List.drop_eq_getElem_cons h⟩

theorem i64N {x:Nat} (h:x≤9223372036854775807):(-9223372036854775808:Int)≤(x:Int)∧(x:Int)≤9223372036854775807:=by omega

/-! ### greatest common divisors -/
end Go.X.Rp

namespace Go.X.Mv
open Go Go.X Go.X.Pol Go.X.Pl Go.X.Rp Go.X.Pd Go.X.Md

theorem p30 {m:Nat} (hm:m≤2147483647):2 ^ (sz m - 1)≤1073741824:=Nat.pow_le_pow_right (n:=2) (j:=30) (by omega) (by have:=sz31 hm; omega)
theorem red_lt {m x:Nat} (h0:m≠0):pmod x m < 2 ^ (sz m - 1):=sz_le.1 (by have:=(divmod (a:=x) h0).2; omega)
theorem red_le {m x:Nat} (h0:m≠0) (hm:m≤2147483647):pmod x m≤1073741824:=Nat.le_trans (Nat.le_of_lt (red_lt h0)) (p30 hm)
end Go.X.Mv

namespace Go.X.Pt
open Go Go.X Go.X.Pol Go.X.Pl Go.X.Rp Go.X.Pd Go.X.Md Go.X.Mv

/-- one byte more -/
def stp (m p c:Nat):Nat:=pmod (p * 2 ^ 8+c) m
def prf (m:Nat) (s:List UInt8) (p:Nat):Nat:=s.foldl (fun p c=>stp m p c.toNat) p

theorem strIx_at {s:List UInt8} {i:Nat} {b:UInt8} (h:s[i]? = some b):strIx s (i:Int)=((b.toNat:Nat):Int):=by
 unfold strIx
 rw [zo,List.getD_eq_getElem?_getD,h]
 rfl
theorem push (p m:Nat) (s:List UInt8) (M:Mem) (h2:2≤m) (hm:m≤2147483647) (hp:p≤2147483647) (hs:s.length≤maxLen) :
  Meets qz 168 [.v (.int .i64 (p:Int)),.v (.string ⟨s.toArray⟩),.v (.int .i64 (m:Int))] M fun r _ _=>r = .v (.int .i64 ((prf m s p:Nat):Int)):=by
 refine Meets.of_body [0,1,2,6,7,9,11,12,13] Proofs.Tryz.func168 rfl (by kernel_rfl) rfl fun w=>?_
 have h0:m≠0:=by omega
 generalize hc:prf m s p=c
 simp only [maxLen] at hs
 simp only [Proofs.Tryz.f168,zz,zq,↓reduceIte,zx,zj,zy,zk,zw,zb,reduceCtorEq,zd,zf,zp,zm,zh,zu,zt,zn,zc,zl,za,ze,zo,zg]
 refine LoopK.go (X:=Nat×Nat×Nat) (fun x=>([(0,true,.v (.int .i64 (x.2.2:Int))),(1,true,.v (.string ⟨s.toArray⟩)),(2,true,.v (.int .i64 m)),(11,true,.v (.int .i64 s.length)),(12,true,.v (.int .i64 x.2.1))],[],M))
  (fun x=>(x.1+x.2.1=s.length∧x.2.2≤2147483647)∧prf m (s.drop x.2.1) x.2.2=c) (fun x=>x.1) (s.length,0,p) ⟨⟨rfl,hp⟩,hc⟩ (Ent.of ?_) ?_
 · simp only [zq,↓reduceIte,zx,zj,zy,zk,zw,zb,reduceCtorEq,zd,zf,zp,zm,zh,zu,zt,zn,zc,zl,za,ze,zo,zg]
 rintro ⟨f,i,q⟩ ⟨⟨h3,h4⟩,h5⟩
 simp only at h3 h4 h5
 simp only [zz,zq,↓reduceIte,zx,zj,zy,zk,zw,zb,reduceCtorEq,zd,zf,zp,zm,zh,zu,zt,zn,zc,zl,za,ze,zo,zg,inK,lo,hi,uw (show q < 18446744073709551616 by omega),mw,b64u]
 refine ⟨fun h6=>?_,fun h6=>?_⟩
 · obtain ⟨b,hb,hd⟩:=drop_at (l:=s) (i:=i) (by omega)
   have e1:=strIx_at hb
   have hb2:b.toNat < 256:=UInt8.toNat_lt b
   rw [hd] at h5
   simp only [prf,List.foldl_cons] at h5
   have hz:=red_le (x:=q * 2 ^ 8+b.toNat) h0 hm
   refine ⟨(fun h=>by cases h),by omega,by omega,(fun h=>by cases h),?_⟩
   rw [e1,uw (show b.toNat < 18446744073709551616 by omega),orw (show q * 2 ^ 8 < 18446744073709551616 by omega) (show b.toNat < 18446744073709551616 by omega),or_low (k:=8) (by omega)]
   refine CallK.pure ⟨rfl,rfl⟩ rfl (over _ m M (by omega) hm h0) ?_
   simp only [zz,zq,↓reduceIte,zx,zj,zy,zk,zw,zb,reduceCtorEq,zd,zf,zp,zm,zh,zu,zt,zn,zc,zl,za,ze,zo,zg,inK,lo,hi,iw (show pmod (q * 2 ^ 8+b.toNat) m < 9223372036854775808 by omega)]
   refine ⟨(fun h=>by cases h),by omega,(f - 1,i+1,pmod (q * 2 ^ 8+b.toNat) m),⟨⟨⟨by simp only; omega,by simp only; omega⟩,h5⟩,by simp only; omega⟩,Ent.of ?_⟩
   simp only [zq,↓reduceIte,zx,zj,zy,zk,zw,zb,reduceCtorEq,zd,zf,zp,zm,zh,zu,zt,zn,zc,zl,za,ze,zo,zg,Int.natCast_add]
 · have hd:s.drop i=[]:=List.drop_eq_nil_of_le (by omega)
   rw [hd] at h5
   simp only [prf,List.foldl_nil] at h5
   rw [h5]

theorem plain (m:Nat) (s:List UInt8) (M:Mem) (h2:2≤m) (hm:m≤2147483647) (hs:s.length≤maxLen) :
  Meets qz 118 [.v (.int .i64 (m:Int)),.v (.string ⟨s.toArray⟩)] M fun r _ _=>r = .v (.int .i64 ((prf m s 1:Nat):Int)):=by
 refine Meets.of_body [0,1,4,6] Proofs.Tryz.func118 rfl (by kernel_rfl) rfl fun w=>?_
 have h0:m≠0:=by omega
 have h1:pmod 1 m=1:=pmod_small (by
  have h3:sz 1=1:=rfl
  have h4:=lt_sz.2 (show 2 ^ 1≤m by omega)
  omega)
 simp only [Proofs.Tryz.f118,zz,zq,↓reduceIte,zx,zj,zy,zk,zw,zb,reduceCtorEq,zd,zf,zp,zm,zh,zu,zt,zn,zc,zl,za,ze,zo,zg]
 refine CallK.pure ⟨rfl,rfl⟩ rfl (over 1 m M (by omega) hm h0) ?_
 rw [h1]
 simp only [zz,zq,↓reduceIte,zx,zj,zy,zk,zw,zb,reduceCtorEq,zd,zf,zp,zm,zh,zu,zt,zn,zc,zl,za,ze,zo,zg,iw (show 1 < 9223372036854775808 by omega)]
 refine ⟨(fun h=>by cases h),CallK.pure ⟨rfl,rfl⟩ rfl (push 1 m s M h2 hm (by omega) hs) ?_⟩
 simp only [zz,zq,↓reduceIte,zx,zj,zy,zk,zw,zb,reduceCtorEq,zd,zf,zp,zm,zh,zu,zt,zn,zc,zl,za,ze,zo,zg]

end Go.X.Pt

