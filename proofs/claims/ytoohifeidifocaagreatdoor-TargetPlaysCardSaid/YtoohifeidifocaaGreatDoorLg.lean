/- Deeds: what log.Check, woolref.Deed, log.Encode, woolref.Body return. Conditions: none. -/
import Derived.Test.YtoohifeidifocaaGreatDoorMg10
import Derived.Test.YtoohifeidifocaaGreatDoorMg23
open Nat renaming reduceAdd→zx,reduceMul→zj,reduceDiv→zy,reduceEqDiff→zk,reduceLT→zw,reduceLeDiff→zb,reduceBEq→zg
open Int renaming reduceEq→zd,reduceNe→zf,reduceLT→zp,reduceLE→zm,reduceAdd→zh,reduceSub→zu,reduceMul→zt,reduceNeg→zn,reduceToNat→zc,cast_ofNat_Int→zl,natCast_zero→za,natCast_one→ze,toNat_natCast→zo
namespace Go.X.Pl
end Go.X.Pl
namespace Go.X.Nm
end Go.X.Nm
namespace Go.X.Tv
end Go.X.Tv
set_option linter.unusedSimpArgs false
set_option linter.unusedVariables false
set_option maxHeartbeats 4000000
set_option maxRecDepth 20000
namespace Go.X.Lg
open Go Go.X Go.RowKit Go.X.Pl Go.X.Nm Go.X.Tv

/-- kind, name, to, at, text -/
abbrev Op:=Int×List UInt8×List UInt8×Int×List UInt8
def opV (o:Op):SV:=.agg [.v (.int .i64 o.1),.v (.string ⟨o.2.1.toArray⟩),.v (.string ⟨o.2.2.1.toArray⟩),.v (.int .i64 o.2.2.2.1),.v (.string ⟨o.2.2.2.2.toArray⟩)]
/-- the error of a deed -/
def opE (o:Op):Int:=
  if o.1 < 1∨5 < o.1 then 1 else if nmB o.2.1=false∨(o.1=5∧nmB o.2.2.1=false) then 3 else if o.2.2.2.1 < 0∨32 < o.2.2.2.1 then 1 else
  if 64 < o.2.2.2.2.length then 2 else if o.1≠5∧o.2.2.1≠[] then 3 else if o.1≠3∧o.2.2.2.2≠[] then 3 else if (o.1=2∨o.1=5)∧o.2.2.2.1≠0 then 3 else 0
theorem within (x a b:Int) (M:Mem):Meets Proofs.Tryz.prog 35 [.v (.int .i64 x),.v (.int .i64 a),.v (.int .i64 b)] M fun r _ _=>r = .v (.bool (decide (a≤x∧x≤b))):=by
  refine Meets.of_body [0,1,2,6] Proofs.Tryz.func35 rfl (by kernel_rfl) rfl fun w=>?_
  simp only [Proofs.Tryz.f35,zz,zq,↓reduceIte,zx,zj,zy,zk,zw,zb,reduceCtorEq,zd,zf,zp,zm,zh,zu,zt,zn,zc,zl,za,ze,zo,zg]
  by_cases h1:a≤x <;> by_cases h2:x≤b <;> simp [h1,h2]
theorem checkW (o:Op) (M:Mem) :
    Meets Proofs.Tryz.prog 63 [opV o] M fun r _ _=>r = .v (.int .i64 (opE o)):=by
  refine Meets.of_body [0,1,2,10,25,33,37,70] Proofs.Tryz.func63 rfl (by kernel_rfl) rfl fun w=>?_
  generalize hc:opE o=c
  obtain ⟨k,n,t,a,x⟩:=o
  unfold opE at hc
  simp only at hc
  by_cases hk:k < 1
  · have c1:=eq_true hk
    rw [if_pos (.inl hk)] at hc
    subst hc
    simp only [Proofs.Tryz.f63,opV,zz,zq,↓reduceIte,zx,zj,zy,zk,zw,zb,reduceCtorEq,zd,zf,zp,zm,zh,zu,zt,zn,zc,zl,za,ze,zo,zg,nzs,c1]
  have c1:=eq_false hk
  by_cases hk2:5 < k
  · have c2:=eq_true hk2
    rw [if_pos (.inr hk2)] at hc
    subst hc
    simp only [Proofs.Tryz.f63,opV,zz,zq,↓reduceIte,zx,zj,zy,zk,zw,zb,reduceCtorEq,zd,zf,zp,zm,zh,zu,zt,zn,zc,zl,za,ze,zo,zg,nzs,c1,c2]
  have c2:=eq_false hk2
  rw [if_neg (by omega)] at hc
  simp only [Proofs.Tryz.f63,opV,zz,zq,↓reduceIte,zx,zj,zy,zk,zw,zb,reduceCtorEq,zd,zf,zp,zm,zh,zu,zt,zn,zc,zl,za,ze,zo,zg,nzs,c1,c2]
  refine CallK.pure ⟨rfl,rfl⟩ rfl (nameW n M) ?_
  cases hN:nmB n with
  | false=>
    rw [hN,if_pos (by simp)] at hc
    subst hc
    simp only [zz,zq,↓reduceIte,zx,zj,zy,zk,zw,zb,reduceCtorEq,zd,zf,zp,zm,zh,zu,zt,zn,zc,zl,za,ze,zo,zg,nzs]
  | true=>
  rw [hN] at hc
  have hk':k=1∨k=2∨k=3∨k=4∨k=5:=by omega
  rcases hk' with rfl | rfl | rfl | rfl | rfl
  · simp only [zz,zq,↓reduceIte,zx,zj,zy,zk,zw,zb,reduceCtorEq,zd,zf,zp,zm,zh,zu,zt,zn,zc,zl,za,ze,zo,zg,nzs]
    rw [if_neg (by simp)] at hc
    by_cases ha:a < 0
    · have d1:=eq_true ha
      rw [if_pos (.inl ha)] at hc
      subst hc
      simp only [zz,zq,↓reduceIte,zx,zj,zy,zk,zw,zb,reduceCtorEq,zd,zf,zp,zm,zh,zu,zt,zn,zc,zl,za,ze,zo,zg,nzs,d1]
      intro hh
      omega
    have d1:=eq_false ha
    by_cases hb:32 < a
    · have d2:=eq_true hb
      rw [if_pos (.inr hb)] at hc
      subst hc
      simp only [zz,zq,↓reduceIte,zx,zj,zy,zk,zw,zb,reduceCtorEq,zd,zf,zp,zm,zh,zu,zt,zn,zc,zl,za,ze,zo,zg,nzs,d1,d2]
      intro hh
      omega
    have d2:=eq_false hb
    rw [if_neg (by omega)] at hc
    by_cases hx:64 < x.length
    · have d3:((64:Int) < (x.length:Int))=True:=eq_true (by omega)
      rw [if_pos hx] at hc
      subst hc
      simp only [zz,zq,↓reduceIte,zx,zj,zy,zk,zw,zb,reduceCtorEq,zd,zf,zp,zm,zh,zu,zt,zn,zc,zl,za,ze,zo,zg,nzs,d1,d2,d3]
      intro hh hh2
      omega
    have d3:((64:Int) < (x.length:Int))=False:=eq_false (by omega)
    rw [if_neg hx] at hc
    by_cases ht0:t=[]
    rotate_left
    · have d4:=eq_false ht0
      rw [if_pos ⟨by decide,ht0⟩] at hc
      subst hc
      simp only [zz,zq,↓reduceIte,zx,zj,zy,zk,zw,zb,reduceCtorEq,zd,zf,zp,zm,zh,zu,zt,zn,zc,zl,za,ze,zo,zg,nzs,d1,d2,d3,d4]
    have d4:=eq_true ht0
    rw [if_neg (fun h=>h.2 ht0)] at hc
    by_cases hx0:x=[]
    rotate_left
    · have d5:=eq_false hx0
      rw [if_pos ⟨by decide,hx0⟩] at hc
      subst hc
      simp only [zz,zq,↓reduceIte,zx,zj,zy,zk,zw,zb,reduceCtorEq,zd,zf,zp,zm,zh,zu,zt,zn,zc,zl,za,ze,zo,zg,nzs,d1,d2,d3,d4,d5]
    have d5:=eq_true hx0
    rw [if_neg (fun h=>h.2 hx0)] at hc
    rw [if_neg (fun h=>absurd h.1 (by decide))] at hc
    subst hc
    simp only [zz,zq,↓reduceIte,zx,zj,zy,zk,zw,zb,reduceCtorEq,zd,zf,zp,zm,zh,zu,zt,zn,zc,zl,za,ze,zo,zg,nzs,d1,d2,d3,d4,d5]
  · simp only [zz,zq,↓reduceIte,zx,zj,zy,zk,zw,zb,reduceCtorEq,zd,zf,zp,zm,zh,zu,zt,zn,zc,zl,za,ze,zo,zg,nzs]
    rw [if_neg (by simp)] at hc
    by_cases ha:a < 0
    · have d1:=eq_true ha
      rw [if_pos (.inl ha)] at hc
      subst hc
      simp only [zz,zq,↓reduceIte,zx,zj,zy,zk,zw,zb,reduceCtorEq,zd,zf,zp,zm,zh,zu,zt,zn,zc,zl,za,ze,zo,zg,nzs,d1]
      intro hh
      omega
    have d1:=eq_false ha
    by_cases hb:32 < a
    · have d2:=eq_true hb
      rw [if_pos (.inr hb)] at hc
      subst hc
      simp only [zz,zq,↓reduceIte,zx,zj,zy,zk,zw,zb,reduceCtorEq,zd,zf,zp,zm,zh,zu,zt,zn,zc,zl,za,ze,zo,zg,nzs,d1,d2]
      intro hh
      omega
    have d2:=eq_false hb
    rw [if_neg (by omega)] at hc
    by_cases hx:64 < x.length
    · have d3:((64:Int) < (x.length:Int))=True:=eq_true (by omega)
      rw [if_pos hx] at hc
      subst hc
      simp only [zz,zq,↓reduceIte,zx,zj,zy,zk,zw,zb,reduceCtorEq,zd,zf,zp,zm,zh,zu,zt,zn,zc,zl,za,ze,zo,zg,nzs,d1,d2,d3]
      intro hh hh2
      omega
    have d3:((64:Int) < (x.length:Int))=False:=eq_false (by omega)
    rw [if_neg hx] at hc
    by_cases ht0:t=[]
    rotate_left
    · have d4:=eq_false ht0
      rw [if_pos ⟨by decide,ht0⟩] at hc
      subst hc
      simp only [zz,zq,↓reduceIte,zx,zj,zy,zk,zw,zb,reduceCtorEq,zd,zf,zp,zm,zh,zu,zt,zn,zc,zl,za,ze,zo,zg,nzs,d1,d2,d3,d4]
    have d4:=eq_true ht0
    rw [if_neg (fun h=>h.2 ht0)] at hc
    by_cases hx0:x=[]
    rotate_left
    · have d5:=eq_false hx0
      rw [if_pos ⟨by decide,hx0⟩] at hc
      subst hc
      simp only [zz,zq,↓reduceIte,zx,zj,zy,zk,zw,zb,reduceCtorEq,zd,zf,zp,zm,zh,zu,zt,zn,zc,zl,za,ze,zo,zg,nzs,d1,d2,d3,d4,d5]
    have d5:=eq_true hx0
    rw [if_neg (fun h=>h.2 hx0)] at hc
    by_cases ha0:a=0
    rotate_left
    · have d6:=eq_false ha0
      rw [if_pos ⟨by decide,ha0⟩] at hc
      subst hc
      simp only [zz,zq,↓reduceIte,zx,zj,zy,zk,zw,zb,reduceCtorEq,zd,zf,zp,zm,zh,zu,zt,zn,zc,zl,za,ze,zo,zg,nzs,d1,d2,d3,d4,d5,d6]
    have d6:=eq_true ha0
    rw [if_neg (fun h=>h.2 ha0)] at hc
    subst hc
    simp only [zz,zq,↓reduceIte,zx,zj,zy,zk,zw,zb,reduceCtorEq,zd,zf,zp,zm,zh,zu,zt,zn,zc,zl,za,ze,zo,zg,nzs,d1,d2,d3,d4,d5,d6]
  · simp only [zz,zq,↓reduceIte,zx,zj,zy,zk,zw,zb,reduceCtorEq,zd,zf,zp,zm,zh,zu,zt,zn,zc,zl,za,ze,zo,zg,nzs]
    rw [if_neg (by simp)] at hc
    by_cases ha:a < 0
    · have d1:=eq_true ha
      rw [if_pos (.inl ha)] at hc
      subst hc
      simp only [zz,zq,↓reduceIte,zx,zj,zy,zk,zw,zb,reduceCtorEq,zd,zf,zp,zm,zh,zu,zt,zn,zc,zl,za,ze,zo,zg,nzs,d1]
      intro hh
      omega
    have d1:=eq_false ha
    by_cases hb:32 < a
    · have d2:=eq_true hb
      rw [if_pos (.inr hb)] at hc
      subst hc
      simp only [zz,zq,↓reduceIte,zx,zj,zy,zk,zw,zb,reduceCtorEq,zd,zf,zp,zm,zh,zu,zt,zn,zc,zl,za,ze,zo,zg,nzs,d1,d2]
      intro hh
      omega
    have d2:=eq_false hb
    rw [if_neg (by omega)] at hc
    by_cases hx:64 < x.length
    · have d3:((64:Int) < (x.length:Int))=True:=eq_true (by omega)
      rw [if_pos hx] at hc
      subst hc
      simp only [zz,zq,↓reduceIte,zx,zj,zy,zk,zw,zb,reduceCtorEq,zd,zf,zp,zm,zh,zu,zt,zn,zc,zl,za,ze,zo,zg,nzs,d1,d2,d3]
      intro hh hh2
      omega
    have d3:((64:Int) < (x.length:Int))=False:=eq_false (by omega)
    rw [if_neg hx] at hc
    by_cases ht0:t=[]
    rotate_left
    · have d4:=eq_false ht0
      rw [if_pos ⟨by decide,ht0⟩] at hc
      subst hc
      simp only [zz,zq,↓reduceIte,zx,zj,zy,zk,zw,zb,reduceCtorEq,zd,zf,zp,zm,zh,zu,zt,zn,zc,zl,za,ze,zo,zg,nzs,d1,d2,d3,d4]
    have d4:=eq_true ht0
    rw [if_neg (fun h=>h.2 ht0)] at hc
    rw [if_neg (fun h=>h.1 rfl)] at hc
    rw [if_neg (fun h=>absurd h.1 (by decide))] at hc
    subst hc
    simp only [zz,zq,↓reduceIte,zx,zj,zy,zk,zw,zb,reduceCtorEq,zd,zf,zp,zm,zh,zu,zt,zn,zc,zl,za,ze,zo,zg,nzs,d1,d2,d3,d4]
  · simp only [zz,zq,↓reduceIte,zx,zj,zy,zk,zw,zb,reduceCtorEq,zd,zf,zp,zm,zh,zu,zt,zn,zc,zl,za,ze,zo,zg,nzs]
    rw [if_neg (by simp)] at hc
    by_cases ha:a < 0
    · have d1:=eq_true ha
      rw [if_pos (.inl ha)] at hc
      subst hc
      simp only [zz,zq,↓reduceIte,zx,zj,zy,zk,zw,zb,reduceCtorEq,zd,zf,zp,zm,zh,zu,zt,zn,zc,zl,za,ze,zo,zg,nzs,d1]
      intro hh
      omega
    have d1:=eq_false ha
    by_cases hb:32 < a
    · have d2:=eq_true hb
      rw [if_pos (.inr hb)] at hc
      subst hc
      simp only [zz,zq,↓reduceIte,zx,zj,zy,zk,zw,zb,reduceCtorEq,zd,zf,zp,zm,zh,zu,zt,zn,zc,zl,za,ze,zo,zg,nzs,d1,d2]
      intro hh
      omega
    have d2:=eq_false hb
    rw [if_neg (by omega)] at hc
    by_cases hx:64 < x.length
    · have d3:((64:Int) < (x.length:Int))=True:=eq_true (by omega)
      rw [if_pos hx] at hc
      subst hc
      simp only [zz,zq,↓reduceIte,zx,zj,zy,zk,zw,zb,reduceCtorEq,zd,zf,zp,zm,zh,zu,zt,zn,zc,zl,za,ze,zo,zg,nzs,d1,d2,d3]
      intro hh hh2
      omega
    have d3:((64:Int) < (x.length:Int))=False:=eq_false (by omega)
    rw [if_neg hx] at hc
    by_cases ht0:t=[]
    rotate_left
    · have d4:=eq_false ht0
      rw [if_pos ⟨by decide,ht0⟩] at hc
      subst hc
      simp only [zz,zq,↓reduceIte,zx,zj,zy,zk,zw,zb,reduceCtorEq,zd,zf,zp,zm,zh,zu,zt,zn,zc,zl,za,ze,zo,zg,nzs,d1,d2,d3,d4]
    have d4:=eq_true ht0
    rw [if_neg (fun h=>h.2 ht0)] at hc
    by_cases hx0:x=[]
    rotate_left
    · have d5:=eq_false hx0
      rw [if_pos ⟨by decide,hx0⟩] at hc
      subst hc
      simp only [zz,zq,↓reduceIte,zx,zj,zy,zk,zw,zb,reduceCtorEq,zd,zf,zp,zm,zh,zu,zt,zn,zc,zl,za,ze,zo,zg,nzs,d1,d2,d3,d4,d5]
    have d5:=eq_true hx0
    rw [if_neg (fun h=>h.2 hx0)] at hc
    rw [if_neg (fun h=>absurd h.1 (by decide))] at hc
    subst hc
    simp only [zz,zq,↓reduceIte,zx,zj,zy,zk,zw,zb,reduceCtorEq,zd,zf,zp,zm,zh,zu,zt,zn,zc,zl,za,ze,zo,zg,nzs,d1,d2,d3,d4,d5]
  · simp only [zz,zq,↓reduceIte,zx,zj,zy,zk,zw,zb,reduceCtorEq,zd,zf,zp,zm,zh,zu,zt,zn,zc,zl,za,ze,zo,zg,nzs]
    refine CallK.pure ⟨rfl,rfl⟩ rfl (nameW t M) ?_
    cases hT:nmB t with
    | false=>
      rw [hT,if_pos (by simp)] at hc
      subst hc
      simp only [zz,zq,↓reduceIte,zx,zj,zy,zk,zw,zb,reduceCtorEq,zd,zf,zp,zm,zh,zu,zt,zn,zc,zl,za,ze,zo,zg,nzs]
    | true=>
    rw [hT,if_neg (by simp)] at hc
    simp only [zz,zq,↓reduceIte,zx,zj,zy,zk,zw,zb,reduceCtorEq,zd,zf,zp,zm,zh,zu,zt,zn,zc,zl,za,ze,zo,zg,nzs]
    by_cases ha:a < 0
    · have d1:=eq_true ha
      rw [if_pos (.inl ha)] at hc
      subst hc
      simp only [zz,zq,↓reduceIte,zx,zj,zy,zk,zw,zb,reduceCtorEq,zd,zf,zp,zm,zh,zu,zt,zn,zc,zl,za,ze,zo,zg,nzs,d1]
      intro hh
      omega
    have d1:=eq_false ha
    by_cases hb:32 < a
    · have d2:=eq_true hb
      rw [if_pos (.inr hb)] at hc
      subst hc
      simp only [zz,zq,↓reduceIte,zx,zj,zy,zk,zw,zb,reduceCtorEq,zd,zf,zp,zm,zh,zu,zt,zn,zc,zl,za,ze,zo,zg,nzs,d1,d2]
      intro hh
      omega
    have d2:=eq_false hb
    rw [if_neg (by omega)] at hc
    by_cases hx:64 < x.length
    · have d3:((64:Int) < (x.length:Int))=True:=eq_true (by omega)
      rw [if_pos hx] at hc
      subst hc
      simp only [zz,zq,↓reduceIte,zx,zj,zy,zk,zw,zb,reduceCtorEq,zd,zf,zp,zm,zh,zu,zt,zn,zc,zl,za,ze,zo,zg,nzs,d1,d2,d3]
      intro hh hh2
      omega
    have d3:((64:Int) < (x.length:Int))=False:=eq_false (by omega)
    rw [if_neg hx] at hc
    rw [if_neg (fun h=>h.1 rfl)] at hc
    by_cases hx0:x=[]
    rotate_left
    · have d5:=eq_false hx0
      rw [if_pos ⟨by decide,hx0⟩] at hc
      subst hc
      simp only [zz,zq,↓reduceIte,zx,zj,zy,zk,zw,zb,reduceCtorEq,zd,zf,zp,zm,zh,zu,zt,zn,zc,zl,za,ze,zo,zg,nzs,d1,d2,d3,d5]
    have d5:=eq_true hx0
    rw [if_neg (fun h=>h.2 hx0)] at hc
    by_cases ha0:a=0
    rotate_left
    · have d6:=eq_false ha0
      rw [if_pos ⟨by decide,ha0⟩] at hc
      subst hc
      simp only [zz,zq,↓reduceIte,zx,zj,zy,zk,zw,zb,reduceCtorEq,zd,zf,zp,zm,zh,zu,zt,zn,zc,zl,za,ze,zo,zg,nzs,d1,d2,d3,d5,d6]
    have d6:=eq_true ha0
    rw [if_neg (fun h=>h.2 ha0)] at hc
    subst hc
    simp only [zz,zq,↓reduceIte,zx,zj,zy,zk,zw,zb,reduceCtorEq,zd,zf,zp,zm,zh,zu,zt,zn,zc,zl,za,ze,zo,zg,nzs,d1,d2,d3,d5,d6]
theorem deedW (o:Op) (M:Mem) :
    Meets Proofs.Tryz.prog 28 [opV o] M fun r _ _=>r = .v (.int .i64 (opE o)):=by
  refine Meets.of_body [0,1,2,3,8,22,27,32] Proofs.Tryz.func28 rfl (by kernel_rfl) rfl fun w=>?_
  generalize hc:opE o=c
  obtain ⟨k,n,t,a,x⟩:=o
  unfold opE at hc
  simp only at hc
  by_cases hk:1≤k∧k≤5
  rotate_left
  · have c1:=eq_false hk
    rw [if_pos (by omega)] at hc
    subst hc
    simp only [Proofs.Tryz.f28,opV,zz,zq,↓reduceIte,zx,zj,zy,zk,zw,zb,reduceCtorEq,zd,zf,zp,zm,zh,zu,zt,zn,zc,zl,za,ze,zo,zg,nzs]
    refine CallK.pure ⟨rfl,rfl⟩ rfl (within k 1 5 M) ?_
    simp only [zz,zq,↓reduceIte,zx,zj,zy,zk,zw,zb,reduceCtorEq,zd,zf,zp,zm,zh,zu,zt,zn,zc,zl,za,ze,zo,zg,nzs,c1]
  have c1:=eq_true hk
  rw [if_neg (by omega)] at hc
  simp only [Proofs.Tryz.f28,opV,zz,zq,↓reduceIte,zx,zj,zy,zk,zw,zb,reduceCtorEq,zd,zf,zp,zm,zh,zu,zt,zn,zc,zl,za,ze,zo,zg,nzs]
  refine CallK.pure ⟨rfl,rfl⟩ rfl (within k 1 5 M) ?_
  simp only [zz,zq,↓reduceIte,zx,zj,zy,zk,zw,zb,reduceCtorEq,zd,zf,zp,zm,zh,zu,zt,zn,zc,zl,za,ze,zo,zg,nzs,c1]
  refine CallK.pure ⟨rfl,rfl⟩ rfl (rnameW n M) ?_
  cases hN:nmB n with
  | false=>
    rw [hN,if_pos (by simp)] at hc
    subst hc
    simp only [zz,zq,↓reduceIte,zx,zj,zy,zk,zw,zb,reduceCtorEq,zd,zf,zp,zm,zh,zu,zt,zn,zc,zl,za,ze,zo,zg,nzs]
  | true=>
  rw [hN] at hc
  have hk':k=1∨k=2∨k=3∨k=4∨k=5:=by omega
  rcases hk' with rfl | rfl | rfl | rfl | rfl
  · simp only [zz,zq,↓reduceIte,zx,zj,zy,zk,zw,zb,reduceCtorEq,zd,zf,zp,zm,zh,zu,zt,zn,zc,zl,za,ze,zo,zg,nzs]
    rw [if_neg (by simp)] at hc
    refine CallK.pure ⟨rfl,rfl⟩ rfl (within a 0 32 M) ?_
    by_cases ha:0≤a∧a≤32
    rotate_left
    · have d1:=eq_false ha
      rw [if_pos (by omega)] at hc
      subst hc
      simp only [zz,zq,↓reduceIte,zx,zj,zy,zk,zw,zb,reduceCtorEq,zd,zf,zp,zm,zh,zu,zt,zn,zc,zl,za,ze,zo,zg,nzs,d1]
    have d1:=eq_true ha
    rw [if_neg (by omega)] at hc
    by_cases hx:64 < x.length
    · have d3:((64:Int) < (x.length:Int))=True:=eq_true (by omega)
      rw [if_pos hx] at hc
      subst hc
      simp only [zz,zq,↓reduceIte,zx,zj,zy,zk,zw,zb,reduceCtorEq,zd,zf,zp,zm,zh,zu,zt,zn,zc,zl,za,ze,zo,zg,nzs,d1,d3]
    have d3:((64:Int) < (x.length:Int))=False:=eq_false (by omega)
    rw [if_neg hx] at hc
    by_cases ht0:t=[]
    rotate_left
    · have d4:=eq_false ht0
      rw [if_pos ⟨by decide,ht0⟩] at hc
      subst hc
      simp only [zz,zq,↓reduceIte,zx,zj,zy,zk,zw,zb,reduceCtorEq,zd,zf,zp,zm,zh,zu,zt,zn,zc,zl,za,ze,zo,zg,nzs,d1,d3,d4]
    have d4:=eq_true ht0
    rw [if_neg (fun h=>h.2 ht0)] at hc
    by_cases hx0:x=[]
    rotate_left
    · have d5:=eq_false hx0
      rw [if_pos ⟨by decide,hx0⟩] at hc
      subst hc
      simp only [zz,zq,↓reduceIte,zx,zj,zy,zk,zw,zb,reduceCtorEq,zd,zf,zp,zm,zh,zu,zt,zn,zc,zl,za,ze,zo,zg,nzs,d1,d3,d4,d5]
    have d5:=eq_true hx0
    rw [if_neg (fun h=>h.2 hx0)] at hc
    rw [if_neg (fun h=>absurd h.1 (by decide))] at hc
    subst hc
    by_cases ha0:a=0
    · have d6:=eq_true ha0
      simp only [zz,zq,↓reduceIte,zx,zj,zy,zk,zw,zb,reduceCtorEq,zd,zf,zp,zm,zh,zu,zt,zn,zc,zl,za,ze,zo,zg,nzs,d1,d3,d4,d5,d6]
    · have d6:=eq_false ha0
      simp only [zz,zq,↓reduceIte,zx,zj,zy,zk,zw,zb,reduceCtorEq,zd,zf,zp,zm,zh,zu,zt,zn,zc,zl,za,ze,zo,zg,nzs,d1,d3,d4,d5,d6]
  · simp only [zz,zq,↓reduceIte,zx,zj,zy,zk,zw,zb,reduceCtorEq,zd,zf,zp,zm,zh,zu,zt,zn,zc,zl,za,ze,zo,zg,nzs]
    rw [if_neg (by simp)] at hc
    refine CallK.pure ⟨rfl,rfl⟩ rfl (within a 0 32 M) ?_
    by_cases ha:0≤a∧a≤32
    rotate_left
    · have d1:=eq_false ha
      rw [if_pos (by omega)] at hc
      subst hc
      simp only [zz,zq,↓reduceIte,zx,zj,zy,zk,zw,zb,reduceCtorEq,zd,zf,zp,zm,zh,zu,zt,zn,zc,zl,za,ze,zo,zg,nzs,d1]
    have d1:=eq_true ha
    rw [if_neg (by omega)] at hc
    by_cases hx:64 < x.length
    · have d3:((64:Int) < (x.length:Int))=True:=eq_true (by omega)
      rw [if_pos hx] at hc
      subst hc
      simp only [zz,zq,↓reduceIte,zx,zj,zy,zk,zw,zb,reduceCtorEq,zd,zf,zp,zm,zh,zu,zt,zn,zc,zl,za,ze,zo,zg,nzs,d1,d3]
    have d3:((64:Int) < (x.length:Int))=False:=eq_false (by omega)
    rw [if_neg hx] at hc
    by_cases ht0:t=[]
    rotate_left
    · have d4:=eq_false ht0
      rw [if_pos ⟨by decide,ht0⟩] at hc
      subst hc
      simp only [zz,zq,↓reduceIte,zx,zj,zy,zk,zw,zb,reduceCtorEq,zd,zf,zp,zm,zh,zu,zt,zn,zc,zl,za,ze,zo,zg,nzs,d1,d3,d4]
    have d4:=eq_true ht0
    rw [if_neg (fun h=>h.2 ht0)] at hc
    by_cases hx0:x=[]
    rotate_left
    · have d5:=eq_false hx0
      rw [if_pos ⟨by decide,hx0⟩] at hc
      subst hc
      simp only [zz,zq,↓reduceIte,zx,zj,zy,zk,zw,zb,reduceCtorEq,zd,zf,zp,zm,zh,zu,zt,zn,zc,zl,za,ze,zo,zg,nzs,d1,d3,d4,d5]
    have d5:=eq_true hx0
    rw [if_neg (fun h=>h.2 hx0)] at hc
    by_cases ha0:a=0
    rotate_left
    · have d6:=eq_false ha0
      rw [if_pos ⟨by decide,ha0⟩] at hc
      subst hc
      simp only [zz,zq,↓reduceIte,zx,zj,zy,zk,zw,zb,reduceCtorEq,zd,zf,zp,zm,zh,zu,zt,zn,zc,zl,za,ze,zo,zg,nzs,d1,d3,d4,d5,d6]
    have d6:=eq_true ha0
    rw [if_neg (fun h=>h.2 ha0)] at hc
    subst hc
    simp only [zz,zq,↓reduceIte,zx,zj,zy,zk,zw,zb,reduceCtorEq,zd,zf,zp,zm,zh,zu,zt,zn,zc,zl,za,ze,zo,zg,nzs,d1,d3,d4,d5,d6]
  · simp only [zz,zq,↓reduceIte,zx,zj,zy,zk,zw,zb,reduceCtorEq,zd,zf,zp,zm,zh,zu,zt,zn,zc,zl,za,ze,zo,zg,nzs]
    rw [if_neg (by simp)] at hc
    refine CallK.pure ⟨rfl,rfl⟩ rfl (within a 0 32 M) ?_
    by_cases ha:0≤a∧a≤32
    rotate_left
    · have d1:=eq_false ha
      rw [if_pos (by omega)] at hc
      subst hc
      simp only [zz,zq,↓reduceIte,zx,zj,zy,zk,zw,zb,reduceCtorEq,zd,zf,zp,zm,zh,zu,zt,zn,zc,zl,za,ze,zo,zg,nzs,d1]
    have d1:=eq_true ha
    rw [if_neg (by omega)] at hc
    by_cases hx:64 < x.length
    · have d3:((64:Int) < (x.length:Int))=True:=eq_true (by omega)
      rw [if_pos hx] at hc
      subst hc
      simp only [zz,zq,↓reduceIte,zx,zj,zy,zk,zw,zb,reduceCtorEq,zd,zf,zp,zm,zh,zu,zt,zn,zc,zl,za,ze,zo,zg,nzs,d1,d3]
    have d3:((64:Int) < (x.length:Int))=False:=eq_false (by omega)
    rw [if_neg hx] at hc
    by_cases ht0:t=[]
    rotate_left
    · have d4:=eq_false ht0
      rw [if_pos ⟨by decide,ht0⟩] at hc
      subst hc
      simp only [zz,zq,↓reduceIte,zx,zj,zy,zk,zw,zb,reduceCtorEq,zd,zf,zp,zm,zh,zu,zt,zn,zc,zl,za,ze,zo,zg,nzs,d1,d3,d4]
    have d4:=eq_true ht0
    rw [if_neg (fun h=>h.2 ht0)] at hc
    rw [if_neg (fun h=>h.1 rfl)] at hc
    have d5' : ∀ p:Prop,(x=[]∨p)=(x=[]∨p):=fun _=>rfl
    rw [if_neg (fun h=>absurd h.1 (by decide))] at hc
    subst hc
    by_cases ha0:a=0
    · have d6:=eq_true ha0
      by_cases hx0:x=[]
      · have d5:=eq_true hx0
        simp only [zz,zq,↓reduceIte,zx,zj,zy,zk,zw,zb,reduceCtorEq,zd,zf,zp,zm,zh,zu,zt,zn,zc,zl,za,ze,zo,zg,nzs,d1,d3,d4,d5,d6]
      · have d5:=eq_false hx0
        simp only [zz,zq,↓reduceIte,zx,zj,zy,zk,zw,zb,reduceCtorEq,zd,zf,zp,zm,zh,zu,zt,zn,zc,zl,za,ze,zo,zg,nzs,d1,d3,d4,d5,d6]
    · have d6:=eq_false ha0
      by_cases hx0:x=[]
      · have d5:=eq_true hx0
        simp only [zz,zq,↓reduceIte,zx,zj,zy,zk,zw,zb,reduceCtorEq,zd,zf,zp,zm,zh,zu,zt,zn,zc,zl,za,ze,zo,zg,nzs,d1,d3,d4,d5,d6]
      · have d5:=eq_false hx0
        simp only [zz,zq,↓reduceIte,zx,zj,zy,zk,zw,zb,reduceCtorEq,zd,zf,zp,zm,zh,zu,zt,zn,zc,zl,za,ze,zo,zg,nzs,d1,d3,d4,d5,d6]
  · simp only [zz,zq,↓reduceIte,zx,zj,zy,zk,zw,zb,reduceCtorEq,zd,zf,zp,zm,zh,zu,zt,zn,zc,zl,za,ze,zo,zg,nzs]
    rw [if_neg (by simp)] at hc
    refine CallK.pure ⟨rfl,rfl⟩ rfl (within a 0 32 M) ?_
    by_cases ha:0≤a∧a≤32
    rotate_left
    · have d1:=eq_false ha
      rw [if_pos (by omega)] at hc
      subst hc
      simp only [zz,zq,↓reduceIte,zx,zj,zy,zk,zw,zb,reduceCtorEq,zd,zf,zp,zm,zh,zu,zt,zn,zc,zl,za,ze,zo,zg,nzs,d1]
    have d1:=eq_true ha
    rw [if_neg (by omega)] at hc
    by_cases hx:64 < x.length
    · have d3:((64:Int) < (x.length:Int))=True:=eq_true (by omega)
      rw [if_pos hx] at hc
      subst hc
      simp only [zz,zq,↓reduceIte,zx,zj,zy,zk,zw,zb,reduceCtorEq,zd,zf,zp,zm,zh,zu,zt,zn,zc,zl,za,ze,zo,zg,nzs,d1,d3]
    have d3:((64:Int) < (x.length:Int))=False:=eq_false (by omega)
    rw [if_neg hx] at hc
    by_cases ht0:t=[]
    rotate_left
    · have d4:=eq_false ht0
      rw [if_pos ⟨by decide,ht0⟩] at hc
      subst hc
      simp only [zz,zq,↓reduceIte,zx,zj,zy,zk,zw,zb,reduceCtorEq,zd,zf,zp,zm,zh,zu,zt,zn,zc,zl,za,ze,zo,zg,nzs,d1,d3,d4]
    have d4:=eq_true ht0
    rw [if_neg (fun h=>h.2 ht0)] at hc
    by_cases hx0:x=[]
    rotate_left
    · have d5:=eq_false hx0
      rw [if_pos ⟨by decide,hx0⟩] at hc
      subst hc
      simp only [zz,zq,↓reduceIte,zx,zj,zy,zk,zw,zb,reduceCtorEq,zd,zf,zp,zm,zh,zu,zt,zn,zc,zl,za,ze,zo,zg,nzs,d1,d3,d4,d5]
    have d5:=eq_true hx0
    rw [if_neg (fun h=>h.2 hx0)] at hc
    rw [if_neg (fun h=>absurd h.1 (by decide))] at hc
    subst hc
    by_cases ha0:a=0
    · have d6:=eq_true ha0
      simp only [zz,zq,↓reduceIte,zx,zj,zy,zk,zw,zb,reduceCtorEq,zd,zf,zp,zm,zh,zu,zt,zn,zc,zl,za,ze,zo,zg,nzs,d1,d3,d4,d5,d6]
    · have d6:=eq_false ha0
      simp only [zz,zq,↓reduceIte,zx,zj,zy,zk,zw,zb,reduceCtorEq,zd,zf,zp,zm,zh,zu,zt,zn,zc,zl,za,ze,zo,zg,nzs,d1,d3,d4,d5,d6]
  · simp only [zz,zq,↓reduceIte,zx,zj,zy,zk,zw,zb,reduceCtorEq,zd,zf,zp,zm,zh,zu,zt,zn,zc,zl,za,ze,zo,zg,nzs]
    refine CallK.pure ⟨rfl,rfl⟩ rfl (rnameW t M) ?_
    cases hT:nmB t with
    | false=>
      rw [hT,if_pos (by simp)] at hc
      subst hc
      simp only [zz,zq,↓reduceIte,zx,zj,zy,zk,zw,zb,reduceCtorEq,zd,zf,zp,zm,zh,zu,zt,zn,zc,zl,za,ze,zo,zg,nzs]
    | true=>
    rw [hT,if_neg (by simp)] at hc
    simp only [zz,zq,↓reduceIte,zx,zj,zy,zk,zw,zb,reduceCtorEq,zd,zf,zp,zm,zh,zu,zt,zn,zc,zl,za,ze,zo,zg,nzs]
    refine CallK.pure ⟨rfl,rfl⟩ rfl (within a 0 32 M) ?_
    by_cases ha:0≤a∧a≤32
    rotate_left
    · have d1:=eq_false ha
      rw [if_pos (by omega)] at hc
      subst hc
      simp only [zz,zq,↓reduceIte,zx,zj,zy,zk,zw,zb,reduceCtorEq,zd,zf,zp,zm,zh,zu,zt,zn,zc,zl,za,ze,zo,zg,nzs,d1]
    have d1:=eq_true ha
    rw [if_neg (by omega)] at hc
    by_cases hx:64 < x.length
    · have d3:((64:Int) < (x.length:Int))=True:=eq_true (by omega)
      rw [if_pos hx] at hc
      subst hc
      simp only [zz,zq,↓reduceIte,zx,zj,zy,zk,zw,zb,reduceCtorEq,zd,zf,zp,zm,zh,zu,zt,zn,zc,zl,za,ze,zo,zg,nzs,d1,d3]
    have d3:((64:Int) < (x.length:Int))=False:=eq_false (by omega)
    rw [if_neg hx] at hc
    rw [if_neg (fun h=>h.1 rfl)] at hc
    have hn0:(t=[])=False:=eq_false (fun e=>by rw [e] at hT; cases hT)
    by_cases hx0:x=[]
    rotate_left
    · have d5:=eq_false hx0
      rw [if_pos ⟨by decide,hx0⟩] at hc
      subst hc
      simp only [zz,zq,↓reduceIte,zx,zj,zy,zk,zw,zb,reduceCtorEq,zd,zf,zp,zm,zh,zu,zt,zn,zc,zl,za,ze,zo,zg,nzs,d1,d3,hn0,d5]
    have d5:=eq_true hx0
    rw [if_neg (fun h=>h.2 hx0)] at hc
    by_cases ha0:a=0
    rotate_left
    · have d6:=eq_false ha0
      rw [if_pos ⟨by decide,ha0⟩] at hc
      subst hc
      simp only [zz,zq,↓reduceIte,zx,zj,zy,zk,zw,zb,reduceCtorEq,zd,zf,zp,zm,zh,zu,zt,zn,zc,zl,za,ze,zo,zg,nzs,d1,d3,hn0,d5,d6]
    have d6:=eq_true ha0
    rw [if_neg (fun h=>h.2 ha0)] at hc
    subst hc
    simp only [zz,zq,↓reduceIte,zx,zj,zy,zk,zw,zb,reduceCtorEq,zd,zf,zp,zm,zh,zu,zt,zn,zc,zl,za,ze,zo,zg,nzs,d1,d3,hn0,d5,d6]

end Go.X.Lg

