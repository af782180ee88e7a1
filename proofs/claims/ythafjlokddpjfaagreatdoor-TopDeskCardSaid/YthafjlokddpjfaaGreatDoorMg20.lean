/- Contracts of functions and the logic that they are proved in (6 texts in one). Conditions: none. -/
import Derived.Test.YthafjlokddpjfaaGreatDoorMg17
import Derived.Test.YthafjlokddpjfaaGreatDoorMg19
import Derived.Test.YthafjlokddpjfaaGreatDoorMg18
import Derived.Test.YthafjlokddpjfaaGreatDoorMg16
import Derived.Test.YthafjlokddpjfaaGreatDoorMg11
import Derived.Test.YthafjlokddpjfaaGreatDoorMg12
import Derived.Test.YthafjlokddpjfaaGreatDoorMg13
import Derived.Test.YthafjlokddpjfaaGreatDoorMg14
import Derived.Test.YthafjlokddpjfaaGreatDoorMg6
open Go.Proofs.Tryz renaming prog → qz
open Nat renaming reduceAdd→zx,reduceMul→zj,reduceDiv→zy,reduceEqDiff→zk,reduceLT→zw,reduceLeDiff→zb,reduceBEq→zg
open Int renaming reduceEq→zd,reduceNe→zf,reduceLT→zp,reduceLE→zm,reduceAdd→zh,reduceSub→zu,reduceMul→zt,reduceNeg→zn,reduceToNat→zc,cast_ofNat_Int→zl,natCast_zero→za,natCast_one→ze,toNat_natCast→zo
namespace Go.X.Bg
end Go.X.Bg
namespace Go.X.Nm
end Go.X.Nm
namespace Go.X.Bp
end Go.X.Bp
namespace Go.X.Sb
end Go.X.Sb
namespace Go.X.Pol
end Go.X.Pol
namespace Go.X.Pl
end Go.X.Pl
namespace Go.X.Rp
end Go.X.Rp
namespace Go.X.Pd
end Go.X.Pd
namespace Go.X.Md
end Go.X.Md
namespace Go.X.Mv
end Go.X.Mv
namespace Go.X.Pt
end Go.X.Pt
namespace Go.X.Tv
end Go.X.Tv
set_option linter.unusedSimpArgs false
set_option linter.unusedVariables false
set_option maxHeartbeats 4000000
set_option maxRecDepth 20000
namespace Go.X.Vo
open Go Go.X Go.RowKit Go.X.Bg Go.X.Nm Go.X.Bp Go.X.Sb

/-- a deed -/
abbrev OpT:=Int×List UInt8×List UInt8×Int×List UInt8
def opT (o:OpT):SV:=.agg [.v (.int .i64 o.1),.v (.string ⟨o.2.1.toArray⟩),.v (.string ⟨o.2.2.1.toArray⟩),.v (.int .i64 o.2.2.2.1),.v (.string ⟨o.2.2.2.2.toArray⟩)]
def doA (bag:List It) (l:List Vol) (o:OpT):St×Int:=
 if o.1=1 then makeA bag l o.2.1 o.2.2.2.1 else if o.1=2 then dropA bag l o.2.1 else if o.1=5 then cloneA bag l o.2.1 o.2.2.1 else if o.1=4 then trimA bag l o.2.1 o.2.2.2.1 else writeA bag l o.2.1 o.2.2.2.1 o.2.2.2.2
theorem doA_right (bag:List It) (l:List Vol) (o:OpT):stE (doA bag l o).1.1 (doA bag l o).1.2=0:=by
 unfold doA
 split
 · exact makeA_right _ _ _ _
 split
 · exact dropA_right _ _ _
 split
 · exact cloneA_right _ _ _ _
 split
 · exact trimA_right _ _ _ _
 · exact writeA_right _ _ _ _ _
end Go.X.Vo

namespace Go.X.Tv
open Go Go.X Go.X.Pol Go.X.Pl Go.X.Rp Go.X.Pd Go.X.Md Go.X.Mv Go.X.Pt

def be4 (p:Nat):List UInt8:=[UInt8.ofNat (p / 16777216),UInt8.ofNat (p / 65536),UInt8.ofNat (p / 256),UInt8.ofNat p]
theorem ofNat_mod (x:Nat):UInt8.ofNat (x % 256)=UInt8.ofNat x:=by
 apply UInt8.toNat_inj.1
 simp
theorem byteW (x:Nat):UInt8.ofNat (IntKind.u8.wrap (x:Int)).toNat=UInt8.ofNat x:=by
 have h:(IntKind.u8.wrap (x:Int)).toNat=x % 256:=by
  rw [IntKind.wrap_u8]
  omega
 rw [h,ofNat_mod]
theorem prf_le (m:Nat) (h0:m≠0) (hm:m≤2147483647) : ∀ (s:List UInt8) (p:Nat),p≤1073741824→prf m s p≤1073741824
 | [],p,h=>h
 | b :: s,p,h=>by
   simp only [prf,List.foldl_cons]
   exact prf_le m h0 hm s _ (red_le h0 hm)
/-! ### verifying -/
def good (s:Int):Prop:=0≤s∧s≤2147483647
instance (s:Int):Decidable (good s):=inferInstanceAs (Decidable (_∧_))
/-! ### the document's sides -/
end Go.X.Tv

namespace Go.X.Lg
open Go Go.X Go.RowKit Go.X.Pl Go.X.Nm Go.X.Tv

/-- kind, name, to, at, text -/
abbrev Op:=Int×List UInt8×List UInt8×Int×List UInt8
def opV (o:Op):SV:=.agg [.v (.int .i64 o.1),.v (.string ⟨o.2.1.toArray⟩),.v (.string ⟨o.2.2.1.toArray⟩),.v (.int .i64 o.2.2.2.1),.v (.string ⟨o.2.2.2.2.toArray⟩)]
/-- the error of a deed -/
def opE (o:Op):Int:=
 if o.1 < 1∨5 < o.1 then 1 else if nmB o.2.1=false∨(o.1=5∧nmB o.2.2.1=false) then 3 else if o.2.2.2.1 < 0∨32 < o.2.2.2.1 then 1 else
 if 64 < o.2.2.2.2.length then 2 else if o.1≠5∧o.2.2.1≠[] then 3 else if o.1≠3∧o.2.2.2.2≠[] then 3 else if (o.1=2∨o.1=5)∧o.2.2.2.1≠0 then 3 else 0
theorem checkW (o:Op) (M:Mem) :
  Meets qz 222 [opV o] M fun r _ _=>r = .v (.int .i64 (opE o)):=by
 refine Meets.of_body [0,1,2,10,25,33,37,70] Proofs.Tryz.func222 rfl (by kernel_rfl) rfl fun w=>?_
 generalize hc:opE o=c
 obtain ⟨k,n,t,a,x⟩:=o
 unfold opE at hc
 simp only at hc
 by_cases hk:k < 1
 · have c1:=eq_true hk
   rw [if_pos (.inl hk)] at hc
   subst hc
   simp only [Proofs.Tryz.f222,opV,zz,zq,seval,zl,za,ze,zo,nzs,c1]
 have c1:=eq_false hk
 by_cases hk2:5 < k
 · have c2:=eq_true hk2
   rw [if_pos (.inr hk2)] at hc
   subst hc
   simp only [Proofs.Tryz.f222,opV,zz,zq,seval,zl,za,ze,zo,nzs,c1,c2]
 have c2:=eq_false hk2
 rw [if_neg (by omega)] at hc
 simp only [Proofs.Tryz.f222,opV,zz,zq,seval,zl,za,ze,zo,nzs,c1,c2]
 refine CallK.pure ⟨rfl,rfl⟩ rfl (nameW n M) ?_
 cases hN:nmB n with
 | false=>
   rw [hN,if_pos (by simp)] at hc
   subst hc
   simp only [zz,zq,seval,zl,za,ze,zo,nzs]
 | true=>
 rw [hN] at hc
 have hk':k=1∨k=2∨k=3∨k=4∨k=5:=by omega
 rcases hk' with rfl | rfl | rfl | rfl | rfl
 · simp only [zz,zq,seval,zl,za,ze,zo,nzs]
   rw [if_neg (by simp)] at hc
   by_cases ha:a < 0
   · have d1:=eq_true ha
     rw [if_pos (.inl ha)] at hc
     subst hc
     simp only [zz,zq,seval,zl,za,ze,zo,nzs,d1]
     intro hh
     omega
   have d1:=eq_false ha
   by_cases hb:32 < a
   · have d2:=eq_true hb
     rw [if_pos (.inr hb)] at hc
     subst hc
     simp only [zz,zq,seval,zl,za,ze,zo,nzs,d1,d2]
     intro hh
     omega
   have d2:=eq_false hb
   rw [if_neg (by omega)] at hc
   by_cases hx:64 < x.length
   · have d3:((64:Int) < (x.length:Int))=True:=eq_true (by omega)
     rw [if_pos hx] at hc
     subst hc
     simp only [zz,zq,seval,zl,za,ze,zo,nzs,d1,d2,d3]
     intro hh hh2
     omega
   have d3:((64:Int) < (x.length:Int))=False:=eq_false (by omega)
   rw [if_neg hx] at hc
   by_cases ht0:t=[]
   rotate_left
   · have d4:=eq_false ht0
     rw [if_pos ⟨by decide,ht0⟩] at hc
     subst hc
     simp only [zz,zq,seval,zl,za,ze,zo,nzs,d1,d2,d3,d4]
   have d4:=eq_true ht0
   rw [if_neg (fun h=>h.2 ht0)] at hc
   by_cases hx0:x=[]
   rotate_left
   · have d5:=eq_false hx0
     rw [if_pos ⟨by decide,hx0⟩] at hc
     subst hc
     simp only [zz,zq,seval,zl,za,ze,zo,nzs,d1,d2,d3,d4,d5]
   have d5:=eq_true hx0
   rw [if_neg (fun h=>h.2 hx0)] at hc
   rw [if_neg (fun h=>absurd h.1 (by decide))] at hc
   subst hc
   simp only [zz,zq,seval,zl,za,ze,zo,nzs,d1,d2,d3,d4,d5]
 · simp only [zz,zq,seval,zl,za,ze,zo,nzs]
   rw [if_neg (by simp)] at hc
   by_cases ha:a < 0
   · have d1:=eq_true ha
     rw [if_pos (.inl ha)] at hc
     subst hc
     simp only [zz,zq,seval,zl,za,ze,zo,nzs,d1]
     intro hh
     omega
   have d1:=eq_false ha
   by_cases hb:32 < a
   · have d2:=eq_true hb
     rw [if_pos (.inr hb)] at hc
     subst hc
     simp only [zz,zq,seval,zl,za,ze,zo,nzs,d1,d2]
     intro hh
     omega
   have d2:=eq_false hb
   rw [if_neg (by omega)] at hc
   by_cases hx:64 < x.length
   · have d3:((64:Int) < (x.length:Int))=True:=eq_true (by omega)
     rw [if_pos hx] at hc
     subst hc
     simp only [zz,zq,seval,zl,za,ze,zo,nzs,d1,d2,d3]
     intro hh hh2
     omega
   have d3:((64:Int) < (x.length:Int))=False:=eq_false (by omega)
   rw [if_neg hx] at hc
   by_cases ht0:t=[]
   rotate_left
   · have d4:=eq_false ht0
     rw [if_pos ⟨by decide,ht0⟩] at hc
     subst hc
     simp only [zz,zq,seval,zl,za,ze,zo,nzs,d1,d2,d3,d4]
   have d4:=eq_true ht0
   rw [if_neg (fun h=>h.2 ht0)] at hc
   by_cases hx0:x=[]
   rotate_left
   · have d5:=eq_false hx0
     rw [if_pos ⟨by decide,hx0⟩] at hc
     subst hc
     simp only [zz,zq,seval,zl,za,ze,zo,nzs,d1,d2,d3,d4,d5]
   have d5:=eq_true hx0
   rw [if_neg (fun h=>h.2 hx0)] at hc
   by_cases ha0:a=0
   rotate_left
   · have d6:=eq_false ha0
     rw [if_pos ⟨by decide,ha0⟩] at hc
     subst hc
     simp only [zz,zq,seval,zl,za,ze,zo,nzs,d1,d2,d3,d4,d5,d6]
   have d6:=eq_true ha0
   rw [if_neg (fun h=>h.2 ha0)] at hc
   subst hc
   simp only [zz,zq,seval,zl,za,ze,zo,nzs,d1,d2,d3,d4,d5,d6]
 · simp only [zz,zq,seval,zl,za,ze,zo,nzs]
   rw [if_neg (by simp)] at hc
   by_cases ha:a < 0
   · have d1:=eq_true ha
     rw [if_pos (.inl ha)] at hc
     subst hc
     simp only [zz,zq,seval,zl,za,ze,zo,nzs,d1]
     intro hh
     omega
   have d1:=eq_false ha
   by_cases hb:32 < a
   · have d2:=eq_true hb
     rw [if_pos (.inr hb)] at hc
     subst hc
     simp only [zz,zq,seval,zl,za,ze,zo,nzs,d1,d2]
     intro hh
     omega
   have d2:=eq_false hb
   rw [if_neg (by omega)] at hc
   by_cases hx:64 < x.length
   · have d3:((64:Int) < (x.length:Int))=True:=eq_true (by omega)
     rw [if_pos hx] at hc
     subst hc
     simp only [zz,zq,seval,zl,za,ze,zo,nzs,d1,d2,d3]
     intro hh hh2
     omega
   have d3:((64:Int) < (x.length:Int))=False:=eq_false (by omega)
   rw [if_neg hx] at hc
   by_cases ht0:t=[]
   rotate_left
   · have d4:=eq_false ht0
     rw [if_pos ⟨by decide,ht0⟩] at hc
     subst hc
     simp only [zz,zq,seval,zl,za,ze,zo,nzs,d1,d2,d3,d4]
   have d4:=eq_true ht0
   rw [if_neg (fun h=>h.2 ht0)] at hc
   rw [if_neg (fun h=>h.1 rfl)] at hc
   rw [if_neg (fun h=>absurd h.1 (by decide))] at hc
   subst hc
   simp only [zz,zq,seval,zl,za,ze,zo,nzs,d1,d2,d3,d4]
 · simp only [zz,zq,seval,zl,za,ze,zo,nzs]
   rw [if_neg (by simp)] at hc
   by_cases ha:a < 0
   · have d1:=eq_true ha
     rw [if_pos (.inl ha)] at hc
     subst hc
     simp only [zz,zq,seval,zl,za,ze,zo,nzs,d1]
     intro hh
     omega
   have d1:=eq_false ha
   by_cases hb:32 < a
   · have d2:=eq_true hb
     rw [if_pos (.inr hb)] at hc
     subst hc
     simp only [zz,zq,seval,zl,za,ze,zo,nzs,d1,d2]
     intro hh
     omega
   have d2:=eq_false hb
   rw [if_neg (by omega)] at hc
   by_cases hx:64 < x.length
   · have d3:((64:Int) < (x.length:Int))=True:=eq_true (by omega)
     rw [if_pos hx] at hc
     subst hc
     simp only [zz,zq,seval,zl,za,ze,zo,nzs,d1,d2,d3]
     intro hh hh2
     omega
   have d3:((64:Int) < (x.length:Int))=False:=eq_false (by omega)
   rw [if_neg hx] at hc
   by_cases ht0:t=[]
   rotate_left
   · have d4:=eq_false ht0
     rw [if_pos ⟨by decide,ht0⟩] at hc
     subst hc
     simp only [zz,zq,seval,zl,za,ze,zo,nzs,d1,d2,d3,d4]
   have d4:=eq_true ht0
   rw [if_neg (fun h=>h.2 ht0)] at hc
   by_cases hx0:x=[]
   rotate_left
   · have d5:=eq_false hx0
     rw [if_pos ⟨by decide,hx0⟩] at hc
     subst hc
     simp only [zz,zq,seval,zl,za,ze,zo,nzs,d1,d2,d3,d4,d5]
   have d5:=eq_true hx0
   rw [if_neg (fun h=>h.2 hx0)] at hc
   rw [if_neg (fun h=>absurd h.1 (by decide))] at hc
   subst hc
   simp only [zz,zq,seval,zl,za,ze,zo,nzs,d1,d2,d3,d4,d5]
 · simp only [zz,zq,seval,zl,za,ze,zo,nzs]
   refine CallK.pure ⟨rfl,rfl⟩ rfl (nameW t M) ?_
   cases hT:nmB t with
   | false=>
     rw [hT,if_pos (by simp)] at hc
     subst hc
     simp only [zz,zq,seval,zl,za,ze,zo,nzs]
   | true=>
   rw [hT,if_neg (by simp)] at hc
   simp only [zz,zq,seval,zl,za,ze,zo,nzs]
   by_cases ha:a < 0
   · have d1:=eq_true ha
     rw [if_pos (.inl ha)] at hc
     subst hc
     simp only [zz,zq,seval,zl,za,ze,zo,nzs,d1]
     intro hh
     omega
   have d1:=eq_false ha
   by_cases hb:32 < a
   · have d2:=eq_true hb
     rw [if_pos (.inr hb)] at hc
     subst hc
     simp only [zz,zq,seval,zl,za,ze,zo,nzs,d1,d2]
     intro hh
     omega
   have d2:=eq_false hb
   rw [if_neg (by omega)] at hc
   by_cases hx:64 < x.length
   · have d3:((64:Int) < (x.length:Int))=True:=eq_true (by omega)
     rw [if_pos hx] at hc
     subst hc
     simp only [zz,zq,seval,zl,za,ze,zo,nzs,d1,d2,d3]
     intro hh hh2
     omega
   have d3:((64:Int) < (x.length:Int))=False:=eq_false (by omega)
   rw [if_neg hx] at hc
   rw [if_neg (fun h=>h.1 rfl)] at hc
   by_cases hx0:x=[]
   rotate_left
   · have d5:=eq_false hx0
     rw [if_pos ⟨by decide,hx0⟩] at hc
     subst hc
     simp only [zz,zq,seval,zl,za,ze,zo,nzs,d1,d2,d3,d5]
   have d5:=eq_true hx0
   rw [if_neg (fun h=>h.2 hx0)] at hc
   by_cases ha0:a=0
   rotate_left
   · have d6:=eq_false ha0
     rw [if_pos ⟨by decide,ha0⟩] at hc
     subst hc
     simp only [zz,zq,seval,zl,za,ze,zo,nzs,d1,d2,d3,d5,d6]
   have d6:=eq_true ha0
   rw [if_neg (fun h=>h.2 ha0)] at hc
   subst hc
   simp only [zz,zq,seval,zl,za,ze,zo,nzs,d1,d2,d3,d5,d6]
end Go.X.Lg

namespace Go.X.Vo
open Go Go.X Go.RowKit Go.X.Bg Go.X.Nm Go.X.Bp Go.X.Sb

def doL (bag:List It) (l:List Vol) (o:OpT):St×Int:=if Lg.opE o≠0 then (zSt,Lg.opE o) else doA bag l o
theorem opE_kind {o:OpT} (h:Lg.opE o=0):1≤o.1∧o.1≤5:=by
 unfold Lg.opE at h
 split at h
 · cases h
 · omega
theorem ldo (b v:Value) (bag:List It) (ws:List WV) (o:OpT) (M:Mem) (hb:RowM M b 4 (bag.map Bg.encT)) (hv:VolsM M v ws) :
  Meets qz 174 [stV b v,opT o] M (StM (fun s=>.tup [s,.v (.int .i64 (doL bag (ws.map (·.2)) o).2)]) (doL bag (ws.map (·.2)) o).1):=by
 refine Meets.of_body [0,1,2,3,4,5,6,10,14,15,25,33,45] Proofs.Tryz.func174 rfl (by kernel_rfl) rfl fun w=>?_
 have hC:=Lg.checkW o M
 simp only [Lg.opV] at hC
 generalize hc:doL bag (ws.map (·.2)) o=c
 unfold doL at hc
 simp only [Proofs.Tryz.f174,stV,opT,zz,zq,seval,zl,za,ze,zo,nzs,hb.one,hv.row.one]
 refine CallK.pure ⟨rfl,rfl⟩ rfl hC ?_
 by_cases h1:Lg.opE o=0
 rotate_left
 · have c1:=eq_false h1
   rw [if_pos h1] at hc
   subst hc
   simp only [zz,zq,seval,zl,za,ze,zo,nzs,c1]
   exact ⟨_,_,[],rfl,rfl,RowM.nil _ _,zero_volsM _ |>.2⟩
 rw [if_neg (fun h=>h h1)] at hc
 obtain ⟨hk1,hk2⟩:=opE_kind h1
 obtain ⟨k,n,to,a,s⟩:=o
 simp only at hk1 hk2
 simp only [zz,zq,seval,zl,za,ze,zo,nzs,h1]
 by_cases e1:k=1
 · have c1:=eq_true e1
   have hM:=make b v bag ws n a M hb hv
   rw [show doA bag (ws.map (·.2)) (k,n,to,a,s)=makeA bag (ws.map (·.2)) n a by unfold doA; rw [if_pos e1]] at hc
   rw [hc] at hM
   simp only [stV] at hM
   simp only [zz,zq,seval,zl,za,ze,zo,nzs,c1]
   refine CallK.stM (T:=fun s=>.tup [s,.v (.int .i64 c.2)]) (fun _ _=>rfl) rfl rfl hM fun b1 v1 ws1 M1 hM1 hw1 hb1 hv1=>?_
   simp only [zz,zq,seval,zl,za,ze,zo,nzs,stV,hb1.one,hv1.row.one]
   exact ⟨b1,v1,ws1,rfl,hw1,hb1,hv1⟩
 have c1:=eq_false e1
 by_cases e2:k=2
 · have c2:=eq_true e2
   have hM:=vdrop b v bag ws n M hb hv
   rw [show doA bag (ws.map (·.2)) (k,n,to,a,s)=dropA bag (ws.map (·.2)) n by unfold doA; rw [if_neg e1,if_pos e2]] at hc
   rw [hc] at hM
   simp only [stV] at hM
   simp only [zz,zq,seval,zl,za,ze,zo,nzs,c1,c2]
   refine CallK.stM (T:=fun s=>.tup [s,.v (.int .i64 c.2)]) (fun _ _=>rfl) rfl rfl hM fun b1 v1 ws1 M1 hM1 hw1 hb1 hv1=>?_
   simp only [zz,zq,seval,zl,za,ze,zo,nzs,stV,hb1.one,hv1.row.one]
   exact ⟨b1,v1,ws1,rfl,hw1,hb1,hv1⟩
 have c2:=eq_false e2
 by_cases e3:k=3
 · have c3:=eq_true e3
   have hM:=vwrite b v bag ws n a s M hb hv
   rw [show doA bag (ws.map (·.2)) (k,n,to,a,s)=writeA bag (ws.map (·.2)) n a s by unfold doA; rw [if_neg e1,if_neg e2,if_neg (by omega),if_neg (by omega)]] at hc
   rw [hc] at hM
   simp only [stV] at hM
   simp only [zz,zq,seval,zl,za,ze,zo,nzs,c1,c2,c3]
   refine CallK.stM (T:=fun s=>.tup [s,.v (.int .i64 c.2)]) (fun _ _=>rfl) rfl rfl hM fun b1 v1 ws1 M1 hM1 hw1 hb1 hv1=>?_
   simp only [zz,zq,seval,zl,za,ze,zo,nzs,stV,hb1.one,hv1.row.one]
   exact ⟨b1,v1,ws1,rfl,hw1,hb1,hv1⟩
 have c3:=eq_false e3
 by_cases e4:k=4
 · have c4:=eq_true e4
   have hM:=(vtrim b v bag ws n a M hb hv).mono (fun r H M' _ h=>h.weak)
   rw [show doA bag (ws.map (·.2)) (k,n,to,a,s)=trimA bag (ws.map (·.2)) n a by unfold doA; rw [if_neg e1,if_neg e2,if_neg (by omega),if_pos e4]] at hc
   rw [hc] at hM
   simp only [stV] at hM
   simp only [zz,zq,seval,zl,za,ze,zo,nzs,c1,c2,c3,c4]
   refine CallK.stM (T:=fun s=>.tup [s,.v (.int .i64 c.2)]) (fun _ _=>rfl) rfl rfl hM fun b1 v1 ws1 M1 hM1 hw1 hb1 hv1=>?_
   simp only [zz,zq,seval,zl,za,ze,zo,nzs,stV,hb1.one,hv1.row.one]
   exact ⟨b1,v1,ws1,rfl,hw1,hb1,hv1⟩
 have c4:=eq_false e4
 have hM:=vclone b v bag ws n to M hb hv
 rw [show doA bag (ws.map (·.2)) (k,n,to,a,s)=cloneA bag (ws.map (·.2)) n to by unfold doA; rw [if_neg e1,if_neg e2,if_pos (by show k=5; omega)]] at hc
 rw [hc] at hM
 simp only [stV] at hM
 simp only [zz,zq,seval,zl,za,ze,zo,nzs,c1,c2,c3,c4]
 refine CallK.stM (T:=fun s=>.tup [s,.v (.int .i64 c.2)]) (fun _ _=>rfl) rfl rfl hM fun b1 v1 ws1 M1 hM1 hw1 hb1 hv1=>?_
 simp only [zz,zq,seval,zl,za,ze,zo,nzs,stV,hb1.one,hv1.row.one]
 exact ⟨b1,v1,ws1,rfl,hw1,hb1,hv1⟩
end Go.X.Vo

namespace Go.X.Lg
open Go Go.X Go.RowKit Go.X.Pl Go.X.Nm Go.X.Tv

def txt (s:List UInt8):List UInt8:=UInt8.ofNat s.length :: s
def bodyS (o:Op):List UInt8:=UInt8.ofNat o.1.toNat :: UInt8.ofNat o.2.2.2.1.toNat :: (txt o.2.1++(txt o.2.2.1++txt o.2.2.2.2))
theorem nmB_len {s:List UInt8} (h:nmB s=true):0 < s.length∧s.length≤12:=by
 unfold nmB at h
 rw [Bool.and_eq_true,decide_eq_true_eq] at h
 exact h.1
theorem opE_ok {o:Op} (h:opE o=0):(1≤o.1∧o.1≤5)∧(0≤o.2.2.2.1∧o.2.2.2.1≤32)∧o.2.1.length≤64∧o.2.2.1.length≤64∧o.2.2.2.2.length≤64:=by
 obtain ⟨k,n,t,a,x⟩:=o
 unfold opE at h
 simp only at h ⊢
 split at h
 · cases h
 rename_i h1
 split at h
 · cases h
 rename_i h2
 split at h
 · cases h
 rename_i h3
 split at h
 · cases h
 rename_i h4
 split at h
 · cases h
 rename_i h5
 rw [not_or,Bool.not_eq_false] at h2
 have hn:=nmB_len h2.1
 refine ⟨by omega,by omega,by omega,?_,by omega⟩
 by_cases hk:k=5
 · have:=nmB_len (s:=t) (by cases ht:nmB t with | true=>rfl | false=>exact absurd ⟨hk,ht⟩ h2.2)
   omega
 · have:t=[]:=Classical.byContradiction fun e=>h5 ⟨hk,e⟩
   rw [this]
   exact Nat.zero_le _
theorem textW (s:List UInt8) (M:Mem) (h:s.length≤64) :
  Meets qz 228 [.v (.string ⟨s.toArray⟩)] M fun r _ _=>r = .v (.string ⟨(txt s).toArray⟩):=by
 refine Meets.of_body [0,2] Proofs.Tryz.func228 rfl (by kernel_rfl) rfl fun w=>?_
 simp only [Proofs.Tryz.f228,zz,zq,seval,zl,za,ze,zo,nzs,byteOf,byteW]
 refine ⟨by omega,rfl⟩
theorem encodeW (o:Op) (M:Mem) :
  Meets qz 175 [opV o] M fun r _ _=>r = .tup [.v (.string ⟨(if opE o=0 then bodyS o else []).toArray⟩),.v (.int .i64 (opE o))]:=by
 refine Meets.of_body [0,1,2,3,4,8] Proofs.Tryz.func175 rfl (by kernel_rfl) rfl fun w=>?_
 have hC:=checkW o M
 by_cases he:opE o=0
 rotate_left
 · have c0:=eq_false he
   simp only [Proofs.Tryz.f175,opV,zz,zq,seval,zl,za,ze,zo,nzs]
   refine CallK.pure ⟨rfl,rfl⟩ rfl hC ?_
   simp only [zz,zq,seval,zl,za,ze,zo,nzs,c0]
 obtain ⟨q1,q2,q3,q4,q5⟩:=opE_ok he
 rw [he] at hC
 rw [if_pos he,he]
 obtain ⟨k,n,t,a,x⟩:=o
 simp only at q1 q2 q3 q4 q5
 obtain ⟨k,rfl⟩ : ∃ m:Nat,k=m:=⟨k.toNat,by omega⟩
 obtain ⟨a,rfl⟩ : ∃ m:Nat,a=m:=⟨a.toNat,by omega⟩
 simp only [Proofs.Tryz.f175,opV,zz,zq,seval,zl,za,ze,zo,nzs]
 refine CallK.pure ⟨rfl,rfl⟩ rfl hC ?_
 simp only [zz,zq,seval,zl,za,ze,zo,nzs]
 have hb:bodyS ((k:Int),n,t,(a:Int),x)=[UInt8.ofNat k,UInt8.ofNat a]++txt n++txt t++txt x:=by simp [bodyS]
 have l1:(txt n).length=n.length+1:=rfl
 have l2:(txt t).length=t.length+1:=rfl
 have l3:(txt x).length=x.length+1:=rfl
 rw [hb]
 refine DrawK.held [8] (tk [0,3,8,12,16,1,4,9,13,17,2,5] (.two 6 (.two 7 (.one 10 (tk [11] (.one 14 (tk [15] (.one 18 (tk [19,20,21] .done)))))) 10 (.two 7 (tk [11] (.one 14 (tk [15] (.one 18 (tk [19,20,21] .done))))) 14 (.two 7 (tk [11,15] (.one 18 (tk [19,20,21] .done))) 18 (.one 7 (tk [11,15,19,20,21] .done))))) 10 (.two 6 (.two 7 (tk [11] (.one 14 (tk [15] (.one 18 (tk [19,20,21] .done))))) 14 (.two 7 (tk [11,15] (.one 18 (tk [19,20,21] .done))) 18 (.one 7 (tk [11,15,19,20,21] .done)))) 14 (.two 6 (.two 7 (tk [11,15] (.one 18 (tk [19,20,21] .done))) 18 (.one 7 (tk [11,15,19,20,21] .done))) 18 (.one 6 (.one 7 (tk [11,15,19,20,21] .done))))))) (by kernel_rfl) (by kernel_rfl) fun xs=>?_
 simp only [zz,zq,seval,zl,za,ze,zo,nzs,se1,se2,tks,byteOf,byteW]
 repeat' (first
  | (refine CallK.pure ⟨rfl,rfl⟩ rfl (textW _ M (by assumption)) ?_; simp only [zz,zq,seval,zl,za,ze,zo,nzs,se1,se2,tks,byteOf,byteW,List.length_append,l1,l2,l3,List.length_cons,List.length_nil])
  | refine ⟨?_,?_⟩
  | rfl
  | omega)
end Go.X.Lg

namespace Go.X.Lg
open Go Go.X Go.RowKit Go.X.Pl Go.X.Nm Go.X.Tv

def takeS:List UInt8→List UInt8×List UInt8×Bool
 | []=>([],[],false)
 | b :: r=>if r.length < b.toNat then ([],[],false) else (r.take b.toNat,r.drop b.toNat,true)
def z5:Op:=(0,[],[],0,[])
def decS:List UInt8→Op×Int
 | a :: b :: s=>
   if (takeS s).2.2=false then (z5,3) else
   if (takeS (takeS s).2.1).2.2=false then (z5,3) else
   if (takeS (takeS (takeS s).2.1).2.1).2.2=false then (z5,3) else
   if (takeS (takeS (takeS s).2.1).2.1).2.1≠[] then (z5,3) else
   if opE ((a.toNat:Int),(takeS s).1,(takeS (takeS s).2.1).1,(b.toNat:Int),(takeS (takeS (takeS s).2.1).2.1).1)≠0 then (z5,3) else
   (((a.toNat:Int),(takeS s).1,(takeS (takeS s).2.1).1,(b.toNat:Int),(takeS (takeS (takeS s).2.1).2.1).1),0)
 | _=>(z5,3)
theorem takeW (s:List UInt8) (M:Mem) (h:s.length≤9223372036854775807) :
  Meets qz 286 [.v (.string ⟨s.toArray⟩)] M fun r _ _=>r = .tup [.v (.string ⟨(takeS s).1.toArray⟩),.v (.string ⟨(takeS s).2.1.toArray⟩),.v (.bool (takeS s).2.2)]:=by
 refine Meets.of_body [0,2,3,4,14] Proofs.Tryz.func286 rfl (by kernel_rfl) rfl fun w=>?_
 cases s with
 | nil=>simp only [Proofs.Tryz.f286,zz,zq,↓reduceIte,zx,zj,zy,zk,zw,zb,reduceCtorEq,zd,zf,zp,zm,zh,zu,zt,zn,zc,zl,za,ze,zo,zg,nzs,takeS]
 | cons b r=>
   have e0:strIx (b :: r) 0=((b.toNat:Nat):Int):=rfl
   have hb:=UInt8.toNat_lt b
   have d0:(b :: r=[])=False:=eq_false (fun e=>by cases e)
   rw [List.length_cons] at h
   by_cases hl:r.length < b.toNat
   · rw [show takeS (b :: r)=([],[],false) from if_pos hl]
     have d1:(((r.length+1:Nat):Int)≤((b.toNat:Nat):Int))=True:=eq_true (by omega)
     simp only [Proofs.Tryz.f286,zz,zq,↓reduceIte,zx,zj,zy,zk,zw,zb,reduceCtorEq,zd,zf,zp,zm,zh,zu,zt,zn,zc,zl,za,ze,zo,zg,nzs,e0,d0,List.length_cons,d1,iw (show b.toNat < 9223372036854775808 by omega)]
     omega
   · rw [show takeS (b :: r)=(r.take b.toNat,r.drop b.toNat,true) from if_neg hl]
     have d1:(((r.length+1:Nat):Int)≤((b.toNat:Nat):Int))=False:=eq_false (by omega)
     have e1:(1:Int)+((b.toNat:Nat):Int)=((b.toNat+1:Nat):Int):=by omega
     simp only [Proofs.Tryz.f286,zz,zq,↓reduceIte,zx,zj,zy,zk,zw,zb,reduceCtorEq,zd,zf,zp,zm,zh,zu,zt,zn,zc,zl,za,ze,zo,zg,nzs,e0,d0,List.length_cons,d1,iw (show b.toNat < 9223372036854775808 by omega)]
     refine ⟨by omega,DrawK.quiet (by kernel_rfl) (by kernel_rfl) ?_⟩
     have e2:List.take (b.toNat+1 - 1) ((b :: r).drop 1)=r.take b.toNat:=rfl
     have e3:List.take (r.length+1 - (b.toNat+1)) (r.drop b.toNat)=r.drop b.toNat:=by
      exact List.take_of_length_le (by rw [List.length_drop]; omega)
     simp only [zz,zq,↓reduceIte,zx,zj,zy,zk,zw,zb,reduceCtorEq,zd,zf,zp,zm,zh,zu,zt,zn,zc,zl,za,ze,zo,zg,nzs,e0,List.length_cons,iw (show b.toNat < 9223372036854775808 by omega),e1,e2,e3,inK,lo,hi,Nat.add_sub_cancel,List.drop_succ_cons,List.drop_zero]
     omega
theorem decodeW (s:List UInt8) (M:Mem) (h:s.length≤9223372036854775807) :
  Meets qz 241 [.v (.string ⟨s.toArray⟩)] M fun r _ _=>r = .tup [opV (decS s).1,.v (.int .i64 (decS s).2)]:=by
 refine Meets.of_body [0,2,3,4,6,7,10,24,25,26,27,39,48] Proofs.Tryz.func241 rfl (by kernel_rfl) rfl fun w=>?_
 by_cases h2:s.length < 2
 · have d0:((s.length:Int) < 2)=True:=eq_true (by omega)
   have he:decS s=(z5,3):=by
    cases s with
    | nil=>rfl
    | cons a s=>cases s with
      | nil=>rfl
      | cons b s=>simp at h2; omega
   rw [he]
   simp only [Proofs.Tryz.f241,zz,zq,↓reduceIte,zx,zj,zy,zk,zw,zb,reduceCtorEq,zd,zf,zp,zm,zh,zu,zt,zn,zc,zl,za,ze,zo,zg,nzs,d0,opV,z5]
 have d0:((s.length:Int) < 2)=False:=eq_false (by omega)
 obtain ⟨a,b,u,rfl⟩ : ∃ a b u,s=a :: b :: u:=by
  cases s with
  | nil=>simp at h2
  | cons a s=>cases s with
    | nil=>simp at h2
    | cons b u=>exact ⟨a,b,u,rfl⟩
 have e0:strIx (a :: b :: u) 0=((a.toNat:Nat):Int):=rfl
 have e1:strIx (a :: b :: u) 1=((b.toNat:Nat):Int):=rfl
 have ha:=UInt8.toNat_lt a
 have hb:=UInt8.toNat_lt b
 generalize hc:decS (a :: b :: u)=c
 unfold decS at hc
 simp only [List.length_cons] at d0 h h2
 simp only [Proofs.Tryz.f241,zz,zq,↓reduceIte,zx,zj,zy,zk,zw,zb,reduceCtorEq,zd,zf,zp,zm,zh,zu,zt,zn,zc,zl,za,ze,zo,zg,nzs,d0,List.length_cons]
 refine DrawK.held [] (tk [0,3,1,4,2,5,6] (ones' [7,8] .done)) (by kernel_rfl) (by kernel_rfl) fun xs=>?_
 simp only [zz,zq,↓reduceIte,zx,zj,zy,zk,zw,zb,reduceCtorEq,zd,zf,zp,zm,zh,zu,zt,zn,zc,zl,za,ze,zo,zg,nzs,se1,se2,tks,List.length_cons,e0,e1,iw (show a.toNat < 9223372036854775808 by omega),iw (show b.toNat < 9223372036854775808 by omega),List.drop_succ_cons,List.drop_zero]
 have et:List.take (u.length+1+1 - 2) u=u:=List.take_of_length_le (by omega)
 refine ⟨by omega,by omega,by omega,OpK.bsTab rfl rfl sl298 rfl rfl ⟨⟨⟨rfl,rfl⟩,rfl,rfl⟩,⟨⟨rfl,rfl⟩,rfl,rfl⟩,⟨⟨rfl,rfl⟩,rfl,rfl⟩,trivial⟩ rfl ?_⟩
 have s1:shp qz 297 = .one:=by kernel_rfl
 simp only [zz,zq,↓reduceIte,zx,zj,zy,zk,zw,zb,reduceCtorEq,zd,zf,zp,zm,zh,zu,zt,zn,zc,zl,za,ze,zo,zg,nzs,et,st1,s1]
 refine LoopK.rounds 4 ?_
 simp only [zz,zq,↓reduceIte,zx,zj,zy,zk,zw,zb,reduceCtorEq,zd,zf,zp,zm,zh,zu,zt,zn,zc,zl,za,ze,zo,zg,nzs,sRo,st1,s1,List.getD_cons_zero,List.getD_cons_succ]
 refine CallK.pure ⟨rfl,rfl⟩ rfl (takeW u M (by omega)) ?_
 have tl : ∀ q:List UInt8,(takeS q).2.1.length≤q.length∧(takeS q).1.length≤q.length:=fun q=>by
  cases q with
  | nil=>exact ⟨Nat.le_refl _,Nat.le_refl _⟩
  | cons c q=>
    rw [takeS]
    split
    · exact ⟨Nat.zero_le _,Nat.zero_le _⟩
    · simp only [List.length_drop,List.length_take,List.length_cons]; omega
 have t1:=tl u
 obtain ⟨⟨n,u1,ok⟩,hT1⟩ : ∃ T,takeS u=T:=⟨_,rfl⟩
 simp only [hT1] at hc t1 ⊢
 cases ok with
 | false=>
   rw [if_pos (show false=false from rfl)] at hc
   subst hc
   simp only [zz,zq,↓reduceIte,zx,zj,zy,zk,zw,zb,reduceCtorEq,zd,zf,zp,zm,zh,zu,zt,zn,zc,zl,za,ze,zo,zg,nzs,sRo,st1,s1,List.getD_cons_zero,List.getD_cons_succ,inK,lo,hi,opV,z5]
 | true=>
 rw [if_neg (show ¬ true=false from fun e=>by cases e)] at hc
 simp only [zz,zq,↓reduceIte,zx,zj,zy,zk,zw,zb,reduceCtorEq,zd,zf,zp,zm,zh,zu,zt,zn,zc,zl,za,ze,zo,zg,nzs,sRo,st1,s1,List.getD_cons_zero,List.getD_cons_succ,inK,lo,hi]
 refine CallK.pure ⟨rfl,rfl⟩ rfl (takeW u1 M (by omega)) ?_
 have t2:=tl u1
 obtain ⟨⟨t,u2,ok⟩,hT2⟩ : ∃ T,takeS u1=T:=⟨_,rfl⟩
 simp only [hT2] at hc t2 ⊢
 cases ok with
 | false=>
   rw [if_pos (show false=false from rfl)] at hc
   subst hc
   simp only [zz,zq,↓reduceIte,zx,zj,zy,zk,zw,zb,reduceCtorEq,zd,zf,zp,zm,zh,zu,zt,zn,zc,zl,za,ze,zo,zg,nzs,sRo,st1,s1,List.getD_cons_zero,List.getD_cons_succ,inK,lo,hi,opV,z5]
 | true=>
 rw [if_neg (show ¬ true=false from fun e=>by cases e)] at hc
 simp only [zz,zq,↓reduceIte,zx,zj,zy,zk,zw,zb,reduceCtorEq,zd,zf,zp,zm,zh,zu,zt,zn,zc,zl,za,ze,zo,zg,nzs,sRo,st1,s1,List.getD_cons_zero,List.getD_cons_succ,inK,lo,hi]
 refine CallK.pure ⟨rfl,rfl⟩ rfl (takeW u2 M (by omega)) ?_
 have t3:=tl u2
 obtain ⟨⟨x,u3,ok⟩,hT3⟩ : ∃ T,takeS u2=T:=⟨_,rfl⟩
 simp only [hT3] at hc t3 ⊢
 cases ok with
 | false=>
   rw [if_pos (show false=false from rfl)] at hc
   subst hc
   simp only [zz,zq,↓reduceIte,zx,zj,zy,zk,zw,zb,reduceCtorEq,zd,zf,zp,zm,zh,zu,zt,zn,zc,zl,za,ze,zo,zg,nzs,sRo,st1,s1,List.getD_cons_zero,List.getD_cons_succ,inK,lo,hi,opV,z5]
 | true=>
 rw [if_neg (show ¬ true=false from fun e=>by cases e)] at hc
 by_cases hu:u3=[]
 rotate_left
 · have c1:=eq_false hu
   rw [if_pos hu] at hc
   subst hc
   simp only [zz,zq,↓reduceIte,zx,zj,zy,zk,zw,zb,reduceCtorEq,zd,zf,zp,zm,zh,zu,zt,zn,zc,zl,za,ze,zo,zg,nzs,sRo,st1,s1,List.getD_cons_zero,List.getD_cons_succ,inK,lo,hi,opV,z5,c1]
 have c1:=eq_true hu
 rw [if_neg (fun e=>e hu)] at hc
 simp only [zz,zq,↓reduceIte,zx,zj,zy,zk,zw,zb,reduceCtorEq,zd,zf,zp,zm,zh,zu,zt,zn,zc,zl,za,ze,zo,zg,nzs,sRo,st1,s1,List.getD_cons_zero,List.getD_cons_succ,inK,lo,hi,c1]
 refine CallK.pure ⟨rfl,rfl⟩ rfl (checkW ((a.toNat:Int),n,t,(b.toNat:Int),x) M) ?_
 by_cases he:opE ((a.toNat:Int),n,t,(b.toNat:Int),x)=0
 · have c2:=eq_true he
   rw [if_neg (fun e=>e he)] at hc
   subst hc
   simp only [zz,zq,↓reduceIte,zx,zj,zy,zk,zw,zb,reduceCtorEq,zd,zf,zp,zm,zh,zu,zt,zn,zc,zl,za,ze,zo,zg,nzs,sRo,st1,s1,List.getD_cons_zero,List.getD_cons_succ,inK,lo,hi,opV,he]
 · have c2:=eq_false he
   rw [if_pos he] at hc
   subst hc
   simp only [zz,zq,↓reduceIte,zx,zj,zy,zk,zw,zb,reduceCtorEq,zd,zf,zp,zm,zh,zu,zt,zn,zc,zl,za,ze,zo,zg,nzs,sRo,st1,s1,List.getD_cons_zero,List.getD_cons_succ,inK,lo,hi,opV,z5,c2]
/-! the reference's: what is left out is taken as it comes -/
def lnT:List UInt8→List UInt8×List UInt8
 | []=>([],[])
 | b :: r=>(r.take b.toNat,r.drop b.toNat)
def lnS:List UInt8→Op
 | a :: b :: c :: s=>((a.toNat:Int),(lnT (c :: s)).1,(lnT (lnT (c :: s)).2).1,(b.toNat:Int),(lnT (lnT (lnT (c :: s)).2).2).1)
 | _=>z5
theorem take_txt (s r:List UInt8) (h:s.length≤64):takeS (txt s++r)=(s,r,true):=by
 have e:(UInt8.ofNat s.length).toNat=s.length:=by rw [UInt8.toNat_ofNat']; omega
 show (if (s++r).length < (UInt8.ofNat s.length).toNat then _ else _)=_
 rw [e,if_neg (by rw [List.length_append]; omega)]
 simp
theorem ln_txt (s r:List UInt8) (h:s.length≤64):lnT (txt s++r)=(s,r):=by
 have e:(UInt8.ofNat s.length).toNat=s.length:=by rw [UInt8.toNat_ofNat']; omega
 show (List.take (UInt8.ofNat s.length).toNat (s++r),List.drop (UInt8.ofNat s.length).toNat (s++r))=_
 rw [e]
 simp
theorem take_of {s n r:List UInt8} (h:takeS s=(n,r,true)) (hn:n.length≤64):s=txt n++r:=by
 cases s with
 | nil=>cases h
 | cons b q=>
   rw [takeS] at h
   split at h
   · cases h
   · rename_i h1
     simp only [Prod.mk.injEq,and_true] at h
     have hl:n.length=b.toNat:=by rw [← h.1,List.length_take]; omega
     have hb:UInt8.ofNat n.length=b:=by rw [hl]; exact UInt8.ofNat_toNat
     unfold txt
     rw [hb,← h.1,← h.2]
     simp
theorem bodyS_eq (k a:Nat) (n t x:List UInt8):bodyS ((k:Int),n,t,(a:Int),x)=UInt8.ofNat k :: UInt8.ofNat a :: (txt n++(txt t++txt x)):=rfl
theorem dec_body {o:Op} (h:opE o=0):decS (bodyS o)=(o,0)∧lnS (bodyS o)=o:=by
 obtain ⟨q1,q2,q3,q4,q5⟩:=opE_ok h
 obtain ⟨k,n,t,a,x⟩:=o
 simp only at q1 q2 q3 q4 q5
 obtain ⟨k,rfl⟩ : ∃ m:Nat,k=m:=⟨k.toNat,by omega⟩
 obtain ⟨a,rfl⟩ : ∃ m:Nat,a=m:=⟨a.toNat,by omega⟩
 have ek:(UInt8.ofNat k).toNat=k:=by rw [UInt8.toNat_ofNat']; omega
 have ea:(UInt8.ofNat a).toNat=a:=by rw [UInt8.toNat_ofNat']; omega
 have e1:=take_txt n (txt t++txt x) q3
 have e2:=take_txt t (txt x) q4
 have e3:=take_txt x [] q5
 rw [List.append_nil] at e3
 have f1:=ln_txt n (txt t++txt x) q3
 have f2:=ln_txt t (txt x) q4
 have f3:=ln_txt x [] q5
 rw [List.append_nil] at f3
 rw [bodyS_eq]
 refine ⟨?_,?_⟩
 · unfold decS
   simp only [e1,e2,e3,ek,ea]
   rw [if_neg (fun e=>by cases e),if_neg (fun e=>by cases e),if_neg (fun e=>by cases e),if_neg (fun e=>e rfl),if_neg (fun e=>e h)]
 · have hl:lnS (UInt8.ofNat k :: UInt8.ofNat a :: (txt n++(txt t++txt x)))=(((UInt8.ofNat k).toNat:Int),(lnT (txt n++(txt t++txt x))).1,(lnT (lnT (txt n++(txt t++txt x))).2).1,((UInt8.ofNat a).toNat:Int),(lnT (lnT (lnT (txt n++(txt t++txt x))).2).2).1):=rfl
   rw [hl]
   simp only [f1,f2,f3,ek,ea]
theorem dec_ok {s:List UInt8} (h:(decS s).2=0) : ∃ o,decS s=(o,0)∧opE o=0∧s=bodyS o:=by
 match s,h with
 | [],h=>cases h
 | [_],h=>cases h
 | a :: b :: u,h=>
   unfold decS at h ⊢
   obtain ⟨⟨n,u1,ok1⟩,hT1⟩ : ∃ T,takeS u=T:=⟨_,rfl⟩
   obtain ⟨⟨t,u2,ok2⟩,hT2⟩ : ∃ T,takeS u1=T:=⟨_,rfl⟩
   obtain ⟨⟨x,u3,ok3⟩,hT3⟩ : ∃ T,takeS u2=T:=⟨_,rfl⟩
   simp only [hT1,hT2,hT3] at h ⊢
   cases ok1 with
   | false=>rw [if_pos rfl] at h; cases h
   | true=>
   cases ok2 with
   | false=>rw [if_neg (fun e=>by cases e),if_pos rfl] at h; cases h
   | true=>
   cases ok3 with
   | false=>rw [if_neg (fun e=>by cases e),if_neg (fun e=>by cases e),if_pos rfl] at h; cases h
   | true=>
   rw [if_neg (fun e=>by cases e),if_neg (fun e=>by cases e),if_neg (fun e=>by cases e)] at h ⊢
   by_cases hu:u3=[]
   rotate_left
   · rw [if_pos hu] at h; cases h
   rw [if_neg (fun e=>e hu)] at h ⊢
   by_cases he:opE ((a.toNat:Int),n,t,(b.toNat:Int),x)=0
   rotate_left
   · rw [if_pos he] at h; cases h
   rw [if_neg (fun e=>e he)]
   refine ⟨_,rfl,he,?_⟩
   obtain ⟨_,_,q3,q4,q5⟩:=opE_ok he
   rw [bodyS_eq,UInt8.ofNat_toNat,UInt8.ofNat_toNat,take_of hT1 q3,take_of hT2 q4,take_of hT3 q5,hu,List.append_nil]
end Go.X.Lg

