/- Bags: what bag.one, bag.cmp, bag.Check, bag.Find, woolref.Bag, woolref.Item return. Conditions: none. -/
import Derived.Test.YtoohifeidifocaaGreatDoorMg6
import Derived.Test.YtoohifeidifocaaGreatDoorMg8
import Derived.Test.YtoohifeidifocaaGreatDoorMg7
open Nat renaming reduceAdd→zx,reduceMul→zj,reduceDiv→zy,reduceEqDiff→zk,reduceLT→zw,reduceLeDiff→zb,reduceBEq→zg
open Int renaming reduceEq→zd,reduceNe→zf,reduceLT→zp,reduceLE→zm,reduceAdd→zh,reduceSub→zu,reduceMul→zt,reduceNeg→zn,reduceToNat→zc,cast_ofNat_Int→zl,natCast_zero→za,natCast_one→ze,toNat_natCast→zo
set_option linter.unusedSimpArgs false
set_option linter.unusedVariables false
set_option maxHeartbeats 4000000
set_option maxRecDepth 20000
namespace Go.X.Bg
open Go Go.X

abbrev It:=Int×Int×List UInt8×Int
def encT (x:It):List Value:=[.int .i64 x.1,.int .i64 x.2.1,.string ⟨x.2.2.1.toArray⟩,.int .i64 x.2.2.2]
def itV (x:It):SV:=.agg [.v (.int .i64 x.1),.v (.int .i64 x.2.1),.v (.string ⟨x.2.2.1.toArray⟩),.v (.int .i64 x.2.2.2)]
def sumT (s:List UInt8):Int:=((Pt.prf 65581 s 1:Nat):Int)
theorem prf_le (m:Nat) (h0:m≠0) (hm:m≤2147483647) : ∀ (s:List UInt8) (p:Nat),p≤2147483647→Pt.prf m s p≤2147483647
  | [],p,h=>h
  | c :: s,p,_=>by
    exact prf_le m h0 hm s _ (Nat.le_trans (Mv.red_le (x:=p * 2 ^ 8+c.toNat) h0 hm) (by decide))
theorem sumT_rng (s:List UInt8):0≤sumT s∧sumT s≤2147483647:=by
  have:=prf_le 65581 (by decide) (by decide) s 1 (by decide)
  unfold sumT
  omega
def oneE (x:It):Int:=if 64 < x.2.2.1.length then 2 else if x.1≠sumT x.2.2.1 then 6 else if (x.2.1 < 0∨64≤x.2.1)∨(x.2.2.2 < 1∨1000000 < x.2.2.2) then 1 else 0
theorem oneE_ok {x:It} (h:oneE x=0):(x.2.2.1.length≤64∧x.1=sumT x.2.2.1)∧(0≤x.2.1∧x.2.1 < 64)∧1≤x.2.2.2∧x.2.2.2≤1000000:=by
  unfold oneE at h
  split at h
  · cases h
  · split at h
    · cases h
    · rename_i h2
      split at h
      · cases h
      · exact ⟨⟨by omega,Classical.not_not.1 h2⟩,by omega,by omega⟩
theorem plainS (s:List UInt8) (M:Mem) (hs:s.length≤maxLen):Meets Proofs.Tryz.prog 111 [.v (.int .i64 65581),.v (.string ⟨s.toArray⟩)] M fun r _ _=>r = .v (.int .i64 (sumT s)):=Pt.plain 65581 s M (by decide) (by decide) hs
theorem rprintS (s:List UInt8) (M:Mem) (hs:s.length≤maxLen):Meets Proofs.Tryz.prog 83 [.v (.int .i64 65581),.v (.string ⟨s.toArray⟩)] M fun r _ _=>r = .v (.int .i64 (sumT s)):=Pt.rprint 65581 s M (by decide) (by decide) hs

theorem one (x:It) (M:Mem):Meets Proofs.Tryz.prog 163 [itV x] M fun r _ _=>r = .v (.int .i64 (oneE x)):=by
  refine Meets.of_body [0,1,2,3,8,15] Proofs.Tryz.func163 rfl (by kernel_rfl) rfl fun w=>?_
  generalize hc:oneE x=c
  unfold oneE at hc
  by_cases h1:64 < x.2.2.1.length
  · rw [if_pos h1] at hc
    subst hc
    have c1:(64 < (x.2.2.1.length:Int))=True:=eq_true (by omega)
    simp only [Proofs.Tryz.f163,itV,zz,zq,↓reduceIte,zx,zj,zy,zk,zw,zb,reduceCtorEq,zd,zf,zp,zm,zh,zu,zt,zn,zc,zl,za,ze,zo,zg,nzs,c1]
  rw [if_neg h1] at hc
  have c1:(64 < (x.2.2.1.length:Int))=False:=eq_false (by omega)
  simp only [Proofs.Tryz.f163,itV,zz,zq,↓reduceIte,zx,zj,zy,zk,zw,zb,reduceCtorEq,zd,zf,zp,zm,zh,zu,zt,zn,zc,zl,za,ze,zo,zg,nzs,c1]
  refine DrawK.quiet (by kernel_rfl) (by kernel_rfl) ?_
  simp only [zz,zq,↓reduceIte,zx,zj,zy,zk,zw,zb,reduceCtorEq,zd,zf,zp,zm,zh,zu,zt,zn,zc,zl,za,ze,zo,zg,nzs]
  refine ⟨_,⟨⟨rfl,rfl⟩,plainS x.2.2.1 M (by simp only [maxLen]; omega)⟩,?_⟩
  by_cases h2:x.1=sumT x.2.2.1
  rotate_left
  · rw [if_pos h2] at hc
    subst hc
    have c2:(x.1=sumT x.2.2.1)=False:=eq_false h2
    simp only [zz,zq,↓reduceIte,zx,zj,zy,zk,zw,zb,reduceCtorEq,zd,zf,zp,zm,zh,zu,zt,zn,zc,zl,za,ze,zo,zg,nzs,c2]
  rw [if_neg (fun e=>e h2)] at hc
  have c2:(x.1=sumT x.2.2.1)=True:=eq_true h2
  simp only [zz,zq,↓reduceIte,zx,zj,zy,zk,zw,zb,reduceCtorEq,zd,zf,zp,zm,zh,zu,zt,zn,zc,zl,za,ze,zo,zg,nzs,c2]
  by_cases k1:x.2.1 < 0
  · rw [if_pos (.inl (.inl k1))] at hc
    subst hc
    have d1:(x.2.1 < 0)=True:=eq_true k1
    simp only [zz,zq,↓reduceIte,zx,zj,zy,zk,zw,zb,reduceCtorEq,zd,zf,zp,zm,zh,zu,zt,zn,zc,zl,za,ze,zo,zg,nzs,d1]
    exact fun h=>by omega
  have d1:(x.2.1 < 0)=False:=eq_false k1
  by_cases k2:64≤x.2.1
  · rw [if_pos (.inl (.inr k2))] at hc
    subst hc
    have d2:(64≤x.2.1)=True:=eq_true k2
    simp only [zz,zq,↓reduceIte,zx,zj,zy,zk,zw,zb,reduceCtorEq,zd,zf,zp,zm,zh,zu,zt,zn,zc,zl,za,ze,zo,zg,nzs,d1,d2]
    exact fun h=>by omega
  have d2:(64≤x.2.1)=False:=eq_false k2
  by_cases k3:x.2.2.2 < 1
  · rw [if_pos (.inr (.inl k3))] at hc
    subst hc
    have d3:(x.2.2.2 < 1)=True:=eq_true k3
    simp only [zz,zq,↓reduceIte,zx,zj,zy,zk,zw,zb,reduceCtorEq,zd,zf,zp,zm,zh,zu,zt,zn,zc,zl,za,ze,zo,zg,nzs,d1,d2,d3]
    exact fun h=>by omega
  have d3:(x.2.2.2 < 1)=False:=eq_false k3
  by_cases k4:1000000 < x.2.2.2
  · rw [if_pos (.inr (.inr k4))] at hc
    subst hc
    have d4:(1000000 < x.2.2.2)=True:=eq_true k4
    simp only [zz,zq,↓reduceIte,zx,zj,zy,zk,zw,zb,reduceCtorEq,zd,zf,zp,zm,zh,zu,zt,zn,zc,zl,za,ze,zo,zg,nzs,d1,d2,d3,d4]
    exact fun h=>by omega
  have d4:(1000000 < x.2.2.2)=False:=eq_false k4
  rw [if_neg (by omega)] at hc
  subst hc
  simp only [zz,zq,↓reduceIte,zx,zj,zy,zk,zw,zb,reduceCtorEq,zd,zf,zp,zm,zh,zu,zt,zn,zc,zl,za,ze,zo,zg,nzs,d1,d2,d3,d4]

def cmpT (a b:It):Int:=if a.1=b.1 then a.2.1 - b.2.1 else a.1 - b.1
theorem cmp (a b:It) (M:Mem) (h:(0≤a.1∧a.1≤2147483647)∧(0≤b.1∧b.1≤2147483647)∧(0≤a.2.1∧a.2.1 < 64)∧(0≤b.2.1∧b.2.1 < 64)) :
    Meets Proofs.Tryz.prog 142 [itV a,itV b] M fun r _ _=>r = .v (.int .i64 (cmpT a b)):=by
  refine Meets.of_body [0,1,2,3,4,9] Proofs.Tryz.func142 rfl (by kernel_rfl) rfl fun w=>?_
  unfold cmpT
  by_cases h1:a.1=b.1
  · have c1:(a.1=b.1)=True:=eq_true h1
    simp only [Proofs.Tryz.f142,itV,zz,zq,↓reduceIte,zx,zj,zy,zk,zw,zb,reduceCtorEq,zd,zf,zp,zm,zh,zu,zt,zn,zc,zl,za,ze,zo,zg,nzs,c1,inK,lo,hi]
    omega
  · have c1:(a.1=b.1)=False:=eq_false h1
    simp only [Proofs.Tryz.f142,itV,zz,zq,↓reduceIte,zx,zj,zy,zk,zw,zb,reduceCtorEq,zd,zf,zp,zm,zh,zu,zt,zn,zc,zl,za,ze,zo,zg,nzs,c1,inK,lo,hi]
    exact ⟨by omega,by omega⟩

theorem idxB {α:Type} (q0 q1 q2 q3:α→Value) (p:α→Bool) (f:Nat) (caps:List SV) (hcaps:SV.concs caps=true) (y:Value) (l:List α) (M:Mem) (hy:RowM M y 4 (l.map (fun x=>[q0 x,q1 x,q2 x,q3 x])))
    (hf : ∀ x ∈ l,Meets Proofs.Tryz.prog f (.agg [.v (q0 x),.v (q1 x),.v (q2 x),.v (q3 x)] :: caps) M fun r _ _=>r = .v (.bool (p x))) :
    Meets Proofs.Tryz.prog 139 [.v y,.fn f caps] M fun r _ _=>r = .v (.int .i64 (fidx p l 0)):=by
  refine Meets.of_body [0,1,4,5,7,8,9,16] Proofs.Tryz.func139 rfl (by kernel_rfl) (by simp only [SV.concs,SV.conc,hcaps,Bool.and_self]) fun w=>?_
  generalize hc:fidx p l 0=c
  have hyl:=hy.len_le
  rw [List.length_map] at hyl
  simp only [Proofs.Tryz.f139,zz,zq,↓reduceIte,zx,zj,zy,zk,zw,zb,reduceCtorEq,zd,zf,zp,zm,zh,zu,zt,zn,zc,zl,za,ze,zo,zg,hy.len,hy.sl,List.length_map]
  refine LoopK.go (X:=Nat×Nat) (fun x=>([(0,true,.v y),(1,true,.fn f caps),(7,true,.v (.int .i64 l.length)),(8,true,.v (.int .i64 x.2))],[],M))
    (fun x=>x.1+x.2=l.length∧fidx p (l.drop x.2) x.2=c) (fun x=>x.1) (l.length,0) ⟨rfl,hc⟩ (Ent.of ?_) ?_
  · simp only [zq,↓reduceIte,zx,zj,zy,zk,zw,zb,reduceCtorEq,zd,zf,zp,zm,zh,zu,zt,zn,zc,zl,za,ze,zo,zg]
  rintro ⟨fu,i⟩ ⟨h1,h2⟩
  simp only at h1 h2
  by_cases hil:i < l.length
  · have c1:((i:Int) < (l.length:Int))=True:=eq_true (by omega)
    obtain ⟨a,hx,hd⟩:=l_drop_at (l:=l) (i:=i) hil
    rw [hd] at h2
    simp only [fidx] at h2
    have g0:=hy.cell (i:=i) (e:=[q0 a,q1 a,q2 a,q3 a]) (by rw [List.getElem?_map,hx]; rfl) (off:=0) (by omega)
    have g1:=hy.cell (i:=i) (e:=[q0 a,q1 a,q2 a,q3 a]) (by rw [List.getElem?_map,hx]; rfl) (off:=1) (by omega)
    have g2:=hy.cell (i:=i) (e:=[q0 a,q1 a,q2 a,q3 a]) (by rw [List.getElem?_map,hx]; rfl) (off:=2) (by omega)
    have g3:=hy.cell (i:=i) (e:=[q0 a,q1 a,q2 a,q3 a]) (by rw [List.getElem?_map,hx]; rfl) (off:=3) (by omega)
    have i0:=hy.ix (i:=(i:Int)) (by omega) (by rw [List.length_map]; omega)
    simp only [List.getD_cons_zero,List.getD_cons_succ] at g0 g1 g2 g3
    simp only [zz,zq,↓reduceIte,zx,zj,zy,zk,zw,zb,reduceCtorEq,zd,zf,zp,zm,zh,zu,zt,zn,zc,zl,za,ze,zo,zg,nzs,c1,hy.len,hy.sl,List.length_map,i0,i0.2,g0.1,g0.2.1,g1.1,g1.2.1,g2.1,g2.2.1,g3.1,g3.2.1]
    refine CallK.pure ⟨by simp only [SV.concs,SV.conc,hcaps,Bool.and_self],rfl⟩ rfl (hf a (List.mem_of_getElem? hx)) ?_
    cases hp:p a with
    | true=>
      rw [hp,if_pos rfl] at h2
      subst h2
      simp only [zz,zq,↓reduceIte,zx,zj,zy,zk,zw,zb,reduceCtorEq,zd,zf,zp,zm,zh,zu,zt,zn,zc,zl,za,ze,zo,zg,nzs]
    | false=>
      rw [hp,if_neg (by simp)] at h2
      simp only [zz,zq,↓reduceIte,zx,zj,zy,zk,zw,zb,reduceCtorEq,zd,zf,zp,zm,zh,zu,zt,zn,zc,zl,za,ze,zo,zg,nzs,inK,lo,hi]
      refine ⟨by omega,(fu - 1,i+1),⟨⟨by simp only; omega,h2⟩,by simp only; omega⟩,Ent.of ?_⟩
      simp only [zq,↓reduceIte,zx,zj,zy,zk,zw,zb,reduceCtorEq,zd,zf,zp,zm,zh,zu,zt,zn,zc,zl,za,ze,zo,zg,Int.natCast_add]
  · have c1:((i:Int) < (l.length:Int))=False:=eq_false (by omega)
    have hd:l.drop i=[]:=List.drop_eq_nil_of_le (by omega)
    rw [hd] at h2
    simp only [fidx] at h2
    subst h2
    simp only [zz,zq,↓reduceIte,zx,zj,zy,zk,zw,zb,reduceCtorEq,zd,zf,zp,zm,zh,zu,zt,zn,zc,zl,za,ze,zo,zg,c1]

theorem ctsB {α:Type} (q0 q1 q2 q3:α→Value) (p:α→Bool) (f:Nat) (caps:List SV) (hcaps:SV.concs caps=true) (y:Value) (l:List α) (M:Mem) (hy:RowM M y 4 (l.map (fun x=>[q0 x,q1 x,q2 x,q3 x])))
    (hf : ∀ x ∈ l,Meets Proofs.Tryz.prog f (.agg [.v (q0 x),.v (q1 x),.v (q2 x),.v (q3 x)] :: caps) M fun r _ _=>r = .v (.bool (p x))) :
    Meets Proofs.Tryz.prog 164 [.v y,.fn f caps] M fun r _ _=>r = .v (.bool (l.any p)):=by
  refine Meets.of_body [0,1,4] Proofs.Tryz.func164 rfl (by kernel_rfl) (by simp only [SV.concs,SV.conc,hcaps,Bool.and_self]) fun w=>?_
  simp only [Proofs.Tryz.f164,zz,zq,↓reduceIte,zx,zj,zy,zk,zw,zb,reduceCtorEq,zd,zf,zp,zm,zh,zu,zt,zn,zc,zl,za,ze,zo,zg]
  refine CallK.pure ⟨by simp only [SV.concs,SV.conc,hcaps,Bool.and_self],rfl⟩ rfl (idxB q0 q1 q2 q3 p f caps hcaps y l M hy hf) ?_
  rw [← fidx_any p l 0]
  simp only [zz,zq,↓reduceIte,zx,zj,zy,zk,zw,zb,reduceCtorEq,zd,zf,zp,zm,zh,zu,zt,zn,zc,zl,za,ze,zo,zg]


theorem checkC (b:Nat) (t x:It) (M:Mem) (hb:BoxM M b (encT t)):Meets Proofs.Tryz.prog 165 [itV x,.v (ptrV b)] M fun r _ _=>r = .v (.bool (decide (x.2.2.1=t.2.2.1))):=by
  refine Meets.of_body [0,1,2,3] Proofs.Tryz.func165 rfl (by kernel_rfl) rfl fun w=>?_
  have g2:=hb.at' (j:=2) rfl
  simp only [Proofs.Tryz.f165,itV,zz,zq,↓reduceIte,zx,zj,zy,zk,zw,zb,reduceCtorEq,zd,zf,zp,zm,zh,zu,zt,zn,zc,zl,za,ze,zo,zg,nzs,g2.1,g2.2,List.toArray_eq_iff]

def bad:Option It→It→Bool
  | none,_=>false
  | some p,x=>decide (0≤cmpT p x)
def goB:List It→List It→Int
  | _,[]=>0
  | pre,x :: r=>if oneE x≠0 then oneE x else if bad pre.getLast? x=true then 3 else if (pre.any fun y=>decide (y.2.2.1=x.2.2.1))=true then 5 else goB (pre++[x]) r
def bagE (l:List It):Int:=if 64 < l.length then 2 else goB [] l
/-- the four cells of an item that lies in a known row -/
theorem it_at {M:Mem} {v:Value} {l:List It} {i:Nat} {r:It} (h:RowM M v 4 (l.map encT)) (hx:l[i]? = some r) :
    ((elE M v 4 i 0 = .int .i64 r.1∧okE M v 4 i 0)∧(elE M v 4 i 1 = .int .i64 r.2.1∧okE M v 4 i 1))∧((elE M v 4 i 2 = .string ⟨r.2.2.1.toArray⟩∧okE M v 4 i 2)∧(elE M v 4 i 3 = .int .i64 r.2.2.2∧okE M v 4 i 3))∧ixOk v (i:Int):=by
  have he:(l.map encT)[i]? = some (encT r):=by rw [List.getElem?_map,hx]; rfl
  have g0:=h.cell he (off:=0) (by omega)
  have g1:=h.cell he (off:=1) (by omega)
  have g2:=h.cell he (off:=2) (by omega)
  have g3:=h.cell he (off:=3) (by omega)
  refine ⟨⟨⟨g0.1,g0.2.1⟩,⟨g1.1,g1.2.1⟩⟩,⟨⟨g2.1,g2.2.1⟩,⟨g3.1,g3.2.1⟩⟩,?_⟩
  have hi:=(List.getElem?_eq_some_iff.1 hx).1
  exact h.ix (i:=(i:Int)) (by omega) (by rw [List.length_map]; omega)

theorem check (y:Value) (l:List It) (M:Mem) (hy:RowM M y 4 (l.map encT)) :
    Meets Proofs.Tryz.prog 124 [.v y] M fun r _ _=>r = .v (.int .i64 (bagE l)):=by
  refine Meets.of_body [0,2,3,4,5,8,9,10,11,12,19,32,37] Proofs.Tryz.func124 rfl (by kernel_rfl) rfl fun w=>?_
  generalize hc:bagE l=c
  have hyl:=hy.len_le
  rw [List.length_map] at hyl
  by_cases hg:64 < l.length
  · rw [bagE,if_pos hg] at hc
    subst hc
    have c1:(64 < (l.length:Int))=True:=eq_true (by omega)
    simp only [Proofs.Tryz.f124,zz,zq,↓reduceIte,zx,zj,zy,zk,zw,zb,reduceCtorEq,zd,zf,zp,zm,zh,zu,zt,zn,zc,zl,za,ze,zo,zg,nzs,hy.len,hy.sl,List.length_map,c1]
  rw [bagE,if_neg hg] at hc
  have c1:(64 < (l.length:Int))=False:=eq_false (by omega)
  simp only [Proofs.Tryz.f124,zz,zq,↓reduceIte,zx,zj,zy,zk,zw,zb,reduceCtorEq,zd,zf,zp,zm,zh,zu,zt,zn,zc,zl,za,ze,zo,zg,nzs,hy.len,hy.sl,List.length_map,c1]
  refine LoopK.go (X:=Nat×Nat×Mem) (fun x=>([(0,true,.v y),(9,true,.v y),(10,true,.v (.int .i64 l.length)),(11,true,.v (.int .i64 x.2.1))],[],x.2.2))
    (fun x=>((x.1+x.2.1=l.length∧M.le x.2.2) ∧ ∀ z ∈ l.take x.2.1,oneE z=0)∧goB (l.take x.2.1) (l.drop x.2.1)=c) (fun x=>x.1) (l.length,0,M) ⟨⟨⟨rfl,Mem.le.refl M⟩,by simp⟩,hc⟩ (Ent.of ?_) ?_
  · simp only [zq,↓reduceIte,zx,zj,zy,zk,zw,zb,reduceCtorEq,zd,zf,zp,zm,zh,zu,zt,zn,zc,zl,za,ze,zo,zg]
  rintro ⟨f,i,M1⟩ ⟨⟨⟨h1,hM⟩,hpre⟩,h2⟩
  simp only at h1 h2 hM hpre
  have hy1:=hy.le hM
  by_cases hil:i < l.length
  rotate_left
  · have d1:((i:Int) < (l.length:Int))=False:=eq_false (by omega)
    rw [List.drop_eq_nil_of_le (by omega)] at h2
    simp only [goB] at h2
    subst h2
    simp only [zz,zq,↓reduceIte,zx,zj,zy,zk,zw,zb,reduceCtorEq,zd,zf,zp,zm,zh,zu,zt,zn,zc,zl,za,ze,zo,zg,nzs,d1]
  have d1:((i:Int) < (l.length:Int))=True:=eq_true (by omega)
  obtain ⟨x,hx,hd⟩:=l_drop_at (l:=l) (i:=i) hil
  rw [hd] at h2
  simp only [goB] at h2
  obtain ⟨⟨g0,g1⟩,⟨g2,g3⟩,i0⟩:=it_at hy1 hx
  simp only [zz,zq,↓reduceIte,zx,zj,zy,zk,zw,zb,reduceCtorEq,zd,zf,zp,zm,zh,zu,zt,zn,zc,zl,za,ze,zo,zg,nzs,d1,hy.len,hy.sl,List.length_map,i0,i0.2,g0.1,g0.2,g1.1,g1.2,g2.1,g2.2,g3.1,g3.2]
  refine CallK.pure ⟨rfl,rfl⟩ rfl (one x M1) ?_
  by_cases he:oneE x=0
  rotate_left
  · have c2:(oneE x=0)=False:=eq_false he
    rw [if_pos he] at h2
    subst h2
    simp only [zz,zq,↓reduceIte,zx,zj,zy,zk,zw,zb,reduceCtorEq,zd,zf,zp,zm,zh,zu,zt,zn,zc,zl,za,ze,zo,zg,nzs,c2]
  rw [if_neg (fun e=>e he)] at h2
  simp only [zz,zq,↓reduceIte,zx,zj,zy,zk,zw,zb,reduceCtorEq,zd,zf,zp,zm,zh,zu,zt,zn,zc,zl,za,ze,zo,zg,nzs,he]
  have hox:=oneE_ok he
  have hsx:=sumT_rng x.2.2.1
  have hs:=hy1.sub (lo:=0) (hi:=i) (by omega) (by rw [List.length_map]; omega)
  rw [List.drop_zero,Nat.sub_zero,← List.map_take] at hs
  have hcap:=hy1.1.2.2.1
  rw [hy1.len,List.length_map] at hcap
  refine DrawK.ent (X:=Unit) (fun _=>True) (fun _=>([(0,true,.v y),(3,true,.v (.int .i64 i)),(4,true,.ptr 32 0 0 0),(9,true,.v y),(10,true,.v (.int .i64 l.length)),(11,true,.v (.int .i64 i)),(32,true,.v (.bool (bad (l.take i).getLast? x)))],[(32,.box [.v (.int .i64 x.1),.v (.int .i64 x.2.1),.v (.string ⟨x.2.2.1.toArray⟩),.v (.int .i64 x.2.2.2)] none)],M1)) ?_ fun _ _=>?_
  · by_cases hi0:i=0
    · subst hi0
      refine DrawK.quiet (by kernel_rfl) (by kernel_rfl) ?_
      simp only [zz,zq,↓reduceIte,zx,zj,zy,zk,zw,zb,reduceCtorEq,zd,zf,zp,zm,zh,zu,zt,zn,zc,zl,za,ze,zo,zg,nzs,za,Int.lt_irrefl]
      refine ⟨.v (.int .i64 0),?_⟩
      simp only [zz,zq,↓reduceIte,zx,zj,zy,zk,zw,zb,reduceCtorEq,zd,zf,zp,zm,zh,zu,zt,zn,zc,zl,za,ze,zo,zg,nzs]
      refine ⟨(),Ent.of ?_⟩
      simp only [zq,↓reduceIte,zx,zj,zy,zk,zw,zb,reduceCtorEq,zd,zf,zp,zm,zh,zu,zt,zn,zc,zl,za,ze,zo,zg,List.take_zero,List.getLast?_nil,bad]
    · refine DrawK.quiet (by kernel_rfl) (by kernel_rfl) ?_
      have e1:(0 < (i:Int))=True:=eq_true (by omega)
      have e2:(i:Int) - 1=((i - 1:Nat):Int):=by omega
      have hgl:(l.take i).getLast? = l[i-1]?:=by
        rw [List.getLast?_eq_getElem?,List.length_take,List.getElem?_take,if_pos (by omega)]
        congr 1
        omega
      obtain ⟨p,hp⟩ : ∃ p,l[i-1]? = some p:=⟨_,List.getElem?_eq_getElem (by omega)⟩
      obtain ⟨⟨k0,k1⟩,⟨k2,k3⟩,j0⟩:=it_at hy1 hp
      have hop:=oneE_ok (hpre p (by
        rw [List.mem_iff_getElem?]
        exact ⟨i - 1,by rw [List.getElem?_take,if_pos (by omega),hp]⟩))
      have hsp:=sumT_rng p.2.2.1
      rw [hgl,hp]
      simp only [zz,zq,↓reduceIte,zx,zj,zy,zk,zw,zb,reduceCtorEq,zd,zf,zp,zm,zh,zu,zt,zn,zc,zl,za,ze,zo,zg,nzs,e1,e2,j0,j0.2,k0.1,k0.2,k1.1,k1.2,k2.1,k2.2,k3.1,k3.2,inK,lo,hi]
      refine ⟨by omega,_,⟨⟨rfl,rfl⟩,cmp p x M1 ⟨by omega,by omega,by omega,by omega⟩⟩,?_⟩
      simp only [zz,zq,↓reduceIte,zx,zj,zy,zk,zw,zb,reduceCtorEq,zd,zf,zp,zm,zh,zu,zt,zn,zc,zl,za,ze,zo,zg,nzs]
      refine ⟨(),Ent.of ?_⟩
      simp only [zq,↓reduceIte,zx,zj,zy,zk,zw,zb,reduceCtorEq,zd,zf,zp,zm,zh,zu,zt,zn,zc,zl,za,ze,zo,zg,bad]
  cases hb:bad (l.take i).getLast? x with
  | true=>
    rw [if_pos hb] at h2
    subst h2
    simp only [zz,zq,↓reduceIte,zx,zj,zy,zk,zw,zb,reduceCtorEq,zd,zf,zp,zm,zh,zu,zt,zn,zc,zl,za,ze,zo,zg,nzs]
  | false=>
  rw [if_neg (by simp only [hb]; decide)] at h2
  simp only [zz,zq,↓reduceIte,zx,zj,zy,zk,zw,zb,reduceCtorEq,zd,zf,zp,zm,zh,zu,zt,zn,zc,zl,za,ze,zo,zg,nzs,hy.len,hy.sl]
  refine ⟨by omega,?_⟩
  refine stepK.mkFn rfl rfl ?_
  simp only [zz,zq,↓reduceIte,zx,zj,zy,zk,zw,zb,reduceCtorEq,zd,zf,zp,zm,zh,zu,zt,zn,zc,zl,za,ze,zo,zg,nzs]
  refine CallK.pubB (k:=32) rfl rfl fun bb M2 hM2 hb2=>?_
  have hs2:=hs.le hM2
  simp only [shA1,shA2,zz,zq,↓reduceIte,zx,zj,zy,zk,zw,zb,reduceCtorEq,zd,zf,zp,zm,zh,zu,zt,zn,zc,zl,za,ze,zo,zg]
  refine CallK.pure ⟨rfl,rfl⟩ rfl (ctsB (α:=It) (fun x=>.int .i64 x.1) (fun x=>.int .i64 x.2.1) (fun x=>.string ⟨x.2.2.1.toArray⟩) (fun x=>.int .i64 x.2.2.2) (fun u=>decide (u.2.2.1=x.2.2.1)) _ _ rfl _ (l.take i) M2 hs2 (fun z _=>checkC bb x z M2 hb2)) ?_
  cases ha:(l.take i).any fun u=>decide (u.2.2.1=x.2.2.1) with
  | true=>
    rw [if_pos ha] at h2
    subst h2
    simp only [zz,zq,↓reduceIte,zx,zj,zy,zk,zw,zb,reduceCtorEq,zd,zf,zp,zm,zh,zu,zt,zn,zc,zl,za,ze,zo,zg,nzs]
  | false=>
    rw [if_neg (by simp only [ha]; decide)] at h2
    simp only [zz,zq,↓reduceIte,zx,zj,zy,zk,zw,zb,reduceCtorEq,zd,zf,zp,zm,zh,zu,zt,zn,zc,zl,za,ze,zo,zg,nzs,inK,lo,hi]
    refine ⟨by omega,(f - 1,i+1,M2),⟨⟨⟨⟨by simp only; omega,hM.trans hM2⟩,?_⟩,?_⟩,by simp only; omega⟩,Ent.of ?_⟩
    · simp only
      intro z hz
      rw [List.take_add_one,hx] at hz
      rcases List.mem_append.1 hz with hz | hz
      · exact hpre z hz
      · simp only [Option.toList_some,List.mem_singleton] at hz
        subst hz
        exact he
    · simp only
      rw [List.take_add_one,hx]
      exact h2
    · simp only [zq,↓reduceIte,zx,zj,zy,zk,zw,zb,reduceCtorEq,zd,zf,zp,zm,zh,zu,zt,zn,zc,zl,za,ze,zo,zg,Int.natCast_add]

/-- the item of an id -/
def isId (id:Bool×Int×Int) (x:It):Bool:=id.1 && (decide (x.1=id.2.1) && decide (x.2.1=id.2.2))
def idV (id:Bool×Int×Int):SV:=.agg [.v (.bool id.1),.v (.int .i64 id.2.1),.v (.int .i64 id.2.2)]
theorem findC (b:Nat) (id:Bool×Int×Int) (x:It) (M:Mem) (hb:BoxM M b [.bool id.1,.int .i64 id.2.1,.int .i64 id.2.2]):Meets Proofs.Tryz.prog 144 [itV x,.v (ptrV b)] M fun r _ _=>r = .v (.bool (isId id x)):=by
  refine Meets.of_body [0,1,2,3] Proofs.Tryz.func144 rfl (by kernel_rfl) rfl fun w=>?_
  have g0:=hb.at' (j:=0) rfl
  have g1:=hb.at' (j:=1) rfl
  have g2:=hb.at' (j:=2) rfl
  unfold isId
  simp only [Proofs.Tryz.f144,itV,zz,zq,↓reduceIte,zx,zj,zy,zk,zw,zb,reduceCtorEq,zd,zf,zp,zm,zh,zu,zt,zn,zc,zl,za,ze,zo,zg,nzs,g0.1,g0.2,g1.1,g1.2,g2.1,g2.2]
  cases h1:id.1 with
  | false=>simp only [zz,zq,↓reduceIte,zx,zj,zy,zk,zw,zb,reduceCtorEq,zd,zf,zp,zm,zh,zu,zt,zn,zc,zl,za,ze,zo,zg,nzs,Bool.false_and]
  | true=>
    by_cases h2:x.1=id.2.1
    · by_cases h3:x.2.1=id.2.2 <;> simp [h2,h3]
    · simp [h2]
theorem find (y:Value) (l:List It) (id:Bool×Int×Int) (M:Mem) (hy:RowM M y 4 (l.map encT)) :
    Meets Proofs.Tryz.prog 110 [.v y,idV id] M fun r _ _=>r = .v (.int .i64 (fidx (isId id) l 0)):=by
  refine Meets.of_body [0,1,3,4] Proofs.Tryz.func110 rfl (by kernel_rfl) rfl fun w=>?_
  simp only [Proofs.Tryz.f110,idV,zz,zq,↓reduceIte,zx,zj,zy,zk,zw,zb,reduceCtorEq,zd,zf,zp,zm,zh,zu,zt,zn,zc,zl,za,ze,zo,zg,nzs]
  refine stepK.mkFn rfl rfl ?_
  simp only [zz,zq,↓reduceIte,zx,zj,zy,zk,zw,zb,reduceCtorEq,zd,zf,zp,zm,zh,zu,zt,zn,zc,zl,za,ze,zo,zg,nzs]
  refine CallK.pubB (k:=24) rfl rfl fun bb M2 hM2 hb2=>?_
  simp only [shA1,shA2,zz,zq,↓reduceIte,zx,zj,zy,zk,zw,zb,reduceCtorEq,zd,zf,zp,zm,zh,zu,zt,zn,zc,zl,za,ze,zo,zg]
  refine CallK.pure ⟨rfl,rfl⟩ rfl (idxB (α:=It) (fun x=>.int .i64 x.1) (fun x=>.int .i64 x.2.1) (fun x=>.string ⟨x.2.2.1.toArray⟩) (fun x=>.int .i64 x.2.2.2) (isId id) _ _ rfl _ l M2 (hy.le hM2) (fun z _=>findC bb id z M2 hb2)) ?_
  simp only [zz,zq,↓reduceIte,zx,zj,zy,zk,zw,zb,reduceCtorEq,zd,zf,zp,zm,zh,zu,zt,zn,zc,zl,za,ze,zo,zg,nzs]
theorem item (y:Value) (l:List It) (id:Bool×Int×Int) (M:Mem) (hy:RowM M y 4 (l.map encT)) :
    Meets Proofs.Tryz.prog 80 [.v y,idV id] M fun r _ _=>r = .v (.int .i64 (fidx (isId id) l 0)):=by
  refine Meets.of_body [0,1,3,4,5,6,7,8,9,10,20] Proofs.Tryz.func80 rfl (by kernel_rfl) rfl fun w=>?_
  generalize hc:fidx (isId id) l 0=c
  have hyl:=hy.len_le
  rw [List.length_map] at hyl
  simp only [Proofs.Tryz.f80,idV,zz,zq,↓reduceIte,zx,zj,zy,zk,zw,zb,reduceCtorEq,zd,zf,zp,zm,zh,zu,zt,zn,zc,zl,za,ze,zo,zg,hy.len,hy.sl,List.length_map]
  refine LoopK.go (X:=Nat×Nat) (fun x=>([(0,true,.v y),(3,true,.ptr 24 0 0 0),(7,true,.v y),(8,true,.v (.int .i64 l.length)),(9,true,.v (.int .i64 x.2))],[(24,.box [.v (.bool id.1),.v (.int .i64 id.2.1),.v (.int .i64 id.2.2)] none)],M))
    (fun x=>x.1+x.2=l.length∧fidx (isId id) (l.drop x.2) x.2=c) (fun x=>x.1) (l.length,0) ⟨rfl,hc⟩ (Ent.of ?_) ?_
  · simp only [zq,↓reduceIte,zx,zj,zy,zk,zw,zb,reduceCtorEq,zd,zf,zp,zm,zh,zu,zt,zn,zc,zl,za,ze,zo,zg]
  rintro ⟨f,i⟩ ⟨h1,h2⟩
  simp only at h1 h2
  by_cases hil:i < l.length
  rotate_left
  · have d1:((i:Int) < (l.length:Int))=False:=eq_false (by omega)
    rw [List.drop_eq_nil_of_le (by omega)] at h2
    simp only [fidx] at h2
    subst h2
    simp only [zz,zq,↓reduceIte,zx,zj,zy,zk,zw,zb,reduceCtorEq,zd,zf,zp,zm,zh,zu,zt,zn,zc,zl,za,ze,zo,zg,nzs,d1]
  have d1:((i:Int) < (l.length:Int))=True:=eq_true (by omega)
  obtain ⟨x,hx,hd⟩:=l_drop_at (l:=l) (i:=i) hil
  rw [hd] at h2
  simp only [fidx] at h2
  obtain ⟨⟨g0,g1⟩,⟨g2,g3⟩,i0⟩:=it_at hy hx
  simp only [zz,zq,↓reduceIte,zx,zj,zy,zk,zw,zb,reduceCtorEq,zd,zf,zp,zm,zh,zu,zt,zn,zc,zl,za,ze,zo,zg,nzs,d1,hy.len,hy.sl,List.length_map,i0,i0.2,g0.1,g0.2,g1.1,g1.2,g2.1,g2.2,g3.1,g3.2]
  refine ⟨fun h3=>?_,fun h3=>?_⟩
  · rw [if_pos (by unfold isId; rw [h3.1,h3.2.1,h3.2.2]; simp)] at h2
    rw [h2]
  · rw [if_neg (by
      unfold isId
      intro h4
      simp only [Bool.and_eq_true,decide_eq_true_eq] at h4
      exact h3 h4.1 h4.2.1.symm h4.2.2.symm)] at h2
    refine ⟨by simp only [inK,lo,hi]; omega,(f - 1,i+1),⟨⟨by simp only; omega,h2⟩,by simp only; omega⟩,Ent.of ?_⟩
    simp only [zq,↓reduceIte,zx,zj,zy,zk,zw,zb,reduceCtorEq,zd,zf,zp,zm,zh,zu,zt,zn,zc,zl,za,ze,zo,zg,Int.natCast_add]
theorem within (x a b:Int) (M:Mem):Meets Proofs.Tryz.prog 35 [.v (.int .i64 x),.v (.int .i64 a),.v (.int .i64 b)] M fun r _ _=>r = .v (.bool (decide (a≤x∧x≤b))):=by
  refine Meets.of_body [0,1,2,6] Proofs.Tryz.func35 rfl (by kernel_rfl) rfl fun w=>?_
  simp only [Proofs.Tryz.f35,zz,zq,↓reduceIte,zx,zj,zy,zk,zw,zb,reduceCtorEq,zd,zf,zp,zm,zh,zu,zt,zn,zc,zl,za,ze,zo,zg]
  by_cases h1:a≤x <;> by_cases h2:x≤b <;> simp [h1,h2]
theorem rbag (y:Value) (l:List It) (M:Mem) (hy:RowM M y 4 (l.map encT)) :
    Meets Proofs.Tryz.prog 115 [.v y] M fun r _ _=>r = .v (.int .i64 (bagE l)):=by
  refine Meets.of_body [0,2,3,4,6,9,10,11,12,13,20,26,36,71,74,75,76,77,84] Proofs.Tryz.func115 rfl (by kernel_rfl) rfl fun w=>?_
  generalize hc:bagE l=c
  have hyl:=hy.len_le
  rw [List.length_map] at hyl
  by_cases hg:64 < l.length
  · rw [bagE,if_pos hg] at hc
    subst hc
    have c1:(64 < (l.length:Int))=True:=eq_true (by omega)
    simp only [Proofs.Tryz.f115,zz,zq,↓reduceIte,zx,zj,zy,zk,zw,zb,reduceCtorEq,zd,zf,zp,zm,zh,zu,zt,zn,zc,zl,za,ze,zo,zg,nzs,hy.len,hy.sl,List.length_map,c1]
  rw [bagE,if_neg hg] at hc
  have c1:(64 < (l.length:Int))=False:=eq_false (by omega)
  simp only [Proofs.Tryz.f115,zz,zq,↓reduceIte,zx,zj,zy,zk,zw,zb,reduceCtorEq,zd,zf,zp,zm,zh,zu,zt,zn,zc,zl,za,ze,zo,zg,nzs,hy.len,hy.sl,List.length_map,c1]
  refine LoopK.go (X:=Nat×Nat) (fun x=>([(0,true,.v y),(10,true,.v y),(11,true,.v (.int .i64 l.length)),(12,true,.v (.int .i64 x.2))],[],M))
    (fun x=>(x.1+x.2=l.length ∧ ∀ z ∈ l.take x.2,oneE z=0)∧goB (l.take x.2) (l.drop x.2)=c) (fun x=>x.1) (l.length,0) ⟨⟨rfl,by simp⟩,hc⟩ (Ent.of ?_) ?_
  · simp only [zq,↓reduceIte,zx,zj,zy,zk,zw,zb,reduceCtorEq,zd,zf,zp,zm,zh,zu,zt,zn,zc,zl,za,ze,zo,zg]
  rintro ⟨f,i⟩ ⟨⟨h1,hpre⟩,h2⟩
  simp only at h1 h2 hpre
  by_cases hil:i < l.length
  rotate_left
  · have d1:((i:Int) < (l.length:Int))=False:=eq_false (by omega)
    rw [List.drop_eq_nil_of_le (by omega)] at h2
    simp only [goB] at h2
    subst h2
    simp only [zz,zq,↓reduceIte,zx,zj,zy,zk,zw,zb,reduceCtorEq,zd,zf,zp,zm,zh,zu,zt,zn,zc,zl,za,ze,zo,zg,nzs,d1]
  have d1:((i:Int) < (l.length:Int))=True:=eq_true (by omega)
  obtain ⟨x,hx,hd⟩:=l_drop_at (l:=l) (i:=i) hil
  rw [hd] at h2
  simp only [goB] at h2
  obtain ⟨⟨g0,g1⟩,⟨g2,g3⟩,i0⟩:=it_at hy hx
  by_cases k1:64 < x.2.2.1.length
  · have c2:(64 < (x.2.2.1.length:Int))=True:=eq_true (by omega)
    rw [show oneE x=2 by unfold oneE; rw [if_pos k1],if_pos (by decide)] at h2
    subst h2
    simp only [zz,zq,↓reduceIte,zx,zj,zy,zk,zw,zb,reduceCtorEq,zd,zf,zp,zm,zh,zu,zt,zn,zc,zl,za,ze,zo,zg,nzs,d1,c2,hy.len,hy.sl,List.length_map,i0,i0.2,g0.1,g0.2,g1.1,g1.2,g2.1,g2.2,g3.1,g3.2]
  have c2:(64 < (x.2.2.1.length:Int))=False:=eq_false (by omega)
  simp only [zz,zq,↓reduceIte,zx,zj,zy,zk,zw,zb,reduceCtorEq,zd,zf,zp,zm,zh,zu,zt,zn,zc,zl,za,ze,zo,zg,nzs,d1,c2,hy.len,hy.sl,List.length_map,i0,i0.2,g0.1,g0.2,g1.1,g1.2,g2.1,g2.2,g3.1,g3.2]
  refine DrawK.quiet (by kernel_rfl) (by kernel_rfl) ?_
  simp only [zz,zq,↓reduceIte,zx,zj,zy,zk,zw,zb,reduceCtorEq,zd,zf,zp,zm,zh,zu,zt,zn,zc,zl,za,ze,zo,zg,nzs]
  refine ⟨_,⟨⟨rfl,rfl⟩,rprintS x.2.2.1 M (by simp only [maxLen]; omega)⟩,?_⟩
  by_cases k2:sumT x.2.2.1=x.1
  rotate_left
  · have c3:(sumT x.2.2.1=x.1)=False:=eq_false k2
    rw [show oneE x=6 by unfold oneE; rw [if_neg k1,if_pos (fun e=>k2 e.symm)],if_pos (by decide)] at h2
    subst h2
    simp only [zz,zq,↓reduceIte,zx,zj,zy,zk,zw,zb,reduceCtorEq,zd,zf,zp,zm,zh,zu,zt,zn,zc,zl,za,ze,zo,zg,nzs,c3]
  simp only [zz,zq,↓reduceIte,zx,zj,zy,zk,zw,zb,reduceCtorEq,zd,zf,zp,zm,zh,zu,zt,zn,zc,zl,za,ze,zo,zg,nzs,k2]
  refine CallK.pure ⟨rfl,rfl⟩ rfl (within x.2.1 0 63 M) ?_
  by_cases k3:0≤x.2.1∧x.2.1≤63
  rotate_left
  · rw [show oneE x=1 by unfold oneE; rw [if_neg k1,if_neg (fun e=>e k2.symm),if_pos (by omega)],if_pos (by decide)] at h2
    subst h2
    have c4:decide (0≤x.2.1∧x.2.1≤63)=false:=decide_eq_false k3
    simp only [zz,zq,↓reduceIte,zx,zj,zy,zk,zw,zb,reduceCtorEq,zd,zf,zp,zm,zh,zu,zt,zn,zc,zl,za,ze,zo,zg,nzs,c4]
  have c4:decide (0≤x.2.1∧x.2.1≤63)=true:=decide_eq_true k3
  simp only [zz,zq,↓reduceIte,zx,zj,zy,zk,zw,zb,reduceCtorEq,zd,zf,zp,zm,zh,zu,zt,zn,zc,zl,za,ze,zo,zg,nzs,c4]
  refine CallK.pure ⟨rfl,rfl⟩ rfl (within x.2.2.2 1 1000000 M) ?_
  by_cases k4:1≤x.2.2.2∧x.2.2.2≤1000000
  rotate_left
  · rw [show oneE x=1 by unfold oneE; rw [if_neg k1,if_neg (fun e=>e k2.symm),if_pos (by omega)],if_pos (by decide)] at h2
    subst h2
    have c5:decide (1≤x.2.2.2∧x.2.2.2≤1000000)=false:=decide_eq_false k4
    simp only [zz,zq,↓reduceIte,zx,zj,zy,zk,zw,zb,reduceCtorEq,zd,zf,zp,zm,zh,zu,zt,zn,zc,zl,za,ze,zo,zg,nzs,c5]
  have c5:decide (1≤x.2.2.2∧x.2.2.2≤1000000)=true:=decide_eq_true k4
  have he:oneE x=0:=by unfold oneE; rw [if_neg k1,if_neg (fun e=>e k2.symm),if_neg (by omega)]
  rw [if_neg (fun e=>e he)] at h2
  simp only [zz,zq,↓reduceIte,zx,zj,zy,zk,zw,zb,reduceCtorEq,zd,zf,zp,zm,zh,zu,zt,zn,zc,zl,za,ze,zo,zg,nzs,c5]
  have hs:=hy.sub (lo:=0) (hi:=i) (by omega) (by rw [List.length_map]; omega)
  rw [List.drop_zero,Nat.sub_zero,← List.map_take] at hs
  have hcap:=hy.1.2.2.1
  rw [hy.len,List.length_map] at hcap
  refine DrawK.ent (X:=Unit) (fun _=>True) (fun _=>([(0,true,.v y),(3,true,.v (.int .i64 i)),(4,true,.ptr 32 0 0 0),(10,true,.v y),(11,true,.v (.int .i64 l.length)),(12,true,.v (.int .i64 i)),(71,true,.v (.bool (bad (l.take i).getLast? x)))],[(32,.box [.v (.int .i64 x.1),.v (.int .i64 x.2.1),.v (.string ⟨x.2.2.1.toArray⟩),.v (.int .i64 x.2.2.2)] none)],M)) ?_ fun _ _=>?_
  · by_cases hi0:i=0
    · subst hi0
      refine DrawK.quiet (by kernel_rfl) (by kernel_rfl) ?_
      simp only [zz,zq,↓reduceIte,zx,zj,zy,zk,zw,zb,reduceCtorEq,zd,zf,zp,zm,zh,zu,zt,zn,zc,zl,za,ze,zo,zg,nzs,za,Int.lt_irrefl,g0.1,g1.1]
      refine ⟨(),Ent.of ?_⟩
      simp only [zq,↓reduceIte,zx,zj,zy,zk,zw,zb,reduceCtorEq,zd,zf,zp,zm,zh,zu,zt,zn,zc,zl,za,ze,zo,zg,List.take_zero,List.getLast?_nil,bad]
    · refine DrawK.quiet (by kernel_rfl) (by kernel_rfl) ?_
      have e1:(0 < (i:Int))=True:=eq_true (by omega)
      have e2:(i:Int) - 1=((i - 1:Nat):Int):=by omega
      have hgl:(l.take i).getLast? = l[i-1]?:=by
        rw [List.getLast?_eq_getElem?,List.length_take,List.getElem?_take,if_pos (by omega)]
        congr 1
        omega
      obtain ⟨p,hp⟩ : ∃ p,l[i-1]? = some p:=⟨_,List.getElem?_eq_getElem (by omega)⟩
      obtain ⟨⟨j0,j1⟩,⟨j2,j3⟩,ji⟩:=it_at hy hp
      rw [hgl,hp]
      by_cases m1:x.1 < p.1
      · have f1:(x.1 < p.1)=True:=eq_true m1
        simp only [zz,zq,↓reduceIte,zx,zj,zy,zk,zw,zb,reduceCtorEq,zd,zf,zp,zm,zh,zu,zt,zn,zc,zl,za,ze,zo,zg,nzs,e1,e2,ji,ji.2,j0.1,j0.2,j1.1,j1.2,j2.1,j2.2,j3.1,j3.2,inK,lo,hi,f1]
        have hv:bad (some p) x=true:=by unfold bad cmpT; simp only; rw [if_neg (by omega)]; exact decide_eq_true (by omega)
        refine ⟨by omega,(),Ent.of ?_⟩
        simp only [zq,↓reduceIte,zx,zj,zy,zk,zw,zb,reduceCtorEq,zd,zf,zp,zm,zh,zu,zt,zn,zc,zl,za,ze,zo,zg,hv]
      have f1:(x.1 < p.1)=False:=eq_false m1
      by_cases m2:p.1=x.1
      · have f2:(p.1=x.1)=True:=eq_true m2
        simp only [zz,zq,↓reduceIte,zx,zj,zy,zk,zw,zb,reduceCtorEq,zd,zf,zp,zm,zh,zu,zt,zn,zc,zl,za,ze,zo,zg,nzs,e1,e2,ji,ji.2,j0.1,j0.2,j1.1,j1.2,j2.1,j2.2,j3.1,j3.2,inK,lo,hi,f1,f2]
        have hv:bad (some p) x=decide (x.2.1≤p.2.1):=by unfold bad cmpT; simp only; rw [if_pos m2]; exact decide_eq_decide.2 ⟨fun h=>by omega,fun h=>by omega⟩
        refine ⟨by omega,by omega,by omega,(),Ent.of ?_⟩
        simp only [zq,↓reduceIte,zx,zj,zy,zk,zw,zb,reduceCtorEq,zd,zf,zp,zm,zh,zu,zt,zn,zc,zl,za,ze,zo,zg,hv]
      · have f2:(p.1=x.1)=False:=eq_false m2
        simp only [zz,zq,↓reduceIte,zx,zj,zy,zk,zw,zb,reduceCtorEq,zd,zf,zp,zm,zh,zu,zt,zn,zc,zl,za,ze,zo,zg,nzs,e1,e2,ji,ji.2,j0.1,j0.2,j1.1,j1.2,j2.1,j2.2,j3.1,j3.2,inK,lo,hi,f1,f2]
        have hv:bad (some p) x=false:=by unfold bad cmpT; simp only; rw [if_neg m2]; exact decide_eq_false (by omega)
        refine ⟨by omega,by omega,(),Ent.of ?_⟩
        simp only [zq,↓reduceIte,zx,zj,zy,zk,zw,zb,reduceCtorEq,zd,zf,zp,zm,zh,zu,zt,zn,zc,zl,za,ze,zo,zg,hv]
  cases hb:bad (l.take i).getLast? x with
  | true=>
    rw [if_pos hb] at h2
    subst h2
    simp only [zz,zq,↓reduceIte,zx,zj,zy,zk,zw,zb,reduceCtorEq,zd,zf,zp,zm,zh,zu,zt,zn,zc,zl,za,ze,zo,zg,nzs]
  | false=>
  rw [if_neg (by simp only [hb]; decide)] at h2
  simp only [zz,zq,↓reduceIte,zx,zj,zy,zk,zw,zb,reduceCtorEq,zd,zf,zp,zm,zh,zu,zt,zn,zc,zl,za,ze,zo,zg,nzs,hy.len,hy.sl]
  refine ⟨by omega,?_⟩
  have hsl:=hs.len
  rw [List.length_map,List.length_take,Nat.min_eq_left (by omega)] at hsl
  generalize subV y 4 0 i=z at *
  simp only [zz,zq,↓reduceIte,zx,zj,zy,zk,zw,zb,reduceCtorEq,zd,zf,zp,zm,zh,zu,zt,zn,zc,zl,za,ze,zo,zg,nzs,hsl,hs.sl]
  refine LoopK.go (X:=Nat×Nat) (fun q=>([(0,true,.v y),(3,true,.v (.int .i64 i)),(4,true,.ptr 32 0 0 0),(10,true,.v y),(11,true,.v (.int .i64 l.length)),(12,true,.v (.int .i64 i)),(74,true,.v z),(75,true,.v (.int .i64 i)),(76,true,.v (.int .i64 q.2))],[(32,.box [.v (.int .i64 x.1),.v (.int .i64 x.2.1),.v (.string ⟨x.2.2.1.toArray⟩),.v (.int .i64 x.2.2.2)] none)],M))
    (fun q=>q.1+q.2=i∧((l.take i).any fun u=>decide (u.2.2.1=x.2.2.1))=((l.take i).drop q.2).any fun u=>decide (u.2.2.1=x.2.2.1)) (fun q=>q.1) (i,0) ⟨rfl,rfl⟩ (Ent.of ?_) ?_
  · simp only [zq,↓reduceIte,zx,zj,zy,zk,zw,zb,reduceCtorEq,zd,zf,zp,zm,zh,zu,zt,zn,zc,zl,za,ze,zo,zg]
  rintro ⟨f2,j⟩ ⟨n1,n2⟩
  simp only at n1 n2
  by_cases hji:j < i
  rotate_left
  · have d2:((j:Int) < (i:Int))=False:=eq_false (by omega)
    rw [List.drop_eq_nil_of_le (by rw [List.length_take]; omega)] at n2
    rw [if_neg (by rw [n2]; simp)] at h2
    simp only [zz,zq,↓reduceIte,zx,zj,zy,zk,zw,zb,reduceCtorEq,zd,zf,zp,zm,zh,zu,zt,zn,zc,zl,za,ze,zo,zg,nzs,d2,inK,lo,hi]
    refine ⟨by omega,(f - 1,i+1),⟨⟨⟨by simp only; omega,?_⟩,?_⟩,by simp only; omega⟩,Ent.of ?_⟩
    · simp only
      intro z hz
      rw [List.take_add_one,hx] at hz
      rcases List.mem_append.1 hz with hz | hz
      · exact hpre z hz
      · simp only [Option.toList_some,List.mem_singleton] at hz
        subst hz
        exact he
    · simp only
      rw [List.take_add_one,hx]
      exact h2
    · simp only [zq,↓reduceIte,zx,zj,zy,zk,zw,zb,reduceCtorEq,zd,zf,zp,zm,zh,zu,zt,zn,zc,zl,za,ze,zo,zg,Int.natCast_add]
  have d2:((j:Int) < (i:Int))=True:=eq_true (by omega)
  obtain ⟨u,hu,hd2⟩:=l_drop_at (l:=l.take i) (i:=j) (by rw [List.length_take]; omega)
  obtain ⟨⟨j0,j1⟩,⟨j2,j3⟩,ji⟩:=it_at hs hu
  rw [hd2] at n2
  by_cases hut:u.2.2.1=x.2.2.1
  · have d3:(u.2.2.1=x.2.2.1)=True:=eq_true hut
    rw [if_pos (by rw [n2,List.any_cons,decide_eq_true hut,Bool.true_or])] at h2
    subst h2
    simp only [zz,zq,↓reduceIte,zx,zj,zy,zk,zw,zb,reduceCtorEq,zd,zf,zp,zm,zh,zu,zt,zn,zc,zl,za,ze,zo,zg,nzs,d2,d3,ji,ji.2,j0.1,j0.2,j1.1,j1.2,j2.1,j2.2,j3.1,j3.2,List.toArray_eq_iff]
  · have d3:(u.2.2.1=x.2.2.1)=False:=eq_false hut
    rw [List.any_cons,decide_eq_false hut,Bool.false_or] at n2
    simp only [zz,zq,↓reduceIte,zx,zj,zy,zk,zw,zb,reduceCtorEq,zd,zf,zp,zm,zh,zu,zt,zn,zc,zl,za,ze,zo,zg,nzs,d2,d3,ji,ji.2,j0.1,j0.2,j1.1,j1.2,j2.1,j2.2,j3.1,j3.2,List.toArray_eq_iff,inK,lo,hi]
    refine ⟨by omega,(f2 - 1,j+1),⟨⟨by simp only; omega,n2⟩,by simp only; omega⟩,Ent.of ?_⟩
    simp only [zq,↓reduceIte,zx,zj,zy,zk,zw,zb,reduceCtorEq,zd,zf,zp,zm,zh,zu,zt,zn,zc,zl,za,ze,zo,zg,Int.natCast_add]
end Go.X.Bg

