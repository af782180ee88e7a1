/- Contracts of functions and the logic that they are proved in (2 texts in one). Conditions: none. -/
import Derived.Test.YtoohifeidifocaaGreatDoorBag
import Derived.Test.YtoohifeidifocaaGreatDoorMg10
open Nat renaming reduceAdd→zx,reduceMul→zj,reduceDiv→zy,reduceEqDiff→zk,reduceLT→zw,reduceLeDiff→zb,reduceBEq→zg
open Int renaming reduceEq→zd,reduceNe→zf,reduceLT→zp,reduceLE→zm,reduceAdd→zh,reduceSub→zu,reduceMul→zt,reduceNeg→zn,reduceToNat→zc,cast_ofNat_Int→zl,natCast_zero→za,natCast_one→ze,toNat_natCast→zo
namespace Go.X.Bg
end Go.X.Bg
namespace Go.X.Nm
end Go.X.Nm
set_option linter.unusedSimpArgs false
set_option linter.unusedVariables false
set_option maxHeartbeats 4000000
set_option maxRecDepth 20000
namespace Go.X.Vo
open Go Go.X Go.RowKit Go.X.Bg Go.X.Nm

/-- name, blocks -/
abbrev Vol:=List UInt8×List Id3
/-- the slice of a volume's blocks, and the volume -/
abbrev WV:=Value×Vol
def encI3 (i:Id3):List Value:=[.bool i.1,.int .i64 i.2.1,.int .i64 i.2.2]
def encV (w:WV):List Value:=[.string ⟨w.2.1.toArray⟩,w.1]
structure VolsM (M:Mem) (v:Value) (ws:List WV):Prop where
  row:RowM M v 2 (ws.map encV)
  blk : ∀ w ∈ ws,RowM M w.1 3 (w.2.2.map encI3)
theorem VolsM.le {M M':Mem} {v:Value} {ws:List WV} (h:VolsM M v ws) (hl:M.le M'):VolsM M' v ws:=⟨h.row.le hl,fun w hw=>(h.blk w hw).le hl⟩
def stV (b v:Value):SV:=.agg [.v b,.v v]
theorem vol_at {M:Mem} {v:Value} {ws:List WV} {i:Nat} {r:WV} (h:VolsM M v ws) (hx:ws[i]? = some r) :
    (elE M v 2 i 0 = .string ⟨r.2.1.toArray⟩∧okE M v 2 i 0)∧(elE M v 2 i 1=r.1∧okE M v 2 i 1)∧ixOk v (i:Int):=by
  have he:(ws.map encV)[i]? = some (encV r):=by rw [List.getElem?_map,hx]; rfl
  have g0:=h.row.cell he (off:=0) (by omega)
  have g1:=h.row.cell he (off:=1) (by omega)
  have hi:=(List.getElem?_eq_some_iff.1 hx).1
  exact ⟨⟨g0.1,g0.2.1⟩,⟨g1.1,g1.2.1⟩,h.row.ix (i:=(i:Int)) (by omega) (by rw [List.length_map]; omega)⟩
theorem id_at {M:Mem} {v:Value} {l:List Id3} {i:Nat} {r:Id3} (h:RowM M v 3 (l.map encI3)) (hx:l[i]? = some r) :
    (elE M v 3 i 0 = .bool r.1∧okE M v 3 i 0)∧(elE M v 3 i 1 = .int .i64 r.2.1∧okE M v 3 i 1)∧(elE M v 3 i 2 = .int .i64 r.2.2∧okE M v 3 i 2)∧ixOk v (i:Int):=by
  have he:(l.map encI3)[i]? = some (encI3 r):=by rw [List.getElem?_map,hx]; rfl
  have g0:=h.cell he (off:=0) (by omega)
  have g1:=h.cell he (off:=1) (by omega)
  have g2:=h.cell he (off:=2) (by omega)
  have hi:=(List.getElem?_eq_some_iff.1 hx).1
  exact ⟨⟨g0.1,g0.2.1⟩,⟨g1.1,g1.2.1⟩,⟨g2.1,g2.2.1⟩,h.ix (i:=(i:Int)) (by omega) (by rw [List.length_map]; omega)⟩
/-! what is right -/
def idE (bag:List It) (id:Id3):Int:=if id.1=false ∧ ¬ (id.2.1=0∧id.2.2=0) then 3 else if id.1=true∧fidx (isId id) bag 0 < 0 then 4 else 0
def goI (bag:List It):List Id3→Int
  | []=>0
  | x :: r=>if idE bag x≠0 then idE bag x else goI bag r
def nameBad:Option (List UInt8)→List UInt8→Bool
  | none,_=>false
  | some q,n=>!(Op.bytesLess q n)
def goV (bag:List It):Option (List UInt8)→List Vol→Int
  | _,[]=>0
  | p,v :: r=>if nmB v.1=false∨nameBad p v.1=true then 3 else if 32 < v.2.length then 2 else if goI bag v.2≠0 then goI bag v.2 else goV bag (some v.1) r
def volsE (bag:List It) (l:List Vol):Int:=if 6 < l.length then 2 else goV bag none l
def prevN (l:List WV) (i:Nat):Option (List UInt8):=match i with
  | 0=>none
  | j+1=>(l[j]?).map (·.2.1)

theorem volumes (b v:Value) (bag:List It) (ws:List WV) (M:Mem) (hb:RowM M b 4 (bag.map Bg.encT)) (hv:VolsM M v ws) :
    Meets Proofs.Tryz.prog 131 [stV b v] M fun r _ _=>r = .v (.int .i64 (volsE bag (ws.map (·.2)))):=by
  refine Meets.of_body [0,1,2,3,4,6,10,12,13,14,15,38,42,44,45,46,47,57,66] Proofs.Tryz.func131 rfl (by kernel_rfl) rfl fun w=>?_
  generalize hc:volsE bag (ws.map (·.2))=c
  unfold volsE at hc
  rw [List.length_map] at hc
  have hvl:=hv.row.len_le
  rw [List.length_map] at hvl
  by_cases h6:6 < ws.length
  · have c6:((6:Int) < (ws.length:Int))=True:=eq_true (by omega)
    rw [if_pos h6] at hc
    subst hc
    simp only [Proofs.Tryz.f131,stV,zz,zq,↓reduceIte,zx,zj,zy,zk,zw,zb,reduceCtorEq,zd,zf,zp,zm,zh,zu,zt,zn,zc,zl,za,ze,zo,zg,nzs,hv.row.len,hv.row.sl,List.length_map,c6]
  have c6:((6:Int) < (ws.length:Int))=False:=eq_false (by omega)
  rw [if_neg h6] at hc
  simp only [Proofs.Tryz.f131,stV,zz,zq,↓reduceIte,zx,zj,zy,zk,zw,zb,reduceCtorEq,zd,zf,zp,zm,zh,zu,zt,zn,zc,zl,za,ze,zo,zg,nzs,hv.row.len,hv.row.sl,List.length_map,c6]
  refine LoopK.go (X:=Nat×Nat) (fun x=>([(0,true,.agg [.v b,.v v]),(1,true,.ptr 8 0 0 0),(2,true,.v (.int .i64 0)),(12,true,.v v),(13,true,.v (.int .i64 ws.length)),(14,true,.v (.int .i64 x.2))],[(8,.box [.v b,.v v] none)],M))
    (fun x=>x.1+x.2=ws.length∧goV bag (prevN ws x.2) ((ws.drop x.2).map (·.2))=c) (fun x=>x.1) (ws.length,0) ⟨rfl,hc⟩ (Ent.of ?_) ?_
  · simp only [zq,↓reduceIte,zx,zj,zy,zk,zw,zb,reduceCtorEq,zd,zf,zp,zm,zh,zu,zt,zn,zc,zl,za,ze,zo,zg]
  rintro ⟨f,i⟩ ⟨h1,h2⟩
  simp only at h1 h2
  by_cases hil:i < ws.length
  rotate_left
  · have d1:((i:Int) < (ws.length:Int))=False:=eq_false (by omega)
    rw [List.drop_eq_nil_of_le (by omega)] at h2
    simp only [List.map_nil,goV] at h2
    subst h2
    simp only [zz,zq,↓reduceIte,zx,zj,zy,zk,zw,zb,reduceCtorEq,zd,zf,zp,zm,zh,zu,zt,zn,zc,zl,za,ze,zo,zg,nzs,d1]
  have d1:((i:Int) < (ws.length:Int))=True:=eq_true (by omega)
  obtain ⟨x,hx,hd⟩:=l_drop_at (l:=ws) (i:=i) hil
  rw [hd,List.map_cons,goV] at h2
  obtain ⟨g0,g1,i0⟩:=vol_at hv hx
  have hblk:=hv.blk x (List.mem_of_getElem? hx)
  simp only [zz,zq,↓reduceIte,zx,zj,zy,zk,zw,zb,reduceCtorEq,zd,zf,zp,zm,zh,zu,zt,zn,zc,zl,za,ze,zo,zg,nzs,d1,hv.row.len,hv.row.sl,List.length_map,i0,i0.2,g0.1,g0.2,g1.1,g1.2,hblk.one]
  have hbl:=hblk.len_le
  rw [List.length_map] at hbl
  have hp:prevN ws (i+1)=some x.2.1:=by simp only [prevN,hx,Option.map_some]
  refine DrawK.ent (X:=Unit) (fun _=>True) (fun _=>([(0,true,.agg [.v b,.v v]),(1,true,.ptr 8 0 0 0),(2,true,.v (.int .i64 0)),(3,true,.v (.int .i64 i)),(4,true,.ptr 32 0 0 0),(12,true,.v v),(13,true,.v (.int .i64 ws.length)),(14,true,.v (.int .i64 i)),(38,true,.v (.bool (!nmB x.2.1 || nameBad (prevN ws i) x.2.1)))],[(32,.box [.v (.string ⟨x.2.1.toArray⟩),.v x.1] none),(8,.box [.v b,.v v] none)],M)) ?_ ?_
  · cases i with
    | zero=>
      refine DrawK.held [8,32] (tk [0,1] (.one 2 (tk [3,4,5,6,7,8,10,15,9,11,16,12,13,14,17,18,19] .done))) (by kernel_rfl) (by kernel_rfl) fun xs=>?_
      simp only [zz,zq,↓reduceIte,zx,zj,zy,zk,zw,zb,reduceCtorEq,zd,zf,zp,zm,zh,zu,zt,zn,zc,zl,za,ze,zo,zg,nzs,se1,se2,tks]
      refine CallK.pure ⟨rfl,rfl⟩ rfl (nameW x.2.1 M) ?_
      cases hN:nmB x.2.1 with
      | false=>
        simp only [zz,zq,↓reduceIte,zx,zj,zy,zk,zw,zb,reduceCtorEq,zd,zf,zp,zm,zh,zu,zt,zn,zc,zl,za,ze,zo,zg,nzs,se1,se2,tks,za,Bool.not_false,Bool.true_or]
        first | exact ⟨(),trivial,Ent.heap (HEnt.untie (k:=32) rfl) (Ent.heap (HEnt.untie (k:=8) rfl) (Ent.of (by simp only [zq,↓reduceIte,zx,zj,zy,zk,zw,zb,reduceCtorEq,zd,zf,zp,zm,zh,zu,zt,zn,zc,zl,za,ze,zo,zg,hset])))⟩ | exact ⟨(),Ent.heap (HEnt.untie (k:=32) rfl) (Ent.heap (HEnt.untie (k:=8) rfl) (Ent.of (by simp only [zq,↓reduceIte,zx,zj,zy,zk,zw,zb,reduceCtorEq,zd,zf,zp,zm,zh,zu,zt,zn,zc,zl,za,ze,zo,zg,hset])))⟩ | exact Ent.heap (HEnt.untie (k:=32) rfl) (Ent.heap (HEnt.untie (k:=8) rfl) (Ent.of (by simp only [zq,↓reduceIte,zx,zj,zy,zk,zw,zb,reduceCtorEq,zd,zf,zp,zm,zh,zu,zt,zn,zc,zl,za,ze,zo,zg,hset])))
      | true=>
        simp only [zz,zq,↓reduceIte,zx,zj,zy,zk,zw,zb,reduceCtorEq,zd,zf,zp,zm,zh,zu,zt,zn,zc,zl,za,ze,zo,zg,nzs,se1,se2,tks,za,Bool.not_true,Bool.false_or,prevN,nameBad]
        first | exact ⟨(),trivial,Ent.heap (HEnt.untie (k:=32) rfl) (Ent.heap (HEnt.untie (k:=8) rfl) (Ent.of (by simp only [zq,↓reduceIte,zx,zj,zy,zk,zw,zb,reduceCtorEq,zd,zf,zp,zm,zh,zu,zt,zn,zc,zl,za,ze,zo,zg,hset])))⟩ | exact ⟨(),Ent.heap (HEnt.untie (k:=32) rfl) (Ent.heap (HEnt.untie (k:=8) rfl) (Ent.of (by simp only [zq,↓reduceIte,zx,zj,zy,zk,zw,zb,reduceCtorEq,zd,zf,zp,zm,zh,zu,zt,zn,zc,zl,za,ze,zo,zg,hset])))⟩ | exact Ent.heap (HEnt.untie (k:=32) rfl) (Ent.heap (HEnt.untie (k:=8) rfl) (Ent.of (by simp only [zq,↓reduceIte,zx,zj,zy,zk,zw,zb,reduceCtorEq,zd,zf,zp,zm,zh,zu,zt,zn,zc,zl,za,ze,zo,zg,hset])))
    | succ j=>
      obtain ⟨y,hy,_⟩:=l_drop_at (l:=ws) (i:=j) (by omega)
      obtain ⟨f0,f1,j0⟩:=vol_at hv hy
      have e0:((j+1:Nat):Int) - 1=(j:Int):=by omega
      have e1:((0:Int) < ((j+1:Nat):Int))=True:=eq_true (by omega)
      refine DrawK.held [8,32] (tk [0,1] (.one 2 (tk [3,4,5,6,7,8,10,15,9,11,16,12,13,14,17,18,19] .done))) (by kernel_rfl) (by kernel_rfl) fun xs=>?_
      simp only [zz,zq,↓reduceIte,zx,zj,zy,zk,zw,zb,reduceCtorEq,zd,zf,zp,zm,zh,zu,zt,zn,zc,zl,za,ze,zo,zg,nzs,se1,se2,tks]
      refine CallK.pure ⟨rfl,rfl⟩ rfl (nameW x.2.1 M) ?_
      cases hN:nmB x.2.1 with
      | false=>
        simp only [zz,zq,↓reduceIte,zx,zj,zy,zk,zw,zb,reduceCtorEq,zd,zf,zp,zm,zh,zu,zt,zn,zc,zl,za,ze,zo,zg,nzs,se1,se2,tks,Bool.not_false,Bool.true_or]
        first | exact ⟨(),trivial,Ent.heap (HEnt.untie (k:=32) rfl) (Ent.heap (HEnt.untie (k:=8) rfl) (Ent.of (by simp only [zq,↓reduceIte,zx,zj,zy,zk,zw,zb,reduceCtorEq,zd,zf,zp,zm,zh,zu,zt,zn,zc,zl,za,ze,zo,zg,hset])))⟩ | exact ⟨(),Ent.heap (HEnt.untie (k:=32) rfl) (Ent.heap (HEnt.untie (k:=8) rfl) (Ent.of (by simp only [zq,↓reduceIte,zx,zj,zy,zk,zw,zb,reduceCtorEq,zd,zf,zp,zm,zh,zu,zt,zn,zc,zl,za,ze,zo,zg,hset])))⟩ | exact Ent.heap (HEnt.untie (k:=32) rfl) (Ent.heap (HEnt.untie (k:=8) rfl) (Ent.of (by simp only [zq,↓reduceIte,zx,zj,zy,zk,zw,zb,reduceCtorEq,zd,zf,zp,zm,zh,zu,zt,zn,zc,zl,za,ze,zo,zg,hset])))
      | true=>
        simp only [zz,zq,↓reduceIte,zx,zj,zy,zk,zw,zb,reduceCtorEq,zd,zf,zp,zm,zh,zu,zt,zn,zc,zl,za,ze,zo,zg,nzs,se1,se2,tks,e0,e1,j0,j0.2,f0.1,f0.2,inK,lo,hi,Bool.not_true,Bool.false_or,prevN,hy,Option.map_some,nameBad]
        refine ⟨by omega,?_⟩
        first | exact ⟨(),trivial,Ent.heap (HEnt.untie (k:=32) rfl) (Ent.heap (HEnt.untie (k:=8) rfl) (Ent.of (by simp only [zq,↓reduceIte,zx,zj,zy,zk,zw,zb,reduceCtorEq,zd,zf,zp,zm,zh,zu,zt,zn,zc,zl,za,ze,zo,zg,hset])))⟩ | exact ⟨(),Ent.heap (HEnt.untie (k:=32) rfl) (Ent.heap (HEnt.untie (k:=8) rfl) (Ent.of (by simp only [zq,↓reduceIte,zx,zj,zy,zk,zw,zb,reduceCtorEq,zd,zf,zp,zm,zh,zu,zt,zn,zc,zl,za,ze,zo,zg,hset])))⟩ | exact Ent.heap (HEnt.untie (k:=32) rfl) (Ent.heap (HEnt.untie (k:=8) rfl) (Ent.of (by simp only [zq,↓reduceIte,zx,zj,zy,zk,zw,zb,reduceCtorEq,zd,zf,zp,zm,zh,zu,zt,zn,zc,zl,za,ze,zo,zg,hset])))
  rintro _ _
  have hbad:((!nmB x.2.1 || nameBad (prevN ws i) x.2.1)=true)↔(nmB x.2.1=false∨nameBad (prevN ws i) x.2.1=true):=by
    rw [Bool.or_eq_true,Bool.not_eq_true']
  generalize (!nmB x.2.1 || nameBad (prevN ws i) x.2.1)=bd at *
  cases bd with
  | true=>
    rw [if_pos (hbad.1 rfl)] at h2
    subst h2
    simp only [zz,zq,↓reduceIte,zx,zj,zy,zk,zw,zb,reduceCtorEq,zd,zf,zp,zm,zh,zu,zt,zn,zc,zl,za,ze,zo,zg,nzs,se1,se2,tks]
  | false=>
  rw [if_neg (fun h=>by cases hbad.2 h)] at h2
  by_cases h32:32 < x.2.2.length
  · have d2:((32:Int) < (x.2.2.length:Int))=True:=eq_true (by omega)
    rw [if_pos h32] at h2
    subst h2
    simp only [zz,zq,↓reduceIte,zx,zj,zy,zk,zw,zb,reduceCtorEq,zd,zf,zp,zm,zh,zu,zt,zn,zc,zl,za,ze,zo,zg,nzs,se1,se2,tks,hblk.len,hblk.sl,List.length_map,d2]
  have d2:((32:Int) < (x.2.2.length:Int))=False:=eq_false (by omega)
  rw [if_neg h32] at h2
  simp only [zz,zq,↓reduceIte,zx,zj,zy,zk,zw,zb,reduceCtorEq,zd,zf,zp,zm,zh,zu,zt,zn,zc,zl,za,ze,zo,zg,nzs,se1,se2,tks,hblk.len,hblk.sl,List.length_map,d2]
  generalize hge:goI bag x.2.2=ge at h2
  refine LoopK.go (X:=Nat×Nat) (fun z=>([(0,true,.agg [.v b,.v v]),(1,true,.ptr 8 0 0 0),(2,true,.v (.int .i64 0)),(12,true,.v v),(13,true,.v (.int .i64 ws.length)),(14,true,.v (.int .i64 i)),(44,true,.v x.1),(45,true,.v (.int .i64 x.2.2.length)),(46,true,.v (.int .i64 z.2))],[(8,.box [.v b,.v v] none)],M))
    (fun z=>z.1+z.2=x.2.2.length∧goI bag (x.2.2.drop z.2)=ge) (fun z=>z.1) (x.2.2.length,0) ⟨rfl,hge⟩ (Ent.of ?_) ?_
  · simp only [zq,↓reduceIte,zx,zj,zy,zk,zw,zb,reduceCtorEq,zd,zf,zp,zm,zh,zu,zt,zn,zc,zl,za,ze,zo,zg,za]
  rintro ⟨f2,j⟩ ⟨k1,k2⟩
  simp only at k1 k2
  by_cases hjl:j < x.2.2.length
  rotate_left
  · have d3:((j:Int) < (x.2.2.length:Int))=False:=eq_false (by omega)
    rw [List.drop_eq_nil_of_le (by omega)] at k2
    simp only [goI] at k2
    subst k2
    rw [if_neg (fun h=>h rfl)] at h2
    simp only [zz,zq,↓reduceIte,zx,zj,zy,zk,zw,zb,reduceCtorEq,zd,zf,zp,zm,zh,zu,zt,zn,zc,zl,za,ze,zo,zg,nzs,se1,se2,tks,d3,inK,lo,hi]
    refine ⟨by omega,(f - 1,i+1),⟨⟨by simp only; omega,by rw [hp]; exact h2⟩,by simp only; omega⟩,Ent.of ?_⟩
    simp only [zq,↓reduceIte,zx,zj,zy,zk,zw,zb,reduceCtorEq,zd,zf,zp,zm,zh,zu,zt,zn,zc,zl,za,ze,zo,zg,Int.natCast_add]
  have d3:((j:Int) < (x.2.2.length:Int))=True:=eq_true (by omega)
  obtain ⟨y,hy,hd2⟩:=l_drop_at (l:=x.2.2) (i:=j) hjl
  obtain ⟨y0,y1,y2,yi⟩:=id_at hblk hy
  rw [hd2,goI] at k2
  have hF:=find b bag y M hb
  simp only [idV] at hF
  obtain ⟨q0,q1,q2⟩:=y
  simp only at y0 y1 y2 k2 hF
  cases q0 with
  | false=>
    by_cases hz:q1=0∧q2=0
    · obtain ⟨rfl,rfl⟩:=hz
      have hE:idE bag (false,0,0)=0:=rfl
      rw [hE,if_neg (fun h=>h rfl)] at k2
      simp only [zz,zq,↓reduceIte,zx,zj,zy,zk,zw,zb,reduceCtorEq,zd,zf,zp,zm,zh,zu,zt,zn,zc,zl,za,ze,zo,zg,nzs,se1,se2,tks,d3,yi,yi.2,y0.1,y0.2,y1.1,y1.2,y2.1,y2.2,inK,lo,hi]
      refine ⟨by omega,(f2 - 1,j+1),⟨⟨by simp only; omega,k2⟩,by simp only; omega⟩,Ent.of ?_⟩
      simp only [zq,↓reduceIte,zx,zj,zy,zk,zw,zb,reduceCtorEq,zd,zf,zp,zm,zh,zu,zt,zn,zc,zl,za,ze,zo,zg,Int.natCast_add]
    · have hE:idE bag (false,q1,q2)=3:=by
        unfold idE
        exact if_pos ⟨rfl,hz⟩
      have hn : ∀ p:Prop,((q1=0∧q2=0)→p)=True:=fun p=>eq_true (fun h=>absurd h hz)
      rw [hE,if_pos (by decide)] at k2
      subst k2
      rw [if_pos (by decide)] at h2
      subst h2
      simp only [zz,zq,↓reduceIte,zx,zj,zy,zk,zw,zb,reduceCtorEq,zd,zf,zp,zm,zh,zu,zt,zn,zc,zl,za,ze,zo,zg,nzs,se1,se2,tks,d3,yi,yi.2,y0.1,y0.2,y1.1,y1.2,y2.1,y2.2]
      exact fun h=>absurd h hz
  | true=>
    simp only [zz,zq,↓reduceIte,zx,zj,zy,zk,zw,zb,reduceCtorEq,zd,zf,zp,zm,zh,zu,zt,zn,zc,zl,za,ze,zo,zg,nzs,se1,se2,tks,d3,yi,yi.2,y0.1,y0.2,y1.1,y1.2,y2.1,y2.2]
    refine CallK.pure ⟨rfl,rfl⟩ rfl hF ?_
    by_cases hneg:fidx (isId (true,q1,q2)) bag 0 < 0
    · have d4:=eq_true hneg
      have hE:idE bag (true,q1,q2)=4:=by
        unfold idE
        rw [if_neg (fun h=>by cases h.1)]
        exact if_pos ⟨rfl,hneg⟩
      rw [hE,if_pos (by decide)] at k2
      subst k2
      rw [if_pos (by decide)] at h2
      subst h2
      simp only [zz,zq,↓reduceIte,zx,zj,zy,zk,zw,zb,reduceCtorEq,zd,zf,zp,zm,zh,zu,zt,zn,zc,zl,za,ze,zo,zg,nzs,se1,se2,tks,d4]
    · have d4:=eq_false hneg
      have hE:idE bag (true,q1,q2)=0:=by
        unfold idE
        rw [if_neg (fun h=>by cases h.1)]
        exact if_neg (fun h=>hneg h.2)
      rw [hE,if_neg (fun h=>h rfl)] at k2
      simp only [zz,zq,↓reduceIte,zx,zj,zy,zk,zw,zb,reduceCtorEq,zd,zf,zp,zm,zh,zu,zt,zn,zc,zl,za,ze,zo,zg,nzs,se1,se2,tks,d4,inK,lo,hi]
      refine ⟨by omega,(f2 - 1,j+1),⟨⟨by simp only; omega,k2⟩,by simp only; omega⟩,Ent.of ?_⟩
      simp only [zq,↓reduceIte,zx,zj,zy,zk,zw,zb,reduceCtorEq,zd,zf,zp,zm,zh,zu,zt,zn,zc,zl,za,ze,zo,zg,Int.natCast_add]
end Go.X.Vo

namespace Go.X.Vo
open Go Go.X Go.RowKit Go.X.Bg Go.X.Nm

theorem goV_ok (bag:List It) : ∀ (p:Option (List UInt8)) (l:List Vol),goV bag p l=0 → ∀ v ∈ l,v.2.length≤32∧nmB v.1=true∧goI bag v.2=0
  | _,[],_,v,hv=>by cases hv
  | p,x :: r,h,v,hv=>by
    rw [goV] at h
    split at h
    · cases h
    rename_i h1
    split at h
    · cases h
    rename_i h2
    split at h
    · rename_i h3; exact absurd h h3
    rename_i h3
    rcases List.mem_cons.1 hv with rfl | hv
    · refine ⟨by omega,?_,Decidable.of_not_not h3⟩
      cases hn:nmB v.1 with
      | true=>rfl
      | false=>exact absurd (.inl hn) h1
    · exact goV_ok bag _ r h v hv
theorem volsE_ok {bag:List It} {l:List Vol} (h:volsE bag l=0):l.length≤6 ∧ ∀ v ∈ l,v.2.length≤32∧nmB v.1=true∧goI bag v.2=0:=by
  unfold volsE at h
  split at h
  · cases h
  · exact ⟨by omega,goV_ok bag none l h⟩
/-- how often each id stands -/
def idsOf (l:List Vol):List Id3:=l.flatMap (·.2)
def cntB (bag:List It) (ids:List Id3):Bool:=bag.all fun x=>decide (((ids.count (true,x.1,x.2.1):Nat):Int)=x.2.2.2)
def stE (bag:List It) (l:List Vol):Int:=if bagE bag≠0 then bagE bag else if volsE bag l≠0 then volsE bag l else if cntB bag (idsOf l)=false then 11 else 0
theorem stE_ok {bag:List It} {l:List Vol} (h:stE bag l=0):bagE bag=0∧volsE bag l=0∧cntB bag (idsOf l)=true:=by
  unfold stE at h
  split at h
  · rename_i h1; exact absurd h h1
  rename_i h1
  split at h
  · rename_i h2; exact absurd h h2
  rename_i h2
  split at h
  · cases h
  rename_i h3
  exact ⟨Decidable.of_not_not h1,Decidable.of_not_not h2,by simpa using h3⟩
theorem idsOf_len {l:List Vol} (h:l.length≤6) (h2 : ∀ v ∈ l,v.2.length≤32):(idsOf l).length≤192:=by
  have : ∀ l:List Vol,(∀ v ∈ l,v.2.length≤32)→(idsOf l).length≤32 * l.length:=fun l=>by
    induction l with
    | nil=>intro _; exact Nat.zero_le _
    | cons v l ih=>
      intro h
      have:=ih (fun w hw=>h w (List.mem_cons_of_mem _ hw))
      have:=h v (List.mem_cons_self ..)
      unfold idsOf at *
      rw [List.flatMap_cons,List.length_append,List.length_cons]
      omega
  have:=this l h2
  omega
def CntM (es:List (Id3×Value)) (L:List Id3):Prop:=∀ id,((fnd id es 0).map (·.2)).getD (.int .i64 0) = .int .i64 ((L.count id:Nat):Int)
theorem CntM.nil:CntM [] []:=fun _=>rfl
theorem CntM.upd {es:List (Id3×Value)} {L:List Id3} (h:CntM es L) (y:Id3):CntM (upd y (.int .i64 (((L.count y:Nat):Int)+1)) es) (L++[y]):=fun id=>by
  rw [fnd_upd]
  by_cases hy:id=y
  · rw [if_pos hy,hy,List.count_append]
    simp
  · rw [if_neg hy,h id,List.count_append]
    have:List.count id [y]=0:=by simp [List.count_cons,Ne.symm hy]
    rw [this]
    rfl

theorem ens_get {α:Type} [DecidableEq α] (a:α) (z:Value) (l:List (α×Value)):((fnd a (ens a z l) 0).map (·.2)).getD z=((fnd a l 0).map (·.2)).getD z:=by
  unfold ens
  rcases fnd_spec a l 0 with ⟨h1,_⟩ | ⟨j,v,h1,h2⟩
  · rw [h1]
    simp only
    rw [fnd_app,h1]
    simp [fnd]
  · rw [h1]
    simp only
    rw [h1]

theorem vcheck (b v:Value) (bag:List It) (ws:List WV) (M:Mem) (hb:RowM M b 4 (bag.map Bg.encT)) (hv:VolsM M v ws) :
    Meets Proofs.Tryz.prog 103 [stV b v] M fun r _ _=>r = .v (.int .i64 (stE bag (ws.map (·.2)))):=by
  refine Meets.of_body [0,1,2,3,4,5,7,9,11,16,21,25,26,27,28,32,33,34,35,47,48,49,50,62] Proofs.Tryz.func103 rfl (by kernel_rfl) rfl fun w=>?_
  generalize hc:stE bag (ws.map (·.2))=c
  unfold stE at hc
  have hC:=check b bag M hb
  have hV:=volumes b v bag ws M hb hv
  simp only [stV] at hV
  simp only [Proofs.Tryz.f103,stV,zz,zq,↓reduceIte,zx,zj,zy,zk,zw,zb,reduceCtorEq,zd,zf,zp,zm,zh,zu,zt,zn,zc,zl,za,ze,zo,zg,nzs]
  refine CallK.pure ⟨rfl,rfl⟩ rfl hC ?_
  by_cases h1:bagE bag=0
  rotate_left
  · have c1:=eq_false h1
    rw [if_pos h1] at hc
    subst hc
    simp only [zz,zq,↓reduceIte,zx,zj,zy,zk,zw,zb,reduceCtorEq,zd,zf,zp,zm,zh,zu,zt,zn,zc,zl,za,ze,zo,zg,nzs,c1]
  rw [if_neg (fun h=>h h1)] at hc
  simp only [zz,zq,↓reduceIte,zx,zj,zy,zk,zw,zb,reduceCtorEq,zd,zf,zp,zm,zh,zu,zt,zn,zc,zl,za,ze,zo,zg,nzs,h1]
  refine CallK.pure ⟨rfl,rfl⟩ rfl hV ?_
  by_cases h2:volsE bag (ws.map (·.2))=0
  rotate_left
  · have c1:=eq_false h2
    rw [if_pos h2] at hc
    subst hc
    simp only [zz,zq,↓reduceIte,zx,zj,zy,zk,zw,zb,reduceCtorEq,zd,zf,zp,zm,zh,zu,zt,zn,zc,zl,za,ze,zo,zg,nzs,c1]
  rw [if_neg (fun h=>h h2)] at hc
  obtain ⟨hl6,hl32⟩:=volsE_ok h2
  rw [List.length_map] at hl6
  have hlv : ∀ x ∈ ws,x.2.2.length≤32:=fun x hx=>(hl32 x.2 (List.mem_map_of_mem hx)).1
  have hall : ∀ n,(idsOf ((ws.take n).map (·.2))).length≤192:=fun n=>idsOf_len (by rw [List.length_map,List.length_take]; omega) (fun u hu=>by
    obtain ⟨x,hx,rfl⟩:=List.mem_map.1 hu
    exact hlv x (List.mem_of_mem_take hx))
  simp only [zz,zq,↓reduceIte,zx,zj,zy,zk,zw,zb,reduceCtorEq,zd,zf,zp,zm,zh,zu,zt,zn,zc,zl,za,ze,zo,zg,nzs,h2]
  refine ⟨rfl,OpK.makeMap rfl rfl rfl rfl ?_⟩
  simp only [zz,zq,↓reduceIte,zx,zj,zy,zk,zw,zb,reduceCtorEq,zd,zf,zp,zm,zh,zu,zt,zn,zc,zl,za,ze,zo,zg,nzs,hdel,hv.row.len,hv.row.sl,List.length_map]
  refine LoopK.go (X:=Nat×Nat×List (Id3×Value)) (fun x=>([(0,true,.agg [.v b,.v v]),(1,true,.ptr 8 0 0 0),(2,true,.v (.int .i64 0)),(5,true,.own 184),(25,true,.v v),(26,true,.v (.int .i64 ws.length)),(27,true,.v (.int .i64 x.2.1))],[(184,.mp (encL encId x.2.2)),(8,.box [.v b,.v v] none)],M))
    (fun x=>x.1+x.2.1=ws.length∧CntM x.2.2 (idsOf ((ws.take x.2.1).map (·.2)))) (fun x=>x.1) (ws.length,0,[]) ⟨rfl,CntM.nil⟩ (Ent.of ?_) ?_
  · simp only [zq,↓reduceIte,zx,zj,zy,zk,zw,zb,reduceCtorEq,zd,zf,zp,zm,zh,zu,zt,zn,zc,zl,za,ze,zo,zg,encL,List.map_nil,za]
  rintro ⟨f,i,es⟩ ⟨n1,n2⟩
  simp only at n1 n2
  by_cases hil:i < ws.length
  · have d1:((i:Int) < (ws.length:Int))=True:=eq_true (by omega)
    obtain ⟨x,hx,hd⟩:=l_drop_at (l:=ws) (i:=i) hil
    obtain ⟨g0,g1,i0⟩:=vol_at hv hx
    have hblk:=hv.blk x (List.mem_of_getElem? hx)
    have hx32:=hlv x (List.mem_of_getElem? hx)
    have htk:idsOf ((ws.take (i+1)).map (·.2))=idsOf ((ws.take i).map (·.2))++x.2.2:=by
      rw [List.take_add_one,hx]
      unfold idsOf
      simp
    have hln:=hall i
    generalize hL:idsOf ((ws.take i).map (·.2))=L at *
    simp only [zz,zq,↓reduceIte,zx,zj,zy,zk,zw,zb,reduceCtorEq,zd,zf,zp,zm,zh,zu,zt,zn,zc,zl,za,ze,zo,zg,nzs,d1,hv.row.len,hv.row.sl,List.length_map,i0,i0.2,g0.1,g0.2,g1.1,g1.2,hblk.one,hblk.len,hblk.sl]
    refine LoopK.go (X:=Nat×Nat×List (Id3×Value)) (fun z=>([(0,true,.agg [.v b,.v v]),(1,true,.ptr 8 0 0 0),(2,true,.v (.int .i64 0)),(5,true,.own 184),(25,true,.v v),(26,true,.v (.int .i64 ws.length)),(27,true,.v (.int .i64 i)),(32,true,.v x.1),(33,true,.v (.int .i64 x.2.2.length)),(34,true,.v (.int .i64 z.2.1))],[(184,.mp (encL encId z.2.2)),(8,.box [.v b,.v v] none)],M))
      (fun z=>z.1+z.2.1=x.2.2.length∧CntM z.2.2 (L++x.2.2.take z.2.1)) (fun z=>z.1) (x.2.2.length,0,es) ⟨rfl,by simpa using n2⟩ (Ent.of ?_) ?_
    · simp only [zq,↓reduceIte,zx,zj,zy,zk,zw,zb,reduceCtorEq,zd,zf,zp,zm,zh,zu,zt,zn,zc,zl,za,ze,zo,zg,za]
    rintro ⟨f2,j,es2⟩ ⟨m1,m2⟩
    simp only at m1 m2
    by_cases hjl:j < x.2.2.length
    · have d3:((j:Int) < (x.2.2.length:Int))=True:=eq_true (by omega)
      obtain ⟨y,hy,hd2⟩:=l_drop_at (l:=x.2.2) (i:=j) hjl
      obtain ⟨y0,y1,y2,yi⟩:=id_at hblk hy
      have hcy:=m2 y
      have hcl:(L++x.2.2.take j).count y≤300:=Nat.le_trans List.count_le_length (by rw [List.length_append,List.length_take]; omega)
      have hup:=CntM.upd m2 y
      rw [List.append_assoc,show x.2.2.take j++[y]=x.2.2.take (j+1) by rw [List.take_add_one,hy]; rfl] at hup
      generalize hq:(L++x.2.2.take j).count y=q at *
      obtain ⟨v0,hj1,_⟩:=ens_at y (.int .i64 0) es2
      have hj2:=ens_set y (.int .i64 0) (.int .i64 ((q:Int)+1)) es2
      simp only [zz,zq,↓reduceIte,zx,zj,zy,zk,zw,zb,reduceCtorEq,zd,zf,zp,zm,zh,zu,zt,zn,zc,zl,za,ze,zo,zg,nzs,d3,yi,yi.2,y0.1,y0.2,y1.1,y1.2,y2.1,y2.2]
      have hey:=ens_get y (.int .i64 0) es2
      rw [hcy] at hey
      refine DrawK.held [72] (tk [0,1] (.two 2 (tk [3] (.one 4 (tk [5] (.one 6 .done)))) 4 (tk [5] (.one 2 (tk [3] (.one 6 .done)))))) (by kernel_rfl) (by kernel_rfl) fun xs=>?_
      simp only [zz,zq,↓reduceIte,zx,zj,zy,zk,zw,zb,reduceCtorEq,zd,zf,zp,zm,zh,zu,zt,zn,zc,zl,za,ze,zo,zg,nzs,se1,se2,tks,st1]
      refine ⟨⟨rfl,OpK.lookup KeyT.id (key:=y) (kt:=101) (et:=3) (z:=.int .i64 0) rfl rfl rfl (by kernel_rfl) Proofs.Tryz.zeroValue3 rfl rfl (fun _=>rfl) rfl ?_⟩,⟨rfl,OpK.mapEntry KeyT.id (key:=y) (kt:=101) (et:=3) (z:=.int .i64 0) rfl rfl rfl (by kernel_rfl) Proofs.Tryz.zeroValue3 rfl rfl (fun _=>rfl) rfl ?_⟩⟩
      · rw [hcy]
        simp only [zz,zq,↓reduceIte,zx,zj,zy,zk,zw,zb,reduceCtorEq,zd,zf,zp,zm,zh,zu,zt,zn,zc,zl,za,ze,zo,zg,nzs,se1,se2,tks,st1,inK,lo,hi]
        refine ⟨by omega,rfl,OpK.mapEntry KeyT.id (key:=y) (kt:=101) (et:=3) (z:=.int .i64 0) rfl rfl rfl (by kernel_rfl) Proofs.Tryz.zeroValue3 rfl rfl (fun _=>rfl) rfl ?_⟩
        rw [hcy]
        simp only [zz,zq,↓reduceIte,zx,zj,zy,zk,zw,zb,reduceCtorEq,zd,zf,zp,zm,zh,zu,zt,zn,zc,zl,za,ze,zo,zg,nzs,se1,se2,tks,st1]
        refine ⟨rfl,?_⟩
        refine OpK.entryStore (enc:=encId) (key:=y) rfl rfl rfl rfl rfl rfl hj1 ?_
        rw [hj2]
        simp only [zz,zq,↓reduceIte,zx,zj,zy,zk,zw,zb,reduceCtorEq,zd,zf,zp,zm,zh,zu,zt,zn,zc,zl,za,ze,zo,zg,nzs,se1,se2,tks,st1,inK,lo,hi]
        refine ⟨by omega,(f2 - 1,j+1,upd y (.int .i64 ((q:Int)+1)) es2),⟨⟨by simp only; omega,hup⟩,by simp only; omega⟩,Ent.heap (HEnt.untie (k:=8) rfl) (Ent.of ?_)⟩
        simp only [zq,↓reduceIte,zx,zj,zy,zk,zw,zb,reduceCtorEq,zd,zf,zp,zm,zh,zu,zt,zn,zc,zl,za,ze,zo,zg,hset,Int.natCast_add]
      · rw [hcy]
        simp only [zz,zq,↓reduceIte,zx,zj,zy,zk,zw,zb,reduceCtorEq,zd,zf,zp,zm,zh,zu,zt,zn,zc,zl,za,ze,zo,zg,nzs,se1,se2,tks,st1,inK,lo,hi]
        refine ⟨rfl,OpK.lookup KeyT.id (key:=y) (kt:=101) (et:=3) (z:=.int .i64 0) rfl rfl rfl (by kernel_rfl) Proofs.Tryz.zeroValue3 rfl rfl (fun _=>rfl) rfl ?_⟩
        rw [hey]
        simp only [zz,zq,↓reduceIte,zx,zj,zy,zk,zw,zb,reduceCtorEq,zd,zf,zp,zm,zh,zu,zt,zn,zc,zl,za,ze,zo,zg,nzs,se1,se2,tks,st1,inK,lo,hi]
        refine ⟨by omega,rfl,?_⟩
        refine OpK.entryStore (enc:=encId) (key:=y) rfl rfl rfl rfl rfl rfl hj1 ?_
        rw [hj2]
        simp only [zz,zq,↓reduceIte,zx,zj,zy,zk,zw,zb,reduceCtorEq,zd,zf,zp,zm,zh,zu,zt,zn,zc,zl,za,ze,zo,zg,nzs,se1,se2,tks,st1,inK,lo,hi]
        refine ⟨by omega,(f2 - 1,j+1,upd y (.int .i64 ((q:Int)+1)) es2),⟨⟨by simp only; omega,hup⟩,by simp only; omega⟩,Ent.heap (HEnt.untie (k:=8) rfl) (Ent.of ?_)⟩
        simp only [zq,↓reduceIte,zx,zj,zy,zk,zw,zb,reduceCtorEq,zd,zf,zp,zm,zh,zu,zt,zn,zc,zl,za,ze,zo,zg,hset,Int.natCast_add]
    · have d3:((j:Int) < (x.2.2.length:Int))=False:=eq_false (by omega)
      rw [List.take_of_length_le (by omega)] at m2
      simp only [zz,zq,↓reduceIte,zx,zj,zy,zk,zw,zb,reduceCtorEq,zd,zf,zp,zm,zh,zu,zt,zn,zc,zl,za,ze,zo,zg,nzs,d3,inK,lo,hi]
      refine ⟨by omega,(f - 1,i+1,es2),⟨⟨by simp only; omega,by simp only [htk]; exact m2⟩,by simp only; omega⟩,Ent.of ?_⟩
      simp only [zq,↓reduceIte,zx,zj,zy,zk,zw,zb,reduceCtorEq,zd,zf,zp,zm,zh,zu,zt,zn,zc,zl,za,ze,zo,zg,Int.natCast_add]
  have d1:((i:Int) < (ws.length:Int))=False:=eq_false (by omega)
  rw [List.take_of_length_le (by omega)] at n2
  have hyl:=hb.len_le
  rw [List.length_map] at hyl
  simp only [zz,zq,↓reduceIte,zx,zj,zy,zk,zw,zb,reduceCtorEq,zd,zf,zp,zm,zh,zu,zt,zn,zc,zl,za,ze,zo,zg,nzs,d1,hb.len,hb.sl,List.length_map]
  generalize hcb:cntB bag (idsOf (ws.map (·.2)))=cb at hc
  refine LoopK.go (X:=Nat×Nat) (fun z=>([(0,true,.agg [.v b,.v v]),(1,true,.ptr 8 0 0 0),(2,true,.v (.int .i64 0)),(5,true,.own 184),(47,true,.v b),(48,true,.v (.int .i64 bag.length)),(49,true,.v (.int .i64 z.2))],[(184,.mp (encL encId es)),(8,.box [.v b,.v v] none)],M))
    (fun z=>z.1+z.2=bag.length∧cntB (bag.drop z.2) (idsOf (ws.map (·.2)))=cb) (fun z=>z.1) (bag.length,0) ⟨rfl,hcb⟩ (Ent.of ?_) ?_
  · simp only [zq,↓reduceIte,zx,zj,zy,zk,zw,zb,reduceCtorEq,zd,zf,zp,zm,zh,zu,zt,zn,zc,zl,za,ze,zo,zg,za]
  rintro ⟨f3,k⟩ ⟨q1,q2⟩
  simp only at q1 q2
  by_cases hkl:k < bag.length
  rotate_left
  · have d3:((k:Int) < (bag.length:Int))=False:=eq_false (by omega)
    rw [List.drop_eq_nil_of_le (by omega)] at q2
    have:cb=true:=q2.symm
    subst this
    rw [if_neg (fun h=>by cases h)] at hc
    subst hc
    simp only [zz,zq,↓reduceIte,zx,zj,zy,zk,zw,zb,reduceCtorEq,zd,zf,zp,zm,zh,zu,zt,zn,zc,zl,za,ze,zo,zg,nzs,d3]
  have d3:((k:Int) < (bag.length:Int))=True:=eq_true (by omega)
  obtain ⟨y,hy,hd2⟩:=l_drop_at (l:=bag) (i:=k) hkl
  obtain ⟨⟨y0,y1⟩,⟨y2,y3⟩,yi⟩:=it_at hb hy
  have hcy:=n2 (true,y.1,y.2.1)
  unfold cntB at q2
  rw [hd2,List.all_cons] at q2
  simp only [zz,zq,↓reduceIte,zx,zj,zy,zk,zw,zb,reduceCtorEq,zd,zf,zp,zm,zh,zu,zt,zn,zc,zl,za,ze,zo,zg,nzs,d3,yi,yi.2,y0.1,y0.2,y1.1,y1.2,y2.1,y2.2,y3.1,y3.2]
  refine DrawK.held [88] (tk [0,1,3,7,2,4,8,5] (.one 6 (tk [9] .done))) (by kernel_rfl) (by kernel_rfl) fun xs=>?_
  simp only [zz,zq,↓reduceIte,zx,zj,zy,zk,zw,zb,reduceCtorEq,zd,zf,zp,zm,zh,zu,zt,zn,zc,zl,za,ze,zo,zg,nzs,se1,se2,tks,st1]
  refine ⟨rfl,OpK.lookup KeyT.id (key:=(true,y.1,y.2.1)) (kt:=101) (et:=3) (z:=.int .i64 0) rfl rfl rfl (by kernel_rfl) Proofs.Tryz.zeroValue3 rfl rfl (fun _=>rfl) rfl ?_⟩
  rw [hcy]
  generalize hcnt:((idsOf (ws.map (·.2))).count (true,y.1,y.2.1):Nat)=cn at *
  by_cases heq:(cn:Int)=y.2.2.2
  · have d4:=eq_true heq
    rw [decide_eq_true heq,Bool.true_and] at q2
    simp only [zz,zq,↓reduceIte,zx,zj,zy,zk,zw,zb,reduceCtorEq,zd,zf,zp,zm,zh,zu,zt,zn,zc,zl,za,ze,zo,zg,nzs,se1,se2,tks,st1,d4,inK,lo,hi]
    refine ⟨by omega,(f3 - 1,k+1),⟨⟨by simp only; omega,q2⟩,by simp only; omega⟩,Ent.heap (HEnt.untie (k:=8) rfl) (Ent.of ?_)⟩
    simp only [zq,↓reduceIte,zx,zj,zy,zk,zw,zb,reduceCtorEq,zd,zf,zp,zm,zh,zu,zt,zn,zc,zl,za,ze,zo,zg,hset,Int.natCast_add]
  · have d4:=eq_false heq
    rw [decide_eq_false heq,Bool.false_and] at q2
    subst q2
    rw [if_pos rfl] at hc
    subst hc
    simp only [zz,zq,↓reduceIte,zx,zj,zy,zk,zw,zb,reduceCtorEq,zd,zf,zp,zm,zh,zu,zt,zn,zc,zl,za,ze,zo,zg,nzs,se1,se2,tks,st1,d4]
end Go.X.Vo

