/- Contracts of functions and the logic that they are proved in (2 texts in one). Conditions: none. -/
import Derived.Test.YtoohifeidifocaaGreatDoorMg19
import Derived.Test.YtoohifeidifocaaGreatDoorMg21
open Nat renaming reduceAdd→zx,reduceMul→zj,reduceDiv→zy,reduceEqDiff→zk,reduceLT→zw,reduceLeDiff→zb,reduceBEq→zg
open Int renaming reduceEq→zd,reduceNe→zf,reduceLT→zp,reduceLE→zm,reduceAdd→zh,reduceSub→zu,reduceMul→zt,reduceNeg→zn,reduceToNat→zc,cast_ofNat_Int→zl,natCast_zero→za,natCast_one→ze,toNat_natCast→zo
namespace Go.X.Bg
end Go.X.Bg
namespace Go.X.Nm
end Go.X.Nm
namespace Go.X.Bp
end Go.X.Bp
namespace Go.X.Sb
end Go.X.Sb
set_option linter.unusedSimpArgs false
set_option linter.unusedVariables false
set_option maxHeartbeats 4000000
set_option maxRecDepth 20000
namespace Go.X
open Go Go.RowKit
inductive Sch3 where
  | done
  | take (i:Nat) (n:Sch3)
  | one (i:Nat) (n:Sch3)
  | two (i:Nat) (n:Sch3) (j:Nat) (m:Sch3)
  | three (i:Nat) (n:Sch3) (j:Nat) (m:Sch3) (k:Nat) (q:Sch3)
def wpH3 (E:Env) (ops:List Oper) (Hs:HS) (Ms:Mem) (K:KP):Sch3→Sig→HS→Mem→Prop
  | .done,σ,H,M=>K σ H M
  | .take i n,σ,H,M=>opt1 (fun o=>qtK E o Hs Ms (wpH3 E ops Hs Ms K n) σ H M (gdOf ops σ o.guard) o.dst) ops[i]?
  | .one i n,σ,H,M=>opt1 (fun o=>efK E o Hs Ms (wpH3 E ops Hs Ms K n) σ H M (gdOf ops σ o.guard)) ops[i]?
  | .two i n j m,σ,H,M=>opt1 (fun o=>efK E o Hs Ms (wpH3 E ops Hs Ms K n) σ H M (gdOf ops σ o.guard)) ops[i]? ∧ opt1 (fun o=>efK E o Hs Ms (wpH3 E ops Hs Ms K m) σ H M (gdOf ops σ o.guard)) ops[j]?
  | .three i n j m k q,σ,H,M=>opt1 (fun o=>efK E o Hs Ms (wpH3 E ops Hs Ms K n) σ H M (gdOf ops σ o.guard)) ops[i]? ∧ opt1 (fun o=>efK E o Hs Ms (wpH3 E ops Hs Ms K m) σ H M (gdOf ops σ o.guard)) ops[j]? ∧ opt1 (fun o=>efK E o Hs Ms (wpH3 E ops Hs Ms K q) σ H M (gdOf ops σ o.guard)) ops[k]?
@[congr] theorem wpH3_congr {E:Env} {ops:List Oper} {Hs Hs':HS} {Ms:Mem} {K:KP} {s:Sch3} {σ σ':Sig} {H H':HS} {M:Mem} (h0:Hs=Hs') (h:σ=σ') (h':H=H'):wpH3 E ops Hs Ms K s σ H M=wpH3 E ops Hs' Ms K s σ' H' M:=by rw [h0,h,h']
theorem se3:type_of% (And.intro (And.intro (And.intro @wpH3.eq_1 @wpH3.eq_2) (And.intro @wpH3.eq_3 @wpH3.eq_4)) @wpH3.eq_5):=And.intro (And.intro (And.intro @wpH3.eq_1 @wpH3.eq_2) (And.intro @wpH3.eq_3 @wpH3.eq_4)) @wpH3.eq_5
def tk3:List Nat→Sch3→Sch3
  | [],s=>s
  | i :: l,s=>.take i (tk3 l s)
theorem tks3:type_of% (And.intro @tk3.eq_1 @tk3.eq_2):=And.intro @tk3.eq_1 @tk3.eq_2
def schT3 (md:Region.Mode) (ops:Array Oper) (n:Nat):Sch3→Nat→Array Bool→Bool
  | .done,f,listed=>decide (f=ops.size - n) && Region.seqB md ops (ops.size - n) n listed
  | .take i s,f+1,listed=>decide (i < n) && ((Region.free md ops listed i && (Region.ready md ops listed).contains i) && schT3 md ops n s f (listed.setIfInBounds i true))
  | .one i s,f+1,listed=>decide (i < n) && (Region.ready md ops listed == [i] && schT3 md ops n s f (listed.setIfInBounds i true))
  | .two i s j m,f+1,listed=>(decide (i < n) && decide (j < n)) && (Region.ready md ops listed == [i,j] && (schT3 md ops n s f (listed.setIfInBounds i true) && schT3 md ops n m f (listed.setIfInBounds j true)))
  | .three i s j m k q,f+1,listed=>(decide (i < n) && (decide (j < n) && decide (k < n))) && (Region.ready md ops listed == [i,j,k] && (schT3 md ops n s f (listed.setIfInBounds i true) && (schT3 md ops n m f (listed.setIfInBounds j true) && schT3 md ops n q f (listed.setIfInBounds k true))))
  | _,0,_=>false
section
variable {E:Env} {σ:Sig} {H Hs:HS} {M Ms:Mem} {ν ν':Nat→Value} {a:Act} {w:World}
theorem wpH3_sound {ops:Array Oper} {K:KP} {w0:World} {n:Nat} (hsel:Region.noSelect ops=true) (hsk:Region.sinkB .any ops n=true) (hch:Region.chainB .any ops n=true) (hn:n < ops.size) (h0:Heap E ν Hs Ms w0) (ht:tieds ν Hs) :
    ∀ (sch:Sch3) (f:Nat) (listed:Array Bool) (σ:Sig) (H:HS) (M:Mem) (a:Act) (w:World),schT3 .any ops n sch f listed=true→HeadInv .any ops n listed→Rep E σ H M a w→(stayH Hs H∧Ms.le M)→wpH3 E ops.toList Hs Ms (wpR E ops.toList K (ops.toList.drop n)) sch σ H M →
      wpAnyT E.P .any ops (fun e a w=>e=Exit.normal ∧ ∃ σ H M,Rep E σ H M a w∧K σ H M) (fun w=>Heap E ν Hs Ms w) n f listed a w
  | .done,f,listed,σ,H,M,a,w,hB,inv,hr,_,h=>by
    simp only [schT3,Bool.and_eq_true,decide_eq_true_eq] at hB
    simp only [wpH3] at h
    have h2:=wpR_sound (E:=E) (ops:=ops.toList) (K:=K) (Q:=fun e a w=>e=Exit.normal ∧ ∃ σ H M,Rep E σ H M a w∧K σ H M) (fun σ H M a w hr hk=>⟨rfl,σ,H,M,hr,hk⟩) (ops.toList.drop n) σ H M a w hr h
    have h3:(ops.toList.drop n).length=ops.size - n:=by simp
    have:=wpAnyT_of_seq (P:=E.P) (md:=.any) (ops:=ops) (S:=fun w=>Heap E ν Hs Ms w) (n:=n) (Q':=fun e a w=>e=Exit.normal ∧ ∃ σ H M,Rep E σ H M a w∧K σ H M) (ops.toList.drop n) n listed a w (fun j=>by rw [List.getElem?_drop,Array.getElem?_toList]) (by rw [h3]; exact hB.2) (Nat.le_refl _) (by simpa using h2)
    rw [h3] at this
    rw [hB.1]
    exact this
  | .take i m,f+1,listed,σ,H,M,a,w,hB,inv,⟨ν',hs,hh⟩,⟨hsub,hle⟩,h=>by
    simp only [schT3,Bool.and_eq_true,decide_eq_true_eq] at hB
    obtain ⟨hin,⟨hf,hrd⟩,hB⟩:=hB
    simp only [wpH3] at h
    cases ho:ops[i]? with
    | none=>rw [show ops.toList[i]? = none by rw [Array.getElem?_toList]; exact ho] at h; exact h.elim
    | some o=>
      rw [show ops.toList[i]? = some o by rw [Array.getElem?_toList]; exact ho] at h
      simp only [opt1] at h
      cases hg:gdOf ops.toList σ o.guard with
      | none=>rw [hg] at h; exact h.elim
      | some g=>
        cases hd:o.dst with
        | none=>rw [hg,hd] at h; exact h.elim
        | some d=>
          rw [hg,hd] at h
          obtain ⟨⟨hN,h1⟩,hK⟩:=h
          have hgd:=gd_spec hs hg o rfl
          obtain ⟨hS,hke⟩:=Heap.stay h0 ht hh hsub hle
          refine wpAnyT_take hsk hch hn hin inv (v:=bif g then (pev E.P Hs Ms σ o.op).2.1.val ν' else undef) ho hsel hf hrd (fun c a w h=>by obtain ⟨h,_⟩:=h; cases h) ?_ hS ?_
          · cases g with
            | true=>
              obtain ⟨hg1,hc⟩:=h1 rfl
              refine .inl ⟨by simpa using hgd,fun w1 hw1=>?_⟩
              exact pev_sound hs (Heap.again hw1 ht hke hh.one) o hg1 hc
            | false=>exact .inr ⟨by simpa using hgd,rfl⟩
          · refine wpH3_sound hsel hsk hch hn h0 ht m f _ _ H M _ w hB (inv.set (by simpa using hrd) hin) ⟨ν',?_,hh⟩ ⟨hsub,hle⟩ hK
            rw [hd]
            exact hs.put hN rfl
  | .one i m,f+1,listed,σ,H,M,a,w,hB,inv,hr,hsm,h=>by
    simp only [schT3,Bool.and_eq_true,decide_eq_true_eq,beq_iff_eq] at hB
    refine wpAnyT_all hB.2.1 (by simp) fun j hj=>?_
    obtain rfl:j=i:=by simpa using hj
    exact wpH3_op hsel hsk hch hn h0 ht m f listed σ H M a w hB.2.2 (inv.set (by rw [hB.2.1]; simp) hB.1) hr hsm h
  | .two i m i' m2,f+1,listed,σ,H,M,a,w,hB,inv,hr,hsm,h=>by
    simp only [schT3,Bool.and_eq_true,decide_eq_true_eq,beq_iff_eq] at hB
    refine wpAnyT_all hB.2.1 (by simp) fun j hj=>?_
    rcases (by simpa using hj:j=i∨j=i') with rfl | rfl
    · exact wpH3_op hsel hsk hch hn h0 ht m f listed σ H M a w hB.2.2.1 (inv.set (by rw [hB.2.1]; simp) hB.1.1) hr hsm h.1
    · exact wpH3_op hsel hsk hch hn h0 ht m2 f listed σ H M a w hB.2.2.2 (inv.set (by rw [hB.2.1]; simp) hB.1.2) hr hsm h.2
  | .three i m i' m2 i'' m3,f+1,listed,σ,H,M,a,w,hB,inv,hr,hsm,h=>by
    simp only [schT3,Bool.and_eq_true,decide_eq_true_eq,beq_iff_eq] at hB
    refine wpAnyT_all hB.2.1 (by simp) fun j hj=>?_
    rcases (by simpa using hj:j=i∨j=i'∨j=i'') with rfl | rfl | rfl
    · exact wpH3_op hsel hsk hch hn h0 ht m f listed σ H M a w hB.2.2.1 (inv.set (by rw [hB.2.1]; simp) hB.1.1) hr hsm h.1
    · exact wpH3_op hsel hsk hch hn h0 ht m2 f listed σ H M a w hB.2.2.2.1 (inv.set (by rw [hB.2.1]; simp) hB.1.2.1) hr hsm h.2.1
    · exact wpH3_op hsel hsk hch hn h0 ht m3 f listed σ H M a w hB.2.2.2.2 (inv.set (by rw [hB.2.1]; simp) hB.1.2.2) hr hsm h.2.2
  | .take _ _,0,_,_,_,_,_,_,hB,_,_,_,_=>by simp [schT3] at hB
  | .one _ _,0,_,_,_,_,_,_,hB,_,_,_,_=>by simp [schT3] at hB
  | .two _ _ _ _,0,_,_,_,_,_,_,hB,_,_,_,_=>by simp [schT3] at hB
  | .three _ _ _ _ _ _,0,_,_,_,_,_,_,hB,_,_,_,_=>by simp [schT3] at hB
where
  wpH3_op {ops:Array Oper} {K:KP} {w0:World} {n:Nat} (hsel:Region.noSelect ops=true) (hsk:Region.sinkB .any ops n=true) (hch:Region.chainB .any ops n=true) (hn:n < ops.size) (h0:Heap E ν Hs Ms w0) (ht:tieds ν Hs) {i:Nat} (m:Sch3) (f:Nat) (listed:Array Bool) (σ:Sig) (H:HS) (M:Mem) (a:Act) (w:World)
      (hB:schT3 .any ops n m f (listed.setIfInBounds i true)=true) (inv:HeadInv .any ops n (listed.setIfInBounds i true)) (hr:Rep E σ H M a w) (_:stayH Hs H∧Ms.le M)
      (h:opt1 (fun o=>efK E o Hs Ms (wpH3 E ops.toList Hs Ms (wpR E ops.toList K (ops.toList.drop n)) m) σ H M (gdOf ops.toList σ o.guard)) ops.toList[i]?) :
      wpOp E.P ops (fun e a w=>e=Exit.normal ∧ ∃ σ H M,Rep E σ H M a w∧K σ H M) i (fun a' w'=>(i < n→Heap E ν Hs Ms w')∧wpAnyT E.P .any ops (fun e a w=>e=Exit.normal ∧ ∃ σ H M,Rep E σ H M a w∧K σ H M) (fun w=>Heap E ν Hs Ms w) n f (listed.setIfInBounds i true) a' w') a w:=by
    cases ho:ops[i]? with
    | none=>rw [show ops.toList[i]? = none by rw [Array.getElem?_toList]; exact ho] at h; exact h.elim
    | some o=>
      rw [show ops.toList[i]? = some o by rw [Array.getElem?_toList]; exact ho] at h
      simp only [opt1] at h
      obtain ⟨ν',hs,hh⟩:=hr
      cases hg:gdOf ops.toList σ o.guard with
      | none=>rw [hg] at h; exact h.elim
      | some g=>
        rw [hg] at h
        simp only [efK] at h
        have hgd:=gd_spec hs hg o rfl
        have key:=stepK_sound (Nx:=fun a' w'=>(i < n→Heap E ν Hs Ms w')∧wpAnyT E.P .any ops (fun e a w=>e=Exit.normal ∧ ∃ σ H M,Rep E σ H M a w∧K σ H M) (fun w=>Heap E ν Hs Ms w) n f (listed.setIfInBounds i true) a' w')
          (Qx:=fun e a w=>e=Exit.normal ∧ ∃ σ H M,Rep E σ H M a w∧K σ H M)
          (fun σ1 H1 M1 a1 w1 hr1 hk1=>by
            obtain ⟨ν1,hs1,hh1⟩:=hr1
            exact ⟨fun _=>(Heap.stay h0 ht hh1 hk1.1.1 hk1.1.2).1,wpH3_sound hsel hsk hch hn h0 ht m f _ σ1 H1 M1 a1 w1 hB inv ⟨ν1,hs1,hh1⟩ hk1.1 hk1.2⟩) hs hh h
        unfold wpOp
        simp only [ho]
        have hgd':Region.wanted o (yielded ops a.tmps)=g:=by simpa using hgd
        rw [hgd']
        cases g with
        | true=>simp only [if_true] at key ⊢; exact .inl key
        | false=>simp only [Bool.false_eq_true,if_false] at key ⊢; exact key


/-- a region that draws its order: the first n after a plan (quiet ones taken first, at what of memory stays), the others in their order -/
theorem DrawK.held3 {id:Nat} {ops:Array Oper} {K:KP} (n:Nat) (sel:List Nat) (sch:Sch3) (hm:E.P.follows .mixedOrders=true)
    (hB:(Region.noSelect ops && (decide (n < ops.size) && (Region.sinkB .any ops n && (Region.chainB .any ops n && schT3 .any ops n sch ops.size (Array.replicate ops.size false)))))=true)
    (h : ∀ xs:Nat→Value,stayH (pickH sel (tieH xs H)) (tieH xs H)∧wpH3 E ops.toList (pickH sel (tieH xs H)) M (wpR E ops.toList K (ops.toList.drop n)) sch σ (tieH xs H) M):DrawK E id ops K σ H M:=by
  rintro a w ⟨ν,hs,hh⟩
  simp only [Bool.and_eq_true,decide_eq_true_eq] at hB
  obtain ⟨hsel,hn,hsk,hch,hsc⟩:=hB
  have h1:=tieH_heap (hh.grow ((Below.refl _ _).drew):Heap E ν H M { w with drawn:=w.drawn+1 })
  have inv0:HeadInv .any ops n (Array.replicate ops.size false):=
    ⟨by simp,fun j oj _ hl=>(by rw [getD_replicate_false] at hl; cases hl),fun t _ ht=>getD_in (by simpa using ht) (getD_replicate_false _ _)⟩
  exact wp_region_any hm (wpAny_of_T _ _ _ _ (wpH3_sound hsel hsk hch hn (h1.sublist (pickH_sub sel _)) (pickH_tieds sel H) sch _ _ σ _ M a _ hsc inv0 ⟨ν,hs,h1⟩ ⟨(h ν).1,Mem.le.refl M⟩ (h ν).2))
end
end Go.X

namespace Go.X.Vo
open Go Go.X Go.RowKit Go.X.Bg Go.X.Nm Go.X.Bp Go.X.Sb

theorem rwith (b v:Value) (ws:List WV) (x:WV) (M:Mem) (hbo:b.oneCell'=true) (hbs:isSl b=true) (hv:VolsM M v ws) (hx:x.1.oneCell'=true) (hxs:isSl x.1=true) (hs:(ws.map (·.2)).Pairwise (fun a b=>Op.bytesLess a.1 b.1=true)) (hf : ∀ y ∈ ws,y.2.1≠x.2.1) (hl:ws.length≤1000) :
    Meets Proofs.Tryz.prog 75 [stV b v,wvV x] M (OwnR (fun s=>.agg [.v b,s]) 2 ((insW ws x).map encV)):=by
  have h1 : ∀ w ∈ ws,w.1.oneCell'=true:=fun w hw=>(hv.blk w hw).one
  have h2 : ∀ w ∈ ws++[x],w.1.oneCell'=true:=fun w hw=>by
    rcases List.mem_append.1 hw with hw | hw
    · exact h1 w hw
    · rw [List.mem_singleton.1 hw]; exact hx
  have h3 : ∀ w ∈ insW ws x,w.1.oneCell'=true:=fun w hw=>h2 w ((insW_perm x ws).subset hw)
  have hT:Ctx (fun s=>.agg [.v b,s]):=fun s s' ν ν' h=>by simp only [SV.val,SV.vals,h]
  refine Meets.closeR hT (fun e he=>?_) ?_
  · obtain ⟨y,hy,rfl⟩:=List.mem_map.1 he
    exact ⟨rfl,encV_one (h3 y hy)⟩
  refine Meets.of_body [0,1,2,3,4,5] Proofs.Tryz.func75 rfl (by kernel_rfl) rfl fun w=>?_
  have hrow:ws.map encV++[[.string ⟨x.2.1.toArray⟩,x.1]]=(ws++[x]).map encW:=by
    rw [encW_map h2,List.map_append]; rfl
  simp only [Proofs.Tryz.f75,stV,wvV,zz,zq,↓reduceIte,zx,zj,zy,zk,zw,zb,reduceCtorEq,zd,zf,zp,zm,zh,zu,zt,zn,zc,zl,za,ze,zo,zg,nzs,hbo,hx,hv.row.one]
  refine DrawK.ent (X:=Mem) (fun N=>M.le N) (fun N=>([(2,true,.ptr 16 0 0 0),(3,true,.ptr 24 0 0 0),(4,true,.ptr 32 0 0 0),(5,true,.ptr 40 0 0 0)],[(104,.row 2 ((ws++[x]).map encW)),(40,.box [.v b,.own 104] none),(32,.box [.v (.slice none 0 0),.v (.slice none 0 0)] none),(24,.box [.v (.string ⟨x.2.1.toArray⟩),.v x.1] none),(16,.box [.v b,.v v] none)],N)) ?_ ?_
  · refine DrawK.held3 10 [16,24] (tk3 [0,2,5,1,3] (.three 4 (.two 6 (.two 7 (tk3 [8] (.one 9 .done)) 9 (.one 7 (tk3 [8] .done))) 9 (.one 6 (.one 7 (tk3 [8] .done)))) 6 (.two 4 (.two 7 (tk3 [8] (.one 9 .done)) 9 (.one 7 (tk3 [8] .done))) 9 (.one 4 (.one 7 (tk3 [8] .done)))) 9 (.two 4 (.one 6 (.one 7 (tk3 [8] .done))) 6 (.one 4 (.one 7 (tk3 [8] .done)))))) (by kernel_rfl) (by kernel_rfl) fun xs=>?_
    simp only [zz,zq,↓reduceIte,zx,zj,zy,zk,zw,zb,reduceCtorEq,zd,zf,zp,zm,zh,zu,zt,zn,zc,zl,za,ze,zo,zg,nzs,se1,se2,se3,tks3,hx,oneVs hxs]
    refine ⟨?_,⟨?_,?_⟩,?_,?_⟩
    all_goals
      refine CallK.own Ctx.id rfl rfl (cloneV v ws M hv.row (by omega)) rfl fun M1 hM1=>?_
      simp only [zz,zq,↓reduceIte,zx,zj,zy,zk,zw,zb,reduceCtorEq,zd,zf,zp,zm,zh,zu,zt,zn,zc,zl,za,ze,zo,zg,nzs,se1,se2,se3,tks3,hx,oneVs hxs,oneVs hbs,hbo,List.length_map,hrow]
      repeat' apply And.intro
      all_goals first
        | exact hM1
        | omega
        | exact ⟨M1,hM1,Ent.heap (HEnt.untie (k:=32) rfl) (Ent.heap (HEnt.untie (k:=24) rfl) (Ent.heap (HEnt.untie (k:=16) rfl) (Ent.of (by simp only [zq,↓reduceIte,zx,zj,zy,zk,zw,zb,reduceCtorEq,zd,zf,zp,zm,zh,zu,zt,zn,zc,zl,za,ze,zo,zg,hset]))))⟩
  · intro N hN
    simp only [zz,zq,↓reduceIte,zx,zj,zy,zk,zw,zb,reduceCtorEq,zd,zf,zp,zm,zh,zu,zt,zn,zc,zl,za,ze,zo,zg,nzs]
    refine ⟨rfl,OpK.openRow (k:=104) 1002 rfl (fun _=>rfl) (fun h=>by simp at h) fun bb cap sp r1 r2=>?_⟩
    refine OpK.mkIface (t:=32) rfl rfl rfl rfl (by kernel_rfl) ⟨98,by kernel_rfl⟩ ?_
    simp only [zz,zq,↓reduceIte,zx,zj,zy,zk,zw,zb,reduceCtorEq,zd,zf,zp,zm,zh,zu,zt,zn,zc,zl,za,ze,zo,zg,sp1,sp2,sp3,nzs,so0]
    refine stepK.mkFn rfl rfl ?_
    simp only [zz,zq,↓reduceIte,zx,zj,zy,zk,zw,zb,reduceCtorEq,zd,zf,zp,zm,zh,zu,zt,zn,zc,zl,za,ze,zo,zg,nzs,List.length_map] at r1 ⊢
    refine CallK.sortRowJ 8016 40 1 encW 2 ltW (ws++[x]) (b:=bb) (cap:=cap) (sp:=sp) (tb:=none) rfl rfl rfl rfl encW_len rfl (by simp; omega) ⟨_,Proofs.Tryz.func117,by kernel_rfl,by kernel_rfl⟩ sortCW (srtLessW _ (by simp; omega)) fun l' p1 p2=>?_
    have hlen:=p1.length_eq
    have hl':=srt_insW (List.pairwise_map.1 hs) hf p1 p2
    subst hl'
    rw [encW_map h3,← hlen]
    simp only [zz,zq,↓reduceIte,zx,zj,zy,zk,zw,zb,reduceCtorEq,zd,zf,zp,zm,zh,zu,zt,zn,zc,zl,za,ze,zo,zg,sp1,sp2,sp3,nzs,hset,hbo]
    refine .inr (.inr ⟨bb,8016,cap,sp,?_,rfl,?_⟩)
    · rw [List.length_map]
    · rw [List.length_map,hlen]
      exact r1
end Go.X.Vo

