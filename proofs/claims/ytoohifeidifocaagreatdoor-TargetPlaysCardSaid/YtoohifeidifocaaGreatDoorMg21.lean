/- Contracts of functions and the logic that they are proved in (5 texts in one). Conditions: none. -/
import Derived.Test.YtoohifeidifocaaGreatDoorMg5
import Derived.Test.YtoohifeidifocaaGreatDoorMg20
import Derived.Test.YtoohifeidifocaaGreatDoorMg17
import Derived.Test.YtoohifeidifocaaGreatDoorVpG
import Derived.Test.YtoohifeidifocaaGreatDoorMg16
open Nat renaming reduceAdd→zx,reduceMul→zj,reduceDiv→zy,reduceEqDiff→zk,reduceLT→zw,reduceLeDiff→zb,reduceBEq→zg
open Int renaming reduceEq→zd,reduceNe→zf,reduceLT→zp,reduceLE→zm,reduceAdd→zh,reduceSub→zu,reduceMul→zt,reduceNeg→zn,reduceToNat→zc,cast_ofNat_Int→zl,natCast_zero→za,natCast_one→ze,toNat_natCast→zo
namespace Go.X.Rp
end Go.X.Rp
namespace Go.X.Bg
end Go.X.Bg
namespace Go.X.Sb
end Go.X.Sb
namespace Go.X.Nm
end Go.X.Nm
namespace Go.X.Bp
end Go.X.Bp
set_option linter.unusedSimpArgs false
set_option linter.unusedVariables false
set_option maxHeartbeats 4000000
set_option maxRecDepth 20000
namespace Go.X.Si
open Go Go.X Go.X.Rp

/-- where a number stands, or -1 -/
def ix (k:Int):List Int→Nat→Int
  | [],_=>-1
  | x :: l,i=>if k=x then (i:Int) else ix k l (i+1)
theorem index (y:Value) (l:List Int) (k:Int) (M:Mem) (hy:RowM M y 1 (l.map encI)) :
    Meets Proofs.Tryz.prog 99 [.v y,.v (.int .i64 k)] M fun r _ _=>r = .v (.int .i64 (ix k l 0)):=by
  refine Meets.of_body [0,1,4,5,7,8,9,16] Proofs.Tryz.func99 rfl (by kernel_rfl) rfl fun w=>?_
  generalize hc:ix k l 0=c
  have hyl:=hy.len_le
  rw [List.length_map] at hyl
  simp only [Proofs.Tryz.f99,zz,zq,↓reduceIte,zx,zj,zy,zk,zw,zb,reduceCtorEq,zd,zf,zp,zm,zh,zu,zt,zn,zc,zl,za,ze,zo,zg,hy.len,hy.sl,List.length_map]
  refine LoopK.go (X:=Nat×Nat) (fun x=>([(0,true,.v y),(1,true,.v (.int .i64 k)),(7,true,.v (.int .i64 l.length)),(8,true,.v (.int .i64 x.2))],[],M))
    (fun x=>x.1+x.2=l.length∧ix k (l.drop x.2) x.2=c) (fun x=>x.1) (l.length,0) ⟨rfl,hc⟩ (Ent.of ?_) ?_
  · simp only [zq,↓reduceIte,zx,zj,zy,zk,zw,zb,reduceCtorEq,zd,zf,zp,zm,zh,zu,zt,zn,zc,zl,za,ze,zo,zg]
  rintro ⟨f,i⟩ ⟨h1,h2⟩
  simp only at h1 h2
  simp only [zz,zq,↓reduceIte,zx,zj,zy,zk,zw,zb,reduceCtorEq,zd,zf,zp,zm,zh,zu,zt,zn,zc,zl,za,ze,zo,zg]
  refine ⟨fun h3=>?_,fun h3=>?_⟩
  · obtain ⟨x,hx,hd⟩:=drop_at (l:=l) (i:=i) (by omega)
    have g1:=hy.el1 hx rfl
    have i1:=hy.ix (i:=(i:Int)) (by omega) (by rw [List.length_map]; omega)
    rw [hd] at h2
    simp only [ix] at h2
    simp only [zz,zq,↓reduceIte,zx,zj,zy,zk,zw,zb,reduceCtorEq,zd,zf,zp,zm,zh,zu,zt,zn,zc,zl,za,ze,zo,zg,g1.1,inK,lo,hi]
    refine ⟨i1,g1.2,fun h4=>?_,fun h4=>⟨by omega,(f - 1,i+1),⟨⟨by simp only; omega,by simp only; rw [if_neg h4] at h2; exact h2⟩,by simp only; omega⟩,Ent.of ?_⟩⟩
    · rw [if_pos h4] at h2
      rw [h2]
    · simp only [zq,↓reduceIte,zx,zj,zy,zk,zw,zb,reduceCtorEq,zd,zf,zp,zm,zh,zu,zt,zn,zc,zl,za,ze,zo,zg,Int.natCast_add]
  · have hd:l.drop i=[]:=List.drop_eq_nil_of_le (by omega)
    rw [hd] at h2
    simp only [ix] at h2
    rw [h2]
theorem contains (y:Value) (l:List Int) (k:Int) (M:Mem) (hy:RowM M y 1 (l.map encI)) :
    Meets Proofs.Tryz.prog 52 [.v y,.v (.int .i64 k)] M fun r _ _=>r = .v (.bool (decide (0≤ix k l 0))):=by
  refine Meets.of_body [0,1,4] Proofs.Tryz.func52 rfl (by kernel_rfl) rfl fun w=>?_
  simp only [Proofs.Tryz.f52,zz,zq,↓reduceIte,zx,zj,zy,zk,zw,zb,reduceCtorEq,zd,zf,zp,zm,zh,zu,zt,zn,zc,zl,za,ze,zo,zg]
  refine CallK.pure ⟨rfl,rfl⟩ rfl (index y l k M hy) ?_
  simp only [zz,zq,↓reduceIte,zx,zj,zy,zk,zw,zb,reduceCtorEq,zd,zf,zp,zm,zh,zu,zt,zn,zc,zl,za,ze,zo,zg]
theorem ix_ge (k:Int) : ∀ (l:List Int) (i:Nat),(0≤ix k l i)=(k ∈ l)
  | [],i=>by simp [ix]
  | x :: l,i=>by
    rw [ix,List.mem_cons]
    split
    · rename_i h
      exact propext ⟨fun _=>.inl h,fun _=>by omega⟩
    · rename_i h
      rw [ix_ge k l (i+1)]
      exact propext ⟨fun a=>.inr a,fun a=>a.resolve_left h⟩
end Go.X.Si

namespace Go.X.Bp
open Go Go.X Go.RowKit Go.X.Bg Go.X.Sb

/-- the numbers of the first items that have this print -/
def usedN (l:List It) (s:Int) (n:Nat):List Int:=((l.take n).filter (fun x=>decide (x.1=s))).map (·.2.1)
theorem usedN_succ {l:List It} {n:Nat} {x:It} (s:Int) (h:l[n]? = some x):usedN l s (n+1)=if x.1=s then usedN l s n++[x.2.1] else usedN l s n:=by
  unfold usedN
  rw [List.take_add_one,h,Option.toList_some,List.filter_append,List.map_append]
  split
  · rename_i h1; simp [h1]
  · rename_i h1; simp [h1]
theorem usedN_len (l:List It) (s:Int) (n:Nat):(usedN l s n).length≤n:=by
  unfold usedN
  rw [List.length_map]
  have h1:=List.length_filter_le (fun x:It=>decide (x.1=s)) (l.take n)
  have h2:=List.length_take_le n l
  omega
theorem usedN_has (l:List It) (s:Int) (n:Nat):((n:Int) ∈ usedN l s l.length)=(has l s n=true):=by
  unfold usedN
  rw [List.take_length]
  apply propext
  rw [has_iff]
  simp only [List.mem_map,List.mem_filter,decide_eq_true_eq]
  exact ⟨fun ⟨x,⟨h1,h2⟩,h3⟩=>⟨x,h1,h2,h3⟩,fun ⟨x,h1,h2,h3⟩=>⟨x,⟨h1,h2⟩,h3⟩⟩
theorem rput (y:Value) (l:List It) (s:List UInt8) (M:Mem) (hy:RowM M y 4 (l.map Bg.encT)) (hb:bagE l=0) :
    Meets Proofs.Tryz.prog 122 [.v y,.v (.string ⟨s.toArray⟩)] M (OwnR (putT (putG l s).2.1 (putG l s).2.2) 4 ((putG l s).1.map Bg.encT)):=by
  have hes : ∀ q:List It,∀ e ∈ q.map Bg.encT,e.length=4 ∧ ∀ c ∈ e,c.oneCell'=true:=fun q e he=>by
    obtain ⟨x,hx,rfl⟩:=List.mem_map.1 he
    exact ⟨rfl,oneCell_it x⟩
  refine Meets.closeR (putT_ctx _ _) (hes _) ?_
  refine Meets.of_body [0,1,4,5,6,7,8,9,10,11,14,18,19,20,21,28,31,50,59,68] Proofs.Tryz.func122 rfl (by kernel_rfl) rfl fun w=>?_
  generalize hc:putG l s=c
  unfold putG at hc
  have hyl:=hy.len_le
  rw [List.length_map] at hyl
  have hl64:=bag_len hb
  simp only [Proofs.Tryz.f122,zz,zq,↓reduceIte,zx,zj,zy,zk,zw,zb,reduceCtorEq,zd,zf,zp,zm,zh,zu,zt,zn,zc,zl,za,ze,zo,zg,nzs]
  by_cases h2:64 < s.length
  · have c2:((64:Int) < (s.length:Int))=True:=eq_true (by omega)
    rw [if_pos h2] at hc
    subst hc
    simp only [zz,zq,↓reduceIte,zx,zj,zy,zk,zw,zb,reduceCtorEq,zd,zf,zp,zm,zh,zu,zt,zn,zc,zl,za,ze,zo,zg,nzs,c2,putT,idS,z3]
    exact fun h=>absurd h (by omega)
  have c2:((64:Int) < (s.length:Int))=False:=eq_false (by omega)
  have c2b:((s.length:Int)≤64)=True:=eq_true (by omega)
  have hs:s.length≤maxLen:=Nat.le_trans (Nat.le_of_not_lt h2) (by decide)
  rw [if_neg h2] at hc
  simp only [zz,zq,↓reduceIte,zx,zj,zy,zk,zw,zb,reduceCtorEq,zd,zf,zp,zm,zh,zu,zt,zn,zc,zl,za,ze,zo,zg,nzs,c2,c2b]
  refine CallK.own Ctx.id rfl rfl (cloneB y l M hy (by omega)) rfl fun M1 hM1=>?_
  simp only [zz,zq,↓reduceIte,zx,zj,zy,zk,zw,zb,reduceCtorEq,zd,zf,zp,zm,zh,zu,zt,zn,zc,zl,za,ze,zo,zg,nzs,hdel,sigDrop,sigDropA]
  refine LoopK.nilRow 8 55 1 rfl rfl rfl ?_
  refine LoopK.go (X:=Nat) (fun n=>([(0,true,.v y),(1,true,.v (.string ⟨s.toArray⟩)),(4,true,.v (.slice none 0 0)),(5,true,.ptr 40 0 0 0),(6,true,.v (.int .i64 0)),(7,true,.ptr 56 0 0 0),(8,true,.own 440),(18,true,.own 136),(19,true,.v (.int .i64 l.length)),(20,true,.v (.int .i64 (n:Int)))],[(440,.row 1 ((usedN l (sumT s) n).map encI)),(56,.box [.own 136] none),(136,.row 4 (l.map Bg.encT)),(40,.box [.v (.bool false),.v (.int .i64 0),.v (.int .i64 0)] none)],M1))
    (fun n=>n≤l.length∧txtIx l s=fidx (fun x:It=>decide (x.2.2.1=s)) (l.drop n) n) (fun n=>l.length - n) 0 ⟨Nat.zero_le _,rfl⟩ (Ent.of ?_) ?_
  · simp only [zq,↓reduceIte,zx,zj,zy,zk,zw,zb,reduceCtorEq,zd,zf,zp,zm,zh,zu,zt,zn,zc,zl,za,ze,zo,zg,List.length_map,usedN,List.take_zero,List.filter_nil,List.map_nil,za]
  rintro n ⟨hn,hti⟩
  simp only [zz,zq,↓reduceIte,zx,zj,zy,zk,zw,zb,reduceCtorEq,zd,zf,zp,zm,zh,zu,zt,zn,zc,zl,za,ze,zo,zg,nzs]
  refine ⟨fun h3=>?_,fun h3=>?_⟩
  · have hn':n < l.length:=by omega
    obtain ⟨x,hx,hd⟩:=Rp.drop_at (l:=l) (i:=n) hn'
    have hg:=getD_it hx
    rw [hd] at hti
    simp only [fidx] at hti
    simp only [zz,zq,↓reduceIte,zx,zj,zy,zk,zw,zb,reduceCtorEq,zd,zf,zp,zm,zh,zu,zt,zn,zc,zl,za,ze,zo,zg,nzs,hg,List.getD_cons_zero,List.getD_cons_succ,List.length_map]
    have hrf:=(oneE_ok (bag_ok hb x (List.mem_of_getElem? hx))).2.2
    by_cases h4:x.2.2.1=s
    · rw [if_pos (decide_eq_true h4)] at hti
      rw [hti,atI_at hx,zo,if_pos (by omega)] at hc
      have c4:=eq_true h4
      by_cases h5:x.2.2.2=1000000
      · rw [if_pos h5] at hc
        subst hc
        have c5:((1000000:Int)≤x.2.2.2)=True:=eq_true (by omega)
        have c5b:(x.2.2.2 < 1000000)=False:=eq_false (by omega)
        simp only [zz,zq,↓reduceIte,zx,zj,zy,zk,zw,zb,reduceCtorEq,zd,zf,zp,zm,zh,zu,zt,zn,zc,zl,za,ze,zo,zg,nzs,c4,c5,c5b,putT,idS,z3]
        exact ⟨⟨by omega,by omega⟩,by omega⟩
      · rw [if_neg h5] at hc
        subst hc
        have c5:((1000000:Int)≤x.2.2.2)=False:=eq_false (by omega)
        have c5b:(x.2.2.2 < 1000000)=True:=eq_true (by omega)
        have hset:=setR_map hx (x.2.2.2+1)
        simp only [zz,zq,↓reduceIte,zx,zj,zy,zk,zw,zb,reduceCtorEq,zd,zf,zp,zm,zh,zu,zt,zn,zc,zl,za,ze,zo,zg,nzs,hg,List.getD_cons_zero,List.getD_cons_succ,c4,c5,c5b,List.length_map,hset]
        refine ⟨⟨by omega,by omega⟩,by omega,by simp only [inK,lo,hi]; omega,⟨by omega,by omega⟩,by omega,DrawK.tail 7 (by kernel_rfl) (by kernel_rfl) ?_⟩
        simp only [zz,zq,↓reduceIte,zx,zj,zy,zk,zw,zb,reduceCtorEq,zd,zf,zp,zm,zh,zu,zt,zn,zc,zl,za,ze,zo,zg,nzs,putT,idS]
        exact .inr (.inl ⟨136,rfl,rfl⟩)
    · have c4:=eq_false h4
      rw [if_neg (by simpa using h4)] at hti
      simp only [zz,zq,↓reduceIte,zx,zj,zy,zk,zw,zb,reduceCtorEq,zd,zf,zp,zm,zh,zu,zt,zn,zc,zl,za,ze,zo,zg,nzs,c4]
      refine ⟨⟨by omega,by omega⟩,by omega,DrawK.quiet (by kernel_rfl) (by kernel_rfl) ?_⟩
      simp only [zz,zq,↓reduceIte,zx,zj,zy,zk,zw,zb,reduceCtorEq,zd,zf,zp,zm,zh,zu,zt,zn,zc,zl,za,ze,zo,zg,nzs]
      refine ⟨_,⟨⟨rfl,rfl⟩,rprintS s M1 hs⟩,?_⟩
      simp only [zz,zq,↓reduceIte,zx,zj,zy,zk,zw,zb,reduceCtorEq,zd,zf,zp,zm,zh,zu,zt,zn,zc,zl,za,ze,zo,zg,nzs]
      have hul:=usedN_len l (sumT s) n
      have hus:=usedN_succ (sumT s) hx
      refine ⟨fun h7=>⟨⟨by rw [List.length_map]; omega,by rw [List.length_map]; omega⟩,by simp only [inK,lo,hi]; omega,n+1,⟨⟨by omega,hti⟩,by omega⟩,Ent.of ?_⟩,fun h7=>⟨by simp only [inK,lo,hi]; omega,n+1,⟨⟨by omega,hti⟩,by omega⟩,Ent.of ?_⟩⟩
      · rw [if_pos h7] at hus
        rw [hus,List.map_append,show ([x.2.1].map encI)=[[Value.int IntKind.i64 x.2.1]] from rfl]
        simp only [zq,↓reduceIte,zx,zj,zy,zk,zw,zb,reduceCtorEq,zd,zf,zp,zm,zh,zu,zt,zn,zc,zl,za,ze,zo,zg,Int.natCast_add]
      · rw [if_neg h7] at hus
        rw [hus]
        simp only [zq,↓reduceIte,zx,zj,zy,zk,zw,zb,reduceCtorEq,zd,zf,zp,zm,zh,zu,zt,zn,zc,zl,za,ze,zo,zg,Int.natCast_add]
  · have hd:l.drop n=[]:=List.drop_eq_nil_of_le (by omega)
    rw [hd] at hti
    simp only [fidx] at hti
    rw [hti,if_neg (by decide)] at hc
    have hnl:n=l.length:=by omega
    subst hnl
    by_cases h6:l.length=64
    · have c6:((63:Int) < (l.length:Int))=True:=eq_true (by omega)
      have c6b:((l.length:Int)≤63)=False:=eq_false (by omega)
      rw [if_pos h6] at hc
      subst hc
      simp only [zz,zq,↓reduceIte,zx,zj,zy,zk,zw,zb,reduceCtorEq,zd,zf,zp,zm,zh,zu,zt,zn,zc,zl,za,ze,zo,zg,nzs,hy.len,hy.sl,List.length_map,c6,c6b,putT,idS,z3]
      skip
    have c6:((63:Int) < (l.length:Int))=False:=eq_false (by omega)
    have c6b:((l.length:Int)≤63)=True:=eq_true (by omega)
    rw [if_neg h6] at hc
    subst hc
    simp only [zz,zq,↓reduceIte,zx,zj,zy,zk,zw,zb,reduceCtorEq,zd,zf,zp,zm,zh,zu,zt,zn,zc,zl,za,ze,zo,zg,nzs,hy.len,hy.sl,List.length_map,c6,c6b]
    refine CallK.pure ⟨rfl,rfl⟩ rfl (rprintS s M1 hs) ?_
    simp only [zz,zq,↓reduceIte,zx,zj,zy,zk,zw,zb,reduceCtorEq,zd,zf,zp,zm,zh,zu,zt,zn,zc,zl,za,ze,zo,zg,nzs]
    refine LoopK.go (X:=Nat) (fun n=>([(0,true,.v y),(1,true,.v (.string ⟨s.toArray⟩)),(4,true,.v (.slice none 0 0)),(5,true,.ptr 40 0 0 0),(6,true,.v (.int .i64 0)),(7,true,.ptr 56 0 0 0),(8,true,.own 440),(11,true,.ptr 88 0 0 0)],[(88,.box [.v (.int .i64 (sumT s)),.v (.int .i64 (n:Int)),.v (.string ⟨s.toArray⟩),.v (.int .i64 1)] none),(440,.row 1 ((usedN l (sumT s) l.length).map encI)),(56,.box [.own 136] none),(136,.row 4 (l.map Bg.encT)),(40,.box [.v (.bool false),.v (.int .i64 0),.v (.int .i64 0)] none)],M1)) (fun n=>∀ m,m < n→has l (sumT s) m=true) (fun n=>65 - n) 0 (fun m hm=>by omega) (Ent.of ?_) ?_
    · simp only [zq,↓reduceIte,zx,zj,zy,zk,zw,zb,reduceCtorEq,zd,zf,zp,zm,zh,zu,zt,zn,zc,zl,za,ze,zo,zg,za]
    intro n hn
    have hpn:=pig (sumT s) n l hn
    simp only [zz,zq,↓reduceIte,zx,zj,zy,zk,zw,zb,reduceCtorEq,zd,zf,zp,zm,zh,zu,zt,zn,zc,zl,za,ze,zo,zg,nzs]
    have hcont:decide (0≤Si.ix (n:Int) (usedN l (sumT s) l.length) 0)=has l (sumT s) n:=by
      have:=(Si.ix_ge (n:Int) (usedN l (sumT s) l.length) 0).trans (usedN_has l (sumT s) n)
      rw [Bool.eq_iff_iff,decide_eq_true_eq,this]
    refine CallK.lend (k:=440) rfl rfl rfl (fun _=>rfl) (fun v M3 hM3 hv=>Si.contains v (usedN l (sumT s) l.length) (n:Int) M3 hv) ?_
    rw [hcont]
    cases hh:has l (sumT s) n with
    | true=>
      simp only [zz,zq,↓reduceIte,zx,zj,zy,zk,zw,zb,reduceCtorEq,zd,zf,zp,zm,zh,zu,zt,zn,zc,zl,za,ze,zo,zg,nzs,inK,lo,hi]
      refine ⟨by omega,n+1,⟨fun m hm=>?_,by omega⟩,Ent.of ?_⟩
      · rcases Nat.lt_or_ge m n with hm' | hm'
        · exact hn m hm'
        · rw [show m=n by omega]; exact hh
      · simp only [zq,↓reduceIte,zx,zj,zy,zk,zw,zb,reduceCtorEq,zd,zf,zp,zm,zh,zu,zt,zn,zc,zl,za,ze,zo,zg,Int.natCast_add]
    | false=>
      have hfn:=freeN_of hn hh (by omega)
      rw [hfn]
      simp only [zz,zq,↓reduceIte,zx,zj,zy,zk,zw,zb,reduceCtorEq,zd,zf,zp,zm,zh,zu,zt,zn,zc,zl,za,ze,zo,zg,nzs]
      have hrow:l.map Bg.encT++[[.int .i64 (sumT s),.int .i64 (n:Int),.string ⟨s.toArray⟩,.int .i64 1]]=(l++[(sumT s,(n:Int),s,1)]).map Bg.encT:=by
        rw [List.map_append]; rfl
      rw [hrow]
      refine ⟨⟨by rw [List.length_map]; omega,by rw [List.length_map]; omega⟩,⟨rfl,OpK.openRow (k:=608) 1002 rfl (fun _=>rfl) (fun h=>by simp at h) fun b cap sp r1 r2=>?_⟩⟩
      refine OpK.mkIface (t:=31) rfl rfl rfl rfl (by kernel_rfl) ⟨94,by kernel_rfl⟩ ?_
      simp only [zz,zq,↓reduceIte,zx,zj,zy,zk,zw,zb,reduceCtorEq,zd,zf,zp,zm,zh,zu,zt,zn,zc,zl,za,ze,zo,zg,sp1,sp2,sp3,nzs,so0]
      refine stepK.mkFn rfl rfl ?_
      simp only [zz,zq,↓reduceIte,zx,zj,zy,zk,zw,zb,reduceCtorEq,zd,zf,zp,zm,zh,zu,zt,zn,zc,zl,za,ze,zo,zg,nzs,List.length_map] at r1 ⊢
      refine CallK.sortRow 8016 56 Bg.encT 4 ltI (l++[(sumT s,(n:Int),s,1)]) (b:=b) (cap:=cap) (sp:=sp) (tb:=none) rfl rfl rfl encT_len rfl (by simp; omega) ⟨_,Proofs.Tryz.func117,by kernel_rfl,by kernel_rfl⟩ sortC (srtLess _ (by simp; omega)) fun l' p1 p2=>?_
      have hlen:=p1.length_eq
      have hl':=srt_ins (bag_srt hb) (fun y hy hh2=>by
        have:=(has_iff l (sumT s) n).2 ⟨y,hy,hh2⟩
        rw [hh] at this
        cases this) p1 p2
      rw [← hl',← hlen]
      simp only [zz,zq,↓reduceIte,zx,zj,zy,zk,zw,zb,reduceCtorEq,zd,zf,zp,zm,zh,zu,zt,zn,zc,zl,za,ze,zo,zg,sp1,sp2,sp3,nzs,hset]
      refine DrawK.tail 7 (by kernel_rfl) (by kernel_rfl) ?_
      simp only [zz,zq,↓reduceIte,zx,zj,zy,zk,zw,zb,reduceCtorEq,zd,zf,zp,zm,zh,zu,zt,zn,zc,zl,za,ze,zo,zg,nzs,putT,idS]
      refine .inr (.inr ⟨b,8016,cap,sp,?_,rfl,?_⟩)
      · rw [List.length_map]
        rfl
      · rw [List.length_map,hlen]
        exact r1
end Go.X.Bp

namespace Go.X.Vo
open Go Go.X Go.RowKit Go.X.Bg Go.X.Nm Go.X.Bp Go.X.Sb

theorem setV_get {l:List Vol} {i a:Nat} {id:Id3} {j:Nat} {x:Vol} (h:l[j]? = some x):(setV l i a id)[j]? = some (if j=i then (x.1,x.2.set a id) else x):=by
  unfold setV
  rw [List.getElem?_set]
  by_cases e:i=j
  · subst e
    rw [if_pos rfl,if_pos (List.getElem?_eq_some_iff.1 h).1,if_pos rfl,volAt_at h]
  · rw [if_neg e,if_neg (fun h=>e h.symm),h]
theorem rset (b v:Value) (bag:List It) (ws:List WV) (vi a:Nat) (id:Id3) (M:Mem) (hb:RowM M b 4 (bag.map Bg.encT)) (hv:VolsM M v ws) (hl:ws.length≤1000) (hli : ∀ w ∈ ws,w.2.2.length≤1000) (ha : ∀ x,ws[vi]? = some x→a < x.2.2.length) :
    Meets Proofs.Tryz.prog 119 [stV b v,.v (.int .i64 vi),.v (.int .i64 a),idS id] M (StM (fun s=>s) (bag,setV (ws.map (·.2)) vi a id)):=by
  refine Meets.settleM Ctx.id ?_
  refine Meets.of_body [0,1,2,3,4,7,8,9,10,11,16,17,18,19,29] Proofs.Tryz.func119 rfl (by kernel_rfl) rfl fun w=>?_
  have hLg : ∀ (j:Nat) (x:WV),ws[j]? = some x→(setV (ws.map (·.2)) vi a id)[j]? = some (if j=vi then (x.2.1,x.2.2.set a id) else x.2):=fun j x hx=>setV_get (by rw [List.getElem?_map,hx]; rfl)
  have hLl:(setV (ws.map (·.2)) vi a id).length=ws.length:=by unfold setV; rw [List.length_set,List.length_map]
  generalize setV (ws.map (·.2)) vi a id=L at *
  simp only [Proofs.Tryz.f119,stV,idS,zz,zq,↓reduceIte,zx,zj,zy,zk,zw,zb,reduceCtorEq,zd,zf,zp,zm,zh,zu,zt,zn,zc,zl,za,ze,zo,zg,nzs,hb.one,oneVs hb.sl,hv.row.one,hv.row.len,hv.row.sl,List.length_map]
  refine LoopK.nilBox 72 1 100 2 rfl rfl rfl rfl rfl ?_
  refine LoopK.go (X:=Nat×List WV×Mem) (fun z=>([(1,true,.v (.int .i64 vi)),(2,true,.v (.int .i64 a)),(4,true,.ptr 32 0 0 0),(7,true,.ptr 56 0 0 0),(8,true,.ptr 64 0 0 0),(9,true,.ptr 72 0 0 0),(16,true,.v v),(17,true,.v (.int .i64 ws.length)),(18,true,.v (.int .i64 z.1))],
      [(800,.row 2 (z.2.1.map encV)),(72,.box [.v b,.own 800] none),(64,.box [.v (.slice none 0 0),.v (.slice none 0 0)] none),(56,.box [.v (.bool id.1),.v (.int .i64 id.2.1),.v (.int .i64 id.2.2)] none),(32,.box [.v b,.v v] none)],z.2.2))
    (fun z=>(z.1≤ws.length∧M.le z.2.2)∧z.2.1.map (·.2)=L.take z.1 ∧ ∀ w ∈ z.2.1,RowM z.2.2 w.1 3 (w.2.2.map encI3)) (fun z=>ws.length - z.1) (0,[],M) ⟨⟨Nat.zero_le _,Mem.le.refl M⟩,rfl,fun w hw=>by (cases hw)⟩ (Ent.of ?_) ?_
  · simp only [zq,↓reduceIte,zx,zj,zy,zk,zw,zb,reduceCtorEq,zd,zf,zp,zm,zh,zu,zt,zn,zc,zl,za,ze,zo,zg,List.map_nil,za]
  rintro ⟨i,us,N⟩ ⟨⟨n1,nM⟩,n2,n3⟩
  simp only at n1 nM n2 n3
  have hul:us.length=i:=by
    have:=congrArg List.length n2
    rw [List.length_map,List.length_take] at this
    omega
  by_cases hil:i < ws.length
  rotate_left
  · have d1:((i:Int) < (ws.length:Int))=False:=eq_false (by omega)
    rw [List.take_of_length_le (by omega)] at n2
    simp only [zz,zq,↓reduceIte,zx,zj,zy,zk,zw,zb,reduceCtorEq,zd,zf,zp,zm,zh,zu,zt,zn,zc,zl,za,ze,zo,zg,nzs,d1,hb.one]
    exact ⟨.v b,.own 800,us,rfl,n2,fun k h=>(by cases h),⟨hb.le nM,rfl⟩,n3⟩
  have d1:((i:Int) < (ws.length:Int))=True:=eq_true (by omega)
  obtain ⟨x,hx,_⟩:=l_drop_at (l:=ws) (i:=i) hil
  have hvN:=hv.le nM
  obtain ⟨g0,g1,i0⟩:=vol_at hvN hx
  have hxm:=List.mem_of_getElem? hx
  have hblk:=hvN.blk x hxm
  have hxl:=hli x hxm
  have hLx:=hLg i x hx
  have hnext : ∀ (u:Value) (N3:Mem) (l3:List Id3),N.le N3→RowM N3 u 3 (l3.map encI3)→(if i=vi then (x.2.1,x.2.2.set a id) else x.2)=(x.2.1,l3)→(us++[(u,x.2.1,l3)]).map (·.2)=L.take (i+1) ∧ ∀ w ∈ us++[(u,x.2.1,l3)],RowM N3 w.1 3 (w.2.2.map encI3):=fun u N3 l3 h1 h2 h3=>by
    refine ⟨?_,fun w hw=>?_⟩
    · rw [List.take_add_one,hLx,h3,List.map_append,n2]
      rfl
    · rcases List.mem_append.1 hw with hw | hw
      · exact (n3 w hw).le h1
      · rw [List.mem_singleton.1 hw]; exact h2
  have hrow : ∀ (u:Value) (l3:List Id3),us.map encV++[[.string ⟨x.2.1.toArray⟩,u]]=(us++[(u,x.2.1,l3)]).map encV:=fun u l3=>by
    rw [List.map_append]; rfl
  simp only [zz,zq,↓reduceIte,zx,zj,zy,zk,zw,zb,reduceCtorEq,zd,zf,zp,zm,zh,zu,zt,zn,zc,zl,za,ze,zo,zg,nzs,d1,i0,i0.2,g0.1,g0.2,g1.1,g1.2,hblk.one]
  refine CallK.own Ctx.id rfl rfl (cloneI x.1 x.2.2 N hblk (by omega)) rfl fun N2 hN2=>?_
  by_cases hiv:i=vi
  · have c2:((i:Int)=(vi:Int))=True:=eq_true (by omega)
    have hal:a < x.2.2.length:=ha x (by rw [← hiv]; exact hx)
    rw [if_pos hiv] at hnext
    have hset:(x.2.2.map encI3).set a [.bool id.1,.int .i64 id.2.1,.int .i64 id.2.2]=(x.2.2.set a id).map encI3:=by rw [List.map_set]; rfl
    simp only [zz,zq,↓reduceIte,zx,zj,zy,zk,zw,zb,reduceCtorEq,zd,zf,zp,zm,zh,zu,zt,zn,zc,zl,za,ze,zo,zg,nzs,c2,List.length_map,hset]
    refine ⟨⟨by omega,by omega⟩,hal,OpK.pub (k:=200) rfl fun u N3 hN3 hu=>OpK.step ?_⟩
    simp only [zz,zq,↓reduceIte,zx,zj,zy,zk,zw,zb,reduceCtorEq,zd,zf,zp,zm,zh,zu,zt,zn,zc,zl,za,ze,zo,zg,sp1,sp2,sp3,nzs,hu.one,oneVs hu.sl,List.length_map,hul,hrow u (x.2.2.set a id),inK,lo,hi]
    obtain ⟨q1,q2⟩:=hnext u N3 (x.2.2.set a id) (hN2.trans hN3) hu rfl
    refine ⟨⟨by omega,by omega⟩,by omega,(i+1,us++[(u,x.2.1,(x.2.2.set a id))],N3),⟨⟨⟨by simp only; omega,nM.trans (hN2.trans hN3)⟩,q1,q2⟩,by simp only; omega⟩,Ent.rekeyB 72 1 312 100 2 _ rfl rfl rfl rfl rfl (Ent.of ?_)⟩
    simp only [zq,↓reduceIte,zx,zj,zy,zk,zw,zb,reduceCtorEq,zd,zf,zp,zm,zh,zu,zt,zn,zc,zl,za,ze,zo,zg,Int.natCast_add]
  · have c2:((i:Int)=(vi:Int))=False:=eq_false (by omega)
    rw [if_neg hiv] at hnext
    simp only [zz,zq,↓reduceIte,zx,zj,zy,zk,zw,zb,reduceCtorEq,zd,zf,zp,zm,zh,zu,zt,zn,zc,zl,za,ze,zo,zg,nzs,c2]
    refine OpK.pub (k:=200) rfl fun u N3 hN3 hu=>OpK.step ?_
    simp only [zz,zq,↓reduceIte,zx,zj,zy,zk,zw,zb,reduceCtorEq,zd,zf,zp,zm,zh,zu,zt,zn,zc,zl,za,ze,zo,zg,sp1,sp2,sp3,nzs,hu.one,oneVs hu.sl,List.length_map,hul,hrow u x.2.2,inK,lo,hi]
    obtain ⟨q1,q2⟩:=hnext u N3 x.2.2 (hN2.trans hN3) hu rfl
    refine ⟨⟨by omega,by omega⟩,by omega,(i+1,us++[(u,x.2.1,x.2.2)],N3),⟨⟨⟨by simp only; omega,nM.trans (hN2.trans hN3)⟩,q1,q2⟩,by simp only; omega⟩,Ent.rekeyB 72 1 312 100 2 _ rfl rfl rfl rfl rfl (Ent.of ?_)⟩
    simp only [zq,↓reduceIte,zx,zj,zy,zk,zw,zb,reduceCtorEq,zd,zf,zp,zm,zh,zu,zt,zn,zc,zl,za,ze,zo,zg,Int.natCast_add]
theorem rtrim (b v:Value) (bag:List It) (ws:List WV) (vi a:Nat) (M:Mem) (hb:RowM M b 4 (bag.map Bg.encT)) (hv:VolsM M v ws) (hB:bagE bag=0) (hl:ws.length≤1000) (hli : ∀ w ∈ ws,w.2.2.length≤1000) {x:WV} (hx:ws[vi]? = some x) (ha:a < x.2.2.length) :
    Meets Proofs.Tryz.prog 76 [stV b v,.v (.int .i64 vi),.v (.int .i64 a)] M (StM (fun s=>s) (trimS bag (ws.map (·.2)) vi a)):=by
  refine Meets.of_body [0,1,2,3,6,7,8,24] Proofs.Tryz.func76 rfl (by kernel_rfl) rfl fun w=>?_
  have hS:=rset b v bag ws vi a hole M hb hv hl hli (fun y hy=>by rw [hx] at hy; cases hy; exact ha)
  obtain ⟨_,g1,i0⟩:=vol_at hv hx
  have hblk:=hv.blk x (List.mem_of_getElem? hx)
  obtain ⟨id,hid,_⟩:=l_drop_at (l:=x.2.2) (i:=a) ha
  obtain ⟨y0,y1,y2,yi⟩:=id_at hblk hid
  have k4:(ws.map (·.2))[vi]? = some x.2:=by rw [List.getElem?_map,hx]; rfl
  have hidAt:idAt (ws.map (·.2)) vi a=id:=by unfold idAt; rw [volAt_at k4,hid]; rfl
  have hbe:(trimS bag (ws.map (·.2)) vi a).1=lessId bag id:=by simp only [trimS,hidAt]
  simp only [stV,idS,hole] at hS
  obtain ⟨q0,q1,q2⟩:=id
  simp only at y0 y1 y2
  simp only [Proofs.Tryz.f76,stV,zz,zq,↓reduceIte,zx,zj,zy,zk,zw,zb,reduceCtorEq,zd,zf,zp,zm,zh,zu,zt,zn,zc,zl,za,ze,zo,zg,nzs,hb.one,hv.row.one,i0,i0.2,g1.1,g1.2,yi,yi.2,y0.1,y0.2,y1.1,y1.2,y2.1,y2.2]
  refine CallK.stM (T:=fun s=>s) (fun _ _=>rfl) rfl rfl hS fun b2 v2 ws2 M2 hM2 hw2 hb2 hv2=>?_
  cases q0 with
  | false=>
    have e1:lessId bag (false,q1,q2)=bag:=if_neg (fun h=>by cases h)
    simp only [zz,zq,↓reduceIte,zx,zj,zy,zk,zw,zb,reduceCtorEq,zd,zf,zp,zm,zh,zu,zt,zn,zc,zl,za,ze,zo,zg,nzs,stV,hb2.one,hv2.row.one]
    exact ⟨b2,v2,ws2,rfl,hw2,by rw [hbe,e1]; exact hb2,hv2⟩
  | true=>
    have e1:lessId bag (true,q1,q2)=(lessG bag (true,q1,q2)).1:=if_pos rfl
    have hR:=Meets.rows (rless b2 bag (true,q1,q2) M2 hb2 hB)
    simp only [idS] at hR
    simp only [zz,zq,↓reduceIte,zx,zj,zy,zk,zw,zb,reduceCtorEq,zd,zf,zp,zm,zh,zu,zt,zn,zc,zl,za,ze,zo,zg,nzs,stV,hb2.one,hv2.row.one]
    refine CallK.row (T:=fun s=>.tup [s,.v (.int .i64 (lessG bag (true,q1,q2)).2)]) (Ctx.fst _) rfl rfl hR fun b3 M3 hM3 hb3=>?_
    simp only [zz,zq,↓reduceIte,zx,zj,zy,zk,zw,zb,reduceCtorEq,zd,zf,zp,zm,zh,zu,zt,zn,zc,zl,za,ze,zo,zg,nzs,hb3.one,hv2.row.one,oneVs hb3.sl]
    exact ⟨b3,v2,ws2,rfl,hw2,by rw [hbe,e1]; exact hb3,hv2.le hM3⟩
theorem rwrite (b v:Value) (bag:List It) (ws:List WV) (vi a:Nat) (s:List UInt8) (M:Mem) (hb:RowM M b 4 (bag.map Bg.encT)) (hv:VolsM M v ws) (hB:bagE bag=0) (hl:ws.length≤1000) (hli : ∀ w ∈ ws,w.2.2.length≤1000) {x:WV} (hx:ws[vi]? = some x) (ha:a < x.2.2.length) :
    Meets Proofs.Tryz.prog 81 [stV b v,.v (.int .i64 vi),.v (.int .i64 a),.v (.string ⟨s.toArray⟩)] M (StM (fun t=>.tup [t,.v (.int .i64 (writeS bag (ws.map (·.2)) vi a s).2)]) (writeS bag (ws.map (·.2)) vi a s).1):=by
  refine Meets.of_body [0,1,2,3,4,8,9,10,11,12,13,27] Proofs.Tryz.func81 rfl (by kernel_rfl) rfl fun w=>?_
  have hT:=rtrim b v bag ws vi a M hb hv hB hl hli hx ha
  have hB2:bagE (trimS bag (ws.map (·.2)) vi a).1=0:=bagE_lessId hB _
  generalize hc:writeS bag (ws.map (·.2)) vi a s=c
  unfold writeS at hc
  change (if (putG (trimS bag (ws.map (·.2)) vi a).1 s).2.2≠0 then (zSt,(putG (trimS bag (ws.map (·.2)) vi a).1 s).2.2) else (((putG (trimS bag (ws.map (·.2)) vi a).1 s).1,setV (ws.map (·.2)) vi a (putG (trimS bag (ws.map (·.2)) vi a).1 s).2.1),0))=c at hc
  have k4:(ws.map (·.2))[vi]? = some x.2:=by rw [List.getElem?_map,hx]; rfl
  have hil:=(List.getElem?_eq_some_iff.1 k4).1
  simp only [stV] at hT
  simp only [Proofs.Tryz.f81,stV,zz,zq,↓reduceIte,zx,zj,zy,zk,zw,zb,reduceCtorEq,zd,zf,zp,zm,zh,zu,zt,zn,zc,zl,za,ze,zo,zg,nzs,hb.one,hv.row.one]
  refine CallK.stM (T:=fun s=>s) (fun _ _=>rfl) rfl rfl hT fun b2 v2 ws2 M2 hM2 hw2 hb2 hv2=>?_
  have hPu:=Meets.rows (rput b2 (trimS bag (ws.map (·.2)) vi a).1 s M2 hb2 hB2)
  have hw2':ws2.map (·.2)=setV (ws.map (·.2)) vi a hole:=hw2
  have hl2:ws2.length=ws.length:=by
    have:=congrArg List.length hw2'
    unfold setV at this
    rwa [List.length_map,List.length_set,List.length_map] at this
  have hset2:setV (ws.map (·.2)) vi a hole=(ws.map (·.2)).set vi (x.2.1,x.2.2.set a hole):=setV_at k4 a hole
  have hli2 : ∀ w ∈ ws2,w.2.2.length≤1000:=fun w hw=>by
    have h1:w.2 ∈ ws2.map (·.2):=List.mem_map_of_mem hw
    rw [hw2',hset2] at h1
    rcases List.mem_or_eq_of_mem_set h1 with h1 | h1
    · obtain ⟨y,hy,e⟩:=List.mem_map.1 h1
      rw [← e]; exact hli y hy
    · rw [h1]
      simp only [List.length_set]
      exact hli x (List.mem_of_getElem? hx)
  have ha2 : ∀ y,ws2[vi]? = some y→a < y.2.2.length:=fun y hy=>by
    have h1:(ws2.map (·.2))[vi]? = some y.2:=by rw [List.getElem?_map,hy]; rfl
    rw [hw2',hset2,List.getElem?_set_self hil] at h1
    rw [← Option.some.inj h1]
    simp only [List.length_set]
    exact ha
  simp only [zz,zq,↓reduceIte,zx,zj,zy,zk,zw,zb,reduceCtorEq,zd,zf,zp,zm,zh,zu,zt,zn,zc,zl,za,ze,zo,zg,nzs,stV,hb2.one,hv2.row.one]
  refine CallK.row (putT_ctx _ _) rfl rfl hPu fun b3 M3 hM3 hb3=>?_
  generalize putG (trimS bag (ws.map (·.2)) vi a).1 s=pg at *
  obtain ⟨pl,pid,pe⟩:=pg
  simp only at hc hb3
  by_cases h5:pe=0
  rotate_left
  · have c5:=eq_false h5
    rw [if_pos h5] at hc
    subst hc
    simp only [zz,zq,↓reduceIte,zx,zj,zy,zk,zw,zb,reduceCtorEq,zd,zf,zp,zm,zh,zu,zt,zn,zc,zl,za,ze,zo,zg,nzs,putT,idS,c5,hb2.one,hv2.row.one,hb3.one]
    exact ⟨_,_,[],rfl,rfl,RowM.nil _ _,zero_volsM _ |>.2⟩
  rw [if_neg (fun h=>h h5)] at hc
  subst hc
  have hS:=rset b2 v2 (trimS bag (ws.map (·.2)) vi a).1 ws2 vi a pid M3 (hb2.le hM3) (hv2.le hM3) (by omega) hli2 ha2
  rw [hw2',setV_setV hil] at hS
  simp only [stV,idS] at hS
  simp only [zz,zq,↓reduceIte,zx,zj,zy,zk,zw,zb,reduceCtorEq,zd,zf,zp,zm,zh,zu,zt,zn,zc,zl,za,ze,zo,zg,nzs,putT,idS,h5,hb2.one,hv2.row.one,hb3.one]
  refine CallK.stM (T:=fun s=>s) (fun _ _=>rfl) rfl rfl hS fun b4 v4 ws4 M4 hM4 hw4 hb4 hv4=>?_
  simp only [zz,zq,↓reduceIte,zx,zj,zy,zk,zw,zb,reduceCtorEq,zd,zf,zp,zm,zh,zu,zt,zn,zc,zl,za,ze,zo,zg,nzs,stV,hb4.one,hv4.row.one,hb3.one,oneVs hb3.sl]
  exact ⟨b3,v4,ws4,rfl,hw4,hb3.le hM4,hv4⟩
end Go.X.Vo

namespace Go.X
open Go Go.RowKit
section
variable {E:Env} {σ:Sig} {H:HS} {M:Mem} {a:Act} {w:World} {ν:Nat→Value} {K:KP} {o:Oper}
/-- what a comparison does in every world where it finds the row, and the box with the slice at its place -/
def LessCJ {α:Type} [Inhabited α] (P:Program) (g:Nat) (enc:α→List Value) (k:Nat) (lt:α→α→Bool) (size jb:Nat):Prop:=
  ∀ (W:World) (Bs blk c:Nat) (dk:Array α),dk.size=size→W.cell? ⟨Bs,jb,none⟩=some (.slice (some ⟨blk,0,none⟩) size c)→(∀ t u,t < size→u < k→W.cell? ⟨blk,0+t * k+u,none⟩=some ((enc dk[t]!)[u]!)) →
    ∀ i j:Nat,i < size→j < size→Calls P g #[.int .i64 i,.int .i64 j,.pointer (some ⟨Bs,0,none⟩)] W fun e w'=>e = .returned (.bool (lt dk[i]! dk[j]!)) ∧ ∃ q,w'=W.drewN q
theorem CallK.sortRowJ {α:Type} [Inhabited α] {f d g t:Nat} (kr kb jb:Nat) (enc:α→List Value) (k:Nat) (lt:α→α→Bool) (l:List α) {b cap:Nat} {sp:List Value} {cs:List SV} {tb:Option Value}
    (hk:hget H kr=some (.box (opn ((l.map enc).flatten++sp)) (some (ptrV b)))) (hkb:hget H kb=some (.box cs tb)) (hcj:cs[jb]? = some (.v (.slice (some ⟨b,0,none⟩) l.length cap))) (hne:decide (kb≠kr)=true)
    (henc : ∀ x,(enc x).length=k) (hd:decide (d < E.N)=true) (hsz:l.length < 4611686018427387904) (hcl : ∃ fn,E.P.funcs[f]? = some fn∧(fn.name == "runtime.NumGoroutine")=false∧fn.body.isNone=false)
    (hS:SortC E.P f g t enc k lt) (hL:LessCJ E.P g enc k lt l.length jb)
    (hK : ∀ l':List α,l'.Perm l→l'.Pairwise (fun x y=>lt y x=false)→K ((d,true,.v (.tuple #[])) :: σ) (hset kr (.box (opn ((l'.map enc).flatten++sp)) (some (ptrV b))) H) M) :
    CallK E f [.v (.iface t (.slice (some ⟨b,0,none⟩) l.length cap)),.fn g [.ptr kb 0 0 0]] d K σ H M:=by
  intro ν a w hs hh
  refine .inl ⟨hcl,?_⟩
  obtain ⟨⟨b',T,e1,e2⟩,e3⟩:=hh.holds _ (hget_mem hk)
  have e4:=e3 _ rfl
  simp only at e1 e4
  rw [e4] at e1
  cases e1
  rw [opn_vals] at e2
  obtain ⟨⟨bb,T',f1,f2⟩,_⟩:=hh.holds _ (hget_mem hkb)
  simp only at f1 f2
  have fj:(SV.vals ν cs).toArray[jb]? = some (.slice (some ⟨b,0,none⟩) l.length cap):=by
    rw [List.getElem?_toArray,SV.vals_map,List.getElem?_map,hcj]
    rfl
  have hbb:bb≠b:=by
    rintro rfl
    exact blk_ne hh hk (b:=bb) (by rw [e4]; rfl) _ (hget_mem hkb) (of_decide_eq_true hne) (by simp only [f1]; rfl)
  have hlt:b < w.heap.size:=(Array.getElem?_eq_some_iff.1 e2).1
  have hltb:bb < w.heap.size:=(Array.getElem?_eq_some_iff.1 f2).1
  have hv:(SV.vals ν [.v (.iface t (.slice (some ⟨b,0,none⟩) l.length cap)),.fn g [.ptr kb 0 0 0]]).toArray = #[.iface t (.slice (some ⟨b,0,none⟩) l.length cap),.func (.func g) #[] #[.pointer (some ⟨bb,0,none⟩)]]:=by
    simp [SV.vals,SV.val,f1,bOf]
  rw [hv]
  have hfin : ∀ l':List α,l'.Perm l→l'.Pairwise (fun x y=>lt y x=false) → ∀ w',Heap E ν (hset kr (.box (opn ((l'.map enc).flatten++sp)) (some (ptrV b))) H) M w' →
      ∃ σ' H' M',Rep E σ' H' M' (a.put (some d) (.tuple #[])) w'∧K σ' H' M':=fun l' h1 h2 w' h3=>⟨_,_,_,⟨ν,hs.put (of_decide_eq_true hd) rfl,h3⟩,hK l' h1 h2⟩
  rcases Nat.lt_or_ge 1 l.length with h2 | h1
  rotate_left
  · refine (hS.1 (some ⟨b,0,none⟩) l.length cap h1 #[.pointer (some ⟨bb,0,none⟩)] w).mono ?_
    rintro e w' ⟨rfl,os,rfl⟩
    refine ⟨_,rfl,hfin l (List.Perm.refl l) ?_ _ ?_⟩
    · match l,h1 with
      | [],_=>exact .nil
      | [x],_=>exact List.pairwise_singleton _ _
    · have:=hh.grow (below_grow w os 0)
      have hs2:hset kr (.box (opn ((l.map enc).flatten++sp)) (some (ptrV b))) H=H:=hset_self hk
      rw [hs2]
      exact this
  · have hH:Sort.HoldsK enc k w b 0 l.toArray:=fun j hj=>by
      have hf:=flatK_flat henc l.toArray
      have hj2:j < (Sort.flatK enc k l.toArray).toList.length:=by simpa using hj
      have hx:((l.map enc).flatten++sp)[j]? = some ((Sort.flatK enc k l.toArray)[j]!):=by
        rw [show (l.map enc).flatten=(Sort.flatK enc k l.toArray).toList from hf.symm,List.getElem?_append_left hj2,Array.getElem?_toList,getElem!_pos _ j (by simpa using hj)]
        exact Array.getElem?_eq_getElem _
      refine ⟨?_,?_⟩
      · rw [cell_of_heap e2,Nat.zero_add]
        exact hx
      · simp [World.frozen?,e2]
    have hless:Proofs.LessReadsK E.P g #[.pointer (some ⟨bb,0,none⟩)] enc k lt b 0 l.toArray.size w:=by
      intro m os dk hs i j hi hj
      have e:Proofs.sortWorldK enc k w b 0 m dk os=Sort.putRowK enc k (Sort.grow (Sort.ahead w m) os) b 0 dk:=by
        unfold Proofs.sortWorldK; rw [Sort.putRowK_grow _ _ (Sort.ahead w m) _ b 0 _ hlt]
      have hHg:Sort.HoldsK enc k (Sort.grow (Sort.ahead w m) os) b 0 l.toArray:=Sort.holdsK_grow _ _ _ _ b 0 _ hlt (Sort.holdsK_ahead _ _ _ _ _ _ _ hH)
      refine hL _ bb b cap dk (by simpa using hs) ?_ (fun t u ht hu=>?_) i j (by simpa using hi) (by simpa using hj)
      · rw [e,Sort.cell?_putRowK_other _ _ _ b 0 dk _ (by exact hbb),Sort.cell?_grow _ _ _ (by exact hltb)]
        show w.cell? ⟨bb,jb,none⟩=_
        rw [cell_of_heap f2,← List.getElem?_toArray]
        exact fj
      · rw [e]
        exact ((Sort.holdsK_putRowK _ _ _ b 0 l.toArray dk hHg hs).cell (i:=t) (c:=u) (by rw [hs]; simpa using ht) hu).1
    refine (hS.2 b cap l.toArray (by simp only [List.size_toArray]; omega) (by simpa using hsz) #[.pointer (some ⟨bb,0,none⟩)] w hless hH hlt).mono ?_
    rintro e w' ⟨rfl,d',n,os,hp,hso,rfl⟩
    have hsd:d'.size=l.length:=by simpa using hp.1
    refine ⟨_,rfl,hfin d'.toList ?_ ?_ _ ?_⟩
    · have:=hp.2.2
      rw [Array.extract_eq_self_of_le (by rw [hsd]; simp),Array.extract_eq_self_of_le (by simp)] at this
      exact this
    · rw [List.pairwise_iff_getElem]
      intro i j hi hj hij
      have:=hso i j (Nat.zero_le _) hij (by simpa [hsd] using hj)
      rw [getElem!_pos _ i (by simpa using hi),getElem!_pos _ j (by simpa using hj)] at this
      simpa using this
    · have hF:(Sort.flatK enc k d').size=((l.map enc).flatten).length:=by rw [flat_len henc,Sort.size_flatK,hsd]
      have hpw:Heap E ν (hset kr (.box (opn ((d'.toList.map enc).flatten++sp)) (some (ptrV b))) H) M (Sort.putRowK enc k w b 0 d'):=by
        refine hh.upd hk (b:=b) (by rw [e4]; rfl) (fun j hj=>?_) ?_ ⟨rfl,rfl,rfl⟩ ⟨⟨b,T,e4,?_⟩,fun v hv=>?_⟩
        · simp only [Sort.putRowK,Sort.putRow,Sort.mapBlock,Array.getElem?_modify]
          rw [if_neg (fun h=>hj h.symm)]
        · simp [Sort.putRowK,Sort.putRow,Sort.mapBlock]
        · rw [opn_vals]
          simp only [Sort.putRowK,Sort.putRow,Sort.mapBlock,Array.getElem?_modify,e2,if_true,Option.map_some,Sort.onCells]
          rw [putCells_flat hF,flatK_flat henc]
        · cases hv
          exact e4
      exact hpw.grow (w':=Sort.grow (Sort.putRowK enc k (Sort.ahead w n) b 0 d') os) (below_grow (Sort.putRowK enc k w b 0 d') os n)
end
end Go.X

namespace Go.Proofs
open Go.Shelf Go.RowKit Go.Lib Go.Sort
set_option maxHeartbeats 2000000 in
/-- the closure of woolref.with -/
theorem Tryz.withLess (blk off c Bs size:Nat) (W:World) (G:Nat→ByteArray) (hs:W.cell? ⟨Bs,1,none⟩=some (.slice (some ⟨blk,off,none⟩) size c))
    (hc : ∀ t,t < size→W.cell? ⟨blk,off+t * 2,none⟩=some (.string (G t))) (i j:Nat) (hi:i < size) (hj:j < size) (_hsz:size < 4611686018427387904) :
    Calls Tryz.prog 118 #[.int .i64 i,.int .i64 j,.pointer (some ⟨Bs,0,none⟩)] W fun e w'=>e = .returned (.bool (Op.bytesLess (G i).data.toList (G j).data.toList)) ∧ ∃ q,w'=W.drewN q:=by
  have ci:=hc i hi
  have cj:=hc j hj
  go_enter Tryz.func118,Tryz.ntmps118
  go_wp2
  go_quiet (fail)
  go_wp2
  go_ret
  refine ⟨?_,nq,rfl⟩
  rw [← ByteArray.toList_eq,← ByteArray.toList_eq]
  rfl
noncomputable def Tryz.svT:TypeInfo:=(Tryz.prog.info? 32).get (by kernel_rfl)
noncomputable def Tryz.svE:TypeInfo:=(Tryz.prog.info? 98).get (by kernel_rfl)
theorem Tryz.svK (n:Nat) (h2:2≤n):Lib.swapperK n Tryz.svE 25=9:=by
  have a:Tryz.svE.hasPointers=true:=by kernel_rfl
  have b:Tryz.svE.bytes=40:=by kernel_rfl
  have c:(n == 0)=false:=by simp; omega
  have d:(n == 1)=false:=by simp; omega
  simp [Lib.swapperK,a,b,c,d]
end Go.Proofs
namespace Go.X.Vo
open Go Go.X Go.RowKit Go.X.Bg Go.X.Nm Go.X.Bp
theorem less_neg {a b c:List UInt8} (h1:Op.bytesLess a b=false) (h2:Op.bytesLess b c=false):Op.bytesLess a c=false:=by
  have t1:=less_tri b a
  have t2:=less_tri c b
  have t3:=less_tri c a
  rw [h1,Bool.not_false,Bool.or_eq_true,decide_eq_true_eq] at t1
  rw [h2,Bool.not_false,Bool.or_eq_true,decide_eq_true_eq] at t2
  rcases t2 with t2 | rfl
  · rcases t1 with t1 | rfl
    · rw [less_trans t2 t1,Bool.true_or] at t3
      simpa using t3.symm
    · rw [t2,Bool.true_or] at t3
      simpa using t3.symm
  · exact h1
theorem swoW:Sort.SWO ltW:=by
  refine ⟨fun x=>less_irr _,fun x y z h1 h2=>less_trans h1 h2,fun x y z h1 h2=>less_neg h1 h2⟩
/-- a cell for every volume -/
def encW (w:WV):List Value:=[.string ⟨w.2.1.toArray⟩,bif w.1.oneCell' then w.1 else .bool false]
theorem encW_len (x:WV):(encW x).length=2:=rfl
theorem encW_one (x:WV) : ∀ c ∈ encW x,c.oneCell'=true:=fun c hc=>by
  simp only [encW,List.mem_cons,List.not_mem_nil,or_false] at hc
  rcases hc with rfl | rfl
  · rfl
  · cases h:x.1.oneCell'
    · rfl
    · exact h
theorem encW_eq {w:WV} (h:w.1.oneCell'=true):encW w=encV w:=by unfold encW encV; rw [h]; rfl
theorem encW_map {l:List WV} (h : ∀ w ∈ l,w.1.oneCell'=true):l.map encW=l.map encV:=List.map_congr_left fun w hw=>encW_eq (h w hw)
theorem srtLessW (size:Nat) (hsz:size < 4611686018427387904):LessCJ Proofs.Tryz.prog 118 encW 2 ltW size 1:=fun W Bs blk c dk hdk h1 h2 i j hi hj=>by
  refine (Proofs.Tryz.withLess blk 0 c Bs size W (fun t=>⟨(dk[t]!).2.1.toArray⟩) h1 (fun t ht=>h2 t 0 ht (by omega)) i j hi hj hsz).mono ?_
  rintro e w' ⟨rfl,q⟩
  exact ⟨rfl,q⟩
theorem sortCW:SortC Proofs.Tryz.prog 117 118 32 encW 2 ltW:=by
  refine ⟨fun p n c hn lb w=>?_,fun blk c d h2 hsz lb w hl hH hb=>?_⟩
  · have : ∃ f,Proofs.Tryz.prog.funcs.findIdx? (·.name == "internal/reflectlite" ++ ".Swapper$" ++ toString (Lib.swapperK n Proofs.Tryz.svE 25))=some f:=by
      rcases Nat.lt_or_ge n 1 with h | h
      · have:n=0:=by omega
        subst this
        exact ⟨178,by kernel_rfl⟩
      · have:n=1:=by omega
        subst this
        exact ⟨179,by kernel_rfl⟩
    obtain ⟨f,hf⟩:=this
    exact Proofs.Any.sort_Slice_tiny Proofs.Tryz.sl6 32 98 Proofs.Tryz.svT Proofs.Tryz.svE (by kernel_rfl) (by kernel_rfl) (by kernel_rfl) (by kernel_rfl) 25 (fun _=>by kernel_rfl) p n c hn f hf (.func 118) #[] lb w
  · exact Proofs.Any.sort_Slice_cells_sorted Proofs.Tryz.sl6 32 98 Proofs.Tryz.svT Proofs.Tryz.svE (by kernel_rfl) (by kernel_rfl) (by kernel_rfl) (by kernel_rfl) 25 (fun _=>by kernel_rfl) encW 2 encW_len (by kernel_rfl) (fun _=>by kernel_rfl)
      encW_one ltW swoW 118 _ (Proofs.enters_of Proofs.Tryz.func118 (by kernel_rfl) rfl) blk 0 c d h2 hsz 186 (by rw [Proofs.Tryz.svK _ h2]; kernel_rfl) false
      (fun args W=>run_callFunc_extern Proofs.Tryz.func186 (by kernel_rfl) (by kernel_rfl) (by kernel_rfl) (e:=Extern.ReflectliteSwapper.swap false) (by kernel_rfl) args W) w hl hH hb
/-! the sorted row is the one where the new volume stands at its place -/
theorem srt_uniqueW {l l':List WV} (h1:l'.Perm l) (h2:l'.Pairwise (fun x y=>ltW y x=false)) (h3:l.Pairwise (fun a b=>ltW a b=true)):l'=l:=by
  refine h1.eq_of_pairwise (le:=fun x y=>ltW y x=false) (fun a b ha hb h4 h5=>?_) h2 (h3.imp fun {a b} h=>?_)
  · obtain ⟨i,hi,rfl⟩:=List.mem_iff_getElem.1 (h1.subset ha)
    obtain ⟨j,hj,rfl⟩:=List.mem_iff_getElem.1 hb
    rw [List.pairwise_iff_getElem] at h3
    rcases Nat.lt_trichotomy i j with h | h | h
    · have:=h3 i j hi hj h
      rw [this] at h5; cases h5
    · subst h; rfl
    · have:=h3 j i hj hi h
      rw [this] at h4; cases h4
  · cases hb:ltW b a with
    | false=>rfl
    | true=>
      have:=less_trans h hb
      rw [less_irr] at this
      cases this
theorem srt_insW {l l':List WV} {x:WV} (hl:l.Pairwise (fun a b=>ltW a b=true)) (hx : ∀ y ∈ l,y.2.1≠x.2.1) (h1:l'.Perm (l++[x])) (h2:l'.Pairwise (fun x y=>ltW y x=false)):l'=insW l x:=
  srt_uniqueW (h1.trans (insW_perm x l).symm) h2 (insW_srt x l hl hx)
end Go.X.Vo

