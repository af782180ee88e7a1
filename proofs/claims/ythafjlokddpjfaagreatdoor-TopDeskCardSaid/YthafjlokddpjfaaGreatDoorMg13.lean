/- Contracts of functions and the logic that they are proved in (4 texts in one). Conditions: none. -/
import Derived.Test.YthafjlokddpjfaaGreatDoorMg12
import Derived.Test.YthafjlokddpjfaaGreatDoorMg7
import Derived.Test.YthafjlokddpjfaaGreatDoorMg6
import Derived.WalkKit
import Derived.Shelf.Lays
import Derived.Shelf.Strings.SlTrimAscii
import Derived.Test.YthafjlokddpjfaaGreatDoorMg9
open Go.Proofs.Tryz renaming prog → qz
open Int renaming cast_ofNat_Int→zl,natCast_zero→za,natCast_one→ze,toNat_natCast→zo
namespace Go.X.Pl
end Go.X.Pl
namespace Go.X.St
end Go.X.St
namespace Go.X.Bg
end Go.X.Bg
namespace Go.X.Nm
end Go.X.Nm
set_option linter.unusedSimpArgs false
set_option linter.unusedVariables false
set_option maxHeartbeats 4000000
set_option maxRecDepth 20000
namespace Go.X.Bg
open Go Go.X

abbrev It:=Int×Int×List UInt8×Int
def encT (x:It):List Value:=[.int .i64 x.1,.int .i64 x.2.1,.string ⟨x.2.2.1.toArray⟩,.int .i64 x.2.2.2]
def itV (x:It):SV:=.agg [.v (.int .i64 x.1),.v (.int .i64 x.2.1),.v (.string ⟨x.2.2.1.toArray⟩),.v (.int .i64 x.2.2.2)]
def sumT (s:List UInt8):Int:=((Pt.prf 65581 s 1:Nat):Int)
theorem prf_le (m:Nat) (h0:m≠0) (hm:m≤2147483647) : ∀ (s:List UInt8) (p:Nat),p≤2147483647→Pt.prf m s p≤2147483647
 | [],p,h=>h
 | c :: s,p,_=>by
   exact prf_le m h0 hm s _ (Nat.le_trans (Mv.red_le (x:=p * 2 ^ 8+c.toNat) h0 hm) (by decide))
theorem sumT_rng (s:List UInt8):0≤sumT s∧sumT s≤2147483647:=by
 have:=prf_le 65581 (by decide) (by decide) s 1 (by decide)
 unfold sumT
 omega
def oneE (x:It):Int:=if 64 < x.2.2.1.length then 2 else if x.1≠sumT x.2.2.1 then 6 else if (x.2.1 < 0∨64≤x.2.1)∨(x.2.2.2 < 1∨1000000 < x.2.2.2) then 1 else 0
theorem oneE_ok {x:It} (h:oneE x=0):(x.2.2.1.length≤64∧x.1=sumT x.2.2.1)∧(0≤x.2.1∧x.2.1 < 64)∧1≤x.2.2.2∧x.2.2.2≤1000000:=by
 unfold oneE at h
 split at h
 · cases h
 · split at h
   · cases h
   · rename_i h2
     split at h
     · cases h
     · exact ⟨⟨by omega,Classical.not_not.1 h2⟩,by omega,by omega⟩
theorem plainS (s:List UInt8) (M:Mem) (hs:s.length≤maxLen):Meets qz 118 [.v (.int .i64 65581),.v (.string ⟨s.toArray⟩)] M fun r _ _=>r = .v (.int .i64 (sumT s)):=Pt.plain 65581 s M (by decide) (by decide) hs
theorem one (x:It) (M:Mem):Meets qz 318 [itV x] M fun r _ _=>r = .v (.int .i64 (oneE x)):=by
 refine Meets.of_body [0,1,2,3,8,15] Proofs.Tryz.func318 rfl (by kernel_rfl) rfl fun w=>?_
 generalize hc:oneE x=c
 unfold oneE at hc
 by_cases h1:64 < x.2.2.1.length
 · rw [if_pos h1] at hc
   subst hc
   have c1:(64 < (x.2.2.1.length:Int))=True:=eq_true (by omega)
   simp only [Proofs.Tryz.f318,itV,zz,zq,seval,zl,za,ze,zo,nzs,c1]
 rw [if_neg h1] at hc
 have c1:(64 < (x.2.2.1.length:Int))=False:=eq_false (by omega)
 simp only [Proofs.Tryz.f318,itV,zz,zq,seval,zl,za,ze,zo,nzs,c1]
 refine DrawK.quiet (by kernel_rfl) (by kernel_rfl) ?_
 simp only [zz,zq,seval,zl,za,ze,zo,nzs]
 refine ⟨_,⟨⟨rfl,rfl⟩,plainS x.2.2.1 M (by simp only [maxLen]; omega)⟩,?_⟩
 by_cases h2:x.1=sumT x.2.2.1
 rotate_left
 · rw [if_pos h2] at hc
   subst hc
   have c2:(x.1=sumT x.2.2.1)=False:=eq_false h2
   simp only [zz,zq,seval,zl,za,ze,zo,nzs,c2]
 rw [if_neg (fun e=>e h2)] at hc
 have c2:(x.1=sumT x.2.2.1)=True:=eq_true h2
 simp only [zz,zq,seval,zl,za,ze,zo,nzs,c2]
 by_cases k1:x.2.1 < 0
 · rw [if_pos (.inl (.inl k1))] at hc
   subst hc
   have d1:(x.2.1 < 0)=True:=eq_true k1
   simp only [zz,zq,seval,zl,za,ze,zo,nzs,d1]
   exact fun h=>by omega
 have d1:(x.2.1 < 0)=False:=eq_false k1
 by_cases k2:64≤x.2.1
 · rw [if_pos (.inl (.inr k2))] at hc
   subst hc
   have d2:(64≤x.2.1)=True:=eq_true k2
   simp only [zz,zq,seval,zl,za,ze,zo,nzs,d1,d2]
   exact fun h=>by omega
 have d2:(64≤x.2.1)=False:=eq_false k2
 by_cases k3:x.2.2.2 < 1
 · rw [if_pos (.inr (.inl k3))] at hc
   subst hc
   have d3:(x.2.2.2 < 1)=True:=eq_true k3
   simp only [zz,zq,seval,zl,za,ze,zo,nzs,d1,d2,d3]
   exact fun h=>by omega
 have d3:(x.2.2.2 < 1)=False:=eq_false k3
 by_cases k4:1000000 < x.2.2.2
 · rw [if_pos (.inr (.inr k4))] at hc
   subst hc
   have d4:(1000000 < x.2.2.2)=True:=eq_true k4
   simp only [zz,zq,seval,zl,za,ze,zo,nzs,d1,d2,d3,d4]
   exact fun h=>by omega
 have d4:(1000000 < x.2.2.2)=False:=eq_false k4
 rw [if_neg (by omega)] at hc
 subst hc
 simp only [zz,zq,seval,zl,za,ze,zo,nzs,d1,d2,d3,d4]

def cmpT (a b:It):Int:=if a.1=b.1 then a.2.1 - b.2.1 else a.1 - b.1
theorem cmp (a b:It) (M:Mem) (h:(0≤a.1∧a.1≤2147483647)∧(0≤b.1∧b.1≤2147483647)∧(0≤a.2.1∧a.2.1 < 64)∧(0≤b.2.1∧b.2.1 < 64)) :
  Meets qz 319 [itV a,itV b] M fun r _ _=>r = .v (.int .i64 (cmpT a b)):=by
 refine Meets.of_body [0,1,2,3,4,9] Proofs.Tryz.func319 rfl (by kernel_rfl) rfl fun w=>?_
 unfold cmpT
 by_cases h1:a.1=b.1
 · have c1:(a.1=b.1)=True:=eq_true h1
   simp only [Proofs.Tryz.f319,itV,zz,zq,seval,zl,za,ze,zo,nzs,c1,inK,lo,hi]
   omega
 · have c1:(a.1=b.1)=False:=eq_false h1
   simp only [Proofs.Tryz.f319,itV,zz,zq,seval,zl,za,ze,zo,nzs,c1,inK,lo,hi]
   exact ⟨by omega,by omega⟩

theorem idxB {α:Type} (q0 q1 q2 q3:α→Value) (p:α→Bool) (f:Nat) (caps:List SV) (hcaps:SV.concs caps=true) (y:Value) (l:List α) (M:Mem) (hy:RowM M y 4 (l.map (fun x=>[q0 x,q1 x,q2 x,q3 x])))
  (hf : ∀ x ∈ l,Meets qz f (.agg [.v (q0 x),.v (q1 x),.v (q2 x),.v (q3 x)] :: caps) M fun r _ _=>r = .v (.bool (p x))) :
  Meets qz 312 [.v y,.fn f caps] M fun r _ _=>r = .v (.int .i64 (fidx p l 0)):=by
 refine Meets.of_body [0,1,4,5,7,8,9,16] Proofs.Tryz.func312 rfl (by kernel_rfl) (by simp only [SV.concs,SV.conc,hcaps,Bool.and_self]) fun w=>?_
 generalize hc:fidx p l 0=c
 have hyl:=hy.len_le
 rw [List.length_map] at hyl
 simp only [Proofs.Tryz.f312,zz,zq,seval,zl,za,ze,zo,hy.len,hy.sl,List.length_map]
 refine LoopK.go (X:=Nat×Nat) (fun x=>([(0,true,.v y),(1,true,.fn f caps),(7,true,.v (.int .i64 l.length)),(8,true,.v (.int .i64 x.2))],[],M))
  (fun x=>x.1+x.2=l.length∧fidx p (l.drop x.2) x.2=c) (fun x=>x.1) (l.length,0) ⟨rfl,hc⟩ (Ent.of ?_) ?_
 · simp only [zq,seval,zl,za,ze,zo]
 rintro ⟨fu,i⟩ ⟨h1,h2⟩
 simp only at h1 h2
 by_cases hil:i < l.length
 · have c1:((i:Int) < (l.length:Int))=True:=eq_true (by omega)
   obtain ⟨a,hx,hd⟩:=l_drop_at (l:=l) (i:=i) hil
   rw [hd] at h2
   simp only [fidx] at h2
   have g0:=hy.cell (i:=i) (e:=[q0 a,q1 a,q2 a,q3 a]) (by rw [List.getElem?_map,hx]; rfl) (off:=0) (by omega)
   have g1:=hy.cell (i:=i) (e:=[q0 a,q1 a,q2 a,q3 a]) (by rw [List.getElem?_map,hx]; rfl) (off:=1) (by omega)
   have g2:=hy.cell (i:=i) (e:=[q0 a,q1 a,q2 a,q3 a]) (by rw [List.getElem?_map,hx]; rfl) (off:=2) (by omega)
   have g3:=hy.cell (i:=i) (e:=[q0 a,q1 a,q2 a,q3 a]) (by rw [List.getElem?_map,hx]; rfl) (off:=3) (by omega)
   have i0:=hy.ix (i:=(i:Int)) (by omega) (by rw [List.length_map]; omega)
   simp only [List.getD_cons_zero,List.getD_cons_succ] at g0 g1 g2 g3
   simp only [zz,zq,seval,zl,za,ze,zo,nzs,c1,hy.len,hy.sl,List.length_map,i0,i0.2,g0.1,g0.2.1,g1.1,g1.2.1,g2.1,g2.2.1,g3.1,g3.2.1]
   refine CallK.pure ⟨by simp only [SV.concs,SV.conc,hcaps,Bool.and_self],rfl⟩ rfl (hf a (List.mem_of_getElem? hx)) ?_
   cases hp:p a with
   | true=>
     rw [hp,if_pos rfl] at h2
     subst h2
     simp only [zz,zq,seval,zl,za,ze,zo,nzs]
   | false=>
     rw [hp,if_neg (by simp)] at h2
     simp only [zz,zq,seval,zl,za,ze,zo,nzs,inK,lo,hi]
     refine ⟨by omega,(fu - 1,i+1),⟨⟨by simp only; omega,h2⟩,by simp only; omega⟩,Ent.of ?_⟩
     simp only [zq,seval,zl,za,ze,zo,Int.natCast_add]
 · have c1:((i:Int) < (l.length:Int))=False:=eq_false (by omega)
   have hd:l.drop i=[]:=List.drop_eq_nil_of_le (by omega)
   rw [hd] at h2
   simp only [fidx] at h2
   subst h2
   simp only [zz,zq,seval,zl,za,ze,zo,c1]

theorem ctsB {α:Type} (q0 q1 q2 q3:α→Value) (p:α→Bool) (f:Nat) (caps:List SV) (hcaps:SV.concs caps=true) (y:Value) (l:List α) (M:Mem) (hy:RowM M y 4 (l.map (fun x=>[q0 x,q1 x,q2 x,q3 x])))
  (hf : ∀ x ∈ l,Meets qz f (.agg [.v (q0 x),.v (q1 x),.v (q2 x),.v (q3 x)] :: caps) M fun r _ _=>r = .v (.bool (p x))) :
  Meets qz 320 [.v y,.fn f caps] M fun r _ _=>r = .v (.bool (l.any p)):=by
 refine Meets.of_body [0,1,4] Proofs.Tryz.func320 rfl (by kernel_rfl) (by simp only [SV.concs,SV.conc,hcaps,Bool.and_self]) fun w=>?_
 simp only [Proofs.Tryz.f320,zz,zq,seval,zl,za,ze,zo]
 refine CallK.pure ⟨by simp only [SV.concs,SV.conc,hcaps,Bool.and_self],rfl⟩ rfl (idxB q0 q1 q2 q3 p f caps hcaps y l M hy hf) ?_
 rw [← fidx_any p l 0]
 simp only [zz,zq,seval,zl,za,ze,zo]


theorem checkC (b:Nat) (t x:It) (M:Mem) (hb:BoxM M b (encT t)):Meets qz 321 [itV x,.v (ptrV b)] M fun r _ _=>r = .v (.bool (decide (x.2.2.1=t.2.2.1))):=by
 refine Meets.of_body [0,1,2,3] Proofs.Tryz.func321 rfl (by kernel_rfl) rfl fun w=>?_
 have g2:=hb.at' (j:=2) rfl
 simp only [Proofs.Tryz.f321,itV,zz,zq,seval,zl,za,ze,zo,nzs,g2.1,g2.2,List.toArray_eq_iff]

def bad:Option It→It→Bool
 | none,_=>false
 | some p,x=>decide (0≤cmpT p x)
def goB:List It→List It→Int
 | _,[]=>0
 | pre,x :: r=>if oneE x≠0 then oneE x else if bad pre.getLast? x=true then 3 else if (pre.any fun y=>decide (y.2.2.1=x.2.2.1))=true then 5 else goB (pre++[x]) r
def bagE (l:List It):Int:=if 64 < l.length then 2 else goB [] l
/-- the four cells of an item that lies in a known row -/
theorem it_at {M:Mem} {v:Value} {l:List It} {i:Nat} {r:It} (h:RowM M v 4 (l.map encT)) (hx:l[i]? = some r) :
  ((elE M v 4 i 0 = .int .i64 r.1∧okE M v 4 i 0)∧(elE M v 4 i 1 = .int .i64 r.2.1∧okE M v 4 i 1))∧((elE M v 4 i 2 = .string ⟨r.2.2.1.toArray⟩∧okE M v 4 i 2)∧(elE M v 4 i 3 = .int .i64 r.2.2.2∧okE M v 4 i 3))∧ixOk v (i:Int):=by
 have he:(l.map encT)[i]? = some (encT r):=by rw [List.getElem?_map,hx]; rfl
 have g0:=h.cell he (off:=0) (by omega)
 have g1:=h.cell he (off:=1) (by omega)
 have g2:=h.cell he (off:=2) (by omega)
 have g3:=h.cell he (off:=3) (by omega)
 refine ⟨⟨⟨g0.1,g0.2.1⟩,⟨g1.1,g1.2.1⟩⟩,⟨⟨g2.1,g2.2.1⟩,⟨g3.1,g3.2.1⟩⟩,?_⟩
 have hi:=(List.getElem?_eq_some_iff.1 hx).1
 exact h.ix (i:=(i:Int)) (by omega) (by rw [List.length_map]; omega)

theorem check (y:Value) (l:List It) (M:Mem) (hy:RowM M y 4 (l.map encT)) :
  Meets qz 273 [.v y] M fun r _ _=>r = .v (.int .i64 (bagE l)):=by
 refine Meets.of_body [0,2,3,4,5,8,9,10,11,12,19,32,37] Proofs.Tryz.func273 rfl (by kernel_rfl) rfl fun w=>?_
 generalize hc:bagE l=c
 have hyl:=hy.len_le
 rw [List.length_map] at hyl
 by_cases hg:64 < l.length
 · rw [bagE,if_pos hg] at hc
   subst hc
   have c1:(64 < (l.length:Int))=True:=eq_true (by omega)
   simp only [Proofs.Tryz.f273,zz,zq,seval,zl,za,ze,zo,nzs,hy.len,hy.sl,List.length_map,c1]
 rw [bagE,if_neg hg] at hc
 have c1:(64 < (l.length:Int))=False:=eq_false (by omega)
 simp only [Proofs.Tryz.f273,zz,zq,seval,zl,za,ze,zo,nzs,hy.len,hy.sl,List.length_map,c1]
 refine LoopK.go (X:=Nat×Nat×Mem) (fun x=>([(0,true,.v y),(9,true,.v y),(10,true,.v (.int .i64 l.length)),(11,true,.v (.int .i64 x.2.1))],[],x.2.2))
  (fun x=>((x.1+x.2.1=l.length∧M.le x.2.2) ∧ ∀ z ∈ l.take x.2.1,oneE z=0)∧goB (l.take x.2.1) (l.drop x.2.1)=c) (fun x=>x.1) (l.length,0,M) ⟨⟨⟨rfl,Mem.le.refl M⟩,by simp⟩,hc⟩ (Ent.of ?_) ?_
 · simp only [zq,seval,zl,za,ze,zo]
 rintro ⟨f,i,M1⟩ ⟨⟨⟨h1,hM⟩,hpre⟩,h2⟩
 simp only at h1 h2 hM hpre
 have hy1:=hy.le hM
 by_cases hil:i < l.length
 rotate_left
 · have d1:((i:Int) < (l.length:Int))=False:=eq_false (by omega)
   rw [List.drop_eq_nil_of_le (by omega)] at h2
   simp only [goB] at h2
   subst h2
   simp only [zz,zq,seval,zl,za,ze,zo,nzs,d1]
 have d1:((i:Int) < (l.length:Int))=True:=eq_true (by omega)
 obtain ⟨x,hx,hd⟩:=l_drop_at (l:=l) (i:=i) hil
 rw [hd] at h2
 simp only [goB] at h2
 obtain ⟨⟨g0,g1⟩,⟨g2,g3⟩,i0⟩:=it_at hy1 hx
 simp only [zz,zq,seval,zl,za,ze,zo,nzs,d1,hy.len,hy.sl,List.length_map,i0,i0.2,g0.1,g0.2,g1.1,g1.2,g2.1,g2.2,g3.1,g3.2]
 refine CallK.pure ⟨rfl,rfl⟩ rfl (one x M1) ?_
 by_cases he:oneE x=0
 rotate_left
 · have c2:(oneE x=0)=False:=eq_false he
   rw [if_pos he] at h2
   subst h2
   simp only [zz,zq,seval,zl,za,ze,zo,nzs,c2]
 rw [if_neg (fun e=>e he)] at h2
 simp only [zz,zq,seval,zl,za,ze,zo,nzs,he]
 have hox:=oneE_ok he
 have hsx:=sumT_rng x.2.2.1
 have hs:=hy1.sub (lo:=0) (hi:=i) (by omega) (by rw [List.length_map]; omega)
 rw [List.drop_zero,Nat.sub_zero,← List.map_take] at hs
 have hcap:=hy1.1.2.2.1
 rw [hy1.len,List.length_map] at hcap
 refine DrawK.ent (X:=Unit) (fun _=>True) (fun _=>([(0,true,.v y),(3,true,.v (.int .i64 i)),(4,true,.ptr 32 0 0 0),(9,true,.v y),(10,true,.v (.int .i64 l.length)),(11,true,.v (.int .i64 i)),(32,true,.v (.bool (bad (l.take i).getLast? x)))],[(32,.box [.v (.int .i64 x.1),.v (.int .i64 x.2.1),.v (.string ⟨x.2.2.1.toArray⟩),.v (.int .i64 x.2.2.2)] none)],M1)) ?_ fun _ _=>?_
 · by_cases hi0:i=0
   · subst hi0
     refine DrawK.quiet (by kernel_rfl) (by kernel_rfl) ?_
     simp only [zz,zq,seval,zl,za,ze,zo,nzs,za,Int.lt_irrefl]
     refine ⟨.v (.int .i64 0),?_⟩
     simp only [zz,zq,seval,zl,za,ze,zo,nzs]
     refine ⟨(),Ent.of ?_⟩
     simp only [zq,seval,zl,za,ze,zo,List.take_zero,List.getLast?_nil,bad]
   · refine DrawK.quiet (by kernel_rfl) (by kernel_rfl) ?_
     have e1:(0 < (i:Int))=True:=eq_true (by omega)
     have e2:(i:Int) - 1=((i - 1:Nat):Int):=by omega
     have hgl:(l.take i).getLast? = l[i-1]?:=by
      rw [List.getLast?_eq_getElem?,List.length_take,List.getElem?_take,if_pos (by omega)]
      congr 1
      omega
     obtain ⟨p,hp⟩ : ∃ p,l[i-1]? = some p:=⟨_,List.getElem?_eq_getElem (by omega)⟩
     obtain ⟨⟨k0,k1⟩,⟨k2,k3⟩,j0⟩:=it_at hy1 hp
     have hop:=oneE_ok (hpre p (by
      rw [List.mem_iff_getElem?]
      exact ⟨i - 1,by rw [List.getElem?_take,if_pos (by omega),hp]⟩))
     have hsp:=sumT_rng p.2.2.1
     rw [hgl,hp]
     simp only [zz,zq,seval,zl,za,ze,zo,nzs,e1,e2,j0,j0.2,k0.1,k0.2,k1.1,k1.2,k2.1,k2.2,k3.1,k3.2,inK,lo,hi]
     refine ⟨by omega,_,⟨⟨rfl,rfl⟩,cmp p x M1 ⟨by omega,by omega,by omega,by omega⟩⟩,?_⟩
     simp only [zz,zq,seval,zl,za,ze,zo,nzs]
     refine ⟨(),Ent.of ?_⟩
     simp only [zq,seval,zl,za,ze,zo,bad]
 cases hb:bad (l.take i).getLast? x with
 | true=>
   rw [if_pos hb] at h2
   subst h2
   simp only [zz,zq,seval,zl,za,ze,zo,nzs]
 | false=>
 rw [if_neg (by simp only [hb]; decide)] at h2
 simp only [zz,zq,seval,zl,za,ze,zo,nzs,hy.len,hy.sl]
 refine ⟨by omega,?_⟩
 refine stepK.mkFn rfl rfl ?_
 simp only [zz,zq,seval,zl,za,ze,zo,nzs]
 refine CallK.pubB (k:=32) rfl rfl fun bb M2 hM2 hb2=>?_
 have hs2:=hs.le hM2
 simp only [shA1,shA2,zz,zq,seval,zl,za,ze,zo]
 refine CallK.pure ⟨rfl,rfl⟩ rfl (ctsB (α:=It) (fun x=>.int .i64 x.1) (fun x=>.int .i64 x.2.1) (fun x=>.string ⟨x.2.2.1.toArray⟩) (fun x=>.int .i64 x.2.2.2) (fun u=>decide (u.2.2.1=x.2.2.1)) _ _ rfl _ (l.take i) M2 hs2 (fun z _=>checkC bb x z M2 hb2)) ?_
 cases ha:(l.take i).any fun u=>decide (u.2.2.1=x.2.2.1) with
 | true=>
   rw [if_pos ha] at h2
   subst h2
   simp only [zz,zq,seval,zl,za,ze,zo,nzs]
 | false=>
   rw [if_neg (by simp only [ha]; decide)] at h2
   simp only [zz,zq,seval,zl,za,ze,zo,nzs,inK,lo,hi]
   refine ⟨by omega,(f - 1,i+1,M2),⟨⟨⟨⟨by simp only; omega,hM.trans hM2⟩,?_⟩,?_⟩,by simp only; omega⟩,Ent.of ?_⟩
   · simp only
     intro z hz
     rw [List.take_add_one,hx] at hz
     rcases List.mem_append.1 hz with hz | hz
     · exact hpre z hz
     · simp only [Option.toList_some,List.mem_singleton] at hz
       subst hz
       exact he
   · simp only
     rw [List.take_add_one,hx]
     exact h2
   · simp only [zq,seval,zl,za,ze,zo,Int.natCast_add]

/-- the item of an id -/
def isId (id:Bool×Int×Int) (x:It):Bool:=id.1 && (decide (x.1=id.2.1) && decide (x.2.1=id.2.2))
def idV (id:Bool×Int×Int):SV:=.agg [.v (.bool id.1),.v (.int .i64 id.2.1),.v (.int .i64 id.2.2)]
theorem findC (b:Nat) (id:Bool×Int×Int) (x:It) (M:Mem) (hb:BoxM M b [.bool id.1,.int .i64 id.2.1,.int .i64 id.2.2]):Meets qz 322 [itV x,.v (ptrV b)] M fun r _ _=>r = .v (.bool (isId id x)):=by
 refine Meets.of_body [0,1,2,3] Proofs.Tryz.func322 rfl (by kernel_rfl) rfl fun w=>?_
 have g0:=hb.at' (j:=0) rfl
 have g1:=hb.at' (j:=1) rfl
 have g2:=hb.at' (j:=2) rfl
 unfold isId
 simp only [Proofs.Tryz.f322,itV,zz,zq,seval,zl,za,ze,zo,nzs,g0.1,g0.2,g1.1,g1.2,g2.1,g2.2]
 cases h1:id.1 with
 | false=>simp only [zz,zq,seval,zl,za,ze,zo,nzs,Bool.false_and]
 | true=>
   by_cases h2:x.1=id.2.1
   · by_cases h3:x.2.1=id.2.2 <;> simp [h2,h3]
   · simp [h2]
theorem find (y:Value) (l:List It) (id:Bool×Int×Int) (M:Mem) (hy:RowM M y 4 (l.map encT)) :
  Meets qz 274 [.v y,idV id] M fun r _ _=>r = .v (.int .i64 (fidx (isId id) l 0)):=by
 refine Meets.of_body [0,1,3,4] Proofs.Tryz.func274 rfl (by kernel_rfl) rfl fun w=>?_
 simp only [Proofs.Tryz.f274,idV,zz,zq,seval,zl,za,ze,zo,nzs]
 refine stepK.mkFn rfl rfl ?_
 simp only [zz,zq,seval,zl,za,ze,zo,nzs]
 refine CallK.pubB (k:=24) rfl rfl fun bb M2 hM2 hb2=>?_
 simp only [shA1,shA2,zz,zq,seval,zl,za,ze,zo]
 refine CallK.pure ⟨rfl,rfl⟩ rfl (idxB (α:=It) (fun x=>.int .i64 x.1) (fun x=>.int .i64 x.2.1) (fun x=>.string ⟨x.2.2.1.toArray⟩) (fun x=>.int .i64 x.2.2.2) (isId id) _ _ rfl _ l M2 (hy.le hM2) (fun z _=>findC bb id z M2 hb2)) ?_
 simp only [zz,zq,seval,zl,za,ze,zo,nzs]
theorem item (y:Value) (l:List It) (id:Bool×Int×Int) (M:Mem) (hy:RowM M y 4 (l.map encT)) :
  Meets qz 150 [.v y,idV id] M fun r _ _=>r = .v (.int .i64 (fidx (isId id) l 0)):=by
 refine Meets.of_body [0,1,3,4,5,6,7,8,9,10,20] Proofs.Tryz.func150 rfl (by kernel_rfl) rfl fun w=>?_
 generalize hc:fidx (isId id) l 0=c
 have hyl:=hy.len_le
 rw [List.length_map] at hyl
 simp only [Proofs.Tryz.f150,idV,zz,zq,seval,zl,za,ze,zo,hy.len,hy.sl,List.length_map]
 refine LoopK.go (X:=Nat×Nat) (fun x=>([(0,true,.v y),(3,true,.ptr 24 0 0 0),(7,true,.v y),(8,true,.v (.int .i64 l.length)),(9,true,.v (.int .i64 x.2))],[(24,.box [.v (.bool id.1),.v (.int .i64 id.2.1),.v (.int .i64 id.2.2)] none)],M))
  (fun x=>x.1+x.2=l.length∧fidx (isId id) (l.drop x.2) x.2=c) (fun x=>x.1) (l.length,0) ⟨rfl,hc⟩ (Ent.of ?_) ?_
 · simp only [zq,seval,zl,za,ze,zo]
 rintro ⟨f,i⟩ ⟨h1,h2⟩
 simp only at h1 h2
 by_cases hil:i < l.length
 rotate_left
 · have d1:((i:Int) < (l.length:Int))=False:=eq_false (by omega)
   rw [List.drop_eq_nil_of_le (by omega)] at h2
   simp only [fidx] at h2
   subst h2
   simp only [zz,zq,seval,zl,za,ze,zo,nzs,d1]
 have d1:((i:Int) < (l.length:Int))=True:=eq_true (by omega)
 obtain ⟨x,hx,hd⟩:=l_drop_at (l:=l) (i:=i) hil
 rw [hd] at h2
 simp only [fidx] at h2
 obtain ⟨⟨g0,g1⟩,⟨g2,g3⟩,i0⟩:=it_at hy hx
 simp only [zz,zq,seval,zl,za,ze,zo,nzs,d1,hy.len,hy.sl,List.length_map,i0,i0.2,g0.1,g0.2,g1.1,g1.2,g2.1,g2.2,g3.1,g3.2]
 refine ⟨fun h3=>?_,fun h3=>?_⟩
 · rw [if_pos (by unfold isId; rw [h3.1,h3.2.1,h3.2.2]; simp)] at h2
   rw [h2]
 · rw [if_neg (by
    unfold isId
    intro h4
    simp only [Bool.and_eq_true,decide_eq_true_eq] at h4
    exact h3 h4.1 h4.2.1.symm h4.2.2.symm)] at h2
   refine ⟨by simp only [inK,lo,hi]; omega,(f - 1,i+1),⟨⟨by simp only; omega,h2⟩,by simp only; omega⟩,Ent.of ?_⟩
   simp only [zq,seval,zl,za,ze,zo,Int.natCast_add]
end Go.X.Bg

namespace Go.X.Nm
open Go Go.X Go.RowKit Go.X.Pl Go.X.St

def okC (b:UInt8):Bool:=decide (97≤b.toNat∧b.toNat≤122) || decide (48≤b.toNat∧b.toNat≤57)
def nmB (s:List UInt8):Bool:=decide (0 < s.length∧s.length≤12) && s.all okC
theorem strIx_at {s:List UInt8} {i:Nat} {b:UInt8} (h:s[i]? = some b):strIx s (i:Int)=((b.toNat:Nat):Int):=by
 unfold strIx
 rw [zo,List.getD_eq_getElem?_getD,h]
 rfl
theorem nameW (s:List UInt8) (M:Mem) :
  Meets qz 275 [.v (.string ⟨s.toArray⟩)] M fun r _ _=>r = .v (.bool (nmB s)):=by
 refine Meets.of_body [0,2,3,10,12,13,14,38] Proofs.Tryz.func275 rfl (by kernel_rfl) rfl fun w=>?_
 generalize hc:nmB s=c
 unfold nmB at hc
 by_cases h0:s=[]
 · subst h0
   rw [show c=false by rw [← hc]; rfl]
   simp only [Proofs.Tryz.f275,zz,zq,seval,zl,za,ze,zo,nzs]
 have d0:=eq_false h0
 have hl:=List.length_pos_iff.2 h0
 by_cases h1:12 < s.length
 · have d1:((12:Int) < (s.length:Int))=True:=eq_true (by omega)
   rw [show c=false by rw [← hc,decide_eq_false (by omega)]; rfl]
   simp only [Proofs.Tryz.f275,zz,zq,seval,zl,za,ze,zo,nzs,d0,d1]
 have d1:((12:Int) < (s.length:Int))=False:=eq_false (by omega)
 rw [decide_eq_true (by omega),Bool.true_and] at hc
 simp only [Proofs.Tryz.f275,zz,zq,seval,zl,za,ze,zo,nzs,d0,d1]
 refine LoopK.go (X:=Nat×Nat) (fun x=>([(0,true,.v (.string ⟨s.toArray⟩)),(12,true,.v (.int .i64 s.length)),(13,true,.v (.int .i64 (x.2:Int)))],[],M))
  (fun x=>x.1+x.2=s.length∧(s.drop x.2).all okC=c) (fun x=>x.1) (s.length,0) ⟨rfl,hc⟩ (Ent.of ?_) ?_
 · simp only [zq,seval,zl,za,ze,zo]
 rintro ⟨f,i⟩ ⟨g1,g3⟩
 simp only at g1 g3
 by_cases hil:i < s.length
 · have c1:((i:Int) < (s.length:Int))=True:=eq_true (by omega)
   obtain ⟨b,hb1,hd⟩:=l_drop_at (l:=s) (i:=i) hil
   have e1:=strIx_at hb1
   rw [hd,List.all_cons] at g3
   have hgo:okC b=true→(s.drop (i+1)).all okC=c:=fun h=>by rw [h,Bool.true_and] at g3; exact g3
   have hno:okC b=false→c=false:=fun h=>by rw [h,Bool.false_and] at g3; exact g3.symm
   by_cases a1:97≤b.toNat
   · have k1:((97:Int)≤((b.toNat:Nat):Int))=True:=eq_true (by omega)
     by_cases a2:b.toNat≤122
     · have k2:(((b.toNat:Nat):Int)≤122)=True:=eq_true (by omega)
       have ho:okC b=true:=by unfold okC; rw [decide_eq_true ⟨a1,a2⟩]; rfl
       simp only [zz,zq,seval,zl,za,ze,zo,nzs,c1,e1,k1,k2,inK,lo,hi]
       refine ⟨by omega,by omega,by omega,(f - 1,i+1),⟨⟨by simp only; omega,hgo ho⟩,by simp only; omega⟩,Ent.of ?_⟩
       simp only [zq,seval,zl,za,ze,zo,Int.natCast_add]
     · have k2:(((b.toNat:Nat):Int)≤122)=False:=eq_false (by omega)
       have k3:((48:Int)≤((b.toNat:Nat):Int))=True:=eq_true (by omega)
       have k4:(((b.toNat:Nat):Int)≤57)=False:=eq_false (by omega)
       have ho:okC b=false:=by unfold okC; rw [decide_eq_false (by omega),decide_eq_false (by omega)]; rfl
       simp only [zz,zq,seval,zl,za,ze,zo,nzs,c1,e1,k1,k2,k3,k4,hno ho,inK,lo,hi]
       omega
   · have k1:((97:Int)≤((b.toNat:Nat):Int))=False:=eq_false (by omega)
     by_cases a3:48≤b.toNat
     · have k3:((48:Int)≤((b.toNat:Nat):Int))=True:=eq_true (by omega)
       by_cases a4:b.toNat≤57
       · have k4:(((b.toNat:Nat):Int)≤57)=True:=eq_true (by omega)
         have ho:okC b=true:=by unfold okC; rw [decide_eq_false (by omega),decide_eq_true ⟨a3,a4⟩]; rfl
         simp only [zz,zq,seval,zl,za,ze,zo,nzs,c1,e1,k1,k3,k4,inK,lo,hi]
         refine ⟨by omega,by omega,by omega,by omega,(f - 1,i+1),⟨⟨by simp only; omega,hgo ho⟩,by simp only; omega⟩,Ent.of ?_⟩
         simp only [zq,seval,zl,za,ze,zo,Int.natCast_add]
       · have k4:(((b.toNat:Nat):Int)≤57)=False:=eq_false (by omega)
         have ho:okC b=false:=by unfold okC; rw [decide_eq_false (by omega),decide_eq_false (by omega)]; rfl
         simp only [zz,zq,seval,zl,za,ze,zo,nzs,c1,e1,k1,k3,k4,hno ho,inK,lo,hi]
         omega
     · have k3:((48:Int)≤((b.toNat:Nat):Int))=False:=eq_false (by omega)
       have ho:okC b=false:=by unfold okC; rw [decide_eq_false (by omega),decide_eq_false (by omega)]; rfl
       simp only [zz,zq,seval,zl,za,ze,zo,nzs,c1,e1,k1,k3,hno ho,inK,lo,hi]
       omega
 · have c1:((i:Int) < (s.length:Int))=False:=eq_false (by omega)
   rw [List.drop_eq_nil_of_le (by omega)] at g3
   rw [show c=true from g3.symm]
   simp only [zz,zq,seval,zl,za,ze,zo,nzs,c1]
/-! the reference's -/
end Go.X.Nm

namespace Go.X
open Go Go.RowKit

theorem beqB (a b:List UInt8):((⟨a.toArray⟩:ByteArray) == ⟨b.toArray⟩)=decide (a=b):=by
 show (a.toArray == b.toArray)=_
 by_cases hab:a=b
 · subst hab; simp
 · rw [decide_eq_false hab,beq_eq_false_iff_ne]
   intro e
   exact hab (by simpa using congrArg Array.toList e)
theorem KeyT.string {P:Program} {kt:TypeId} (hd:P.underlying kt=some .string):KeyT P kt (fun s:List UInt8=>Value.string ⟨s.toArray⟩) where
 known:=⟨_,hd⟩
 check:=fun e w a=>MapKept.run_checkKey hd (by simp [MapKept.IsKey]) e 9999
 eq:=fun w a b=>by
  have h:=flat_run (P:=P) (w:=w) 1 9999 kt [.str] (by simp [flatT,hd]) [.string ⟨a.toArray⟩] [.string ⟨b.toArray⟩] ⟨trivial,trivial⟩
  have hg:aggT P kt=false:=by simp [aggT,hd]
  simp only [packV,hg,eqLv,eqV,bl,Bool.and_true] at h
  exact h
 now:=fun d a b h=>by
  rw [hd] at h
  cases h
  left
  show some ((⟨a.toArray⟩:ByteArray) == ⟨b.toArray⟩)=_
  congr 1
  exact beqB a b
 same:=fun a=>by
  have:=beqB a a
  rw [decide_eq_true rfl] at this
  exact this
abbrev Id3:=Bool×Int×Int
def encId (i:Id3):Value:=.agg #[.bool i.1,.int .i64 i.2.1,.int .i64 i.2.2]
theorem ck3 (e:Bool) (n:Nat) (w:World) (a:Id3):(Instr.checkKey e (n+2) 178 (encId a)).run qz w = .ok () w:=by
 have hu:=Proofs.Tryz.underlying178
 have hb:=Proofs.Tryz.underlying4
 have hi:=Proofs.Tryz.underlying3
 have c0 : ∀ x:Bool,(Instr.checkKey e (n+1) 4 (.bool x)).run qz w = .ok () w:=fun x=>by simp only [Instr.checkKey,Sem.run_bind,run_underlying hb,Result.andThen_ok,Sem.run_pure]
 have c1 : ∀ x:Int,(Instr.checkKey e (n+1) 3 (.int .i64 x)).run qz w = .ok () w:=fun x=>by simp only [Instr.checkKey,Sem.run_bind,run_underlying hi,Result.andThen_ok,Sem.run_pure]
 rw [Instr.checkKey]
 simp only [encId,Sem.run_bind,run_underlying hu,Result.andThen_ok]
 have pb : ∀ off,off < 3→(part 4 #[.bool a.1,.int .i64 a.2.1,.int .i64 a.2.2] off).run qz w = .ok ([.bool a.1,.int .i64 a.2.1,.int .i64 a.2.2].getD off undef) w:=fun off ho=>
  run_part_list (n:=1) (g:=false) (l:=[.bool a.1,.int .i64 a.2.1,.int .i64 a.2.2]) (Option.isSome_iff_exists.1 (by kernel_rfl)) ⟨_,hb⟩ (by kernel_rfl) (by kernel_rfl) (by simpa using ho)
 have pi : ∀ off,off < 3→(part 3 #[.bool a.1,.int .i64 a.2.1,.int .i64 a.2.2] off).run qz w = .ok ([.bool a.1,.int .i64 a.2.1,.int .i64 a.2.2].getD off undef) w:=fun off ho=>
  run_part_list (n:=1) (g:=false) (l:=[.bool a.1,.int .i64 a.2.1,.int .i64 a.2.2]) (Option.isSome_iff_exists.1 (by kernel_rfl)) ⟨_,hi⟩ (by kernel_rfl) (by kernel_rfl) (by simpa using ho)
 simp [pb,pi,c0,c1,Result.andThen]
theorem KeyT.id:KeyT qz 178 encId where
 known:=⟨_,Proofs.Tryz.underlying178⟩
 check:=fun e w a=>ck3 e 9998 w a
 eq:=fun w a b=>by
  obtain ⟨a0,a1,a2⟩:=a
  obtain ⟨b0,b1,b2⟩:=b
  have h:=flat_run (P:=qz) (w:=w) 8 9992 178 [.bool,.int .i64,.int .i64] (by kernel_rfl) [.bool a0,.int .i64 a1,.int .i64 a2] [.bool b0,.int .i64 b1,.int .i64 b2] ⟨trivial,⟨rfl,rfl⟩,⟨rfl,rfl⟩,trivial⟩
  have hg:aggT qz 178=true:=by kernel_rfl
  simp only [packV,hg,if_true] at h
  refine Eq.trans h ?_
  congr 1
  simp only [eqLv,eqV,Bool.and_true,Prod.mk.injEq,Bool.decide_and,Bool.beq_eq_decide_eq]
 now:=fun d a b h=>by
  rw [Proofs.Tryz.underlying178] at h
  cases h
  right
  rfl
 same:=fun a=>by
  show (Instr.sameBits (9999+1) _ _)=true
  rw [encId,Instr.sameBits]
  simp [Instr.sameBits]
end Go.X

namespace Go.X.Vo
open Go Go.X Go.RowKit Go.X.Bg Go.X.Nm

/-- name, blocks -/
abbrev Vol:=List UInt8×List Id3
/-- the slice of a volume's blocks, and the volume -/
abbrev WV:=Value×Vol
def encI3 (i:Id3):List Value:=[.bool i.1,.int .i64 i.2.1,.int .i64 i.2.2]
def encV (w:WV):List Value:=[.string ⟨w.2.1.toArray⟩,w.1]
structure VolsM (M:Mem) (v:Value) (ws:List WV):Prop where
 row:RowM M v 2 (ws.map encV)
 blk : ∀ w ∈ ws,RowM M w.1 3 (w.2.2.map encI3)
theorem VolsM.le {M M':Mem} {v:Value} {ws:List WV} (h:VolsM M v ws) (hl:M.le M'):VolsM M' v ws:=⟨h.row.le hl,fun w hw=>(h.blk w hw).le hl⟩
def stV (b v:Value):SV:=.agg [.v b,.v v]
theorem vol_at {M:Mem} {v:Value} {ws:List WV} {i:Nat} {r:WV} (h:VolsM M v ws) (hx:ws[i]? = some r) :
  (elE M v 2 i 0 = .string ⟨r.2.1.toArray⟩∧okE M v 2 i 0)∧(elE M v 2 i 1=r.1∧okE M v 2 i 1)∧ixOk v (i:Int):=by
 have he:(ws.map encV)[i]? = some (encV r):=by rw [List.getElem?_map,hx]; rfl
 have g0:=h.row.cell he (off:=0) (by omega)
 have g1:=h.row.cell he (off:=1) (by omega)
 have hi:=(List.getElem?_eq_some_iff.1 hx).1
 exact ⟨⟨g0.1,g0.2.1⟩,⟨g1.1,g1.2.1⟩,h.row.ix (i:=(i:Int)) (by omega) (by rw [List.length_map]; omega)⟩
theorem id_at {M:Mem} {v:Value} {l:List Id3} {i:Nat} {r:Id3} (h:RowM M v 3 (l.map encI3)) (hx:l[i]? = some r) :
  (elE M v 3 i 0 = .bool r.1∧okE M v 3 i 0)∧(elE M v 3 i 1 = .int .i64 r.2.1∧okE M v 3 i 1)∧(elE M v 3 i 2 = .int .i64 r.2.2∧okE M v 3 i 2)∧ixOk v (i:Int):=by
 have he:(l.map encI3)[i]? = some (encI3 r):=by rw [List.getElem?_map,hx]; rfl
 have g0:=h.cell he (off:=0) (by omega)
 have g1:=h.cell he (off:=1) (by omega)
 have g2:=h.cell he (off:=2) (by omega)
 have hi:=(List.getElem?_eq_some_iff.1 hx).1
 exact ⟨⟨g0.1,g0.2.1⟩,⟨g1.1,g1.2.1⟩,⟨g2.1,g2.2.1⟩,h.ix (i:=(i:Int)) (by omega) (by rw [List.length_map]; omega)⟩
/-! what is right -/
def idE (bag:List It) (id:Id3):Int:=if id.1=false ∧ ¬ (id.2.1=0∧id.2.2=0) then 3 else if id.1=true∧fidx (isId id) bag 0 < 0 then 4 else 0
def goI (bag:List It):List Id3→Int
 | []=>0
 | x :: r=>if idE bag x≠0 then idE bag x else goI bag r
def nameBad:Option (List UInt8)→List UInt8→Bool
 | none,_=>false
 | some q,n=>!(Op.bytesLess q n)
def goV (bag:List It):Option (List UInt8)→List Vol→Int
 | _,[]=>0
 | p,v :: r=>if nmB v.1=false∨nameBad p v.1=true then 3 else if 32 < v.2.length then 2 else if goI bag v.2≠0 then goI bag v.2 else goV bag (some v.1) r
def volsE (bag:List It) (l:List Vol):Int:=if 6 < l.length then 2 else goV bag none l
def prevN (l:List WV) (i:Nat):Option (List UInt8):=match i with
 | 0=>none
 | j+1=>(l[j]?).map (·.2.1)

theorem volumes (b v:Value) (bag:List It) (ws:List WV) (M:Mem) (hb:RowM M b 4 (bag.map Bg.encT)) (hv:VolsM M v ws) :
  Meets qz 315 [stV b v] M fun r _ _=>r = .v (.int .i64 (volsE bag (ws.map (·.2)))):=by
 refine Meets.of_body [0,1,2,3,4,6,10,12,13,14,15,38,42,44,45,46,47,57,66] Proofs.Tryz.func315 rfl (by kernel_rfl) rfl fun w=>?_
 generalize hc:volsE bag (ws.map (·.2))=c
 unfold volsE at hc
 rw [List.length_map] at hc
 have hvl:=hv.row.len_le
 rw [List.length_map] at hvl
 by_cases h6:6 < ws.length
 · have c6:((6:Int) < (ws.length:Int))=True:=eq_true (by omega)
   rw [if_pos h6] at hc
   subst hc
   simp only [Proofs.Tryz.f315,stV,zz,zq,seval,zl,za,ze,zo,nzs,hv.row.len,hv.row.sl,List.length_map,c6]
 have c6:((6:Int) < (ws.length:Int))=False:=eq_false (by omega)
 rw [if_neg h6] at hc
 simp only [Proofs.Tryz.f315,stV,zz,zq,seval,zl,za,ze,zo,nzs,hv.row.len,hv.row.sl,List.length_map,c6]
 refine LoopK.go (X:=Nat×Nat) (fun x=>([(0,true,.agg [.v b,.v v]),(1,true,.ptr 8 0 0 0),(2,true,.v (.int .i64 0)),(12,true,.v v),(13,true,.v (.int .i64 ws.length)),(14,true,.v (.int .i64 x.2))],[(8,.box [.v b,.v v] none)],M))
  (fun x=>x.1+x.2=ws.length∧goV bag (prevN ws x.2) ((ws.drop x.2).map (·.2))=c) (fun x=>x.1) (ws.length,0) ⟨rfl,hc⟩ (Ent.of ?_) ?_
 · simp only [zq,seval,zl,za,ze,zo]
 rintro ⟨f,i⟩ ⟨h1,h2⟩
 simp only at h1 h2
 by_cases hil:i < ws.length
 rotate_left
 · have d1:((i:Int) < (ws.length:Int))=False:=eq_false (by omega)
   rw [List.drop_eq_nil_of_le (by omega)] at h2
   simp only [List.map_nil,goV] at h2
   subst h2
   simp only [zz,zq,seval,zl,za,ze,zo,nzs,d1]
 have d1:((i:Int) < (ws.length:Int))=True:=eq_true (by omega)
 obtain ⟨x,hx,hd⟩:=l_drop_at (l:=ws) (i:=i) hil
 rw [hd,List.map_cons,goV] at h2
 obtain ⟨g0,g1,i0⟩:=vol_at hv hx
 have hblk:=hv.blk x (List.mem_of_getElem? hx)
 simp only [zz,zq,seval,zl,za,ze,zo,nzs,d1,hv.row.len,hv.row.sl,List.length_map,i0,i0.2,g0.1,g0.2,g1.1,g1.2,hblk.one]
 have hbl:=hblk.len_le
 rw [List.length_map] at hbl
 have hp:prevN ws (i+1)=some x.2.1:=by simp only [prevN,hx,Option.map_some]
 refine DrawK.ent (X:=Unit) (fun _=>True) (fun _=>([(0,true,.agg [.v b,.v v]),(1,true,.ptr 8 0 0 0),(2,true,.v (.int .i64 0)),(3,true,.v (.int .i64 i)),(4,true,.ptr 32 0 0 0),(12,true,.v v),(13,true,.v (.int .i64 ws.length)),(14,true,.v (.int .i64 i)),(38,true,.v (.bool (!nmB x.2.1 || nameBad (prevN ws i) x.2.1)))],[(32,.box [.v (.string ⟨x.2.1.toArray⟩),.v x.1] none),(8,.box [.v b,.v v] none)],M)) ?_ ?_
 · cases i with
   | zero=>
     refine DrawK.held [8,32] (tk [0,1] (.one 2 (tk [3,4,5,6,7,8,10,15,9,11,16,12,13,14,17,18,19] .done))) (by kernel_rfl) (by kernel_rfl) fun xs=>?_
     simp only [zz,zq,seval,zl,za,ze,zo,nzs,se1,se2,tks]
     refine CallK.pure ⟨rfl,rfl⟩ rfl (nameW x.2.1 M) ?_
     cases hN:nmB x.2.1 with
     | false=>
       simp only [zz,zq,seval,zl,za,ze,zo,nzs,se1,se2,tks,za,Bool.not_false,Bool.true_or]
       first | exact ⟨(),trivial,Ent.heap (HEnt.untie (k:=32) rfl) (Ent.heap (HEnt.untie (k:=8) rfl) (Ent.of (by simp only [zq,seval,zl,za,ze,zo,hset])))⟩ | exact ⟨(),Ent.heap (HEnt.untie (k:=32) rfl) (Ent.heap (HEnt.untie (k:=8) rfl) (Ent.of (by simp only [zq,seval,zl,za,ze,zo,hset])))⟩ | exact Ent.heap (HEnt.untie (k:=32) rfl) (Ent.heap (HEnt.untie (k:=8) rfl) (Ent.of (by simp only [zq,seval,zl,za,ze,zo,hset])))
     | true=>
       simp only [zz,zq,seval,zl,za,ze,zo,nzs,se1,se2,tks,za,Bool.not_true,Bool.false_or,prevN,nameBad]
       first | exact ⟨(),trivial,Ent.heap (HEnt.untie (k:=32) rfl) (Ent.heap (HEnt.untie (k:=8) rfl) (Ent.of (by simp only [zq,seval,zl,za,ze,zo,hset])))⟩ | exact ⟨(),Ent.heap (HEnt.untie (k:=32) rfl) (Ent.heap (HEnt.untie (k:=8) rfl) (Ent.of (by simp only [zq,seval,zl,za,ze,zo,hset])))⟩ | exact Ent.heap (HEnt.untie (k:=32) rfl) (Ent.heap (HEnt.untie (k:=8) rfl) (Ent.of (by simp only [zq,seval,zl,za,ze,zo,hset])))
   | succ j=>
     obtain ⟨y,hy,_⟩:=l_drop_at (l:=ws) (i:=j) (by omega)
     obtain ⟨f0,f1,j0⟩:=vol_at hv hy
     have e0:((j+1:Nat):Int) - 1=(j:Int):=by omega
     have e1:((0:Int) < ((j+1:Nat):Int))=True:=eq_true (by omega)
     refine DrawK.held [8,32] (tk [0,1] (.one 2 (tk [3,4,5,6,7,8,10,15,9,11,16,12,13,14,17,18,19] .done))) (by kernel_rfl) (by kernel_rfl) fun xs=>?_
     simp only [zz,zq,seval,zl,za,ze,zo,nzs,se1,se2,tks]
     refine CallK.pure ⟨rfl,rfl⟩ rfl (nameW x.2.1 M) ?_
     cases hN:nmB x.2.1 with
     | false=>
       simp only [zz,zq,seval,zl,za,ze,zo,nzs,se1,se2,tks,Bool.not_false,Bool.true_or]
       first | exact ⟨(),trivial,Ent.heap (HEnt.untie (k:=32) rfl) (Ent.heap (HEnt.untie (k:=8) rfl) (Ent.of (by simp only [zq,seval,zl,za,ze,zo,hset])))⟩ | exact ⟨(),Ent.heap (HEnt.untie (k:=32) rfl) (Ent.heap (HEnt.untie (k:=8) rfl) (Ent.of (by simp only [zq,seval,zl,za,ze,zo,hset])))⟩ | exact Ent.heap (HEnt.untie (k:=32) rfl) (Ent.heap (HEnt.untie (k:=8) rfl) (Ent.of (by simp only [zq,seval,zl,za,ze,zo,hset])))
     | true=>
       simp only [zz,zq,seval,zl,za,ze,zo,nzs,se1,se2,tks,e0,e1,j0,j0.2,f0.1,f0.2,inK,lo,hi,Bool.not_true,Bool.false_or,prevN,hy,Option.map_some,nameBad]
       refine ⟨by omega,?_⟩
       first | exact ⟨(),trivial,Ent.heap (HEnt.untie (k:=32) rfl) (Ent.heap (HEnt.untie (k:=8) rfl) (Ent.of (by simp only [zq,seval,zl,za,ze,zo,hset])))⟩ | exact ⟨(),Ent.heap (HEnt.untie (k:=32) rfl) (Ent.heap (HEnt.untie (k:=8) rfl) (Ent.of (by simp only [zq,seval,zl,za,ze,zo,hset])))⟩ | exact Ent.heap (HEnt.untie (k:=32) rfl) (Ent.heap (HEnt.untie (k:=8) rfl) (Ent.of (by simp only [zq,seval,zl,za,ze,zo,hset])))
 rintro _ _
 have hbad:((!nmB x.2.1 || nameBad (prevN ws i) x.2.1)=true)↔(nmB x.2.1=false∨nameBad (prevN ws i) x.2.1=true):=by
  rw [Bool.or_eq_true,Bool.not_eq_true']
 generalize (!nmB x.2.1 || nameBad (prevN ws i) x.2.1)=bd at *
 cases bd with
 | true=>
   rw [if_pos (hbad.1 rfl)] at h2
   subst h2
   simp only [zz,zq,seval,zl,za,ze,zo,nzs,se1,se2,tks]
 | false=>
 rw [if_neg (fun h=>by cases hbad.2 h)] at h2
 by_cases h32:32 < x.2.2.length
 · have d2:((32:Int) < (x.2.2.length:Int))=True:=eq_true (by omega)
   rw [if_pos h32] at h2
   subst h2
   simp only [zz,zq,seval,zl,za,ze,zo,nzs,se1,se2,tks,hblk.len,hblk.sl,List.length_map,d2]
 have d2:((32:Int) < (x.2.2.length:Int))=False:=eq_false (by omega)
 rw [if_neg h32] at h2
 simp only [zz,zq,seval,zl,za,ze,zo,nzs,se1,se2,tks,hblk.len,hblk.sl,List.length_map,d2]
 generalize hge:goI bag x.2.2=ge at h2
 refine LoopK.go (X:=Nat×Nat) (fun z=>([(0,true,.agg [.v b,.v v]),(1,true,.ptr 8 0 0 0),(2,true,.v (.int .i64 0)),(12,true,.v v),(13,true,.v (.int .i64 ws.length)),(14,true,.v (.int .i64 i)),(44,true,.v x.1),(45,true,.v (.int .i64 x.2.2.length)),(46,true,.v (.int .i64 z.2))],[(8,.box [.v b,.v v] none)],M))
  (fun z=>z.1+z.2=x.2.2.length∧goI bag (x.2.2.drop z.2)=ge) (fun z=>z.1) (x.2.2.length,0) ⟨rfl,hge⟩ (Ent.of ?_) ?_
 · simp only [zq,seval,zl,za,ze,zo,za]
 rintro ⟨f2,j⟩ ⟨k1,k2⟩
 simp only at k1 k2
 by_cases hjl:j < x.2.2.length
 rotate_left
 · have d3:((j:Int) < (x.2.2.length:Int))=False:=eq_false (by omega)
   rw [List.drop_eq_nil_of_le (by omega)] at k2
   simp only [goI] at k2
   subst k2
   rw [if_neg (fun h=>h rfl)] at h2
   simp only [zz,zq,seval,zl,za,ze,zo,nzs,se1,se2,tks,d3,inK,lo,hi]
   refine ⟨by omega,(f - 1,i+1),⟨⟨by simp only; omega,by rw [hp]; exact h2⟩,by simp only; omega⟩,Ent.of ?_⟩
   simp only [zq,seval,zl,za,ze,zo,Int.natCast_add]
 have d3:((j:Int) < (x.2.2.length:Int))=True:=eq_true (by omega)
 obtain ⟨y,hy,hd2⟩:=l_drop_at (l:=x.2.2) (i:=j) hjl
 obtain ⟨y0,y1,y2,yi⟩:=id_at hblk hy
 rw [hd2,goI] at k2
 have hF:=find b bag y M hb
 simp only [idV] at hF
 obtain ⟨q0,q1,q2⟩:=y
 simp only at y0 y1 y2 k2 hF
 cases q0 with
 | false=>
   by_cases hz:q1=0∧q2=0
   · obtain ⟨rfl,rfl⟩:=hz
     have hE:idE bag (false,0,0)=0:=rfl
     rw [hE,if_neg (fun h=>h rfl)] at k2
     simp only [zz,zq,seval,zl,za,ze,zo,nzs,se1,se2,tks,d3,yi,yi.2,y0.1,y0.2,y1.1,y1.2,y2.1,y2.2,inK,lo,hi]
     refine ⟨by omega,(f2 - 1,j+1),⟨⟨by simp only; omega,k2⟩,by simp only; omega⟩,Ent.of ?_⟩
     simp only [zq,seval,zl,za,ze,zo,Int.natCast_add]
   · have hE:idE bag (false,q1,q2)=3:=by
      unfold idE
      exact if_pos ⟨rfl,hz⟩
     have hn : ∀ p:Prop,((q1=0∧q2=0)→p)=True:=fun p=>eq_true (fun h=>absurd h hz)
     rw [hE,if_pos (by decide)] at k2
     subst k2
     rw [if_pos (by decide)] at h2
     subst h2
     simp only [zz,zq,seval,zl,za,ze,zo,nzs,se1,se2,tks,d3,yi,yi.2,y0.1,y0.2,y1.1,y1.2,y2.1,y2.2]
     exact fun h=>absurd h hz
 | true=>
   simp only [zz,zq,seval,zl,za,ze,zo,nzs,se1,se2,tks,d3,yi,yi.2,y0.1,y0.2,y1.1,y1.2,y2.1,y2.2]
   refine CallK.pure ⟨rfl,rfl⟩ rfl hF ?_
   by_cases hneg:fidx (isId (true,q1,q2)) bag 0 < 0
   · have d4:=eq_true hneg
     have hE:idE bag (true,q1,q2)=4:=by
      unfold idE
      rw [if_neg (fun h=>by cases h.1)]
      exact if_pos ⟨rfl,hneg⟩
     rw [hE,if_pos (by decide)] at k2
     subst k2
     rw [if_pos (by decide)] at h2
     subst h2
     simp only [zz,zq,seval,zl,za,ze,zo,nzs,se1,se2,tks,d4]
   · have d4:=eq_false hneg
     have hE:idE bag (true,q1,q2)=0:=by
      unfold idE
      rw [if_neg (fun h=>by cases h.1)]
      exact if_neg (fun h=>hneg h.2)
     rw [hE,if_neg (fun h=>h rfl)] at k2
     simp only [zz,zq,seval,zl,za,ze,zo,nzs,se1,se2,tks,d4,inK,lo,hi]
     refine ⟨by omega,(f2 - 1,j+1),⟨⟨by simp only; omega,k2⟩,by simp only; omega⟩,Ent.of ?_⟩
     simp only [zq,seval,zl,za,ze,zo,Int.natCast_add]
end Go.X.Vo

