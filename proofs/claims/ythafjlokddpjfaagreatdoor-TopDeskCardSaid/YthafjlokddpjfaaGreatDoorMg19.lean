/- Contracts of functions and the logic that they are proved in (7 texts in one). Conditions: none. -/
import Derived.Shelf.Small.Strs
import Derived.Test.YthafjlokddpjfaaGreatDoorMg18
import Derived.Test.YthafjlokddpjfaaGreatDoorMg11
import Derived.Test.YthafjlokddpjfaaGreatDoorMg9
import Derived.Shelf.SlSortFuncK.WholeK
import Derived.Shelf.GgSortFunc.Tiny
import Derived.Deep.QuietTactic
import Derived.Test.YthafjlokddpjfaaGreatDoorMg13
import Derived.Test.YthafjlokddpjfaaGreatDoorMg16
import Derived.Test.YthafjlokddpjfaaGreatDoorMg12
import Derived.Test.YthafjlokddpjfaaGreatDoorMg5
open Go.Proofs.Tryz renaming prog → qz
open Int renaming cast_ofNat_Int→zl,natCast_zero→za,natCast_one→ze,toNat_natCast→zo
namespace Go.X.Bg
end Go.X.Bg
namespace Go.X.Nm
end Go.X.Nm
namespace Go.X.Bp
end Go.X.Bp
namespace Go.X.Sb
end Go.X.Sb
set_option linter.unusedSimpArgs false
set_option linter.unusedVariables false
set_option maxHeartbeats 4000000
set_option maxRecDepth 20000
namespace Go.Proofs
open Go.Shelf Go.RowKit Go.Lib
def Tryz.lays106_ren:Go.Shelf.Ren:=⟨fun | 106=>325 | 213=>340 | 265=>348 | n=>n,fun | 9=>9 | 3=>3 | n=>n,fun | n=>n⟩
theorem Tryz.lays106:Go.Proofs.Lays.n106 Tryz.prog Tryz.lays106_ren:={
 mixed:=by kernel_rfl,
 f106:=Tryz.func325.trans (congrArg some (by kernel_rfl)),
 f213:=Tryz.func340.trans (congrArg some (by kernel_rfl)),
 f265:=Tryz.func348.trans (congrArg some (by kernel_rfl)),
 t3:=Tryz.underlying3,
 a3:=Tryz.isAgg3,
 z3:=Tryz.sizeOf3,
 v3:=Tryz.zeroValue3,
 t9:=Tryz.underlying9,
 a9:=Tryz.isAgg9,
 z9:=Tryz.sizeOf9,
 v9:=Tryz.zeroValue9 }

end Go.Proofs
namespace Go.X.Vo
open Go Go.X Go.RowKit Go.X.Bg Go.X.Nm Go.X.Bp Go.X.Sb

theorem scompare (a b:List UInt8) (M:Mem):Meets qz 325 [.v (.string ⟨a.toArray⟩),.v (.string ⟨b.toArray⟩)] M fun r _ _=>r = .v (.int .i64 (cmpN a b)):=by
 refine St.Meets.ofCalls ⟨_,Proofs.Tryz.func325,by kernel_rfl,by kernel_rfl⟩ fun w=>?_
 refine (Proofs.Any.strings_Compare Proofs.Tryz.lays106 ⟨a.toArray⟩ ⟨b.toArray⟩ w).mono ?_
 rintro e w' ⟨rfl,rfl⟩
 exact ⟨rfl,Below.refl _ _⟩
def wvV (w:WV):SV:=.agg [.v (.string ⟨w.2.1.toArray⟩),.v w.1]
theorem addC (x y:WV) (M:Mem):Meets qz 324 [wvV x,wvV y] M fun r _ _=>r = .v (.int .i64 (cmpN x.2.1 y.2.1)):=by
 refine Meets.of_body [0,1,2,3,4] Proofs.Tryz.func324 rfl (by kernel_rfl) rfl fun w=>?_
 simp only [Proofs.Tryz.f324,wvV,zz,zq,seval,zl,za,ze,zo,nzs]
 refine CallK.pure ⟨rfl,rfl⟩ rfl (scompare x.2.1 y.2.1 M) ?_
 simp only [zz,zq,seval,zl,za,ze,zo,nzs]
theorem encV_one {w:WV} (h:w.1.oneCell'=true) : ∀ c ∈ encV w,c.oneCell'=true:=fun c hc=>by
 simp only [encV,List.mem_cons,List.not_mem_nil,or_false] at hc
 rcases hc with rfl | rfl
 · rfl
 · exact h
theorem vols_mono {ws:List WV} (h:(ws.map (·.2)).Pairwise (fun a b=>Op.bytesLess a.1 b.1=true)) (x:WV) (i j:Nat) (a b:WV) (hij:i≤j) (ha:ws[i]? = some a) (hb:ws[j]? = some b) (hc:cmpN b.2.1 x.2.1 < 0):cmpN a.2.1 x.2.1 < 0:=by
 rw [cmpN_lt] at hc ⊢
 rcases Nat.lt_or_ge i j with hlt | hge
 · have hil:=(List.getElem?_eq_some_iff.1 ha).1
   have hjl:=(List.getElem?_eq_some_iff.1 hb).1
   have:=List.pairwise_iff_getElem.1 h i j (by rw [List.length_map]; omega) (by rw [List.length_map]; omega) hlt
   rw [List.getElem_map,List.getElem_map,(List.getElem?_eq_some_iff.1 ha).2,(List.getElem?_eq_some_iff.1 hb).2] at this
   exact less_trans this hc
 · have:i=j:=by omega
   subst this
   rw [ha] at hb
   cases hb
   exact hc
/-- vol.add is lent the row of volumes -/
theorem add (b:Value) (ws:List WV) (x:WV) (M:Mem) (hbo:b.oneCell'=true) (h1 : ∀ w ∈ ws,w.1.oneCell'=true) (hx:x.1.oneCell'=true) (hs:(ws.map (·.2)).Pairwise (fun a b=>Op.bytesLess a.1 b.1=true)) (hl:ws.length≤1000) :
  MeetsH qz 277 [.agg [.v b,.own 8000],wvV x] [(8000,.row 2 (ws.map encV))] M (OwnR (fun s=>.agg [.v b,s]) 2 ((insW ws x).map encV)):=by
 refine MeetsH.of_body [0,1,2,3,4,5] Proofs.Tryz.func277 rfl (by kernel_rfl) fun w M0=>?_
 simp only [Proofs.Tryz.f277,wvV,zz,zq,seval,zl,za,ze,zo,nzs]
 refine CallK.lend (k:=8000) rfl rfl rfl (fun _=>rfl) (fun v M3 hM3 hv=>bsV (α:=WV) (fun x=>.string ⟨x.2.1.toArray⟩) (fun x=>x.1) (fun y=>cmpN y.2.1 x.2.1) 324 _ _ v ws M3 hv (by omega) ⟨rfl,hx⟩ (fun z hz=>addC z x M3) (fun i j a b hij ha hb hc=>vols_mono hs x i j a b hij ha hb hc)) ?_
 have hbl:=bk_le (fun y:WV=>cmpN y.2.1 x.2.1) ws
 have hii:insW ws x=ws.take (bk (fun y:WV=>cmpN y.2.1 x.2.1) ws)++x :: ws.drop (bk (fun y:WV=>cmpN y.2.1 x.2.1) ws):=rfl
 rw [hii]
 generalize bk (fun y:WV=>cmpN y.2.1 x.2.1) ws=bi at *
 generalize bf (fun y:WV=>cmpN y.2.1 x.2.1) ws=bF
 simp only [zz,zq,seval,zl,za,ze,zo,nzs,hx]
 refine CallK.lendR2 (A:=fun s t=>[s,.v (.int .i64 bi),t]) 8000 144 (fun s t s' t' ν ν' e1 e2=>by simp only [SV.vals,SV.val,e1,e2]) Ctx.id rfl rfl rfl rfl rfl (fun M6 h6=>insertV (ws.map encV) (encV x) bi M6 (by rw [List.length_map]; exact hbl) (by rw [List.length_map]; omega) (fun e he=>by
  obtain ⟨y,hy,rfl⟩:=List.mem_map.1 he
  exact ⟨rfl,encV_one (h1 y hy)⟩) ⟨rfl,encV_one hx⟩) rfl ?_
 simp only [zz,zq,seval,zl,za,ze,zo,nzs]
 refine ⟨hbo,152,rfl,?_⟩
 simp [hget,List.map_take,List.map_drop,encV]
theorem vfresh (b v:Value) (ws:List WV) (n:List UInt8) (M:Mem) (hv:VolsM M v ws) (hl:ws.length≤6) :
  Meets qz 276 [stV b v,.v (.string ⟨n.toArray⟩)] M fun r _ _=>r = .v (.int .i64 (freshE (ws.map (·.2)) n)):=by
 refine Meets.of_body [0,1,2,4,5,9,14] Proofs.Tryz.func276 rfl (by kernel_rfl) rfl fun w=>?_
 generalize hc:freshE (ws.map (·.2)) n=c
 unfold freshE at hc
 rw [List.length_map] at hc
 have hF:=find b v ws n M hv
 simp only [stV] at hF
 simp only [Proofs.Tryz.f276,stV,zz,zq,seval,zl,za,ze,zo,nzs]
 refine CallK.pure ⟨rfl,rfl⟩ rfl (nameW n M) ?_
 cases hN:nmB n with
 | false=>
   rw [if_pos hN] at hc
   subst hc
   simp only [zz,zq,seval,zl,za,ze,zo,nzs]
 | true=>
 rw [if_neg (by rw [hN]; decide)] at hc
 simp only [zz,zq,seval,zl,za,ze,zo,nzs]
 refine CallK.pure ⟨rfl,rfl⟩ rfl hF ?_
 by_cases h2:0≤volIx (ws.map (·.2)) n
 · have c2:=eq_true h2
   rw [if_pos h2] at hc
   subst hc
   simp only [zz,zq,seval,zl,za,ze,zo,nzs,c2]
 have c2:=eq_false h2
 rw [if_neg h2] at hc
 by_cases h3:ws.length=6
 · have c3:((ws.length:Int)=6)=True:=eq_true (by omega)
   rw [if_pos (by omega)] at hc
   subst hc
   simp only [zz,zq,seval,zl,za,ze,zo,nzs,c2,hv.row.len,hv.row.sl,List.length_map,c3]
 · have c3:((ws.length:Int)=6)=False:=eq_false (by omega)
   rw [if_neg (by omega)] at hc
   subst hc
   simp only [zz,zq,seval,zl,za,ze,zo,nzs,c2,hv.row.len,hv.row.sl,List.length_map,c3]
/-- vol.Copied: nothing is shared -/
theorem copied (b v:Value) (bag:List It) (ws:List WV) (M:Mem) (hb:RowM M b 4 (bag.map Bg.encT)) (hv:VolsM M v ws) (hlb:bag.length≤1000) (hlv:ws.length≤1000) (hli : ∀ w ∈ ws,w.2.2.length≤1000) :
  Meets qz 185 [stV b v] M (StK M (fun s=>s) (bag,ws.map (·.2))):=by
 refine Meets.settleF Ctx.id ?_
 refine Meets.of_body [0,1,2,3,5,11,12,13,14] Proofs.Tryz.func185 rfl (by kernel_rfl) rfl fun w=>?_
 simp only [Proofs.Tryz.f185,stV,zz,zq,seval,zl,za,ze,zo,nzs]
 refine CallK.rowF Ctx.id rfl rfl (cloneB b bag M hb (by omega)) fun b2 M1 hM1 hb2 hbf=>?_
 have hv1:=hv.le hM1
 simp only [zz,zq,seval,zl,za,ze,zo,nzs,hdel,sigDrop,sigDropA,oneVs hb2.row.sl,hb2.row.one,hv.row.len,hv.row.sl,List.length_map]
 refine LoopK.nilBox 24 1 100 2 rfl rfl rfl rfl rfl ?_
 refine LoopK.go (X:=Nat×List WV×Mem) (fun x=>([(1,true,.ptr 8 0 0 0),(2,true,.ptr 16 0 0 0),(3,true,.ptr 24 0 0 0),(11,true,.v v),(12,true,.v (.int .i64 ws.length)),(13,true,.v (.int .i64 x.1))],
   [(800,.row 2 (x.2.1.map encV)),(24,.box [.v b2,.own 800] none),(16,.box [.v (.slice none 0 0),.v (.slice none 0 0)] none),(8,.box [.v b,.v v] none)],x.2.2))
  (fun x=>(x.1≤ws.length∧M1.le x.2.2)∧x.2.1.map (·.2)=(ws.take x.1).map (·.2)∧(∀ w ∈ x.2.1,RowF x.2.2 w.1 3 (w.2.2.map encI3)∧freshB M1 w.1)∧(x.2.1.map (·.1)).Pairwise apartB) (fun x=>ws.length - x.1) (0,[],M1) ⟨⟨Nat.zero_le _,Mem.le.refl M1⟩,by simp,fun w hw=>by (cases hw),.nil⟩ (Ent.of ?_) ?_
 · simp only [zq,seval,zl,za,ze,zo,List.map_nil,za]
 rintro ⟨i,us,N⟩ ⟨⟨n1,nM⟩,n2,n3,n4⟩
 simp only at n1 nM n2 n3 n4
 have hul:us.length=i:=by
  have:=congrArg List.length n2
  rw [List.length_map,List.length_map,List.length_take] at this
  omega
 by_cases hil:i < ws.length
 rotate_left
 · have d1:((i:Int) < (ws.length:Int))=False:=eq_false (by omega)
   rw [List.take_of_length_le (by omega)] at n2
   simp only [zz,zq,seval,zl,za,ze,zo,nzs,d1]
   refine ⟨hb2.row.one,.v b2,.own 800,us,rfl,n2,(fun k hk=>by cases hk),⟨⟨hb2.le nM,hbf⟩,rfl⟩,fun w hw=>⟨(n3 w hw).1,(n3 w hw).2.of_le hM1⟩,?_⟩
   refine List.pairwise_cons.2 ⟨fun y hy=>?_,n4⟩
   simp only [known,List.nil_append] at hy
   obtain ⟨w,hw,rfl⟩:=List.mem_map.1 hy
   exact (RowF.apart hb2 (n3 w hw).2).symm
 have d1:((i:Int) < (ws.length:Int))=True:=eq_true (by omega)
 obtain ⟨x,hx,_⟩:=l_drop_at (l:=ws) (i:=i) hil
 have hvN:=hv1.le nM
 obtain ⟨g0,g1,i0⟩:=vol_at hvN hx
 have hxm:=List.mem_of_getElem? hx
 have hblk:=hvN.blk x hxm
 simp only [zz,zq,seval,zl,za,ze,zo,nzs,d1,i0,i0.2,g0.1,g0.2,g1.1,g1.2,hblk.one]
 refine DrawK.pubF (k:=800) rfl fun v' N' hN' hv' hvf'=>?_
 have hblk':=hblk.le hN'
 have hnext : ∀ (u:Value) (N2 N3:Mem),N'.le N2→RowF N2 u 3 (x.2.2.map encI3)→freshB N' u→butB N2 N3 v'→(M1.le N3∧(us++[(u,x.2)]).map (·.2)=(ws.take (i+1)).map (·.2))∧(∀ w ∈ us++[(u,x.2)],RowF N3 w.1 3 (w.2.2.map encI3)∧freshB M1 w.1)∧((us++[(u,x.2)]).map (·.1)).Pairwise apartB:=fun u N2 N3 hN2 hu huf hb3=>by
  refine ⟨⟨?_,?_⟩,fun w hw=>?_,?_⟩
  · exact le_but (nM.trans (hN'.trans hN2)) (hvf'.of_le nM) hb3
  · rw [List.take_add_one,hx,List.map_append,List.map_append,n2]
    rfl
  · rcases List.mem_append.1 hw with hw | hw
    · exact ⟨RowF.but (((n3 w hw).1.le hN').le hN2) hb3 (RowF.apart (n3 w hw).1 hvf'),(n3 w hw).2⟩
    · rw [List.mem_singleton.1 hw]
      exact ⟨RowF.but hu hb3 (RowF.apart hv' huf).symm,huf.of_le (nM.trans hN')⟩
  · rw [List.map_append,List.pairwise_append]
    refine ⟨n4,List.pairwise_singleton _ _,fun y hy z hz=>?_⟩
    obtain ⟨w,hw,rfl⟩:=List.mem_map.1 hy
    simp only [List.map_cons,List.map_nil,List.mem_singleton] at hz
    subst hz
    exact (RowF.apart ((n3 w hw).1.le hN') huf).symm
 have hrow : ∀ u:Value,us.map encV++[[.string ⟨x.2.1.toArray⟩,u]]=(us++[(u,x.2)]).map encV:=fun u=>by
  rw [List.map_append]; rfl
 rcases RowF.nil_or hv' with ⟨e,hnil⟩ | ⟨bb,cap,e⟩
 · have hus:us=[]:=by simpa using hnil
   subst e
   refine DrawK.heldT 9 [8,24,40] (tk [0,2,4,1,3,5] (.one 6 (tk [7] (.one 8 .done)))) (by kernel_rfl) (by kernel_rfl) fun xs=>?_
   simp only [zz,zq,seval,zl,za,ze,zo,sp1,sp2,sp3,nzs,se1,se2,tks]
   refine CallK.rowF Ctx.id rfl rfl (cloneI x.1 x.2.2 N' hblk' (Nat.le_trans (hli x hxm) (by omega))) fun u N2 hN2 hu huf=>?_
   simp only [zz,zq,seval,zl,za,ze,zo,nzs,se1,se2,tks,oneVs hu.row.sl,hu.row.one,inK,lo,hi]
   obtain ⟨⟨q1,q2⟩,q3,q4⟩:=hnext u N2 N2 hN2 hu huf (fun _ _=>rfl)
   have hr:=hrow u
   subst hus
   simp only [List.map_nil,List.nil_append] at hr q2 q3 q4
   refine ⟨hN2,hN2,by omega,(i+1,[(u,x.2)],N2),⟨⟨⟨by simp only; omega,q1⟩,q2,q3,q4⟩,by simp only; omega⟩,Ent.heap (HEnt.untie (k:=8) rfl) (Ent.heap (HEnt.untie (k:=16) rfl) (Ent.heap (HEnt.untie (k:=24) rfl) (Ent.rekeyB 24 1 208 100 2 _ rfl rfl rfl rfl rfl (Ent.of ?_))))⟩
   simp only [zq,seval,zl,za,ze,zo,Int.natCast_add,hr,hset]
 · subst e
   refine DrawK.heldT 9 [8,24,40] (tk [0,2,4,1,3,5] (.one 6 (tk [7] (.one 8 .done)))) (by kernel_rfl) (by kernel_rfl) fun xs=>?_
   simp only [zz,zq,seval,zl,za,ze,zo,sp1,sp2,sp3,nzs,se1,se2,tks]
   refine CallK.rowF Ctx.id rfl rfl (cloneI x.1 x.2.2 N' hblk' (Nat.le_trans (hli x hxm) (by omega))) fun u N2 hN2 hu huf=>?_
   simp only [zz,zq,seval,zl,za,ze,zo,nzs,se1,se2,tks,oneVs hu.row.sl,hu.row.one,rowOf_some]
   refine ⟨hN2,hN2,OpK.claim 18 100 rfl rfl (hv'.le hN2) (hvf'.of_le (hM1.trans nM)) rfl rfl fun N3 hb3=>OpK.step ?_⟩
   simp only [zz,zq,seval,zl,za,ze,zo,nzs,inK,lo,hi,List.length_map,hul,hrow]
   obtain ⟨⟨q1,q2⟩,q3,q4⟩:=hnext u N2 N3 hN2 hu huf hb3
   refine ⟨⟨by omega,by omega⟩,by omega,(i+1,us++[(u,x.2)],N3),⟨⟨⟨by simp only; omega,q1⟩,q2,q3,q4⟩,by simp only; omega⟩,Ent.heap (HEnt.untie (k:=8) rfl) (Ent.heap (HEnt.untie (k:=16) rfl) (Ent.heap (HEnt.untie (k:=24) rfl) (Ent.rekeyB 24 1 208 100 2 _ rfl rfl rfl rfl rfl (Ent.of ?_))))⟩
   simp only [zq,seval,zl,za,ze,zo,Int.natCast_add,hset]
end Go.X.Vo

namespace Go.X.Vo
open Go Go.X Go.RowKit Go.X.Bg Go.X.Nm Go.X.Bp Go.X.Sb

theorem stO_zero (e:Value) (H:HS) (M:Mem):StO (fun s=>.tup [s,.v e]) zSt (.tup [.agg [.v (.slice none 0 0),.v (.slice none 0 0)],.v e]) H M:=
 ⟨.v (.slice none 0 0),.v (.slice none 0 0),[],rfl,rfl,fun k h=>(by cases h),⟨RowM.nil M 4,RowM.nil M 2⟩,fun w hw=>by cases hw⟩
theorem insW_mem {l:List WV} {x y:WV} (h:y ∈ insW l x):y ∈ l∨y=x:=by
 unfold insW at h
 rcases List.mem_append.1 h with h | h
 · exact .inl (List.mem_of_mem_take h)
 · rcases List.mem_cons.1 h with rfl | h
   · exact .inr rfl
   · exact .inl (List.mem_of_mem_drop h)
/-- what stays known when the row of volumes is lent -/
theorem StF.added {M0 M2 M3 M4:Mem} {b v u:Value} {bag:List It} {ws:List WV} {n:List UInt8} {ids:List Id3} (h:StF M0 M2 b v bag ws) (h0:M0.le M2) (hM:M2.le M3) (hu:RowF M3 u 3 (ids.map encI3)) (hf:freshB M2 u) (hb:butB M3 M4 v) :
  M0.le M4∧RowM M4 b 4 (bag.map Bg.encT) ∧ ∀ w ∈ insW ws (u,n,ids),RowM M4 w.1 3 (w.2.2.map encI3):=by
 obtain ⟨g1,g2⟩:=(h.le hM).offV hb
 refine ⟨le_but (h0.trans hM) h.fv hb,g1.row,fun w hw=>?_⟩
 rcases insW_mem hw with hw | rfl
 · exact (g2 w hw).row
 · exact (RowF.but hu hb (RowF.apart h.vols hf).symm).row
theorem hT_agg (b:Value):Ctx (fun s=>.agg [.v b,s]):=fun s s' ν ν' h=>by simp only [SV.val,SV.vals,h]
theorem hA_add (b:Value) (x:SV) (hx:x.conc=true):Ctxs (fun s=>[.agg [.v b,s],x]):=fun s s' ν ν' h=>by
 simp only [SV.vals,SV.val,h,SV.conc_val (ν:=ν) (ν':=ν') x hx]
theorem replicate_hole (k:Nat):(List.replicate k hole).map encI3=List.replicate k [.bool false,.int .i64 0,.int .i64 0]:=by
 rw [List.map_replicate]
 rfl
theorem make (b v:Value) (bag:List It) (ws:List WV) (n:List UInt8) (k:Int) (M:Mem) (hb:RowM M b 4 (bag.map Bg.encT)) (hv:VolsM M v ws) :
  Meets qz 223 [stV b v,.v (.string ⟨n.toArray⟩),.v (.int .i64 k)] M (StM (fun s=>.tup [s,.v (.int .i64 (makeA bag (ws.map (·.2)) n k).2)]) (makeA bag (ws.map (·.2)) n k).1):=by
 refine Meets.settleM (Ctx.fst _) ?_
 refine Meets.of_body [0,1,2,3,6,7,8,9,13,21,27] Proofs.Tryz.func223 rfl (by kernel_rfl) rfl fun w=>?_
 generalize hc:makeA bag (ws.map (·.2)) n k=c
 unfold makeA at hc
 have hC:=vcheck b v bag ws M hb hv
 simp only [stV] at hC
 simp only [Proofs.Tryz.f223,stV,zz,zq,seval,zl,za,ze,zo,nzs]
 refine CallK.pure ⟨rfl,rfl⟩ rfl hC ?_
 by_cases h1:stE bag (ws.map (·.2))=0
 rotate_left
 · have c1:=eq_false h1
   rw [if_pos h1] at hc
   subst hc
   simp only [zz,zq,seval,zl,za,ze,zo,nzs,c1]
   exact stO_zero _ _ _
 rw [if_neg (fun h=>h h1)] at hc
 obtain ⟨hB,hV,_⟩:=stE_ok h1
 have hVo:=volsE_ok hV
 have hsrt:=vols_srt hV
 have hbl:=bag_len hB
 rw [List.length_map] at hVo
 have hli : ∀ w ∈ ws,w.2.2.length≤32:=fun w hw=>(hVo.2 w.2 (List.mem_map_of_mem hw)).1
 by_cases h2:k < 1
 · have c2:=eq_true h2
   rw [if_pos (.inl h2)] at hc
   subst hc
   simp only [zz,zq,seval,zl,za,ze,zo,nzs,h1,c2]
   exact stO_zero _ _ _
 have c2:=eq_false h2
 by_cases h3:32 < k
 · have c3:=eq_true h3
   rw [if_pos (.inr h3)] at hc
   subst hc
   simp only [zz,zq,seval,zl,za,ze,zo,nzs,h1,c2,c3]
   exact stO_zero _ _ _
 have c3:=eq_false h3
 rw [if_neg (by omega)] at hc
 have hF:=vfresh b v ws n M hv hVo.1
 simp only [stV] at hF
 simp only [zz,zq,seval,zl,za,ze,zo,nzs,h1,c2,c3]
 refine CallK.pure ⟨rfl,rfl⟩ rfl hF ?_
 by_cases h4:freshE (ws.map (·.2)) n=0
 rotate_left
 · have c4:=eq_false h4
   rw [if_pos h4] at hc
   subst hc
   simp only [zz,zq,seval,zl,za,ze,zo,nzs,c4]
   exact stO_zero _ _ _
 rw [if_neg (fun h=>h h4)] at hc
 subst hc
 obtain ⟨m,rfl⟩ : ∃ m:Nat,k=m:=⟨k.toNat,by omega⟩
 have hcp:=copied b v bag ws M hb hv (by omega) (by omega) (fun w hw=>Nat.le_trans (hli w hw) (by omega))
 simp only [stV] at hcp
 simp only [zz,zq,seval,zl,za,ze,zo,nzs,h4]
 have hend : ∀ (b2 v2 u:Value) (ws2:List WV) (M2 M3 M4:Mem),M.le M2→ws2.map (·.2)=ws.map (·.2)→StF M M2 b2 v2 bag ws2→M2.le M3→RowF M3 u 3 ((List.replicate m hole).map encI3)→freshB M2 u→butB M3 M4 v2 →
   M.le M4 ∧ ∀ H,hget H 288=some (.row 2 ((insW ws2 (u,n,List.replicate m hole)).map encV))→StO (fun s=>.tup [s,.v (.int .i64 0)]) (makeS bag (ws.map (·.2)) n m) (.tup [.agg [.v b2,.own 288],.v (.int .i64 0)]) H M4:=fun b2 v2 u ws2 M2 M3 M4 hM2 hw2 hS hM3 hu huf hb4=>by
  obtain ⟨q1,q2,q3⟩:=hS.added (n:=n) hM2 hM3 hu huf hb4
  refine ⟨q1,fun H hH=>⟨.v b2,.own 288,insW ws2 (u,n,List.replicate m hole),rfl,?_,fun k h=>(by cases h),⟨q2,hH⟩,q3⟩⟩
  rw [insW_map,hw2]
  simp only [makeS]
 have hadd : ∀ (b2 u:Value) (ws2:List WV) (M2 M6:Mem) (v2:Value),ws2.map (·.2)=ws.map (·.2)→StF M M2 b2 v2 bag ws2→u.oneCell'=true→MeetsH qz 277 [.agg [.v b2,.own 8000],wvV (u,n,List.replicate m hole)] [(8000,.row 2 (ws2.map encV))] M6 (OwnR (fun s=>.agg [.v b2,s]) 2 ((insW ws2 (u,n,List.replicate m hole)).map encV)):=fun b2 u ws2 M2 M6 v2 hw2 hS hu=>by
  refine add b2 ws2 (u,n,List.replicate m hole) M6 hS.bag.row.one (fun w hw=>(hS.blk w hw).row.one) hu (by rw [hw2]; exact hsrt) ?_
  have:=congrArg List.length hw2
  rw [List.length_map,List.length_map] at this
  omega
 refine DrawK.held [24] (tk [0,2,3] (.two 1 (.one 4 (tk [5] (.one 6 (.one 7 (tk [8] .done))))) 4 (tk [5] (.one 1 (.one 6 (.one 7 (tk [8] .done))))))) (by kernel_rfl) (by kernel_rfl) fun xs=>?_
 simp only [zz,zq,seval,zl,za,ze,zo,nzs,se1,se2,tks,← replicate_hole]
 refine ⟨?_,?_⟩
 · refine CallK.stF (T:=fun s=>s) (fun _ _=>rfl) rfl rfl hcp fun b2 v2 ws2 M2 hM2 hw2 hS=>?_
   simp only [zz,zq,seval,zl,za,ze,zo,nzs,se1,se2,tks,← replicate_hole,stV]
   refine ⟨hM2,⟨⟨by omega,by omega⟩,by omega,by omega⟩,hM2,?_⟩
   refine CallK.pubF (k:=272) rfl fun u M3 hM3 hu huf=>?_
   simp only [zz,zq,seval,zl,za,ze,zo,sp1,sp2,sp3,nzs]
   refine CallK.claim (A:=fun s=>[.agg [.v b2,s],wvV (u,n,List.replicate m hole)]) 1000 (hA_add b2 (wvV (u,n,List.replicate m hole)) rfl) rfl (hS.vols.le hM3) hS.fv rfl rfl fun M4 hb4=>?_
   refine CallK.lendR (A:=fun s=>[.agg [.v b2,s],wvV (u,n,List.replicate m hole)]) (T:=fun s=>.agg [.v b2,s]) 8000 (hA_add b2 (wvV (u,n,List.replicate m hole)) rfl) (hT_agg b2) rfl rfl rfl (fun M6 _=>hadd b2 u ws2 M2 M6 v2 hw2 hS hu.row.one) rfl ?_
   obtain ⟨e1,e2⟩:=hend b2 v2 u ws2 M2 M3 M4 hM2 hw2 hS hM3 hu huf hb4
   simp only [zz,zq,seval,zl,za,ze,zo,sp1,sp2,sp3,nzs,se1,se2,tks,hS.bag.row.one]
   exact ⟨e1,e1,e2 _ rfl⟩
 · refine ⟨⟨⟨by omega,by omega⟩,by omega,by omega⟩,CallK.stF (T:=fun s=>s) (fun _ _=>rfl) rfl rfl hcp fun b2 v2 ws2 M2 hM2 hw2 hS=>?_⟩
   simp only [zz,zq,seval,zl,za,ze,zo,nzs,se1,se2,tks,stV]
   refine ⟨hM2,?_⟩
   refine CallK.pubF (k:=272) rfl fun u M3 hM3 hu huf=>?_
   simp only [zz,zq,seval,zl,za,ze,zo,sp1,sp2,sp3,nzs]
   refine CallK.claim (A:=fun s=>[.agg [.v b2,s],wvV (u,n,List.replicate m hole)]) 1000 (hA_add b2 (wvV (u,n,List.replicate m hole)) rfl) rfl (hS.vols.le hM3) hS.fv rfl rfl fun M4 hb4=>?_
   refine CallK.lendR (A:=fun s=>[.agg [.v b2,s],wvV (u,n,List.replicate m hole)]) (T:=fun s=>.agg [.v b2,s]) 8000 (hA_add b2 (wvV (u,n,List.replicate m hole)) rfl) (hT_agg b2) rfl rfl rfl (fun M6 _=>hadd b2 u ws2 M2 M6 v2 hw2 hS hu.row.one) rfl ?_
   obtain ⟨e1,e2⟩:=hend b2 v2 u ws2 M2 M3 M4 hM2 hw2 hS hM3 hu huf hb4
   simp only [zz,zq,seval,zl,za,ze,zo,sp1,sp2,sp3,nzs,se1,se2,tks,hS.bag.row.one]
   exact ⟨e1,e1,e2 _ rfl⟩
end Go.X.Vo

namespace Go.X.Vo
open Go Go.X Go.RowKit Go.X.Bg Go.X.Nm Go.X.Bp Go.X.Sb

theorem ws_at {ws:List WV} {L:List Vol} (h:ws.map (·.2)=L) {i:Nat} {y:Vol} (hy:L[i]? = some y) : ∃ x,ws[i]? = some x∧x.2=y:=by
 rw [← h,List.getElem?_map,Option.map_eq_some_iff] at hy
 exact hy
theorem ws_len {ws ws2:List WV} (h:ws2.map (·.2)=ws.map (·.2)):ws2.length=ws.length:=by
 have:=congrArg List.length h
 rwa [List.length_map,List.length_map] at this
theorem foldl_take {α β:Type} (g:β→α→β) (b:β) {l:List α} {j:Nat} {y:α} (h:l[j]? = some y):(l.take (j+1)).foldl g b=g ((l.take j).foldl g b) y:=by
 rw [List.take_add_one,h,List.foldl_append]
 rfl
theorem vdrop (b v:Value) (bag:List It) (ws:List WV) (n:List UInt8) (M:Mem) (hb:RowM M b 4 (bag.map Bg.encT)) (hv:VolsM M v ws) :
  Meets qz 224 [stV b v,.v (.string ⟨n.toArray⟩)] M (StM (fun s=>.tup [s,.v (.int .i64 (dropA bag (ws.map (·.2)) n).2)]) (dropA bag (ws.map (·.2)) n).1):=by
 refine Meets.settleM (Ctx.fst _) ?_
 refine Meets.of_body [0,1,2,4,5,6,7,8,10,14,21,30,31,32,33,37] Proofs.Tryz.func224 rfl (by kernel_rfl) rfl fun w=>?_
 generalize hc:dropA bag (ws.map (·.2)) n=c
 unfold dropA at hc
 have hC:=vcheck b v bag ws M hb hv
 have hF:=find b v ws n M hv
 simp only [stV] at hC hF
 simp only [Proofs.Tryz.f224,stV,zz,zq,seval,zl,za,ze,zo,nzs]
 refine CallK.pure ⟨rfl,rfl⟩ rfl hC ?_
 by_cases h1:stE bag (ws.map (·.2))=0
 rotate_left
 · have c1:=eq_false h1
   rw [if_pos h1] at hc
   subst hc
   simp only [zz,zq,seval,zl,za,ze,zo,nzs,c1]
   exact stO_zero _ _ _
 rw [if_neg (fun h=>h h1)] at hc
 obtain ⟨hB,hV,_⟩:=stE_ok h1
 have hVo:=volsE_ok hV
 have hbl:=bag_len hB
 rw [List.length_map] at hVo
 have hli : ∀ w ∈ ws,w.2.2.length≤32:=fun w hw=>(hVo.2 w.2 (List.mem_map_of_mem hw)).1
 simp only [zz,zq,seval,zl,za,ze,zo,nzs,h1]
 refine CallK.pure ⟨rfl,rfl⟩ rfl hF ?_
 by_cases h2:volIx (ws.map (·.2)) n < 0
 · have c2:=eq_true h2
   rw [if_pos h2] at hc
   subst hc
   simp only [zz,zq,seval,zl,za,ze,zo,nzs,c2]
   exact stO_zero _ _ _
 have c2:=eq_false h2
 rw [if_neg h2] at hc
 subst hc
 obtain ⟨i,x,k1,k2,k3,k4⟩:=volIx_at h2
 have hcp:=copied b v bag ws M hb hv (by omega) (by omega) (fun w hw=>Nat.le_trans (hli w hw) (by omega))
 simp only [stV] at hcp
 rw [k1] at c2 ⊢
 simp only [zz,zq,seval,zl,za,ze,zo,nzs,c2,zo]
 refine CallK.stF (T:=fun s=>s) (fun _ _=>rfl) rfl rfl hcp fun b2 v2 ws2 M2 hM2 hw2 hS=>?_
 obtain ⟨x2,hx2,e2⟩:=ws_at hw2 k4
 obtain ⟨_,g1,i0⟩:=vol_at hS.volsM hx2
 have hblk:=hS.blk x2 (List.mem_of_getElem? hx2)
 have hbll:=hblk.row.len_le
 have hl2:=ws_len hw2
 have hil:i < ws.length:=(List.getElem?_eq_some_iff.1 k2).1
 rw [List.length_map] at hbll
 simp only [zz,zq,seval,zl,za,ze,zo,nzs,stV,hS.bag.row.one,hS.vols.row.one,i0,i0.2,g1.1,g1.2,hblk.row.len,hblk.row.sl,List.length_map]
 refine LoopK.go (X:=Nat×Value×Mem) (fun z=>([(2,true,.ptr 16 0 0 0),(4,true,.ptr 32 0 0 0),(7,true,.v (.int .i64 i)),(8,true,.ptr 64 0 0 0),(30,true,.v x2.1),(31,true,.v (.int .i64 x2.2.2.length)),(32,true,.v (.int .i64 z.1))],
   [(64,.box [.v z.2.1,.v v2] none),(32,.box [.v (.slice none 0 0),.v (.slice none 0 0)] none),(16,.box [.v b,.v v] none)],z.2.2))
  (fun z=>(z.1≤x2.2.2.length∧M2.le z.2.2)∧RowF z.2.2 z.2.1 4 (((x2.2.2.take z.1).foldl lessId bag).map Bg.encT)∧apartB z.2.1 v2) (fun z=>x2.2.2.length - z.1) (0,b2,M2) ⟨⟨Nat.zero_le _,Mem.le.refl M2⟩,hS.bag,hS.bv⟩ (Ent.of ?_) ?_
 · simp only [zq,seval,zl,za,ze,zo,za]
 rintro ⟨j,b3,N⟩ ⟨⟨n1,nM⟩,n2,n3⟩
 simp only at n1 nM n2 n3
 by_cases hjl:j < x2.2.2.length
 · have d1:((j:Int) < (x2.2.2.length:Int))=True:=eq_true (by omega)
   obtain ⟨y,hy,_⟩:=l_drop_at (l:=x2.2.2) (i:=j) hjl
   obtain ⟨y0,y1,y2,yi⟩:=id_at (hblk.row.le nM) hy
   have hst:=foldl_take lessId bag hy
   have hbE:=bagE_lessAll (x2.2.2.take j) hB
   generalize (x2.2.2.take j).foldl lessId bag=bj at *
   obtain ⟨q0,q1,q2⟩:=y
   simp only at y0 y1 y2
   cases q0 with
   | false=>
     have e3:lessId bj (false,q1,q2)=bj:=if_neg (fun h=>by cases h)
     rw [e3] at hst
     simp only [zz,zq,seval,zl,za,ze,zo,nzs,d1,yi,yi.2,y0.1,y0.2,y1.1,y1.2,y2.1,y2.2,inK,lo,hi]
     refine ⟨by omega,(j+1,b3,N),⟨⟨⟨by simp only; omega,nM⟩,by simp only [hst]; exact n2,n3⟩,by simp only; omega⟩,Ent.of ?_⟩
     simp only [zq,seval,zl,za,ze,zo,Int.natCast_add]
   | true=>
     have e3:lessId bj (true,q1,q2)=(dropS bj (true,q1,q2)).1:=by rw [dropS_ok hbE]; exact if_pos rfl
     rw [e3] at hst
     have hD:=drop b3 bj (true,q1,q2) N n2.row
     simp only [idS] at hD
     simp only [zz,zq,seval,zl,za,ze,zo,nzs,d1,yi,yi.2,y0.1,y0.2,y1.1,y1.2,y2.1,y2.2]
     refine CallK.rowF (T:=fun s=>.tup [s,.v (.int .i64 (dropS bj (true,q1,q2)).2)]) (Ctx.fst _) rfl rfl hD fun b4 N2 hN2 hb4 hf4=>?_
     simp only [zz,zq,seval,zl,za,ze,zo,nzs,inK,lo,hi,hb4.row.one]
     refine ⟨oneVs hb4.row.sl,by omega,(j+1,b4,N2),⟨⟨⟨by simp only; omega,nM.trans hN2⟩,by simp only [hst]; exact hb4,RowF.apart (hS.vols.le nM) hf4⟩,by simp only; omega⟩,Ent.of ?_⟩
     simp only [zq,seval,zl,za,ze,zo,Int.natCast_add]
 · have d1:((j:Int) < (x2.2.2.length:Int))=False:=eq_false (by omega)
   rw [List.take_of_length_le (by omega)] at n2
   simp only [zz,zq,seval,zl,za,ze,zo,nzs,d1,inK,lo,hi]
   refine ⟨by omega,?_⟩
   refine CallK.claim (A:=fun s=>[s,.v (.int .i64 i),.v (.int .i64 (i+1:Nat))]) 1000 (Ctxs.cons0 _ rfl) rfl (hS.vols.le nM) hS.fv rfl rfl fun M4 hb4=>?_
   refine CallK.lendR (A:=fun s=>[s,.v (.int .i64 i),.v (.int .i64 (i+1:Nat))]) 8000 (Ctxs.cons0 _ rfl) Ctx.id rfl rfl rfl (fun M6 _=>deleteV (ws2.map encV) i (i+1) M6 (by omega) (by rw [List.length_map]; omega) (by rw [List.length_map]; omega)) rfl ?_
   have hr:(ws2.map encV).take i++(ws2.map encV).drop (i+1)=(ws2.take i++ws2.drop (i+1)).map encV:=by rw [List.map_append,List.map_take,List.map_drop]
   rw [hr]
   have hb5:=RowF.but n2 hb4 n3.symm
   simp only [zz,zq,seval,zl,za,ze,zo,sp1,sp2,sp3,nzs,hb5.row.one]
   refine ⟨.v b3,.own 416,ws2.take i++ws2.drop (i+1),rfl,?_,fun k h=>(by cases h),⟨?_,rfl⟩,fun w hw=>?_⟩
   · simp only [dropSt,delV,List.map_append,List.map_take,List.map_drop,hw2]
   · simp only [dropSt,volAt_at k4]
     rw [e2] at hb5
     exact hb5.row
   · have hw':w ∈ ws2:=by
      rcases List.mem_append.1 hw with hw | hw
      · exact List.mem_of_mem_take hw
      · exact List.mem_of_mem_drop hw
     exact (RowF.but ((hS.blk w hw').le nM) hb4 (hS.vw hw')).row
end Go.X.Vo

namespace Go.X.Vo
open Go Go.X Go.RowKit Go.X.Bg Go.X.Nm Go.X.Bp Go.X.Sb

theorem stKO_zero (M0:Mem) (e:Value) (H:HS) (M:Mem):StKO M0 (fun s=>.tup [s,.v e]) zSt (.tup [.agg [.v (.slice none 0 0),.v (.slice none 0 0)],.v e]) H M:=
 ⟨.v (.slice none 0 0),.v (.slice none 0 0),[],rfl,rfl,fun k h=>(by cases h),⟨⟨(zero_stK M0 M).bag,(zero_stK M0 M).fb⟩,⟨(zero_stK M0 M).vols,(zero_stK M0 M).fv⟩⟩,fun w hw=>(by cases hw),(zero_stK M0 M).ap⟩
theorem set_same {α:Type} {l:List α} {i:Nat} {x:α} (h:l[i]? = some x):l.set i x=l:=by
 apply List.ext_getElem?
 intro j
 rw [List.getElem?_set]
 split
 · rename_i e
   subst e
   rw [if_pos (List.getElem?_eq_some_iff.1 h).1,h]
 · rfl
theorem stKO_of {M0 M:Mem} {b v:Value} {bag:List It} {ws:List WV} {A:St} (T:SV→SV) (H:HS) (h:StF M0 M b v bag ws) (h1:bag=A.1) (h2:ws.map (·.2)=A.2):StKO M0 T A (T (.agg [.v b,.v v])) H M:=by
 subst h1
 exact ⟨.v b,.v v,ws,rfl,h2,fun k h=>(by cases h),⟨⟨h.bag,h.fb⟩,⟨h.vols,h.fv⟩⟩,fun w hw=>⟨h.blk w hw,h.fw hw⟩,h.ap⟩
theorem idsl_set {l:List Id3} {a:Nat} (r:Id3):(l.map encI3).set a (encI3 r)=(l.set a r).map encI3:=by rw [List.map_set]
theorem getD_id {l:List Id3} {i:Nat} {x:Id3} (h:l[i]? = some x):(l.map encI3).getD i []=[.bool x.1,.int .i64 x.2.1,.int .i64 x.2.2]:=by
 rw [List.getD_eq_getElem?_getD,List.getElem?_map,h]
 rfl
theorem vtrim (b v:Value) (bag:List It) (ws:List WV) (n:List UInt8) (at':Int) (M:Mem) (hb:RowM M b 4 (bag.map Bg.encT)) (hv:VolsM M v ws) :
  Meets qz 226 [stV b v,.v (.string ⟨n.toArray⟩),.v (.int .i64 at')] M (StK M (fun s=>.tup [s,.v (.int .i64 (trimA bag (ws.map (·.2)) n at').2)]) (trimA bag (ws.map (·.2)) n at').1):=by
 refine Meets.settleF (Ctx.fst _) ?_
 refine Meets.of_body [0,1,2,3,6,7,8,9,10,11,20,36] Proofs.Tryz.func226 rfl (by kernel_rfl) rfl fun w=>?_
 generalize hc:trimA bag (ws.map (·.2)) n at'=c
 unfold trimA at hc
 have hP:=place b v bag ws n at' M hb hv
 unfold plI at hP
 simp only [stV] at hP
 simp only [Proofs.Tryz.f226,stV,zz,zq,seval,zl,za,ze,zo,nzs]
 refine CallK.pure ⟨rfl,rfl⟩ rfl hP ?_
 by_cases h1:plE bag (ws.map (·.2)) n at'=0
 rotate_left
 · have c1:=eq_false h1
   rw [if_pos h1] at hc
   subst hc
   simp only [zz,zq,seval,zl,za,ze,zo,nzs,c1]
   exact stKO_zero _ _ _ _
 rw [if_neg (fun h=>h h1)] at hc
 subst hc
 obtain ⟨hs,h2,h3,h4⟩:=plE_ok h1
 obtain ⟨i,x,k1,k2,k3,k4⟩:=volIx_at h2
 have hbk:=blks_at k1 k4
 rw [hbk] at h4
 obtain ⟨m,rfl⟩ : ∃ m:Nat,at'=m:=⟨at'.toNat,by omega⟩
 obtain ⟨hB,hV,_⟩:=stE_ok hs
 have hVo:=volsE_ok hV
 have hbl:=bag_len hB
 rw [List.length_map] at hVo
 have hli : ∀ w ∈ ws,w.2.2.length≤32:=fun w hw=>(hVo.2 w.2 (List.mem_map_of_mem hw)).1
 have hcp:=copied b v bag ws M hb hv (by omega) (by omega) (fun w hw=>Nat.le_trans (hli w hw) (by omega))
 simp only [stV] at hcp
 rw [k1]
 simp only [zz,zq,seval,zl,za,ze,zo,nzs,h1,if_true,zo]
 refine CallK.stF (T:=fun s=>s) (fun _ _=>rfl) rfl rfl hcp fun b2 v2 ws2 M2 hM2 hw2 hS=>?_
 obtain ⟨x2,hx2,e2⟩:=ws_at hw2 k4
 obtain ⟨_,g1,i0⟩:=vol_at hS.volsM hx2
 have hx2m:=List.mem_of_getElem? hx2
 have hblk:=hS.blk x2 hx2m
 have hml:m < x.2.2.length:=by omega
 obtain ⟨id,hid,_⟩:=l_drop_at (l:=x.2.2) (i:=m) hml
 have hid2:x2.2.2[m]? = some id:=by rw [e2]; exact hid
 obtain ⟨y0,y1,y2,yi⟩:=id_at hblk.row hid2
 have hgo:=goI_ok ((volsE_ok hV).2 x.2 (List.mem_of_getElem? k4)).2.2 id (List.mem_of_getElem? hid)
 have hidAt:idAt (ws.map (·.2)) i m=id:=by unfold idAt; rw [volAt_at k4,hid]; rfl
 have hset:(ws2.set i (x2.1,x2.2.1,x2.2.2.set m hole)).map (·.2)=setV (ws.map (·.2)) i m hole:=by
  rw [setV_at k4,← show ws2.map (·.2)=ws.map (·.2) from hw2,List.map_set,e2]
 have hml2:m < (x2.2.2.map encI3).length:=by rw [List.length_map,e2]; exact hml
 obtain ⟨q0,q1,q2⟩:=id
 simp only at y0 y1 y2
 cases q0 with
 | false=>
   have hq:q1=0∧q2=0:=by
    unfold idE at hgo
    by_cases hz:q1=0∧q2=0
    · exact hz
    · rw [if_pos ⟨rfl,hz⟩] at hgo; cases hgo
   obtain ⟨rfl,rfl⟩:=hq
   have hs2:ws2.set i (x2.1,x2.2.1,x2.2.2.set m hole)=ws2:=by
    have e5:x2.2.2.set m hole=x2.2.2:=set_same hid2
    rw [e5]
    exact set_same hx2
   rw [hs2] at hset
   simp only [zz,zq,seval,zl,za,ze,zo,nzs,stV,hS.bag.row.one,hS.vols.row.one,i0,i0.2,g1.1,g1.2,yi,yi.2,y0.1,y0.2]
   exact stKO_of (fun s=>.tup [s,.v (.int .i64 0)]) _ hS (by simp only [trimS,hidAt]; exact (if_neg (fun h=>by cases h)).symm) hset
 | true=>
   have hD:=drop b2 bag (true,q1,q2) M2 hS.bag.row
   simp only [idS] at hD
   simp only [zz,zq,seval,zl,za,ze,zo,nzs,stV,hS.bag.row.one,hS.vols.row.one,i0,i0.2,g1.1,g1.2,yi,yi.2,y0.1,y0.2]
   refine DrawK.plan (tk [2,3,4] (.one 0 (.one 1 (.one 5 (tk [6,7,8,9] (.one 10 .done)))))) (by kernel_rfl) (by kernel_rfl) ?_
   simp only [zz,zq,seval,zl,za,ze,zo,nzs,se1,se2,tks,yi.2,y0.1,y0.2,y1.1,y1.2,y2.1,y2.2]
   refine CallK.own (T:=fun s=>.tup [s,.v (.int .i64 (dropS bag (true,q1,q2)).2)]) (Ctx.fst _) rfl rfl hD rfl fun M3 hM3=>?_
   have hS3:=hS.le hM3
   simp only [zz,zq,seval,zl,za,ze,zo,nzs,se1,se2,tks,hS.vols.row.one,stRD_ea]
   refine ⟨hM3,hM3,yi.2,?_⟩
   have hget:(x2.2.2.map encI3).getD m []=[.bool true,.int .i64 q1,.int .i64 q2]:=getD_id hid2
   refine OpK.turnF (es:=x2.2.2.map encI3) rfl rfl (of_eq_true so178) rfl rfl rfl rfl (by rw [sh178]; rfl) (hS3.blk x2 hx2m) (hS.fw hx2m) hml2 (by decide) fun M4 hb4 hr4=>?_
   have hr5:RowF M4 x2.1 3 ((x2.2.2.set m hole).map encI3):=by
    rw [hget] at hr4
    rw [← idsl_set]
    exact hr4
   have hS4:=hS3.turnB hx2 hb4 hr5
   have eA:(trimS bag (ws.map (·.2)) i m).1=(dropS bag (true,q1,q2)).1:=by
    simp only [trimS,hidAt]
    rw [dropS_ok hB]
    exact if_pos rfl
   simp only [zz,zq,seval,zl,za,ze,zo,nzs]
   refine ⟨hS.vols.row.one,.own 344,.v v2,_,rfl,hset,fun k _ h2=>(by cases h2),⟨?_,⟨hS4.vols,hS4.fv⟩⟩,fun w hw=>⟨hS4.blk w hw,hS4.fw hw⟩,(List.pairwise_cons.1 hS4.ap).2⟩
   rw [eA]
   rfl
theorem vwrite (b v:Value) (bag:List It) (ws:List WV) (n:List UInt8) (at':Int) (s:List UInt8) (M:Mem) (hb:RowM M b 4 (bag.map Bg.encT)) (hv:VolsM M v ws) :
  Meets qz 225 [stV b v,.v (.string ⟨n.toArray⟩),.v (.int .i64 at'),.v (.string ⟨s.toArray⟩)] M (StM (fun t=>.tup [t,.v (.int .i64 (writeA bag (ws.map (·.2)) n at' s).2)]) (writeA bag (ws.map (·.2)) n at' s).1):=by
 refine Meets.settleM (Ctx.fst _) ?_
 refine Meets.of_body [0,1,2,3,4,8,9,10,11,12,14,15,24,43] Proofs.Tryz.func225 rfl (by kernel_rfl) rfl fun w=>?_
 have hT:=vtrim b v bag ws n at' M hb hv
 unfold trimA at hT
 generalize hc:writeA bag (ws.map (·.2)) n at' s=c
 unfold writeA at hc
 have hP:=place b v bag ws n at' M hb hv
 unfold plI at hP
 simp only [stV] at hP hT
 simp only [Proofs.Tryz.f225,stV,zz,zq,seval,zl,za,ze,zo,nzs]
 refine CallK.pure ⟨rfl,rfl⟩ rfl hP ?_
 by_cases h1:plE bag (ws.map (·.2)) n at'=0
 rotate_left
 · have c1:=eq_false h1
   rw [if_pos h1] at hc
   subst hc
   simp only [zz,zq,seval,zl,za,ze,zo,nzs,c1]
   exact stO_zero _ _ _
 rw [if_neg (fun h=>h h1)] at hc hT
 obtain ⟨hs,h2,h3,h4⟩:=plE_ok h1
 obtain ⟨i,x,k1,k2,k3,k4⟩:=volIx_at h2
 have hbk:=blks_at k1 k4
 rw [hbk] at h4
 obtain ⟨m,rfl⟩ : ∃ m:Nat,at'=m:=⟨at'.toNat,by omega⟩
 obtain ⟨hB,hV,_⟩:=stE_ok hs
 rw [k1] at hc hT ⊢
 simp only [zo] at hc hT
 simp only [zz,zq,seval,zl,za,ze,zo,nzs,h1,if_true]
 refine CallK.stF (T:=fun t=>.tup [t,.v (.int .i64 0)]) (fun _ _=>rfl) rfl rfl hT fun b2 v2 ws2 M2 hM2 hw2 hS=>?_
 have hml:m < x.2.2.length:=by omega
 have hil:=(List.getElem?_eq_some_iff.1 k4).1
 have hy:(trimS bag (ws.map (·.2)) i m).2[i]? = some (x.2.1,x.2.2.set m hole):=by
  show (setV (ws.map (·.2)) i m hole)[i]? = _
  rw [setV_at k4,List.getElem?_set_self hil]
 obtain ⟨x2,hx2,e2⟩:=ws_at hw2 hy
 have hx2m:=List.mem_of_getElem? hx2
 obtain ⟨_,g1,i0⟩:=vol_at hS.volsM hx2
 have hblk:=hS.blk x2 hx2m
 have hml2:m < x2.2.2.length:=by rw [e2,List.length_set]; exact hml
 obtain ⟨id,hid,_⟩:=l_drop_at (l:=x2.2.2) (i:=m) hml2
 obtain ⟨y0,y1,y2,yi⟩:=id_at hblk.row hid
 have hB2:bagE (trimS bag (ws.map (·.2)) i m).1=0:=bagE_lessId hB _
 have hPu:=put b2 (trimS bag (ws.map (·.2)) i m).1 s M2 hS.bag.row
 have hp:putS (trimS bag (ws.map (·.2)) i m).1 s=putG (trimS bag (ws.map (·.2)) i m).1 s:=if_neg (fun h=>h hB2)
 rw [hp] at hPu
 unfold writeS at hc
 change (if (putG (trimS bag (ws.map (·.2)) i m).1 s).2.2≠0 then (zSt,(putG (trimS bag (ws.map (·.2)) i m).1 s).2.2) else (((putG (trimS bag (ws.map (·.2)) i m).1 s).1,setV (ws.map (·.2)) i m (putG (trimS bag (ws.map (·.2)) i m).1 s).2.1),0))=c at hc
 simp only [zz,zq,seval,zl,za,ze,zo,nzs,stV,hS.bag.row.one,hS.vols.row.one]
 refine CallK.own (putT_ctx _ _) rfl rfl hPu rfl fun M3 hM3=>?_
 generalize putG (trimS bag (ws.map (·.2)) i m).1 s=pg at *
 obtain ⟨pl,pid,pe⟩:=pg
 simp only at hc
 have hS3:=hS.le hM3
 by_cases h5:pe=0
 rotate_left
 · have c5:=eq_false h5
   rw [if_pos h5] at hc
   subst hc
   simp only [zz,zq,seval,zl,za,ze,zo,nzs,putT,idS,c5,hS.vols.row.one]
   exact stO_zero _ _ _
 rw [if_neg (fun h=>h h5)] at hc
 subst hc
 simp only [zz,zq,seval,zl,za,ze,zo,nzs,putT,idS,h5,hS.vols.row.one]
 have g1':=vol_at hS3.volsM hx2
 refine DrawK.heldT 12 [120] (tk [2,6,7,8] (.one 0 (.one 1 (tk [3,4,5,9] (.one 10 (tk [11] .done)))))) (by kernel_rfl) (by kernel_rfl) fun xs=>?_
 simp only [zz,zq,seval,zl,za,ze,zo,nzs,se1,se2,tks,i0,i0.2,g1'.2.1.1,g1'.2.1.2,yi,yi.2,stRD_ea,hS.vols.row.one]
 have hml3:m < (x2.2.2.map encI3).length:=by rw [List.length_map]; exact hml2
 have hget:(x2.2.2.map encI3).getD m []=[.bool id.1,.int .i64 id.2.1,.int .i64 id.2.2]:=getD_id hid
 refine OpK.turnF (es:=x2.2.2.map encI3) rfl rfl (of_eq_true so178) rfl rfl rfl rfl (by rw [sh178]; rfl) (hS3.blk x2 hx2m) (hS.fw hx2m) hml3 (Nat.le_refl 3) fun M4 hb4 hr4=>?_
 have hr5:RowF M4 x2.1 3 ((x2.2.2.set m pid).map encI3):=by
  rw [hget] at hr4
  rw [← idsl_set]
  exact hr4
 have hS4:=hS3.turnB hx2 hb4 hr5
 simp only [zz,zq,seval,zl,za,ze,zo,nzs]
 refine ⟨hS.vols.row.one,.own 304,.v v2,_,rfl,?_,fun k _ h2=>(by cases h2),⟨rfl,hS4.vols.row⟩,fun w hw=>(hS4.blk w hw).row⟩
 have hv2:ws2.map (·.2)=setV (ws.map (·.2)) i m hole:=hw2
 show (ws2.set i (x2.1,x2.2.1,x2.2.2.set m pid)).map (·.2)=setV (ws.map (·.2)) i m pid
 rw [List.map_set,hv2,setV_at k4,setV_at k4,List.set_set,e2,List.set_set]
end Go.X.Vo

namespace Go.X.Vo
open Go Go.X Go.RowKit Go.X.Bg Go.X.Nm Go.X.Bp Go.X.Sb

theorem vclone (b v:Value) (bag:List It) (ws:List WV) (n to:List UInt8) (M:Mem) (hb:RowM M b 4 (bag.map Bg.encT)) (hv:VolsM M v ws) :
  Meets qz 227 [stV b v,.v (.string ⟨n.toArray⟩),.v (.string ⟨to.toArray⟩)] M (StM (fun s=>.tup [s,.v (.int .i64 (cloneA bag (ws.map (·.2)) n to).2)]) (cloneA bag (ws.map (·.2)) n to).1):=by
 refine Meets.settleM (Ctx.fst _) ?_
 refine Meets.of_body [0,1,2,3,6,7,8,9,10,11,13,14,18,25,31,41,42,43,44,52] Proofs.Tryz.func227 rfl (by kernel_rfl) rfl fun w=>?_
 generalize hc:cloneA bag (ws.map (·.2)) n to=c
 unfold cloneA at hc
 have hC:=vcheck b v bag ws M hb hv
 have hF:=find b v ws n M hv
 simp only [stV] at hC hF
 simp only [Proofs.Tryz.f227,stV,zz,zq,seval,zl,za,ze,zo,nzs]
 refine CallK.pure ⟨rfl,rfl⟩ rfl hC ?_
 by_cases h1:stE bag (ws.map (·.2))=0
 rotate_left
 · have c1:=eq_false h1
   rw [if_pos h1] at hc
   subst hc
   simp only [zz,zq,seval,zl,za,ze,zo,nzs,c1]
   exact stO_zero _ _ _
 rw [if_neg (fun h=>h h1)] at hc
 obtain ⟨hB,hV,_⟩:=stE_ok h1
 have hVo:=volsE_ok hV
 have hbl:=bag_len hB
 have hsrt:=vols_srt hV
 rw [List.length_map] at hVo
 have hli : ∀ w ∈ ws,w.2.2.length≤32:=fun w hw=>(hVo.2 w.2 (List.mem_map_of_mem hw)).1
 simp only [zz,zq,seval,zl,za,ze,zo,nzs,h1]
 refine CallK.pure ⟨rfl,rfl⟩ rfl hF ?_
 by_cases h2:volIx (ws.map (·.2)) n < 0
 · have c2:=eq_true h2
   rw [if_pos h2] at hc
   subst hc
   simp only [zz,zq,seval,zl,za,ze,zo,nzs,c2]
   exact stO_zero _ _ _
 have c2:=eq_false h2
 rw [if_neg h2] at hc
 obtain ⟨i,x,k1,k2,k3,k4⟩:=volIx_at h2
 have hFr:=vfresh b v ws to M hv hVo.1
 simp only [stV] at hFr
 rw [k1] at c2 hc ⊢
 simp only [zo] at hc
 simp only [zz,zq,seval,zl,za,ze,zo,nzs,c2]
 refine CallK.pure ⟨rfl,rfl⟩ rfl hFr ?_
 by_cases h4:freshE (ws.map (·.2)) to=0
 rotate_left
 · have c4:=eq_false h4
   rw [if_pos h4] at hc
   subst hc
   simp only [zz,zq,seval,zl,za,ze,zo,nzs,c4]
   exact stO_zero _ _ _
 rw [if_neg (fun h=>h h4)] at hc
 subst hc
 have hcp:=copied b v bag ws M hb hv (by omega) (by omega) (fun w hw=>Nat.le_trans (hli w hw) (by omega))
 simp only [stV] at hcp
 simp only [zz,zq,seval,zl,za,ze,zo,nzs,h4]
 refine CallK.stF (T:=fun s=>s) (fun _ _=>rfl) rfl rfl hcp fun b2 v2 ws2 M2 hM2 hw2 hS=>?_
 have hw2':ws2.map (·.2)=ws.map (·.2):=hw2
 obtain ⟨x2,hx2,e2⟩:=ws_at hw2' k4
 have hx2m:=List.mem_of_getElem? hx2
 obtain ⟨_,g1,i0⟩:=vol_at hS.volsM hx2
 have hblk:=hS.blk x2 hx2m
 have hbll:=hblk.row.len_le
 have hl2:=ws_len hw2'
 have hil:i < ws.length:=(List.getElem?_eq_some_iff.1 k2).1
 have hl32:x2.2.2.length≤32:=by rw [e2]; exact hli x (List.mem_of_getElem? k2)
 have hrf0 : ∀ z ∈ bag,0≤z.2.2.2∧z.2.2.2≤1000000:=fun z hz=>by
  have:=(oneE_ok (bag_ok hB z hz)).2.2
  omega
 rw [List.length_map] at hbll
 simp only [zz,zq,seval,zl,za,ze,zo,nzs,stV,hS.bag.row.one,hS.vols.row.one,i0,i0.2,g1.1,g1.2,hblk.row.len,hblk.row.sl,List.length_map]
 refine LoopK.go (X:=Nat×Mem) (fun z=>([(2,true,.v (.string ⟨to.toArray⟩)),(3,true,.ptr 24 0 0 0),(6,true,.ptr 48 0 0 0),(9,true,.v (.int .i64 i)),(11,true,.ptr 88 0 0 0),(41,true,.v x2.1),(42,true,.v (.int .i64 x2.2.2.length)),(43,true,.v (.int .i64 z.1))],
   [(88,.box [.v b2,.v v2] none),(48,.box [.v (.slice none 0 0),.v (.slice none 0 0)] none),(24,.box [.v b,.v v] none)],z.2))
  (fun z=>(z.1≤x2.2.2.length∧M.le z.2)∧StF M z.2 b2 v2 ((x2.2.2.take z.1).foldl incId bag) ws2) (fun z=>x2.2.2.length - z.1) (0,M2) ⟨⟨Nat.zero_le _,hM2⟩,hS⟩ (Ent.of ?_) ?_
 · simp only [zq,seval,zl,za,ze,zo,za]
 rintro ⟨j,N⟩ ⟨⟨n1,nM⟩,n2⟩
 simp only at n1 nM n2
 have hblkN:=n2.blk x2 hx2m
 by_cases hjl:j < x2.2.2.length
 · have d1:((j:Int) < (x2.2.2.length:Int))=True:=eq_true (by omega)
   obtain ⟨y,hy,_⟩:=l_drop_at (l:=x2.2.2) (i:=j) hjl
   obtain ⟨y0,y1,y2,yi⟩:=id_at hblkN.row hy
   have hst:=foldl_take incId bag hy
   have hrf:=incIds_ref (x2.2.2.take j) hrf0
   have htl:(x2.2.2.take j).length≤32:=by rw [List.length_take]; omega
   have hblen:=incIds_len (x2.2.2.take j) bag
   generalize (x2.2.2.take j).foldl incId bag=bj at *
   have hFi:=Bg.find b2 bj y N n2.bag.row
   simp only [idV] at hFi
   simp only [zz,zq,seval,zl,za,ze,zo,nzs,d1,yi,yi.2,y0.1,y0.2,y1.1,y1.2,y2.1,y2.2]
   refine CallK.pure ⟨rfl,rfl⟩ rfl hFi ?_
   rw [show fidx (isId y) bj 0=idIx bj y from rfl]
   by_cases h5:0≤idIx bj y
   · have d2:=eq_true h5
     rcases fidx_sp (isId y) bj 0 with ⟨q1,_⟩ | ⟨k,z,q1,q2,q3,_⟩
     · rw [show idIx bj y=fidx (isId y) bj 0 from rfl,q1] at h5; exact absurd h5 (by decide)
     rw [Nat.zero_add] at q1
     replace q1:idIx bj y=(k:Int):=q1
     have e3:incId bj y=setR bj k (z.2.2.2+1):=by
      unfold incId
      rw [if_pos h5,q1,zo,atI_at q2]
     rw [e3] at hst
     have hzr:=hrf z (List.mem_of_getElem? q2)
     have hkl:=(List.getElem?_eq_some_iff.1 q2).1
     obtain ⟨_,⟨_,z3⟩,zi⟩:=it_at n2.bag.row q2
     have hg:=getD_it q2
     rw [q1] at d2 ⊢
     simp only [zz,zq,seval,zl,za,ze,zo,nzs,d2,zi,zi.2,z3.1,z3.2,stRD_ea,inK,lo,hi]
     refine ⟨by omega,?_⟩
     refine OpK.turnF (es:=bj.map Bg.encT) rfl rfl (of_eq_true so3) rfl rfl rfl rfl (by rw [sh3]; rfl) n2.bag n2.fb (by rw [List.length_map]; exact hkl) (Nat.le_refl 4) fun M4 hb4 hr4=>?_
     have hr5:RowF M4 b2 4 ((setR bj k (z.2.2.2+1)).map Bg.encT):=by
      rw [hg] at hr4
      rw [← setR_map q2]
      exact hr4
     have hS4:=n2.turnBag hb4 hr5
     have hM4:=le_but nM n2.fb hb4
     simp only [zz,zq,seval,zl,za,ze,zo,nzs,inK,lo,hi]
     refine ⟨by omega,(j+1,M4),⟨⟨⟨by simp only; omega,hM4⟩,by simp only [hst]; exact hS4⟩,by simp only; omega⟩,Ent.of ?_⟩
     simp only [zq,seval,zl,za,ze,zo,Int.natCast_add]
   · have d2:=eq_false h5
     have e3:incId bj y=bj:=if_neg h5
     rw [e3] at hst
     simp only [zz,zq,seval,zl,za,ze,zo,nzs,d2,inK,lo,hi]
     refine ⟨by omega,(j+1,N),⟨⟨⟨by simp only; omega,nM⟩,by simp only [hst]; exact n2⟩,by simp only; omega⟩,Ent.of ?_⟩
     simp only [zq,seval,zl,za,ze,zo,Int.natCast_add]
 · have d1:((j:Int) < (x2.2.2.length:Int))=False:=eq_false (by omega)
   rw [List.take_of_length_le (by omega)] at n2
   obtain ⟨_,gN,iN⟩:=vol_at n2.volsM hx2
   simp only [zz,zq,seval,zl,za,ze,zo,nzs,d1]
   refine DrawK.heldT 10 [88] (tk [0,1,2,4,3,5,6,7] (.one 8 (tk [9] .done))) (by kernel_rfl) (by kernel_rfl) fun xs=>?_
   simp only [zz,zq,seval,zl,za,ze,zo,nzs,se1,se2,tks,iN,iN.2,gN.1,gN.2]
   refine CallK.rowF Ctx.id rfl rfl (cloneI x2.1 x2.2.2 N hblkN.row (by omega)) fun u M3 hM3 hu huf=>?_
   simp only [zz,zq,seval,zl,za,ze,zo,sp1,sp2,sp3,nzs,se1,se2,tks,oneVs hu.row.sl,hu.row.one]
   refine ⟨hM3,?_⟩
   refine CallK.claim (A:=fun s=>[.agg [.v b2,s],wvV (u,to,x2.2.2)]) 1000 (hA_add b2 (wvV (u,to,x2.2.2)) rfl) rfl (n2.vols.le hM3) n2.fv rfl rfl fun M4 hb4=>?_
   refine CallK.lendR (A:=fun s=>[.agg [.v b2,s],wvV (u,to,x2.2.2)]) (T:=fun s=>.agg [.v b2,s]) 8000 (hA_add b2 (wvV (u,to,x2.2.2)) rfl) (hT_agg b2) rfl rfl rfl (fun M6 _=>add b2 ws2 (u,to,x2.2.2) M6 n2.bag.row.one (fun w hw=>(n2.blk w hw).row.one) hu.row.one (by rw [hw2']; exact hsrt) (by omega)) rfl ?_
   obtain ⟨q1,q2,q3⟩:=n2.added (n:=to) nM hM3 hu huf hb4
   simp only [zz,zq,seval,zl,za,ze,zo,sp1,sp2,sp3,nzs,se1,se2,tks,n2.bag.row.one]
   refine ⟨.v b2,.own 584,insW ws2 (u,to,x2.2.2),rfl,?_,fun k h=>(by cases h),⟨?_,rfl⟩,q3⟩
   · rw [insW_map,hw2']
     simp only [cloneS,volAt_at k4,e2]
   · simp only [cloneS,volAt_at k4]
     rw [e2] at q2
     exact q2
end Go.X.Vo

namespace Go.Proofs
open Go.Shelf Go.RowKit Go.Lib Go.Sort
noncomputable def Tryz.slT:TypeInfo:=(Tryz.prog.info? 27).get (by kernel_rfl)
end Go.Proofs
namespace Go.X.Bp
open Go Go.X Go.RowKit Go.X.Bg Go.X.Sb
end Go.X.Bp

namespace Go.X.Bp
open Go Go.X Go.RowKit Go.X.Bg Go.X.Sb

/-- the numbers of the first items that have this print -/
def usedN (l:List It) (s:Int) (n:Nat):List Int:=((l.take n).filter (fun x=>decide (x.1=s))).map (·.2.1)
end Go.X.Bp

