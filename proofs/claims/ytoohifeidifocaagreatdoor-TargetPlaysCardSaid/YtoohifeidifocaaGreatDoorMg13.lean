/- Contracts of functions and the logic that they are proved in (2 texts in one). Conditions: none. -/
import Derived.Test.YtoohifeidifocaaGreatDoorMg12
open Nat renaming reduceAdd→zx,reduceMul→zj,reduceDiv→zy,reduceEqDiff→zk,reduceLT→zw,reduceLeDiff→zb,reduceBEq→zg
open Int renaming reduceEq→zd,reduceNe→zf,reduceLT→zp,reduceLE→zm,reduceAdd→zh,reduceSub→zu,reduceMul→zt,reduceNeg→zn,reduceToNat→zc,cast_ofNat_Int→zl,natCast_zero→za,natCast_one→ze,toNat_natCast→zo
namespace Go.X.Bg
end Go.X.Bg
namespace Go.X.Nm
end Go.X.Nm
set_option linter.unusedSimpArgs false
set_option linter.unusedVariables false
set_option maxHeartbeats 4000000
set_option maxRecDepth 20000
namespace Go.X.Vo
open Go Go.X Go.RowKit Go.X.Bg Go.X.Nm

/-- what vol.place answers -/
def plE (bag:List It) (l:List Vol) (n:List UInt8) (at':Int):Int:=if stE bag l≠0 then stE bag l else if volIx l n < 0 then 4 else if at' < 0∨((blks l n).length:Int)≤at' then 1 else 0
def plI (bag:List It) (l:List Vol) (n:List UInt8) (at':Int):Int:=if plE bag l n at'=0 then volIx l n else 0
theorem plE_ok {bag:List It} {l:List Vol} {n:List UInt8} {a:Int} (h:plE bag l n a=0):stE bag l=0 ∧ ¬ volIx l n < 0∧0≤a∧a < ((blks l n).length:Int):=by
  unfold plE at h
  split at h
  · rename_i h1; exact absurd h h1
  rename_i h1
  split at h
  · cases h
  rename_i h2
  split at h
  · cases h
  rename_i h3
  exact ⟨Decidable.of_not_not h1,h2,by omega,by omega⟩
theorem place (b v:Value) (bag:List It) (ws:List WV) (n:List UInt8) (a:Int) (M:Mem) (hb:RowM M b 4 (bag.map Bg.encT)) (hv:VolsM M v ws) :
    Meets Proofs.Tryz.prog 84 [stV b v,.v (.string ⟨n.toArray⟩),.v (.int .i64 a)] M fun r _ _=>r = .tup [.v (.int .i64 (plI bag (ws.map (·.2)) n a)),.v (.int .i64 (plE bag (ws.map (·.2)) n a))]:=by
  refine Meets.of_body [0,1,2,3,6,7,8,9,13,19,32] Proofs.Tryz.func84 rfl (by kernel_rfl) rfl fun w=>?_
  have hC:=vcheck b v bag ws M hb hv
  have hF:=find b v ws n M hv
  unfold plI
  generalize hE:plE bag (ws.map (·.2)) n a=e
  unfold plE at hE
  simp only [stV] at hC hF
  simp only [Proofs.Tryz.f84,stV,zz,zq,↓reduceIte,zx,zj,zy,zk,zw,zb,reduceCtorEq,zd,zf,zp,zm,zh,zu,zt,zn,zc,zl,za,ze,zo,zg,nzs]
  refine CallK.pure ⟨rfl,rfl⟩ rfl hC ?_
  by_cases h1:stE bag (ws.map (·.2))=0
  rotate_left
  · have c1:=eq_false h1
    rw [if_pos h1] at hE
    subst hE
    rw [if_neg h1]
    simp only [zz,zq,↓reduceIte,zx,zj,zy,zk,zw,zb,reduceCtorEq,zd,zf,zp,zm,zh,zu,zt,zn,zc,zl,za,ze,zo,zg,nzs,c1]
  rw [if_neg (fun h=>h h1)] at hE
  simp only [zz,zq,↓reduceIte,zx,zj,zy,zk,zw,zb,reduceCtorEq,zd,zf,zp,zm,zh,zu,zt,zn,zc,zl,za,ze,zo,zg,nzs,h1]
  refine CallK.pure ⟨rfl,rfl⟩ rfl hF ?_
  by_cases h2:volIx (ws.map (·.2)) n < 0
  · have c2:=eq_true h2
    rw [if_pos h2] at hE
    subst hE
    simp only [zz,zq,↓reduceIte,zx,zj,zy,zk,zw,zb,reduceCtorEq,zd,zf,zp,zm,zh,zu,zt,zn,zc,zl,za,ze,zo,zg,nzs,c2]
  have c2:=eq_false h2
  rw [if_neg h2] at hE
  obtain ⟨j,x,k1,k2,k3,k4⟩:=volIx_at h2
  rw [blks_at k1 k4] at hE
  obtain ⟨g0,g1,i0⟩:=vol_at hv k2
  have hblk:=hv.blk x (List.mem_of_getElem? k2)
  rw [k1] at c2 ⊢
  by_cases h3:a < 0
  · have c3:=eq_true h3
    rw [if_pos (.inl h3)] at hE
    subst hE
    simp only [zz,zq,↓reduceIte,zx,zj,zy,zk,zw,zb,reduceCtorEq,zd,zf,zp,zm,zh,zu,zt,zn,zc,zl,za,ze,zo,zg,nzs,c2,c3]
  have c3:=eq_false h3
  by_cases h4:(x.2.2.length:Int)≤a
  · have c4:=eq_true h4
    rw [if_pos (.inr h4)] at hE
    subst hE
    simp only [zz,zq,↓reduceIte,zx,zj,zy,zk,zw,zb,reduceCtorEq,zd,zf,zp,zm,zh,zu,zt,zn,zc,zl,za,ze,zo,zg,nzs,c2,c3,i0,i0.2,g1.1,g1.2,hblk.len,hblk.sl,List.length_map,c4]
  · have c4:=eq_false h4
    rw [if_neg (by omega)] at hE
    subst hE
    simp only [zz,zq,↓reduceIte,zx,zj,zy,zk,zw,zb,reduceCtorEq,zd,zf,zp,zm,zh,zu,zt,zn,zc,zl,za,ze,zo,zg,nzs,c2,c3,i0,i0.2,g1.1,g1.2,hblk.len,hblk.sl,List.length_map,c4,if_true]
/-- the text of an id -/
def txtId (bag:List It) (id:Id3):List UInt8:=((bag[(fidx (isId id) bag 0).toNat]?).map (·.2.2.1)).getD []
def getE (bag:List It) (id:Id3):Int:=if bagE bag≠0 then bagE bag else if fidx (isId id) bag 0 < 0 then 4 else 0
theorem get (b:Value) (bag:List It) (id:Id3) (M:Mem) (hb:RowM M b 4 (bag.map Bg.encT)) :
    Meets Proofs.Tryz.prog 85 [.v b,idV id] M fun r _ _=>r = .tup [.v (.string ⟨(if getE bag id=0 then txtId bag id else []).toArray⟩),.v (.int .i64 (getE bag id))]:=by
  refine Meets.of_body [0,1,3,4,5,6,7,11,17] Proofs.Tryz.func85 rfl (by kernel_rfl) rfl fun w=>?_
  have hC:=check b bag M hb
  have hF:=Bg.find b bag id M hb
  generalize hE:getE bag id=e
  unfold getE at hE
  simp only [idV] at hF
  simp only [Proofs.Tryz.f85,idV,zz,zq,↓reduceIte,zx,zj,zy,zk,zw,zb,reduceCtorEq,zd,zf,zp,zm,zh,zu,zt,zn,zc,zl,za,ze,zo,zg,nzs]
  refine CallK.pure ⟨rfl,rfl⟩ rfl hC ?_
  by_cases h1:bagE bag=0
  rotate_left
  · have c1:=eq_false h1
    rw [if_pos h1] at hE
    subst hE
    rw [if_neg h1]
    simp only [zz,zq,↓reduceIte,zx,zj,zy,zk,zw,zb,reduceCtorEq,zd,zf,zp,zm,zh,zu,zt,zn,zc,zl,za,ze,zo,zg,nzs,c1]
  rw [if_neg (fun h=>h h1)] at hE
  simp only [zz,zq,↓reduceIte,zx,zj,zy,zk,zw,zb,reduceCtorEq,zd,zf,zp,zm,zh,zu,zt,zn,zc,zl,za,ze,zo,zg,nzs,h1]
  refine CallK.pure ⟨rfl,rfl⟩ rfl hF ?_
  by_cases h2:fidx (isId id) bag 0 < 0
  · have c2:=eq_true h2
    rw [if_pos h2] at hE
    subst hE
    simp only [zz,zq,↓reduceIte,zx,zj,zy,zk,zw,zb,reduceCtorEq,zd,zf,zp,zm,zh,zu,zt,zn,zc,zl,za,ze,zo,zg,nzs,c2]
  have c2:=eq_false h2
  rw [if_neg h2] at hE
  subst hE
  rcases fidx_sp (isId id) bag 0 with ⟨h3,_⟩ | ⟨j,x,k1,k2,k3,_⟩
  · rw [h3] at h2; exact absurd (by decide) h2
  rw [Nat.zero_add] at k1
  obtain ⟨⟨y0,y1⟩,⟨y2,y3⟩,yi⟩:=it_at hb k2
  have ht:txtId bag id=x.2.2.1:=by unfold txtId; rw [k1,zo,k2]; rfl
  rw [ht]
  rw [k1] at c2 ⊢
  simp only [zz,zq,↓reduceIte,zx,zj,zy,zk,zw,zb,reduceCtorEq,zd,zf,zp,zm,zh,zu,zt,zn,zc,zl,za,ze,zo,zg,nzs,c2,yi,yi.2,y2.1,y2.2,if_true]
/-- what vol.Read answers -/
def rdId (l:List Vol) (n:List UInt8) (a:Int):Id3:=((blks l n)[a.toNat]?).getD (false,0,0)
def rdS (bag:List It) (l:List Vol) (n:List UInt8) (a:Int):List UInt8:=if plE bag l n a=0 then (if (rdId l n a).1=true then txtId bag (rdId l n a) else []) else []
theorem goI_ok {bag:List It} : ∀ {l:List Id3},goI bag l=0 → ∀ id ∈ l,idE bag id=0
  | [],_,id,h=>by cases h
  | x :: r,h,id,hm=>by
    rw [goI] at h
    split at h
    · rename_i h1; exact absurd h h1
    · rename_i h1
      rcases List.mem_cons.1 hm with rfl | hm
      · exact Decidable.of_not_not h1
      · exact goI_ok h id hm
theorem idE_is {bag:List It} {id:Id3} (h:idE bag id=0) (hi:id.1=true) : ¬ fidx (isId id) bag 0 < 0:=by
  intro h1
  unfold idE at h
  rw [if_neg (fun e=>by rw [hi] at e; cases e.1),if_pos ⟨hi,h1⟩] at h
  cases h
theorem read (b v:Value) (bag:List It) (ws:List WV) (n:List UInt8) (a:Int) (M:Mem) (hb:RowM M b 4 (bag.map Bg.encT)) (hv:VolsM M v ws) :
    Meets Proofs.Tryz.prog 32 [stV b v,.v (.string ⟨n.toArray⟩),.v (.int .i64 a)] M fun r _ _=>r = .tup [.v (.string ⟨(rdS bag (ws.map (·.2)) n a).toArray⟩),.v (.int .i64 (plE bag (ws.map (·.2)) n a))]:=by
  refine Meets.of_body [0,1,2,3,6,7,8,9,10,19,32] Proofs.Tryz.func32 rfl (by kernel_rfl) rfl fun w=>?_
  have hP:=place b v bag ws n a M hb hv
  unfold plI at hP
  unfold rdS
  simp only [stV] at hP
  simp only [Proofs.Tryz.f32,stV,zz,zq,↓reduceIte,zx,zj,zy,zk,zw,zb,reduceCtorEq,zd,zf,zp,zm,zh,zu,zt,zn,zc,zl,za,ze,zo,zg,nzs]
  refine CallK.pure ⟨rfl,rfl⟩ rfl hP ?_
  by_cases h1:plE bag (ws.map (·.2)) n a=0
  rotate_left
  · have c1:=eq_false h1
    simp only [zz,zq,↓reduceIte,zx,zj,zy,zk,zw,zb,reduceCtorEq,zd,zf,zp,zm,zh,zu,zt,zn,zc,zl,za,ze,zo,zg,nzs,c1]
  obtain ⟨hs,h2,h3,h4⟩:=plE_ok h1
  obtain ⟨j,x,k1,k2,k3,k4⟩:=volIx_at h2
  have hbk:=blks_at k1 k4
  rw [hbk] at h4
  obtain ⟨g0,g1,i0⟩:=vol_at hv k2
  have hblk:=hv.blk x (List.mem_of_getElem? k2)
  obtain ⟨m,rfl⟩ : ∃ m:Nat,a=m:=⟨a.toNat,by omega⟩
  obtain ⟨id,hid,_⟩:=l_drop_at (l:=x.2.2) (i:=m) (by omega)
  obtain ⟨y0,y1,y2,yi⟩:=id_at hblk hid
  have hrd:rdId (ws.map (·.2)) n (m:Int)=id:=by unfold rdId; rw [hbk,zo,hid]; rfl
  obtain ⟨hB,hV,_⟩:=stE_ok hs
  have hgo:=goI_ok ((volsE_ok hV).2 x.2 (List.mem_of_getElem? k4)).2.2 id (List.mem_of_getElem? hid)
  have hG:=get b bag id M hb
  simp only [idV] at hG
  rw [h1,k1,hrd]
  obtain ⟨q0,q1,q2⟩:=id
  simp only at y0 y1 y2 hG
  cases q0 with
  | false=>simp only [zz,zq,↓reduceIte,zx,zj,zy,zk,zw,zb,reduceCtorEq,zd,zf,zp,zm,zh,zu,zt,zn,zc,zl,za,ze,zo,zg,nzs,i0,i0.2,g1.1,g1.2,yi,yi.2,y0.1,y0.2,y1.1,y1.2,y2.1,y2.2,if_true]
  | true=>
    have hE:getE bag (true,q1,q2)=0:=by unfold getE; rw [if_neg (fun h=>h hB),if_neg (idE_is hgo rfl)]
    rw [hE,if_pos rfl] at hG
    simp only [zz,zq,↓reduceIte,zx,zj,zy,zk,zw,zb,reduceCtorEq,zd,zf,zp,zm,zh,zu,zt,zn,zc,zl,za,ze,zo,zg,nzs,i0,i0.2,g1.1,g1.2,yi,yi.2,y0.1,y0.2,y1.1,y1.2,y2.1,y2.2,if_true]
    refine CallK.pure ⟨rfl,rfl⟩ rfl hG ?_
    simp only [zz,zq,↓reduceIte,zx,zj,zy,zk,zw,zb,reduceCtorEq,zd,zf,zp,zm,zh,zu,zt,zn,zc,zl,za,ze,zo,zg,nzs]
end Go.X.Vo

namespace Go.X.Vo
open Go Go.X Go.RowKit Go.X.Bg Go.X.Nm

theorem less_irr : ∀ a:List UInt8,Op.bytesLess a a=false
  | []=>rfl
  | x :: a=>by
    have h1 : ¬ x < x:=UInt8.lt_irrefl x
    simp [Op.bytesLess,h1,less_irr a]
theorem less_trans : ∀ {a b c:List UInt8},Op.bytesLess a b=true→Op.bytesLess b c=true→Op.bytesLess a c=true
  | _,_,[],_,h=>by cases ‹List UInt8› <;> simp [Op.bytesLess] at h
  | _,[],_ :: _,h,_=>by cases ‹List UInt8› <;> simp [Op.bytesLess] at h
  | [],_ :: _,_ :: _,_,_=>rfl
  | x :: a,y :: b,z :: c,h1,h2=>by
    simp only [Op.bytesLess,Bool.or_eq_true,decide_eq_true_eq,Bool.and_eq_true,beq_iff_eq] at h1 h2 ⊢
    rcases h1 with h1 | ⟨rfl,h1⟩
    · rcases h2 with h2 | ⟨rfl,h2⟩
      · exact .inl (UInt8.lt_trans h1 h2)
      · exact .inl h1
    · rcases h2 with h2 | ⟨rfl,h2⟩
      · exact .inl h2
      · exact .inr ⟨rfl,less_trans h1 h2⟩
theorem goV_srt (bag:List It) : ∀ (p:Option (List UInt8)) (l:List Vol),goV bag p l=0→(∀ q,p=some q → ∀ v ∈ l,Op.bytesLess q v.1=true)∧l.Pairwise (fun a b=>Op.bytesLess a.1 b.1=true)
  | _,[],_=>⟨fun q _ v hv=>(List.not_mem_nil hv).elim,.nil⟩
  | p,x :: r,h=>by
    rw [goV] at h
    split at h
    · cases h
    rename_i h1
    split at h
    · cases h
    split at h
    · rename_i h3; exact absurd h h3
    obtain ⟨i1,i2⟩:=goV_srt bag (some x.1) r h
    have hx:=i1 x.1 rfl
    refine ⟨fun q hq v hv=>?_,List.pairwise_cons.2 ⟨hx,i2⟩⟩
    subst hq
    have hqx:Op.bytesLess q x.1=true:=by
      have:nameBad (some q) x.1=false:=by
        cases hb:nameBad (some q) x.1 with
        | false=>rfl
        | true=>exact absurd (.inr hb) h1
      simpa [nameBad] using this
    rcases List.mem_cons.1 hv with rfl | hv
    · exact hqx
    · exact less_trans hqx (hx v hv)
theorem vols_srt {bag:List It} {l:List Vol} (h:volsE bag l=0):l.Pairwise (fun a b=>Op.bytesLess a.1 b.1=true):=by
  unfold volsE at h
  split at h
  · cases h
  · exact (goV_srt bag none l h).2
theorem goB_ok : ∀ {l:List It} {pre:List It},goB pre l=0 → ∀ x ∈ l,oneE x=0
  | [],_,_,x,hx=>(List.not_mem_nil hx).elim
  | y :: r,pre,h,x,hx=>by
    rw [goB] at h
    split at h
    · rename_i h1; exact absurd h h1
    rename_i h1
    split at h
    · cases h
    split at h
    · cases h
    rcases List.mem_cons.1 hx with rfl | hx
    · exact Decidable.of_not_not h1
    · exact goB_ok h x hx
theorem bagE_ok {l:List It} (h:bagE l=0):l.length≤64 ∧ ∀ x ∈ l,oneE x=0:=by
  unfold bagE at h
  split at h
  · cases h
  · exact ⟨by omega,goB_ok h⟩
/-- what stands in a place, told -/
def tE (bag:List It) (id:Id3):List UInt8:=if id.1=true then 43 :: txtId bag id else [45]
/-- a map of names to the slices of what stands there -/
def TxtM (bag:List It) (ws:List WV) (es:List (List UInt8×Value)) (M:Mem):Prop:=
  es.length=ws.length ∧ ∀ (i:Nat) (x:WV),ws[i]? = some x → ∃ u,es[i]? = some (x.2.1,u)∧RowM M u 1 ((x.2.2.map (tE bag)).map encS)
theorem TxtM.le {bag:List It} {ws:List WV} {es:List (List UInt8×Value)} {M M':Mem} (h:TxtM bag ws es M) (hl:M.le M'):TxtM bag ws es M':=
  ⟨h.1,fun i x hx=>by obtain ⟨u,h1,h2⟩:=h.2 i x hx; exact ⟨u,h1,h2.le hl⟩⟩
abbrev encN (s:List UInt8):Value:=.string ⟨s.toArray⟩
theorem upd_new {α:Type} [DecidableEq α] {a:α} {u:Value} {l:List (α×Value)} (h : ∀ p ∈ l,p.1≠a):upd a u l=l++[(a,u)]:=by
  unfold upd
  rcases fnd_spec a l 0 with ⟨h1,_⟩ | ⟨j,v,_,h2⟩
  · rw [h1]
  · exact absurd rfl (h _ (List.mem_of_getElem? h2))
theorem texts (b v:Value) (bag:List It) (ws:List WV) (M:Mem) (hb:RowM M b 4 (bag.map Bg.encT)) (hv:VolsM M v ws) (hs:stE bag (ws.map (·.2))=0) :
    Meets Proofs.Tryz.prog 34 [stV b v] M (OwnN (fun _ f=>f 0) (fun es _=>[.mp (encL encN es)]) (TxtM bag ws)):=by
  refine Meets.of_body [0,1,2,3,5,6,7,8,11,12,13,14,22,23,24,25,33] Proofs.Tryz.func34 rfl (by kernel_rfl) rfl fun w=>?_
  obtain ⟨hB,hV,_⟩:=stE_ok hs
  have hVo:=volsE_ok hV
  have hsrt:=vols_srt hV
  have hBo:=bagE_ok hB
  have hvl:=hv.row.len_le
  rw [List.length_map] at hvl
  simp only [Proofs.Tryz.f34,stV,zz,zq,↓reduceIte,zx,zj,zy,zk,zw,zb,reduceCtorEq,zd,zf,zp,zm,zh,zu,zt,zn,zc,zl,za,ze,zo,zg,nzs]
  refine ⟨rfl,OpK.makeMap rfl rfl rfl rfl ?_⟩
  simp only [zz,zq,↓reduceIte,zx,zj,zy,zk,zw,zb,reduceCtorEq,zd,zf,zp,zm,zh,zu,zt,zn,zc,zl,za,ze,zo,zg,nzs,hdel,hv.row.len,hv.row.sl,List.length_map]
  refine LoopK.go (X:=Nat×Nat×List (List UInt8×Value)×Mem) (fun x=>([(1,true,.ptr 8 0 0 0),(3,true,.own 72),(11,true,.v v),(12,true,.v (.int .i64 ws.length)),(13,true,.v (.int .i64 x.2.1))],[(72,.mp (encL encN x.2.2.1)),(8,.box [.v b,.v v] none)],x.2.2.2))
    (fun x=>(x.1+x.2.1=ws.length∧M.le x.2.2.2)∧TxtM bag (ws.take x.2.1) x.2.2.1 x.2.2.2) (fun x=>x.1) (ws.length,0,[],M) ⟨⟨rfl,Mem.le.refl _⟩,rfl,fun i x hx=>by simp at hx⟩ (Ent.of ?_) ?_
  · simp only [zq,↓reduceIte,zx,zj,zy,zk,zw,zb,reduceCtorEq,zd,zf,zp,zm,zh,zu,zt,zn,zc,zl,za,ze,zo,zg,encL,List.map_nil,za]
  rintro ⟨f,i,es,M1⟩ ⟨⟨n1,nM⟩,n2⟩
  simp only at n1 n2 nM
  by_cases hil:i < ws.length
  rotate_left
  · have d1:((i:Int) < (ws.length:Int))=False:=eq_false (by omega)
    rw [List.take_of_length_le (by omega)] at n2
    simp only [zz,zq,↓reduceIte,zx,zj,zy,zk,zw,zb,reduceCtorEq,zd,zf,zp,zm,zh,zu,zt,zn,zc,zl,za,ze,zo,zg,nzs,d1]
    exact ⟨es,[72],rfl,⟨by simp,by decide⟩,⟨rfl,trivial⟩,n2⟩
  have d1:((i:Int) < (ws.length:Int))=True:=eq_true (by omega)
  have hv1:=hv.le nM
  have hb1:=hb.le nM
  obtain ⟨x,hx,hd⟩:=l_drop_at (l:=ws) (i:=i) hil
  obtain ⟨g0,g1,i0⟩:=vol_at hv1 hx
  have hblk:=hv1.blk x (List.mem_of_getElem? hx)
  have hxv:=hVo.2 x.2 (List.mem_map_of_mem (List.mem_of_getElem? hx))
  have hgo:=goI_ok hxv.2.2
  simp only [zz,zq,↓reduceIte,zx,zj,zy,zk,zw,zb,reduceCtorEq,zd,zf,zp,zm,zh,zu,zt,zn,zc,zl,za,ze,zo,zg,nzs,d1,hv1.row.len,hv1.row.sl,List.length_map,i0,i0.2,g0.1,g0.2,g1.1,g1.2,hblk.one,hblk.len,hblk.sl]
  refine ⟨⟨by omega,by omega⟩,LoopK.go (X:=Nat×Nat×List (List UInt8)) (fun z=>([(1,true,.ptr 8 0 0 0),(3,true,.own 72),(5,true,.ptr 40 0 0 0),(6,true,.own 160),(11,true,.v v),(12,true,.v (.int .i64 ws.length)),(13,true,.v (.int .i64 i)),(22,true,.v x.1),(23,true,.v (.int .i64 x.2.2.length)),(24,true,.v (.int .i64 z.2.1))],[(160,.row 1 (z.2.2.map encS)),(40,.box [.v (.string ⟨x.2.1.toArray⟩),.v x.1] none),(72,.mp (encL encN es)),(8,.box [.v b,.v v] none)],M1))
    (fun z=>(z.1+z.2.1=x.2.2.length∧z.2.2.length=x.2.2.length)∧z.2.2.take z.2.1=(x.2.2.take z.2.1).map (tE bag)) (fun z=>z.1) (x.2.2.length,0,List.replicate x.2.2.length []) ⟨⟨rfl,List.length_replicate⟩,rfl⟩ (Ent.of ?_) ?_⟩
  · simp only [zq,↓reduceIte,zx,zj,zy,zk,zw,zb,reduceCtorEq,zd,zf,zp,zm,zh,zu,zt,zn,zc,zl,za,ze,zo,zg,za,List.map_replicate,encS]
  rintro ⟨f2,j,T⟩ ⟨⟨m1,m2⟩,m3⟩
  simp only at m1 m2 m3
  by_cases hjl:j < x.2.2.length
  rotate_left
  · have d3:((j:Int) < (x.2.2.length:Int))=False:=eq_false (by omega)
    rw [List.take_of_length_le (by omega),List.take_of_length_le (by omega)] at m3
    subst m3
    simp only [zz,zq,↓reduceIte,zx,zj,zy,zk,zw,zb,reduceCtorEq,zd,zf,zp,zm,zh,zu,zt,zn,zc,zl,za,ze,zo,zg,nzs,d3]
    refine ⟨rfl,OpK.pub (k:=160) rfl fun u M2 hM2 hu=>?_⟩
    simp only [sp1,sp2,sp3]
    have hnew : ∀ p ∈ es,p.1≠x.2.1:=fun p hp e=>by
      obtain ⟨k,hk,rfl⟩:=List.mem_iff_getElem.1 hp
      have hkl:k < (ws.take i).length:=by rw [← n2.1]; exact hk
      obtain ⟨z,hz⟩ : ∃ z,(ws.take i)[k]? = some z:=⟨_,List.getElem?_eq_getElem hkl⟩
      obtain ⟨u2,h5,_⟩:=n2.2 k z hz
      rw [List.getElem?_eq_getElem hk] at h5
      rw [Option.some.inj h5] at e
      rw [List.length_take] at hkl
      rw [List.getElem?_take,if_pos (by omega)] at hz
      have hp2:=List.pairwise_iff_getElem.1 hsrt k i (by rw [List.length_map]; omega) (by rw [List.length_map]; omega) (by omega)
      rw [List.getElem_map,List.getElem_map] at hp2
      have ez:ws[k]=z:=by rw [List.getElem?_eq_getElem (by omega)] at hz; exact Option.some.inj hz
      have ex:ws[i]=x:=by rw [List.getElem?_eq_getElem hil] at hx; exact Option.some.inj hx
      rw [ez,ex,e,less_irr] at hp2
      cases hp2
    refine OpK.mapUpd (KeyT.string (by kernel_rfl)) (key:=x.2.1) (kt:=9) (et:=71) (u:=u) rfl rfl (by kernel_rfl) rfl rfl (fun _=>rfl) rfl rfl ?_
    rw [upd_new hnew]
    simp only [zz,zq,↓reduceIte,zx,zj,zy,zk,zw,zb,reduceCtorEq,zd,zf,zp,zm,zh,zu,zt,zn,zc,zl,za,ze,zo,zg,nzs,inK,lo,hi,hset]
    refine ⟨by omega,(f - 1,i+1,es++[(x.2.1,u)],M2),⟨⟨⟨by simp only; omega,nM.trans hM2⟩,?_⟩,by simp only; omega⟩,Ent.of ?_⟩
    · refine ⟨by simp only [List.length_append,List.length_singleton,n2.1,List.length_take]; omega,fun k z hz=>?_⟩
      simp only at hz ⊢
      rw [List.take_add_one,hx] at hz
      by_cases hki:k < i
      · rw [List.getElem?_append_left (by rw [List.length_take]; omega)] at hz
        obtain ⟨u2,h5,h6⟩:=n2.2 k z hz
        exact ⟨u2,by rw [List.getElem?_append_left (List.getElem?_eq_some_iff.1 h5).1]; exact h5,h6.le hM2⟩
      · rw [List.getElem?_append_right (by rw [List.length_take]; omega)] at hz
        have hlen:(ws.take i).length=i:=by rw [List.length_take]; omega
        have hk0:k=i:=by
          have:=(List.getElem?_eq_some_iff.1 hz).1
          simp at this
          omega
        subst hk0
        rw [hlen,Nat.sub_self] at hz
        simp only [Option.toList_some,List.getElem?_cons_zero,Option.some.injEq] at hz
        subst hz
        refine ⟨u,?_,hu⟩
        rw [List.getElem?_append_right (by rw [n2.1,hlen]; exact Nat.le_refl _),n2.1,hlen,Nat.sub_self]
        rfl
    · simp only [zq,↓reduceIte,zx,zj,zy,zk,zw,zb,reduceCtorEq,zd,zf,zp,zm,zh,zu,zt,zn,zc,zl,za,ze,zo,zg,Int.natCast_add]
  have d3:((j:Int) < (x.2.2.length:Int))=True:=eq_true (by omega)
  obtain ⟨y,hy,hd2⟩:=l_drop_at (l:=x.2.2) (i:=j) hjl
  obtain ⟨y0,y1,y2,yi⟩:=id_at hblk hy
  have hset : ∀ s:List UInt8,(T.map encS).set j [.string ⟨s.toArray⟩]=(T.set j s).map encS:=fun s=>by rw [List.map_set]; rfl
  have htk : ∀ s:List UInt8,s=tE bag y→(T.set j s).take (j+1)=(x.2.2.take (j+1)).map (tE bag):=fun s hs=>by
    rw [List.take_add_one (l:=x.2.2),hy,List.map_append,← m3,List.take_add_one]
    rw [List.take_set_of_le (by omega),List.getElem?_set_self (by omega),hs]
    rfl
  obtain ⟨q0,q1,q2⟩:=y
  simp only at y0 y1 y2
  cases q0 with
  | false=>
    simp only [zz,zq,↓reduceIte,zx,zj,zy,zk,zw,zb,reduceCtorEq,zd,zf,zp,zm,zh,zu,zt,zn,zc,zl,za,ze,zo,zg,nzs,d3,yi,yi.2,y0.1,y0.2,y1.1,y1.2,y2.1,y2.2,List.length_map]
    refine ⟨by omega,by omega,by simp only [inK,lo,hi]; omega,(f2 - 1,j+1,T.set j [45]),⟨⟨⟨by simp only; omega,by simp only [List.length_set]; exact m2⟩,htk [45] rfl⟩,by simp only; omega⟩,Ent.of ?_⟩
    simp only [zq,↓reduceIte,zx,zj,zy,zk,zw,zb,reduceCtorEq,zd,zf,zp,zm,zh,zu,zt,zn,zc,zl,za,ze,zo,zg,Int.natCast_add,hset]
  | true=>
    have hF:=Bg.item b bag (true,q1,q2) M1 hb1
    simp only [idV] at hF
    have hge:=idE_is (hgo _ (List.mem_of_getElem? hy)) rfl
    have ht:tE bag (true,q1,q2)=43 :: txtId bag (true,q1,q2):=rfl
    have hT : ∀ s t:List UInt8,((T.map encS).set j [.string ⟨s.toArray⟩]).set j [.string ⟨t.toArray⟩]=(T.set j t).map encS:=fun s t=>by rw [List.set_set,hset]
    rcases fidx_sp (isId (true,q1,q2)) bag 0 with ⟨h3,_⟩ | ⟨k,z,k1,k2,k3,_⟩
    · rw [h3] at hge; exact absurd (by decide) hge
    rw [Nat.zero_add] at k1
    obtain ⟨⟨z0,z1⟩,⟨z2,z3⟩,zi⟩:=it_at hb1 k2
    have hx1:txtId bag (true,q1,q2)=z.2.2.1:=by unfold txtId; rw [k1,zo,k2]; rfl
    have hl64:=(oneE_ok (hBo.2 z (List.mem_of_getElem? k2))).1.1
    rw [hx1] at ht
    simp only [zz,zq,↓reduceIte,zx,zj,zy,zk,zw,zb,reduceCtorEq,zd,zf,zp,zm,zh,zu,zt,zn,zc,zl,za,ze,zo,zg,nzs,d3,yi,yi.2,y0.1,y0.2,y1.1,y1.2,y2.1,y2.2,List.length_map]
    refine ⟨by omega,by omega,DrawK.held [8,64] (tk [0,1,2,4,6,3,5] (.one 7 (tk [8,9,10,11] (.one 12 (.one 13 .done))))) (by kernel_rfl) (by kernel_rfl) fun xs=>?_⟩
    simp only [zz,zq,↓reduceIte,zx,zj,zy,zk,zw,zb,reduceCtorEq,zd,zf,zp,zm,zh,zu,zt,zn,zc,zl,za,ze,zo,zg,nzs,se1,se2,tks,st1]
    refine CallK.pure ⟨rfl,rfl⟩ rfl hF ?_
    rw [k1]
    simp only [zz,zq,↓reduceIte,zx,zj,zy,zk,zw,zb,reduceCtorEq,zd,zf,zp,zm,zh,zu,zt,zn,zc,zl,za,ze,zo,zg,nzs,se1,se2,tks,st1,zi,zi.2,z2.1,z2.2,List.length_map,List.length_set,inK,lo,hi]
    have hT2:=hT [45] (43 :: z.2.2.1)
    have e5:List.map encS (T.set j (43 :: z.2.2.1))=((T.map encS).set j [Value.string ⟨#[45]⟩]).set j [Value.string ⟨(43 :: z.2.2.1).toArray⟩]:=hT2.symm
    refine ⟨by omega,⟨by omega,by omega⟩,by omega,⟨by omega,by omega⟩,(f2 - 1,j+1,T.set j (43 :: z.2.2.1)),⟨⟨⟨by simp only; omega,by simp only [List.length_set]; exact m2⟩,htk _ ht.symm⟩,by simp only; omega⟩,Ent.heap (HEnt.untie (k:=40) rfl) (Ent.heap (HEnt.untie (k:=8) rfl) (Ent.of ?_))⟩
    simp only [zq,↓reduceIte,zx,zj,zy,zk,zw,zb,reduceCtorEq,zd,zf,zp,zm,zh,zu,zt,zn,zc,zl,za,ze,zo,zg,Int.natCast_add,e5,hset]
end Go.X.Vo

