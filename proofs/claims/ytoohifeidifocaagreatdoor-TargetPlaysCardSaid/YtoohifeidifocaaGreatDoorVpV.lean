/- Deeds: what log.Log, log.Replay, woolref.Replay answer; the law LogPlays returns true. Conditions: none. -/
import Derived.Test.YtoohifeidifocaaGreatDoorMg25
import Derived.Test.YtoohifeidifocaaGreatDoorMg26
open Nat renaming reduceAdd→zx,reduceMul→zj,reduceDiv→zy,reduceEqDiff→zk,reduceLT→zw,reduceLeDiff→zb,reduceBEq→zg
open Int renaming reduceEq→zd,reduceNe→zf,reduceLT→zp,reduceLE→zm,reduceAdd→zh,reduceSub→zu,reduceMul→zt,reduceNeg→zn,reduceToNat→zc,cast_ofNat_Int→zl,natCast_zero→za,natCast_one→ze,toNat_natCast→zo
namespace Go.X.Bg
end Go.X.Bg
namespace Go.X.Nm
end Go.X.Nm
namespace Go.X.Bp
end Go.X.Bp
namespace Go.X.Sb
end Go.X.Sb
set_option linter.unusedSimpArgs false
set_option linter.unusedVariables false
set_option maxHeartbeats 4000000
set_option maxRecDepth 20000
namespace Go.X.Vo
open Go Go.X Go.RowKit Go.X.Bg Go.X.Nm Go.X.Bp Go.X.Sb

/-! ### what is written of deeds -/
def encO (o:OpT):List Value:=[.int .i64 o.1,.string ⟨o.2.1.toArray⟩,.string ⟨o.2.2.1.toArray⟩,.int .i64 o.2.2.2.1,.string ⟨o.2.2.2.2.toArray⟩]
theorem op_at {M:Mem} {v:Value} {l:List OpT} {i:Nat} {r:OpT} (h:RowM M v 5 (l.map encO)) (hx:l[i]? = some r) :
    ((elE M v 5 i 0 = .int .i64 r.1∧okE M v 5 i 0)∧(elE M v 5 i 1 = .string ⟨r.2.1.toArray⟩∧okE M v 5 i 1))∧((elE M v 5 i 2 = .string ⟨r.2.2.1.toArray⟩∧okE M v 5 i 2)∧(elE M v 5 i 3 = .int .i64 r.2.2.2.1∧okE M v 5 i 3))∧(elE M v 5 i 4 = .string ⟨r.2.2.2.2.toArray⟩∧okE M v 5 i 4)∧ixOk v i:=by
  have he:(l.map encO)[i]? = some (encO r):=by rw [List.getElem?_map,hx]; rfl
  have hl:i < (l.map encO).length:=(List.getElem?_eq_some_iff.1 he).1
  have c0:=h.cell he (off:=0) (by omega)
  have c1:=h.cell he (off:=1) (by omega)
  have c2:=h.cell he (off:=2) (by omega)
  have c3:=h.cell he (off:=3) (by omega)
  have c4:=h.cell he (off:=4) (by omega)
  exact ⟨⟨⟨c0.1,c0.2.1⟩,c1.1,c1.2.1⟩,⟨⟨c2.1,c2.2.1⟩,c3.1,c3.2.1⟩,⟨c4.1,c4.2.1⟩,h.ix (by omega) (by omega)⟩
def frO (o:OpT):List UInt8:=Fr.fr 1 (Lg.bodyS o)
theorem body_len {o:OpT} (h:Lg.opE o=0):(Lg.bodyS o).length≤700:=by
  obtain ⟨_,_,h1,h2,h3⟩:=Lg.opE_ok h
  unfold Lg.bodyS Lg.txt
  simp only [List.length_cons,List.length_append]
  omega
theorem put_body {o:OpT} (h:Lg.opE o=0):Fr.putE 1 (Lg.bodyS o)=0∧Fr.putS 1 (Lg.bodyS o)=frO o:=by
  have h1:=body_len h
  have h0:Fr.putE 1 (Lg.bodyS o)=0:=by
    unfold Fr.putE
    rw [if_neg (by omega),if_neg (by omega)]
  exact ⟨h0,by unfold Fr.putS; rw [if_pos h0]; rfl⟩
theorem frO_len {o:OpT} (h:Lg.opE o=0):(frO o).length≤707:=by
  have h1:=body_len h
  unfold frO Fr.fr Fr.hd
  simp only [List.length_append,List.length_cons,Fr.tl_len]
  omega
theorem body_max {o:OpT} (h:Lg.opE o=0):(Lg.bodyS o).length≤maxLen:=Nat.le_trans (body_len h) (by decide)
/-! ### what is played again -/
def playS:Nat→St→List UInt8→Nat→St×Int×Int
  | 0,A,_,n=>(A,(n:Int),0)
  | f+1,A,s,n=>
    if Fr.getE s=7 then (A,(n:Int),0) else if Fr.getE s≠0 then (zSt,0,Fr.getE s) else if n=200 then (zSt,0,2) else
    if (Lg.decS ((s.drop 3).take (Fr.gN s))).2≠0∨Fr.sb s 0≠1 then (zSt,0,3) else
    if (doA A.1 A.2 (Lg.decS ((s.drop 3).take (Fr.gN s))).1).2≠0 then (zSt,0,3) else
    playS f (doA A.1 A.2 (Lg.decS ((s.drop 3).take (Fr.gN s))).1).1 (s.drop (Fr.gN s+7)) (n+1)
theorem get_ok {s:List UInt8} (h:Fr.getE s=0):Fr.gN s+7≤s.length:=by
  unfold Fr.getE at h
  split at h
  · cases h
  split at h
  · cases h
  split at h
  · cases h
  omega
theorem get_nil:Fr.getE []=7:=rfl
theorem play_nil : ∀ (f:Nat) (A:St) (n:Nat),playS f A [] n=(A,(n:Int),0)
  | 0,_,_=>rfl
  | _+1,_,_=>by rw [playS,if_pos get_nil]
theorem play_fuel : ∀ (f g:Nat) (A:St) (s:List UInt8) (n:Nat),s.length≤f→s.length≤g→playS f A s n=playS g A s n
  | 0,g,A,s,n,h1,_=>by
    have:s=[]:=List.length_eq_zero_iff.1 (by omega)
    subst this
    rw [play_nil,play_nil]
  | f+1,0,A,s,n,_,h2=>by
    have:s=[]:=List.length_eq_zero_iff.1 (by omega)
    subst this
    rw [play_nil,play_nil]
  | f+1,g+1,A,s,n,h1,h2=>by
    rw [playS,playS]
    by_cases e:Fr.getE s=0
    · have:=get_ok e
      rw [play_fuel f g _ (s.drop (Fr.gN s+7)) (n+1) (by rw [List.length_drop]; omega) (by rw [List.length_drop]; omega)]
    · rw [if_pos e,if_pos e]
theorem dec_opE {s:List UInt8} (h:(Lg.decS s).2=0):Lg.opE (Lg.decS s).1=0:=by
  obtain ⟨o,h1,h2,_⟩:=Lg.dec_ok h
  rw [h1]
  exact h2
def playT (n e:Int) (s:SV):SV:=.tup [s,.v (.int .i64 n),.v (.int .i64 e)]
theorem replayW (s:List UInt8) (M:Mem) (hs:s.length≤maxLen) :
    Meets Proofs.Tryz.prog 42 [.v (.string ⟨s.toArray⟩)] M (StM (playT (playS s.length zSt s 0).2.1 (playS s.length zSt s 0).2.2) (playS s.length zSt s 0).1):=by
  refine Meets.of_body [0,2,3,4,5,6,7,8,9,10,12,20,22,26,40,49] Proofs.Tryz.func42 rfl (by kernel_rfl) rfl fun w=>?_
  generalize hc:playS s.length zSt s 0=c
  simp only [Proofs.Tryz.f42,zz,zq,↓reduceIte,zx,zj,zy,zk,zw,zb,reduceCtorEq,zd,zf,zp,zm,zh,zu,zt,zn,zc,zl,za,ze,zo,zg,nzs]
  refine LoopK.go (X:=List UInt8×Nat×Value×Value×List It×List WV×Mem) (fun z=>([(0,true,.v (.string ⟨z.1.toArray⟩)),(2,true,.ptr 16 0 0 0),(5,true,.ptr 40 0 0 0),(6,true,.v (.int .i64 z.2.1))],
      [(40,.box [.v z.2.2.1,.v z.2.2.2.1] none),(16,.box [.v (.slice none 0 0),.v (.slice none 0 0)] none)],z.2.2.2.2.2.2))
    (fun z=>((z.1.length≤s.length∧z.2.1≤200)∧(RowM z.2.2.2.2.2.2 z.2.2.1 4 (z.2.2.2.2.1.map Bg.encT)∧VolsM z.2.2.2.2.2.2 z.2.2.2.1 z.2.2.2.2.2.1))∧playS s.length (z.2.2.2.2.1,z.2.2.2.2.2.1.map (·.2)) z.1 z.2.1=c) (fun z=>z.1.length) (s,0,.slice none 0 0,.slice none 0 0,[],[],M) ⟨⟨⟨Nat.le_refl _,Nat.zero_le _⟩,zero_volsM M⟩,hc⟩ (Ent.of ?_) ?_
  · simp only [zq,↓reduceIte,zx,zj,zy,zk,zw,zb,reduceCtorEq,zd,zf,zp,zm,zh,zu,zt,zn,zc,zl,za,ze,zo,zg,za]
  rintro ⟨t,n,b,v,bag,ws,N⟩ ⟨⟨⟨n1,n2⟩,n3,n4⟩,n5⟩
  simp only at n1 n2 n3 n4 n5
  by_cases ht:t=[]
  · subst ht
    rw [play_nil] at n5
    subst n5
    simp only [zz,zq,↓reduceIte,zx,zj,zy,zk,zw,zb,reduceCtorEq,zd,zf,zp,zm,zh,zu,zt,zn,zc,zl,za,ze,zo,zg,nzs,decide_true,Bool.not_true,n3.one,n4.row.one,playT]
    exact ⟨b,v,ws,rfl,rfl,n3,n4⟩
  have ct:decide (t=[])=false:=decide_eq_false ht
  have htl:0 < t.length:=List.length_pos_iff.2 ht
  obtain ⟨f,hf⟩ : ∃ f,s.length=f+1:=⟨s.length - 1,by omega⟩
  rw [hf,playS] at n5
  have hG:=Fr.get t N (Nat.le_trans n1 hs)
  simp only [zz,zq,↓reduceIte,zx,zj,zy,zk,zw,zb,reduceCtorEq,zd,zf,zp,zm,zh,zu,zt,zn,zc,zl,za,ze,zo,zg,nzs,ct,Bool.not_false]
  by_cases e0:Fr.getE t=0
  rotate_left
  · have eF:Fr.getF t=Fr.frV 0 []:=if_neg e0
    have eU:Fr.getU t=0:=if_neg e0
    rw [eF,eU] at hG
    simp only [Fr.frV] at hG
    refine CallK.pure ⟨rfl,rfl⟩ rfl hG ?_
    by_cases e7:Fr.getE t=7
    · rw [if_pos e7] at n5
      subst n5
      have c7:=eq_true e7
      simp only [zz,zq,↓reduceIte,zx,zj,zy,zk,zw,zb,reduceCtorEq,zd,zf,zp,zm,zh,zu,zt,zn,zc,zl,za,ze,zo,zg,nzs,c7,n3.one,n4.row.one,playT]
      exact ⟨b,v,ws,rfl,rfl,n3,n4⟩
    · rw [if_neg e7,if_pos e0] at n5
      subst n5
      have c7:=eq_false e7
      have c0:=eq_false e0
      simp only [zz,zq,↓reduceIte,zx,zj,zy,zk,zw,zb,reduceCtorEq,zd,zf,zp,zm,zh,zu,zt,zn,zc,zl,za,ze,zo,zg,nzs,c7,c0,playT]
      exact ⟨_,_,[],rfl,rfl,RowM.nil _ _,zero_volsM _ |>.2⟩
  have hU:=get_ok e0
  have eF:Fr.getF t=Fr.frV (Fr.sb t 0:Nat) ((t.drop 3).take (Fr.gN t)):=if_pos e0
  have eU:Fr.getU t=((Fr.gN t+7:Nat):Int):=if_pos e0
  have hbl:((t.drop 3).take (Fr.gN t)).length≤9223372036854775807:=by
    rw [List.length_take,List.length_drop]
    unfold maxLen at hs
    omega
  have hD:=Lg.decodeW ((t.drop 3).take (Fr.gN t)) N hbl
  rw [eF,eU,e0] at hG
  rw [e0,if_neg (by decide),if_neg (fun h=>h rfl)] at n5
  have hO:=dec_opE (s:=(t.drop 3).take (Fr.gN t))
  simp only [Fr.frV] at hG
  simp only [Lg.opV] at hD
  generalize hb:(t.drop 3).take (Fr.gN t)=body at *
  generalize Lg.decS body=dc at *
  generalize hk:Fr.sb t 0=kd at *
  refine CallK.pure ⟨rfl,rfl⟩ rfl hG ?_
  by_cases h2:n=200
  · rw [if_pos h2] at n5
    subst n5
    have c2:((n:Int)=200)=True:=eq_true (by omega)
    simp only [zz,zq,↓reduceIte,zx,zj,zy,zk,zw,zb,reduceCtorEq,zd,zf,zp,zm,zh,zu,zt,zn,zc,zl,za,ze,zo,zg,nzs,c2,playT]
    exact ⟨_,_,[],rfl,rfl,RowM.nil _ _,zero_volsM _ |>.2⟩
  have c2:((n:Int)=200)=False:=eq_false (by omega)
  rw [if_neg h2] at n5
  simp only [zz,zq,↓reduceIte,zx,zj,zy,zk,zw,zb,reduceCtorEq,zd,zf,zp,zm,zh,zu,zt,zn,zc,zl,za,ze,zo,zg,nzs,c2]
  refine CallK.pure ⟨rfl,rfl⟩ rfl hD ?_
  by_cases h3:dc.2=0
  rotate_left
  · have c3:=eq_false h3
    rw [if_pos (.inl h3)] at n5
    subst n5
    simp only [zz,zq,↓reduceIte,zx,zj,zy,zk,zw,zb,reduceCtorEq,zd,zf,zp,zm,zh,zu,zt,zn,zc,zl,za,ze,zo,zg,nzs,c3,playT]
    exact ⟨_,_,[],rfl,rfl,RowM.nil _ _,zero_volsM _ |>.2⟩
  by_cases h4:kd=1
  rotate_left
  · have c4:((kd:Int)=1)=False:=eq_false (by omega)
    rw [if_pos (.inr h4)] at n5
    subst n5
    simp only [zz,zq,↓reduceIte,zx,zj,zy,zk,zw,zb,reduceCtorEq,zd,zf,zp,zm,zh,zu,zt,zn,zc,zl,za,ze,zo,zg,nzs,h3,c4,playT]
    exact ⟨_,_,[],rfl,rfl,RowM.nil _ _,zero_volsM _ |>.2⟩
  have c4:((kd:Int)=1)=True:=eq_true (by omega)
  rw [if_neg (by rintro (h | h) <;> contradiction)] at n5
  have hL:=ldo b v bag ws dc.1 N n3 n4
  rw [show doL bag (ws.map (·.2)) dc.1=doA bag (ws.map (·.2)) dc.1 from if_neg (fun h=>h (hO h3))] at hL
  simp only [stV,opT] at hL
  have hPf:=fun A m h=>play_fuel f (f+1) A (t.drop (Fr.gN t+7)) m h
  generalize doA bag (ws.map (·.2)) dc.1=A at *
  simp only [zz,zq,↓reduceIte,zx,zj,zy,zk,zw,zb,reduceCtorEq,zd,zf,zp,zm,zh,zu,zt,zn,zc,zl,za,ze,zo,zg,nzs,h3,c4,n3.one,n4.row.one]
  refine CallK.stM (T:=fun s=>.tup [s,.v (.int .i64 A.2)]) (fun _ _=>rfl) rfl rfl hL fun b2 v2 ws2 M2 hM2 hw2 hb2 hv2=>?_
  by_cases h5:A.2=0
  rotate_left
  · have c5:=eq_false h5
    rw [if_pos h5] at n5
    subst n5
    simp only [zz,zq,↓reduceIte,zx,zj,zy,zk,zw,zb,reduceCtorEq,zd,zf,zp,zm,zh,zu,zt,zn,zc,zl,za,ze,zo,zg,nzs,stV,c5,hb2.one,hv2.row.one,playT]
    exact ⟨_,_,[],rfl,rfl,RowM.nil _ _,zero_volsM _ |>.2⟩
  rw [if_neg (fun h=>h h5),hPf A.1 (n+1) (by rw [List.length_drop]; omega) (by rw [List.length_drop]; omega),← hf] at n5
  have e7:((Fr.gN t:Int)+7).toNat=Fr.gN t+7:=by omega
  have ed:List.take (t.length - (Fr.gN t+7)) (t.drop (Fr.gN t+7))=t.drop (Fr.gN t+7):=List.take_of_length_le (by rw [List.length_drop]; exact Nat.le_refl _)
  simp only [zz,zq,↓reduceIte,zx,zj,zy,zk,zw,zb,reduceCtorEq,zd,zf,zp,zm,zh,zu,zt,zn,zc,zl,za,ze,zo,zg,nzs,stV,h5,hb2.one,hv2.row.one,inK,lo,hi]
  refine ⟨by omega,⟨⟨by omega,by omega⟩,Int.le_refl _⟩,(t.drop (Fr.gN t+7),n+1,b2,v2,A.1.1,ws2,M2),⟨⟨⟨⟨by simp only [List.length_drop]; omega,by simp only; omega⟩,hb2,hv2⟩,?_⟩,by simp only [List.length_drop]; omega⟩,Ent.of ?_⟩
  · simp only [hw2]
    exact n5
  · simp only [zq,↓reduceIte,zx,zj,zy,zk,zw,zb,reduceCtorEq,zd,zf,zp,zm,zh,zu,zt,zn,zc,zl,za,ze,zo,zg,Int.natCast_add,ed]
theorem rreplay : ∀ (f:Nat) (s:List UInt8) (b v:Value) (bag:List It) (ws:List WV) (n:Nat) (M:Mem),s.length≤f→f≤maxLen→n≤200→RowM M b 4 (bag.map Bg.encT)→VolsM M v ws →
    Meets Proofs.Tryz.prog 44 [stV b v,.v (.string ⟨s.toArray⟩),.v (.int .i64 n)] M (StM (playT (playS f (bag,ws.map (·.2)) s n).2.1 (playS f (bag,ws.map (·.2)) s n).2.2) (playS f (bag,ws.map (·.2)) s n).1):=by
  intro f
  induction f with
  | zero=>
    intro t b v bag ws n N hn hm hn2 n3 n4
    have:t=[]:=List.length_eq_zero_iff.1 (by omega)
    subst this
    rw [play_nil]
    refine Meets.of_body [0,1,2,3,6,7,8,9,10,11,12,24,28,32,46,55] Proofs.Tryz.func44 rfl (by kernel_rfl) rfl fun w=>?_
    have hG:=Fr.unframe [] N (Nat.zero_le _)
    have eF:Fr.getF []=Fr.frV 0 []:=rfl
    have eU:Fr.getU []=0:=rfl
    rw [eF,eU,get_nil] at hG
    simp only [Fr.frV] at hG
    simp only [Proofs.Tryz.f44,stV,zz,zq,↓reduceIte,zx,zj,zy,zk,zw,zb,reduceCtorEq,zd,zf,zp,zm,zh,zu,zt,zn,zc,zl,za,ze,zo,zg,nzs,n3.one,n4.row.one]
    refine CallK.pure ⟨rfl,rfl⟩ rfl hG ?_
    simp only [zz,zq,↓reduceIte,zx,zj,zy,zk,zw,zb,reduceCtorEq,zd,zf,zp,zm,zh,zu,zt,zn,zc,zl,za,ze,zo,zg,nzs,n3.one,n4.row.one,playT,decide_true]
    exact ⟨b,v,ws,rfl,rfl,n3,n4⟩
  | succ f ih=>
    intro t b v bag ws n N hn hm hn2 n3 n4
    refine Meets.of_body [0,1,2,3,6,7,8,9,10,11,12,24,28,32,46,55] Proofs.Tryz.func44 rfl (by kernel_rfl) rfl fun w=>?_
    have hG:=Fr.unframe t N (Nat.le_trans hn hm)
    generalize n5:playS (f+1) (bag,ws.map (·.2)) t n=c
    rw [playS] at n5
    simp only [Proofs.Tryz.f44,stV,zz,zq,↓reduceIte,zx,zj,zy,zk,zw,zb,reduceCtorEq,zd,zf,zp,zm,zh,zu,zt,zn,zc,zl,za,ze,zo,zg,nzs,n3.one,n4.row.one]
    by_cases e0:Fr.getE t=0
    rotate_left
    · have eF:Fr.getF t=Fr.frV 0 []:=if_neg e0
      have eU:Fr.getU t=0:=if_neg e0
      rw [eF,eU] at hG
      simp only [Fr.frV] at hG
      refine CallK.pure ⟨rfl,rfl⟩ rfl hG ?_
      by_cases e7:Fr.getE t=7
      · rw [if_pos e7] at n5
        subst n5
        have c7:=eq_true e7
        cases ht:decide (t=[]) with
        | true=>
          simp only [zz,zq,↓reduceIte,zx,zj,zy,zk,zw,zb,reduceCtorEq,zd,zf,zp,zm,zh,zu,zt,zn,zc,zl,za,ze,zo,zg,nzs,ht,c7,n3.one,n4.row.one,playT]
          exact ⟨b,v,ws,rfl,rfl,n3,n4⟩
        | false=>
          simp only [zz,zq,↓reduceIte,zx,zj,zy,zk,zw,zb,reduceCtorEq,zd,zf,zp,zm,zh,zu,zt,zn,zc,zl,za,ze,zo,zg,nzs,ht,c7,n3.one,n4.row.one,playT]
          exact ⟨b,v,ws,rfl,rfl,n3,n4⟩
      · rw [if_neg e7,if_pos e0] at n5
        subst n5
        have ct:decide (t=[])=false:=decide_eq_false (fun h=>e7 (by rw [h]; exact get_nil))
        have c7:=eq_false e7
        have c0:=eq_false e0
        simp only [zz,zq,↓reduceIte,zx,zj,zy,zk,zw,zb,reduceCtorEq,zd,zf,zp,zm,zh,zu,zt,zn,zc,zl,za,ze,zo,zg,nzs,ct,c7,c0,playT]
        exact ⟨_,_,[],rfl,rfl,RowM.nil _ _,zero_volsM _ |>.2⟩
    have ct:decide (t=[])=false:=decide_eq_false (fun h=>by rw [h,get_nil] at e0; cases e0)
    have hU:=get_ok e0
    have eF:Fr.getF t=Fr.frV (Fr.sb t 0:Nat) ((t.drop 3).take (Fr.gN t)):=if_pos e0
    have eU:Fr.getU t=((Fr.gN t+7:Nat):Int):=if_pos e0
    have hbl:((t.drop 3).take (Fr.gN t)).length≤9223372036854775807:=by
      rw [List.length_take,List.length_drop]
      unfold maxLen at hm
      omega
    have hD:=Lg.unbodyW ((t.drop 3).take (Fr.gN t)) N hbl
    rw [Lg.un_dec] at hD
    rw [eF,eU,e0] at hG
    rw [e0,if_neg (by decide),if_neg (fun h=>h rfl)] at n5
    simp only [Fr.frV] at hG
    simp only [Lg.opV] at hD
    generalize hb:(t.drop 3).take (Fr.gN t)=body at *
    generalize Lg.decS body=dc at *
    generalize hk:Fr.sb t 0=kd at *
    refine CallK.pure ⟨rfl,rfl⟩ rfl hG ?_
    by_cases h2:n=200
    · rw [if_pos h2] at n5
      subst n5
      have c2:((n:Int)=200)=True:=eq_true (by omega)
      simp only [zz,zq,↓reduceIte,zx,zj,zy,zk,zw,zb,reduceCtorEq,zd,zf,zp,zm,zh,zu,zt,zn,zc,zl,za,ze,zo,zg,nzs,ct,c2,playT]
      exact ⟨_,_,[],rfl,rfl,RowM.nil _ _,zero_volsM _ |>.2⟩
    have c2:((n:Int)=200)=False:=eq_false (by omega)
    rw [if_neg h2] at n5
    simp only [zz,zq,↓reduceIte,zx,zj,zy,zk,zw,zb,reduceCtorEq,zd,zf,zp,zm,zh,zu,zt,zn,zc,zl,za,ze,zo,zg,nzs,ct,c2]
    refine CallK.pure ⟨rfl,rfl⟩ rfl hD ?_
    by_cases h3:dc.2=0
    rotate_left
    · have c3:=eq_false h3
      rw [if_pos (.inl h3)] at n5
      subst n5
      simp only [zz,zq,↓reduceIte,zx,zj,zy,zk,zw,zb,reduceCtorEq,zd,zf,zp,zm,zh,zu,zt,zn,zc,zl,za,ze,zo,zg,nzs,c3,playT]
      exact ⟨_,_,[],rfl,rfl,RowM.nil _ _,zero_volsM _ |>.2⟩
    by_cases h4:kd=1
    rotate_left
    · have c4:((kd:Int)=1)=False:=eq_false (by omega)
      rw [if_pos (.inr h4)] at n5
      subst n5
      simp only [zz,zq,↓reduceIte,zx,zj,zy,zk,zw,zb,reduceCtorEq,zd,zf,zp,zm,zh,zu,zt,zn,zc,zl,za,ze,zo,zg,nzs,h3,c4,playT]
      exact ⟨_,_,[],rfl,rfl,RowM.nil _ _,zero_volsM _ |>.2⟩
    have c4:((kd:Int)=1)=True:=eq_true (by omega)
    rw [if_neg (by rintro (h | h) <;> contradiction)] at n5
    have hL:=rdo b v bag ws dc.1 N n3 n4
    simp only [stV,opT] at hL
    generalize doA bag (ws.map (·.2)) dc.1=A at *
    simp only [zz,zq,↓reduceIte,zx,zj,zy,zk,zw,zb,reduceCtorEq,zd,zf,zp,zm,zh,zu,zt,zn,zc,zl,za,ze,zo,zg,nzs,h3,c4,n3.one,n4.row.one]
    refine CallK.stM (T:=fun s=>.tup [s,.v (.int .i64 A.2)]) (fun _ _=>rfl) rfl rfl hL fun b2 v2 ws2 M2 hM2 hw2 hb2 hv2=>?_
    by_cases h5:A.2=0
    rotate_left
    · have c5:=eq_false h5
      rw [if_pos h5] at n5
      subst n5
      simp only [zz,zq,↓reduceIte,zx,zj,zy,zk,zw,zb,reduceCtorEq,zd,zf,zp,zm,zh,zu,zt,zn,zc,zl,za,ze,zo,zg,nzs,stV,c5,hb2.one,hv2.row.one,playT]
      exact ⟨_,_,[],rfl,rfl,RowM.nil _ _,zero_volsM _ |>.2⟩
    rw [if_neg (fun h=>h h5)] at n5
    have ed:List.take (t.length - (Fr.gN t+7)) (t.drop (Fr.gN t+7))=t.drop (Fr.gN t+7):=List.take_of_length_le (by rw [List.length_drop]; exact Nat.le_refl _)
    have hI:=ih (t.drop (Fr.gN t+7)) b2 v2 A.1.1 ws2 (n+1) M2 (by rw [List.length_drop]; omega) (by omega) (by omega) hb2 hv2
    have hw2':ws2.map (·.2)=A.1.2:=hw2
    rw [hw2',n5] at hI
    simp only [stV,Int.natCast_add,ze] at hI
    simp only [zz,zq,↓reduceIte,zx,zj,zy,zk,zw,zb,reduceCtorEq,zd,zf,zp,zm,zh,zu,zt,zn,zc,zl,za,ze,zo,zg,nzs,stV,h5,hb2.one,hv2.row.one,inK,lo,hi]
    refine DrawK.held [24] (tk [0,1,2,4,3,5] (.one 6 (tk [7,8,9] (.one 10 (tk [11,12] .done))))) (by kernel_rfl) (by kernel_rfl) fun xs=>?_
    simp only [zz,zq,↓reduceIte,zx,zj,zy,zk,zw,zb,reduceCtorEq,zd,zf,zp,zm,zh,zu,zt,zn,zc,zl,za,ze,zo,zg,nzs,se1,se2,tks,hb2.one,hv2.row.one,inK,lo,hi,ed]
    refine ⟨⟨⟨by omega,by omega⟩,Int.le_refl _⟩,by omega,CallK.stM (T:=playT c.2.1 c.2.2) (fun _ _=>rfl) rfl rfl hI fun b3 v3 ws3 M3 hM3 hw3 hb3 hv3=>?_⟩
    simp only [zz,zq,↓reduceIte,zx,zj,zy,zk,zw,zb,reduceCtorEq,zd,zf,zp,zm,zh,zu,zt,zn,zc,zl,za,ze,zo,zg,nzs,se1,se2,tks,stV,playT,hb3.one,hv3.row.one,hM3]
    exact ⟨b3,v3,ws3,rfl,hw3,hb3,hv3⟩
end Go.X.Vo

