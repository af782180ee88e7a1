/- Contracts of functions and the logic that they are proved in (5 texts in one). Conditions: none. -/
import Derived.Test.YthafjlokddpjfaaGreatDoorDkD
import Derived.Test.YthafjlokddpjfaaGreatDoorDkR
import Derived.Test.YthafjlokddpjfaaGreatDoorMg25
import Derived.Recover
import Derived.Tactics
import Derived.Tactics2
import Derived.Test.YthafjlokddpjfaaGreatDoorMg11
import Derived.Test.YthafjlokddpjfaaGreatDoorMg12
open Go.Proofs.Tryz renaming prog → qz
open Int renaming cast_ofNat_Int→zl,natCast_zero→za,natCast_one→ze,toNat_natCast→zo
namespace Go.X.Vo
end Go.X.Vo
namespace Go.X.Tg
end Go.X.Tg
namespace Go.X.Th
end Go.X.Th
set_option linter.unusedSimpArgs false
set_option linter.unusedVariables false
set_option maxHeartbeats 4000000
set_option maxRecDepth 20000
namespace Go.X.Dk
open Go Go.X Go.RowKit Go.X.Vo Go.X.Tg Go.X.Th
theorem kinds_eq:kinds=[([109,97,107,101],.int .i64 1),([100,114,111,112],.int .i64 2),([119,114,105,116,101],.int .i64 3),([116,114,105,109],.int .i64 4),([99,108,111,110,101],.int .i64 5)]:=rfl
theorem deed_nil {bt bd:Nat} {vw:Value} {ws:List Tx} (h:isDeed (w0S ws)=false):NilM 72 bt bd vw ws:=by
 intro q T b v rg M'
 have h6:=of_decide_eq_false h
 generalize w0S ws=x at *
 have hf:fnd x kinds 0=none:=by
  rcases fnd_spec x kinds 0 with ⟨h1,_⟩ | ⟨j,v,_,hj⟩
  · exact h1
  · have:=List.mem_of_getElem? hj
    rw [kinds_eq] at this
    simp only [List.mem_cons,List.not_mem_nil,or_false,Prod.mk.injEq] at this
    exact (h6 (by rcases this with ⟨h,_⟩ | ⟨h,_⟩ | ⟨h,_⟩ | ⟨h,_⟩ | ⟨h,_⟩ <;> simp [h])).elim
 have hkd:((fnd x kinds 0).map (·.2)).getD (.int .i64 0) = .int .i64 0:=by rw [hf]; rfl
 have hrd:(x=[114,101,97,100])=False:=eq_false fun e=>h6 (by simp [e])
 refine MeetsX.two 8000 248 (by decide) (R:=fun s H' _=>s = .v .nilFunc∧LnB vw 1 q bt T b v rg H') (X:=fun _ _ _=>False) ?_ (fun s H' M'' ⟨h1,h2,h3⟩=>⟨_,_,⟨h2,h3⟩,h1,rfl⟩) (fun _ _ _ h=>h.elim)
 refine MeetsX.of_body [0,1,2,3,6,7,8,9,19,26,27,34,42,48] Proofs.Tryz.func72 rfl (by kernel_rfl) fun w0 M0=>?_
 simp only [Proofs.Tryz.f72,LnH,zxj,zxk,opX,isIfc,zz,zq,seval,zl,za,ze,zo,nzs]
 refine ⟨⟨rfl,rfl⟩,rfl,OpK.makeMap rfl rfl rfl rfl ?_⟩
 simp only [zxj,zxk,opX,isIfc,zz,zq,seval,zl,za,ze,zo,nzs]
 refine ⟨rfl,OpK.insert (KeyT.string (by kernel_rfl)) (key:=([109,97,107,101]:Tx)) (l:=([]:List (Tx×Value))) (kt:=9) (et:=3) (u:=.int .i64 1) rfl rfl (by kernel_rfl) rfl rfl (fun _=>rfl) rfl rfl ?_⟩
 simp only [zxj,zxk,opX,isIfc,zz,zq,seval,zl,za,ze,zo,nzs,hset]
 refine ⟨rfl,OpK.insert (KeyT.string (by kernel_rfl)) (key:=([100,114,111,112]:Tx)) (l:=(upd ([109,97,107,101]:Tx) (.int .i64 1) ([]:List (Tx×Value)))) (kt:=9) (et:=3) (u:=.int .i64 2) rfl rfl (by kernel_rfl) rfl rfl (fun _=>rfl) rfl rfl ?_⟩
 simp only [zxj,zxk,opX,isIfc,zz,zq,seval,zl,za,ze,zo,nzs,hset]
 refine ⟨rfl,OpK.insert (KeyT.string (by kernel_rfl)) (key:=([119,114,105,116,101]:Tx)) (l:=(upd ([100,114,111,112]:Tx) (.int .i64 2) (upd ([109,97,107,101]:Tx) (.int .i64 1) ([]:List (Tx×Value))))) (kt:=9) (et:=3) (u:=.int .i64 3) rfl rfl (by kernel_rfl) rfl rfl (fun _=>rfl) rfl rfl ?_⟩
 simp only [zxj,zxk,opX,isIfc,zz,zq,seval,zl,za,ze,zo,nzs,hset]
 refine ⟨rfl,OpK.insert (KeyT.string (by kernel_rfl)) (key:=([116,114,105,109]:Tx)) (l:=(upd ([119,114,105,116,101]:Tx) (.int .i64 3) (upd ([100,114,111,112]:Tx) (.int .i64 2) (upd ([109,97,107,101]:Tx) (.int .i64 1) ([]:List (Tx×Value)))))) (kt:=9) (et:=3) (u:=.int .i64 4) rfl rfl (by kernel_rfl) rfl rfl (fun _=>rfl) rfl rfl ?_⟩
 simp only [zxj,zxk,opX,isIfc,zz,zq,seval,zl,za,ze,zo,nzs,hset]
 refine ⟨rfl,OpK.insert (KeyT.string (by kernel_rfl)) (key:=([99,108,111,110,101]:Tx)) (l:=(upd ([116,114,105,109]:Tx) (.int .i64 4) (upd ([119,114,105,116,101]:Tx) (.int .i64 3) (upd ([100,114,111,112]:Tx) (.int .i64 2) (upd ([109,97,107,101]:Tx) (.int .i64 1) ([]:List (Tx×Value))))))) (kt:=9) (et:=3) (u:=.int .i64 5) rfl rfl (by kernel_rfl) rfl rfl (fun _=>rfl) rfl rfl ?_⟩
 simp only [zxj,zxk,opX,isIfc,zz,zq,seval,zl,za,ze,zo,nzs,hset]
 refine ⟨rfl,OpK.lookup (KeyT.string (by kernel_rfl)) (key:=x) (l:=kinds) (kt:=9) (et:=3) (z:=.int .i64 0) rfl rfl rfl (by kernel_rfl) Proofs.Tryz.zeroValue3 rfl rfl (fun _=>rfl) rfl ?_⟩
 rw [hkd]
 simp only [zxj,zxk,opX,isIfc,zz,zq,seval,zl,za,ze,zo,nzs,hrd,decide_true,decide_false,Bool.not_false,true_implies,Bool.true_eq_false,false_implies,and_true]
 exact ⟨rfl,rfl⟩
theorem manys_eq:manys=[([114,101,103,105,115,116,101,114],.int .i64 3),([114,101,115,101,114,118,101],.int .i64 3),([114,101,108,101,97,115,101],.int .i64 3),([99,108,101,97,114],.int .i64 2),([112,114,101,101,109,112,116],.int .i64 4),([99,114,97,115,104],.int .i64 1)]:=rfl
theorem right_bad {bt bd:Nat} {vw:Value} {ws:List Tx} {M:Mem} (hx : ¬ (w0S ws=[114,101,103,105,115,116,101,114]∨w0S ws=[114,101,115,101,114,118,101]∨w0S ws=[114,101,108,101,97,115,101]∨w0S ws=[99,108,101,97,114]∨w0S ws=[112,114,101,101,109,112,116]∨w0S ws=[99,114,97,115,104]∨w0S ws=[97,108,108])):AskM 73 rightS bt bd vw ws M:=by
 intro q T b v rg wv M' hM' hT hR
 have hno:rightS ws=none:=by
  unfold rightS
  rw [if_neg (fun e=>hx (by simp [e])),if_neg (fun e=>hx (by simp [e])),if_neg (fun e=>hx (by simp [e])),if_neg (fun e=>hx (by simp [e])),if_neg (fun e=>hx (by simp [e])),if_neg (fun e=>hx (by simp [e])),if_neg (fun e=>hx (by simp [e]))]
 rw [hno]
 generalize w0S ws=x at *
 have hf:fnd x manys 0=none:=by
  rcases fnd_spec x manys 0 with ⟨h1,_⟩ | ⟨j,v,_,hj⟩
  · exact h1
  · have:=List.mem_of_getElem? hj
    rw [manys_eq] at this
    simp only [List.mem_cons,List.not_mem_nil,or_false,Prod.mk.injEq] at this
    exact (hx (by rcases this with ⟨h,_⟩ | ⟨h,_⟩ | ⟨h,_⟩ | ⟨h,_⟩ | ⟨h,_⟩ | ⟨h,_⟩ <;> simp [h])).elim
 have hkd:((fnd x manys 0).map (·.2)).getD (.int .i64 0) = .int .i64 0:=by rw [hf]; rfl
 have hks:(fnd x manys 0).isSome=false:=by rw [hf]; rfl
 have hal:(x=[97,108,108])=False:=eq_false fun e=>hx (by simp [e])
 refine MeetsX.of_body [0,1,2,3,4,6,7,8,9,10,11,25,27,28,29] Proofs.Tryz.func73 rfl (by kernel_rfl) fun w0 M0=>?_
 simp only [Proofs.Tryz.f73,LnH,zxj,zxk,opX,isIfc,zz,zq,seval,zl,za,ze,zo,nzs]
 refine ⟨⟨rfl,rfl⟩,⟨rfl,rfl⟩,rfl,OpK.makeMap rfl rfl rfl rfl ?_⟩
 simp only [zxj,zxk,opX,isIfc,zz,zq,seval,zl,za,ze,zo,nzs]
 refine ⟨rfl,OpK.insert (KeyT.string (by kernel_rfl)) (key:=([114,101,103,105,115,116,101,114]:Tx)) (l:=([]:List (Tx×Value))) (kt:=9) (et:=3) (u:=.int .i64 3) rfl rfl (by kernel_rfl) rfl rfl (fun _=>rfl) rfl rfl ?_⟩
 simp only [zxj,zxk,opX,isIfc,zz,zq,seval,zl,za,ze,zo,nzs,hset]
 refine ⟨rfl,OpK.insert (KeyT.string (by kernel_rfl)) (key:=([114,101,115,101,114,118,101]:Tx)) (l:=(upd ([114,101,103,105,115,116,101,114]:Tx) (.int .i64 3) ([]:List (Tx×Value)))) (kt:=9) (et:=3) (u:=.int .i64 3) rfl rfl (by kernel_rfl) rfl rfl (fun _=>rfl) rfl rfl ?_⟩
 simp only [zxj,zxk,opX,isIfc,zz,zq,seval,zl,za,ze,zo,nzs,hset]
 refine ⟨rfl,OpK.insert (KeyT.string (by kernel_rfl)) (key:=([114,101,108,101,97,115,101]:Tx)) (l:=(upd ([114,101,115,101,114,118,101]:Tx) (.int .i64 3) (upd ([114,101,103,105,115,116,101,114]:Tx) (.int .i64 3) ([]:List (Tx×Value))))) (kt:=9) (et:=3) (u:=.int .i64 3) rfl rfl (by kernel_rfl) rfl rfl (fun _=>rfl) rfl rfl ?_⟩
 simp only [zxj,zxk,opX,isIfc,zz,zq,seval,zl,za,ze,zo,nzs,hset]
 refine ⟨rfl,OpK.insert (KeyT.string (by kernel_rfl)) (key:=([99,108,101,97,114]:Tx)) (l:=(upd ([114,101,108,101,97,115,101]:Tx) (.int .i64 3) (upd ([114,101,115,101,114,118,101]:Tx) (.int .i64 3) (upd ([114,101,103,105,115,116,101,114]:Tx) (.int .i64 3) ([]:List (Tx×Value)))))) (kt:=9) (et:=3) (u:=.int .i64 2) rfl rfl (by kernel_rfl) rfl rfl (fun _=>rfl) rfl rfl ?_⟩
 simp only [zxj,zxk,opX,isIfc,zz,zq,seval,zl,za,ze,zo,nzs,hset]
 refine ⟨rfl,OpK.insert (KeyT.string (by kernel_rfl)) (key:=([112,114,101,101,109,112,116]:Tx)) (l:=(upd ([99,108,101,97,114]:Tx) (.int .i64 2) (upd ([114,101,108,101,97,115,101]:Tx) (.int .i64 3) (upd ([114,101,115,101,114,118,101]:Tx) (.int .i64 3) (upd ([114,101,103,105,115,116,101,114]:Tx) (.int .i64 3) ([]:List (Tx×Value))))))) (kt:=9) (et:=3) (u:=.int .i64 4) rfl rfl (by kernel_rfl) rfl rfl (fun _=>rfl) rfl rfl ?_⟩
 simp only [zxj,zxk,opX,isIfc,zz,zq,seval,zl,za,ze,zo,nzs,hset]
 refine ⟨rfl,OpK.insert (KeyT.string (by kernel_rfl)) (key:=([99,114,97,115,104]:Tx)) (l:=(upd ([112,114,101,101,109,112,116]:Tx) (.int .i64 4) (upd ([99,108,101,97,114]:Tx) (.int .i64 2) (upd ([114,101,108,101,97,115,101]:Tx) (.int .i64 3) (upd ([114,101,115,101,114,118,101]:Tx) (.int .i64 3) (upd ([114,101,103,105,115,116,101,114]:Tx) (.int .i64 3) ([]:List (Tx×Value)))))))) (kt:=9) (et:=3) (u:=.int .i64 1) rfl rfl (by kernel_rfl) rfl rfl (fun _=>rfl) rfl rfl ?_⟩
 simp only [zxj,zxk,opX,isIfc,zz,zq,seval,zl,za,ze,zo,nzs,hset]
 refine ⟨rfl,OpK.lookupOk (KeyT.string (by kernel_rfl)) (key:=x) (l:=manys) (kt:=9) (et:=3) (z:=.int .i64 0) rfl rfl rfl (by kernel_rfl) Proofs.Tryz.zeroValue3 rfl rfl (fun _=>rfl) rfl ?_⟩
 rw [hkd,hks]
 simp only [zxj,zxk,opX,isIfc,zz,zq,seval,zl,za,ze,zo,nzs,hal,decide_true,decide_false,Bool.not_false,true_implies,Bool.true_eq_false,false_implies,and_true]
 exact CallX.panic rfl (bad_x 12 M') ⟨rfl,rfl⟩
end Go.X.Dk

namespace Go.X
open Go Go.RowKit
section
variable {E:Env} {σ:Sig} {H:HS} {M:Mem} {Q:QP}
/-- a function beside nil -/
theorem RegK.nilFn {ops:Array Oper} {o:Oper} {rest:List Oper} {T u:TypeId} {d:Nat} {x:Operand} {s:SV} {r:Bool} (ho:o.op = .binOp .neq T x (.const .nilFunc) u) (hg:o.guard=none) (hd:o.dst=some d) (hN:decide (d < E.N)=true)
  (hx:opv σ x=some (true,s)) (hv:(r=false ∧ ∀ ν,s.val ν = .nilFunc)∨(r=true ∧ ∀ ν,∃ f a b,s.val ν = .func f a b)) (hT : ∃ ps rs v,E.P.underlying T=some (.func ps rs v)) (h:RegK E ops Q rest ((d,true,.v (.bool r)) :: σ) H M):RegK E ops Q (o :: rest) σ H M:=by
 rintro a w ⟨ν,hs,hh⟩
 obtain ⟨ps,rs,vr,hT⟩:=hT
 refine wpList_plain hg fun K' hK'=>?_
 have ex:a.eval x=s.val ν:=hs.opv hx rfl
 have ey:a.eval (.const .nilFunc) = .nilFunc:=rfl
 unfold Oper.wp
 have hv2:(r=false∧s.val ν = .nilFunc)∨(r=true ∧ ∃ f a b,s.val ν = .func f a b):=hv.imp (fun h=>⟨h.1,h.2 ν⟩) (fun h=>⟨h.1,h.2 ν⟩)
 generalize s.val ν=v at *
 have hq:(Op.equal T v .nilFunc).run E.P w = .ok (!r) w:=by
  have hd : ∀ d:Nat,(Op.equalIn (d+1) T v .nilFunc).run E.P w = .ok (!r) w:=fun d=>by
   rcases hv2 with ⟨rfl,rfl⟩ | ⟨rfl,f,a,b,rfl⟩
   · simp [Op.equalIn,run_underlying hT]
   · simp [Op.equalIn,run_underlying hT]
  rw [Op.equal,Op.maxDepth]
  exact hd 9999
 have he:eqGuard .neq T x (.const .nilFunc) v .nilFunc=pure ():=by
  rcases hv2 with ⟨rfl,rfl⟩ | ⟨rfl,f,a,b,rfl⟩
  · cases x <;> rfl
  · cases x <;> rfl
 have hb:(binOp .neq T v .nilFunc).run E.P w = .ok (.bool r) w:=by
  rcases hv2 with ⟨rfl,rfl⟩ | ⟨rfl,f,a,b,rfl⟩
  · show ((Op.equal T .nilFunc .nilFunc).bind _).run E.P w=_
    rw [Sem.run_bind',hq]
    rfl
  · show ((Op.equal T (.func f a b) .nilFunc).bind _).run E.P w=_
    rw [Sem.run_bind',hq]
    rfl
 have:(execOp a.eval o).run E.P w = .ok (.value (.bool r)) w:=by
  simp only [execOp,ho,ex,ey,he,Sem.run_bind,Sem.run_pure,Result.andThen_ok,hb]
 rw [this]
 simp only [Oper.upon,hd]
 exact hK' _ _ (h _ _ ⟨ν,hs.put (of_decide_eq_true hN) rfl,hh⟩)
theorem MeetsX.viaPtr {P:Program} {f:FuncId} {R:RP} {X:XP} {A:SV→List SV} (hA:Ctxs A) (k:Nat) {b:Nat} {cs:List SV} (hk:hget H k=some (.box cs (some (ptrV b)))) (h:MeetsX P f (A (.v (ptrV b))) H M R X):MeetsX P f (A (.ptr k 0 0 0)) H M R X:=
 ⟨h.1,fun w0 M0 ν w hh=>by
  have hν:ν k=ptrV b:=(hh.holds _ (hget_mem hk)).2 _ rfl
  have:=h.2 w0 M0 ν w hh
  rw [← hA (.ptr k 0 0 0) (.v (ptrV b)) ν ν (ptr_val hν)] at this
  exact this⟩
end
end Go.X
namespace Go.X.Dk
open Go Go.X Go.RowKit Go.X.Vo Go.X.Tg Go.X.Th
def plainW (x:Tx):Prop:=x≠[103,99,100]∧x≠[110,101,120,116]∧x≠[102,97,99,116,111,114,115]∧x≠[112,114,105,110,116]∧x≠[99,117,116]∧x≠[115,104,117,116]
theorem read_deed {bt bd:Nat} {vw:Value} {ws:List Tx} {M:Mem} (hp:plainW (w0S ws)) (hi:isDeed (w0S ws)=true) (hD:AskM 72 deedS bt bd vw ws M):AskR 30 askT bt bd vw ws M:=by
 intro bl T b v rg wv M' hM' hT hR
 have hA:askT ws=deedS ws:=if_pos hi
 rw [hA]
 refine MeetsX.viaPtr (A:=fun s=>[.v (ptrV bd),.v (.string ⟨(w0S ws).toArray⟩),s]) (fun s s' ν ν' h=>by simp only [SV.vals,SV.val,h]) 8000 rfl ?_
 obtain ⟨e1,e2,e3,e4,e5,e6⟩:=hp
 have e1:=eq_false e1
 have e2:=eq_false e2
 have e3:=eq_false e3
 have e4:=eq_false e4
 have e5:=eq_false e5
 have e6:=eq_false e6
 refine MeetsX.of_code Proofs.Tryz.func30 rfl (by kernel_rfl) fun w0 M0=>?_
 simp only [Proofs.Tryz.f30]
 refine CodeK.seq (wpX_sound (live:=[0,1,2,6,7,8,9,10,11,12,13,14,15,16,17,18,19,20,27,32,37,44,55,65]) _ _ _ _ _ ?_)
 simp only [zxj,zxk,opX,isIfc,zz,zq,seval,zl,za,ze,zo,nzs]
 refine CodeK.seq (wpX_sound (live:=[0,1,2,6,7,8,9,10,11,12,13,14,15,16,17,18,19,20,27,32,37,44,55,65]) _ _ _ _ _ ?_)
 simp only [zxj,zxk,opX,isIfc,zz,zq,seval,zl,za,ze,zo,nzs,e1,e2,e3,e4,e5,e6,decide_false,true_implies,Bool.false_eq_true,false_implies,true_and]
 refine CodeK.seq (CodeK.seq (wpX_sound (live:=[0,1,2,6,7,8,9,10,11,12,13,14,15,16,17,18,19,20,27,32,37,44,55,65]) _ _ _ _ _ ?_))
 simp only [zxj,zxk,opX,isIfc,zz,zq,seval,zl,za,ze,zo,nzs]
 refine CallX.asPtr (A:=fun s=>[.v (ptrV bd),.v (.string ⟨(w0S ws).toArray⟩),s]) 8000 (fun s s' ν ν' h=>by simp only [SV.vals,SV.val,h]) rfl (CallX.whole rfl (hD (some (ptrV bl)) T b v rg wv M' hM' hT hR) (fun s H' M'' hM'' ⟨n,F,g,caps,hA1,hs,hC,hL⟩=>?_) (fun ch H' M'' _ h=>h))
 subst hs
 refine ⟨hC.1,?_⟩
 have hcf:(SV.fn g caps).conc=true:=hC.1
 simp only [zxj,zxk,opX,isIfc,zz,zq,seval,zl,za,ze,zo,nzs,shB,hcf]
 refine CodeK.seq (CodeK.reg (RegK.at 1 ?_))
 simp only [zxj,zxk,opX,isIfc,zz,zq,seval,zl,za,ze,zo,List.take,List.drop]
 refine RegK.nilFn (s:=.fn g caps) (r:=true) rfl rfl rfl rfl rfl (.inr ⟨rfl,fun ν=>⟨_,_,_,rfl⟩⟩) ⟨_,_,_,Proofs.Tryz.underlying58⟩ (RegK.nil ?_)
 refine wpX_sound (live:=[0,1,2,6,7,8,9,10,11,12,13,14,15,16,17,18,19,20,27,32,37,44,55,65]) _ _ _ _ _ ?_
 simp only [zxj,zxk,opX,isIfc,zz,zq,seval,zl,za,ze,zo,nzs,true_implies,Bool.true_eq_false,false_implies,and_true]
 exact ⟨n,F,g,caps,hA1,rfl,hC,hL⟩
theorem read_right {bt bd:Nat} {vw:Value} {ws:List Tx} {M:Mem} (hp:plainW (w0S ws)) (hi:isDeed (w0S ws)=false) (hD:NilM 72 bt bd vw ws) (hRt:AskM 73 rightS bt bd vw ws M):AskR 30 askT bt bd vw ws M:=by
 intro bl T b v rg wv M' hM' hT hR
 have hA:askT ws=rightS ws:=if_neg (by rw [hi]; decide)
 rw [hA]
 refine MeetsX.viaPtr (A:=fun s=>[.v (ptrV bd),.v (.string ⟨(w0S ws).toArray⟩),s]) (fun s s' ν ν' h=>by simp only [SV.vals,SV.val,h]) 8000 rfl ?_
 obtain ⟨e1,e2,e3,e4,e5,e6⟩:=hp
 have e1:=eq_false e1
 have e2:=eq_false e2
 have e3:=eq_false e3
 have e4:=eq_false e4
 have e5:=eq_false e5
 have e6:=eq_false e6
 refine MeetsX.of_code Proofs.Tryz.func30 rfl (by kernel_rfl) fun w0 M0=>?_
 simp only [Proofs.Tryz.f30]
 refine CodeK.seq (wpX_sound (live:=[0,1,2,6,7,8,9,10,11,12,13,14,15,16,17,18,19,20,27,32,37,44,55,65]) _ _ _ _ _ ?_)
 simp only [zxj,zxk,opX,isIfc,zz,zq,seval,zl,za,ze,zo,nzs]
 refine CodeK.seq (wpX_sound (live:=[0,1,2,6,7,8,9,10,11,12,13,14,15,16,17,18,19,20,27,32,37,44,55,65]) _ _ _ _ _ ?_)
 simp only [zxj,zxk,opX,isIfc,zz,zq,seval,zl,za,ze,zo,nzs,e1,e2,e3,e4,e5,e6,decide_false,true_implies,Bool.false_eq_true,false_implies,true_and]
 refine CodeK.seq (CodeK.seq (wpX_sound (live:=[0,1,2,6,7,8,9,10,11,12,13,14,15,16,17,18,19,20,27,32,37,44,55,65]) _ _ _ _ _ ?_))
 simp only [zxj,zxk,opX,isIfc,zz,zq,seval,zl,za,ze,zo,nzs]
 refine CallX.asPtr (A:=fun s=>[.v (ptrV bd),.v (.string ⟨(w0S ws).toArray⟩),s]) 8000 (fun s s' ν ν' h=>by simp only [SV.vals,SV.val,h]) rfl (CallX.whole rfl (hD (some (ptrV bl)) T b v rg M') (fun s H' M'' hM'' ⟨hs,hL⟩=>?_) (fun ch H' M'' _ h=>h.elim))
 subst hs hL
 refine ⟨rfl,?_⟩
 simp only [zxj,zxk,opX,isIfc,zz,zq,seval,zl,za,ze,zo,nzs,shB]
 refine CodeK.seq (CodeK.reg (RegK.at 1 ?_))
 simp only [zxj,zxk,opX,isIfc,zz,zq,seval,zl,za,ze,zo,List.take,List.drop]
 refine RegK.nilFn (s:=.v .nilFunc) (r:=false) rfl rfl rfl rfl rfl (.inl ⟨rfl,fun ν=>rfl⟩) ⟨_,_,_,Proofs.Tryz.underlying58⟩ (RegK.nil ?_)
 refine wpX_sound (live:=[0,1,2,6,7,8,9,10,11,12,13,14,15,16,17,18,19,20,27,32,37,44,55,65]) _ _ _ _ _ ?_
 simp only [zxj,zxk,opX,isIfc,zz,zq,seval,zl,za,ze,zo,nzs,true_implies,Bool.false_eq_true,false_implies,true_and]
 refine wpX_sound (live:=[0,1,2,6,7,8,9,10,11,12,13,14,15,16,17,18,19,20,27,32,37,44,55,65]) _ _ _ _ _ ?_
 simp only [zxj,zxk,opX,isIfc,zz,zq,seval,zl,za,ze,zo,nzs]
 refine CallX.asPtr (A:=fun s=>[.v (ptrV bd),.v (.string ⟨(w0S ws).toArray⟩),s]) 8000 (fun s s' ν ν' h=>by simp only [SV.vals,SV.val,h]) rfl (CallX.whole rfl (hRt (some (ptrV bl)) T b v rg wv M'' (hM'.trans hM'') (hT.le hM'') hR) (fun s H' M3 hM3 ⟨n,F,g,caps,hA1,hs,hC,hL⟩=>?_) (fun ch H' M3 _ h=>h))
 subst hs
 refine ⟨hC.1,?_⟩
 have hcf:(SV.fn g caps).conc=true:=hC.1
 simp only [zxj,zxk,opX,isIfc,zz,zq,seval,zl,za,ze,zo,nzs,shB,hcf]
 exact ⟨n,F,g,caps,hA1,rfl,hC,hL⟩
end Go.X.Dk

namespace Go.X
open Go Go.RowKit
section
variable {E:Env} {σ:Sig} {H:HS} {M M':Mem} {K:KP} {o:Oper} {b:Nat}
theorem OpK.tie (k:Nat) {cs:List SV} {t:Option Value} (hk:hget H k=some (.box cs t)) (h : ∀ b,OpK E o K σ (hset k (.box cs (some (ptrV b))) H) M):OpK E o K σ H M:=by
 rintro a w ⟨ν,hs,hh⟩
 obtain ⟨⟨b,T,hν,hb⟩,ht⟩:=hh.holds _ (hget_mem hk)
 simp only at hν
 exact h b a w ⟨ν,hs,hh.setPO hk fun hx=>⟨hx.1,fun v hv=>by cases hv; exact hν⟩⟩
/-- a box that holds the pointer to a tied one -/
theorem OpK.boxP (j k:Nat) {cs:List SV} {t:Option Value} (hk:hget H k=some (.box cs (some (ptrV b)))) (hj:hget H j=some (.box [.ptr k 0 0 0] t)) (h:OpK E o K σ (hset j (.box [.v (ptrV b)] t) H) M):OpK E o K σ H M:=by
 rintro a w ⟨ν,hs,hh⟩
 have hν:ν k=ptrV b:=(hh.holds _ (hget_mem hk)).2 _ rfl
 refine h a w ⟨ν,hs,hh.setPO hj fun hx=>⟨?_,hx.2⟩⟩
 obtain ⟨c,T,e1,e2⟩:=hx.1
 refine ⟨c,T,e1,?_⟩
 rw [e2]
 simp only [SV.vals,SV.val,hν,bOf,Nat.mul_zero,Nat.add_zero]
/-- no byte, no pointer, no slice -/
def plainV:Value→Bool
 | .int .u8 _=>false
 | .pointer _=>false
 | .slice _ _ _=>false
 | _=>true
def ptrSl:Value→Bool
 | .pointer _=>true
 | .slice _ _ _=>true
 | _=>false
/-- block b is a builder -/
def BldB (b:Nat) (M:Mem):Prop:=∃ p v T fr,M b=some (.cells #[p,v] T fr)∧ptrSl p=true∧ptrSl v=true
theorem BldC.bldB {T e:TypeId} {l:List UInt8} (h:BldC E T e b l M):BldB b M:=by
 obtain ⟨p,v,hp,hb,hn,h⟩:=h.is
 refine ⟨p,v,T,(0,0),hb,?_,?_⟩
 · rcases hp with rfl | rfl
   · rfl
   · rfl
 · rcases h with ⟨rfl,_⟩ | ⟨g,cap,cur,rfl,_⟩
   · rfl
   · rfl
/-- a block that holds such a value stands -/
theorem Keep.plain (hK:Keep b M M') (hb:BldB b M) {a:Addr} {c:Value} (hc:cellM M a=some c) (hp:plainV c=true):M' a.block=M a.block:=by
 unfold cellM at hc
 cases hm:M a.block with
 | none=>rw [hm] at hc; cases hc
 | some ob=>
   rw [hm] at hc
   cases ob with
   | cells cur T fr=>
     simp only at hc
     split at hc
     · cases hc
     have hmem:c ∈ cur.toList:=by
      rw [← Array.getElem?_toList] at hc
      exact List.mem_of_getElem? hc
     refine hK _ _ hm (fun e=>?_) (fun h8=>?_)
     · obtain ⟨p,v,T',fr',h1,h2,h3⟩:=hb
       rw [← e,hm] at h1
       cases h1
       simp only [List.mem_cons,List.not_mem_nil,or_false] at hmem
       rcases hmem with rfl | rfl
       · cases c <;> simp_all [plainV,ptrSl]
       · cases c <;> simp_all [plainV,ptrSl]
     · have:=h8 c hmem
       cases c with
       | int k n=>cases k <;> simp_all [isU8,plainV]
       | _=>simp [isU8] at this
   | _=>cases hc
theorem cellM_blk {a a':Addr} (h:M' a.block=M a.block) (e:a'.block=a.block):cellM M' a'=cellM M a':=by
 unfold cellM
 rw [e,h]
theorem add_block (a:Addr) (j:Nat):(a.add j).block=a.block:=by
 unfold Addr.add
 split <;> rfl
theorem RowM.same {v:Value} {sz:Nat} {es:List (List Value)} (h:RowM M v sz es) (hv : ∀ a n c,v = .slice (some a) n c→es≠[]→M' a.block=M a.block):RowM M' v sz es:=by
 refine ⟨h.1,h.2.1,fun i e he=>⟨(h.2.2 i e he).1,fun j c hc=>⟨?_,((h.2.2 i e he).2 j c hc).2⟩⟩⟩
 have h1:=((h.2.2 i e he).2 j c hc).1
 cases v with
 | slice ad n k=>
   cases ad with
   | none=>exact h1
   | some a=>
     have hne:es≠[]:=fun e0=>by rw [e0] at he; simp at he
     show cellM M' (a.add _)=_
     rw [cellM_blk (hv a n k rfl hne) (add_block a _)]
     exact h1
 | _=>exact h1
theorem Keep.row (hK:Keep b M M') (hb:BldB b M) {v:Value} {sz:Nat} {es:List (List Value)} (h:RowM M v sz es) (hp:es=[] ∨ ∃ (i j:Nat) (e:List Value) (c:Value),es[i]? = some e∧e[j]? = some c∧plainV c=true):RowM M' v sz es:=by
 refine h.same fun a n c hv hne=>?_
 rcases hp with rfl | ⟨i,j,e,x,he,hx,hpl⟩
 · exact absurd rfl hne
 · have h1:=((h.2.2 i e he).2 j x hx).1
   subst hv
   have h2:cellM M (a.add (i * sz+j))=some x:=h1
   have:=hK.plain hb h2 hpl
   rwa [add_block] at this
theorem Keep.rowMap {α:Type} (hK:Keep b M M') (hb:BldB b M) {v:Value} {sz:Nat} {enc:α→List Value} {l:List α} (h:RowM M v sz (l.map enc)) (j:Nat) (hp : ∀ x,∃ c,(enc x)[j]? = some c∧plainV c=true):RowM M' v sz (l.map enc):=by
 refine hK.row hb h ?_
 cases l with
 | nil=>exact .inl rfl
 | cons x l=>
   obtain ⟨c,h1,h2⟩:=hp x
   exact .inr ⟨0,j,enc x,c,rfl,h1,h2⟩
theorem Keep.box (hK:Keep b M M') {d:Nat} {x:Value} (hne:d≠b) (h:BoxM M d [x]) (hx:isU8 x=false):BoxM M' d [x]:=by
 have h0:=h 0 x rfl
 unfold cellM at h0
 cases hm:M d with
 | none=>simp only [hm] at h0; cases h0
 | some ob=>
   simp only [hm] at h0
   cases ob with
   | cells cur T fr=>
     simp only at h0
     have hmem:x ∈ cur.toList:=by
      simp only [Option.isSome_none,Bool.false_eq_true,if_false] at h0
      rw [← Array.getElem?_toList] at h0
      exact List.mem_of_getElem? h0
     have hk:=hK d _ hm hne (fun h8=>by rw [h8 x hmem] at hx; cases hx)
     intro j c hc
     have:=h j c hc
     unfold cellM at this ⊢
     simp only [hm] at this
     simp only [hk]
     exact this
   | _=>cases h0
/-! a block that is forgotten -/
def erase (c:Nat) (M:Mem):Mem:=fun j=>if j=c then none else M j
theorem erase_ne {c j:Nat} (h:j≠c):erase c M j=M j:=if_neg h
theorem le_erase {c:Nat} (h:M.le M') (hc:M c=none):M.le (erase c M'):=fun j ob hj=>by
 rw [erase_ne (fun e=>by rw [e,hc] at hj; cases hj)]
 exact h j ob hj
theorem RowM.erase {c:Nat} {x:Value} {T:TypeId} {fr:Nat×Nat} (hc:M c=some (.cells #[x] T fr)) {v:Value} {sz:Nat} {es:List (List Value)} (hsz:2≤sz) (h:RowM M v sz es):RowM (erase c M) v sz es:=by
 refine h.same fun a n k hv hne=>erase_ne fun e=>?_
 obtain ⟨e0,es',rfl⟩ : ∃ e0 es',es=e0 :: es':=by cases es with | nil=>exact absurd rfl hne | cons e0 es'=>exact ⟨_,_,rfl⟩
 obtain ⟨hl,hcell⟩:=h.2.2 0 e0 rfl
 obtain ⟨x0,x1,r,rfl⟩ : ∃ x0 x1 r,e0=x0 :: x1 :: r:=by
  match e0,hl with
  | [],hl=>simp at hl; omega
  | [_],hl=>simp at hl; omega
  | x0 :: x1 :: r,_=>exact ⟨_,_,_,rfl⟩
 have h0:=(hcell 0 x0 rfl).1
 have h1:=(hcell 1 x1 rfl).1
 subst hv
 simp only [cellE,Nat.zero_mul,Nat.zero_add] at h0 h1
 unfold cellM at h0 h1
 rw [add_block,e,hc] at h0 h1
 obtain ⟨blk,off,pth⟩:=a
 cases pth with
 | none=>
   simp only [Addr.add] at h0 h1
   simp at h1
 | some p=>
   simp [Addr.add] at h0
/-- a call that is lent the one box there is, under another key -/
theorem CallK.ofX1 {f d:Nat} {l tc:List SV} {t:Option Value} {R:SV→List SV→Mem→Prop} {X:XP} (k:Nat) {bt:Nat} (hl:SV.concs l=true) (hd:decide (d < E.N)=true) (htc:SV.concs tc=true) (ht:t=some (ptrV bt))
  (h:MeetsX E.P f l [(248,.box tc (some (ptrV bt)))] M (fun s H' M'=>s.conc=true ∧ ∃ tc',SV.concs tc'=true∧H'=[(248,.box tc' (some (ptrV bt)))]∧R s tc' M') (fun _ _ _=>False))
  (hK : ∀ s tc' M',M.le M'→R s tc' M'→K ((d,true,s) :: σ) [(k,.box tc' t)] M'):CallK E f l d K σ [(k,.box tc t)] M:=by
 subst ht
 intro ν a w hs hh
 obtain ⟨⟨b,T,e1,e2⟩,e3⟩:=hh.holds (k,.box tc (some (ptrV bt))) List.mem_cons_self
 have hνk:ν k=ptrV bt:=e3 _ rfl
 let ν1:Nat→Value:=fun j=>if j=248 then ν k else .bool false
 have hν1:ν1 248=ν k:=by simp [ν1]
 have hfp:fp ν1 [(248,PO.box tc (some (ptrV bt)))]=fp ν [(k,PO.box tc (some (ptrV bt)))]:=by simp only [fp,List.filterMap_cons,List.filterMap_nil,hν1]
 have hh1:Heap ⟨E.P,0,E.w0,M⟩ ν1 [(248,.box tc (some (ptrV bt)))] M w:=by
  refine ⟨fun p hp=>?_,by rw [hfp]; exact hh.nodup,by rw [hfp]; exact hh.apart,hh.mem,hh.below,Mem.le.refl M,fun b hb=>.inl hb,fun j=>?_⟩
  · simp only [List.mem_singleton] at hp
    subst hp
    refine ⟨⟨b,T,by rw [hν1]; exact e1,?_⟩,fun v hv=>by cases hv; rw [hν1]; exact hνk⟩
    rw [e2,SV.concs_vals (ν:=ν) (ν':=ν1) tc htc]
  · by_cases hj:j=248
    · simp only [ν1,hj,if_true]; exact hh.one k
    · simp only [ν1,hj,if_false]; rfl
 have hc:=h.2 E.w0 M ν1 w hh1
 rw [SV.concs_vals (ν:=ν) (ν':=ν1) l hl] at hc
 refine .inl ⟨h.1,hc.mono ?_⟩
 rintro e w' (⟨s,H',M',ν2,rfl,hh2,hcs,tc',hct,rfl,hr⟩ | ⟨_,_,_,_,_,_,hf⟩)
 rotate_left
 · exact hf.elim
 refine ⟨_,rfl,_,_,M',⟨ν,hs.put (of_decide_eq_true hd) (by rw [cond_true]; exact SV.conc_val s hcs),?_⟩,hK s tc' M' hh2.le0 hr⟩
 obtain ⟨⟨b2,T2,q1,q2⟩,q3⟩:=hh2.holds (248,.box tc' (some (ptrV bt))) List.mem_cons_self
 have hν2:ν2 248=ν k:=by rw [hνk]; exact q3 _ rfl
 have hfp2:fp ν [(k,PO.box tc' (some (ptrV bt)))]=fp ν2 [(248,PO.box tc' (some (ptrV bt)))]:=by simp only [fp,List.filterMap_cons,List.filterMap_nil,hν2]
 refine ⟨fun p hp=>?_,by rw [hfp2]; exact hh2.nodup,by rw [hfp2]; exact hh2.apart,hh2.mem,hh2.below,hh.le0.trans hh2.le0,fun b hb=>(hh2.fresh b hb).elim (fun h=>hh.fresh b h) .inr,hh.one⟩
 simp only [List.mem_singleton] at hp
 subst hp
 refine ⟨⟨b2,T2,by rw [← hν2]; exact q1,?_⟩,e3⟩
 rw [q2,SV.concs_vals (ν:=ν2) (ν':=ν) tc' hct]
end
end Go.X
namespace Go.X.Dk
open Go Go.X Go.RowKit Go.X.Vo Go.X.Tg
theorem TgM.keep {b:Nat} {M M':Mem} (hK:Keep b M M') (hb:BldB b M) {T:TG} {x v rg:Value} {ws:List WV} (h:TgM M T x v rg ws):TgM M' T x v rg ws:=
 ⟨hK.rowMap hb h.bag 0 fun x=>⟨_,rfl,rfl⟩,⟨hK.rowMap hb h.vols.row 0 fun x=>⟨_,rfl,rfl⟩,fun w hw=>hK.rowMap hb (h.vols.blk w hw) 0 fun x=>⟨_,rfl,rfl⟩⟩,h.vw,hK.rowMap hb h.regs 0 fun x=>⟨_,rfl,rfl⟩⟩
theorem TgM.erase {c:Nat} {x:Value} {t:TypeId} {fr:Nat×Nat} {M:Mem} (hc:M c=some (.cells #[x] t fr)) {T:TG} {b v rg:Value} {ws:List WV} (h:TgM M T b v rg ws):TgM (erase c M) T b v rg ws:=
 ⟨h.bag.erase hc (by decide),⟨h.vols.row.erase hc (by decide),fun w hw=>(h.vols.blk w hw).erase hc (by decide)⟩,h.vw,h.regs.erase hc (by decide)⟩
end Go.X.Dk

namespace Go.X
open Go Go.RowKit
section
variable {E:Env} {σ:Sig} {H:HS} {M:Mem} {K:KP} {o:Oper}
/-- an interface is asked for the type that it holds -/
theorem OpK.assertHit {d:Nat} {x:Operand} {t u:TypeId} {v:Value} {s:SV} (ho:o.op = .typeAssert x u t true) (hd:o.dst=some d) (hN:decide (d < E.N)=true) (hx:opv σ x=some (true,.v (.iface t v))) (hs' : ∀ ν,s.val ν = .tuple #[v,.bool true])
  (ht : ∃ fs,E.P.underlying t=some (.struct fs)) (hK:K ((d,true,s) :: σ) H M):OpK E o K σ H M:=by
 refine opK_of fun ν a w hs hh=>?_
 obtain ⟨fs,ht⟩:=ht
 have ex:a.eval x = .iface t v:=by rw [hs.opv hx rfl]; rfl
 refine ⟨.tuple #[v,.bool true],w,?_,_,_,_,⟨ν,?_,hh⟩,hK⟩
 · simp only [execOp,ho,ex,Instr.typeAssert,Sem.run_bind,run_underlying ht,Result.andThen_ok,if_true,Sem.run_pure]
 · rw [hd]
   exact hs.put (of_decide_eq_true hN) (by rw [cond_true,hs' ν])
end
end Go.X
namespace Go.X.Dk
open Go Go.X Go.RowKit
theorem catch_idle (p:Addr) (w:World):CallsD qz 28 #[.pointer (some p)] .returning w fun e u' w'=>e = .returned (.tuple #[])∧u' = .returning∧w'=w:=by
 refine callsD_of_wpS Proofs.Tryz.func28 rfl fun c₀ cs hu=>?_
 apply wpS_seq
 apply wpS_region
 simp [wpOpsS,go_sem,recoverD,hu,Proofs.Tryz.ntmps28,Exit.thenS]
 apply wpS_seq
 apply wpS_region
 simp [wpOpsS,go_sem,Exit.thenS,Proofs.Tryz.underlying20]
 refine wpS_cond (t:=false) (by simp [Act.eval,Array.replicate]) ?_
 simp only [Bool.false_eq_true,if_false]
 refine wpS_of_wp (wp_skip ?_)
 cases c₀
 simp_all [bodyPostS,results,Proofs.Tryz.results28]
theorem lk2 {N:Nat} {ν:Nat→Value} {s t:SV} {x y:Value} (hx:x=s.val ν) (hy:y=t.val ν) {a:Act} (h0:a.tmps[0]? = some x) (h1:a.tmps[1]? = some y) (hn:a.tmps.size=N) (hd:a.defers=[]):Slots N ν [(0,true,s),(1,true,t)] a:=by
 refine ⟨hn,hd,fun k g r hk=>?_⟩
 simp only [lk] at hk
 split at hk
 · rename_i e
   cases hk
   rw [e,h0,hx]
   rfl
 · split at hk
   · rename_i e
     cases hk
     rw [e,h1,hy]
     rfl
   · cases hk
theorem catch_fault {w0 w:World} {M0 M:Mem} {ν:Nat→Value} {c bt:Nat} {x:Value} {tc:List SV} {e:Nat} (hG:GlobM M) (he:e≤1000) (htc:SV.concs tc=true) (htk : ∀ d,SV.noKeys d tc=true) (older:List PanicEntry)
  (hh:Heap ⟨qz,0,w0,M0⟩ ν [(8000,.box [.v x] (some (ptrV c))),(248,.box tc (some (ptrV bt)))] M w) :
  CallsD qz 28 #[ptrV c] (.panicking ({ v:=faultV e,recovered:=false } :: older)) w fun e' u' w'=>e' = .returned (.tuple #[])∧u' = .panicking ({ v:=faultV e,recovered:=true } :: older) ∧
   ∃ ν',Heap ⟨qz,0,w0,M0⟩ ν' [(8000,.box [.v (.string ⟨(faultS e).toArray⟩)] (some (ptrV c))),(248,.box tc (some (ptrV bt)))] M w':=by
 refine callsD_of_wpS Proofs.Tryz.func28 rfl fun c₀ cs hu=>?_
 have hν:ν 8000=ptrV c:=(hh.holds _ List.mem_cons_self).2 _ rfl
 apply wpS_seq
 apply wpS_region
 unfold faultV at hu ⊢
 simp [wpOpsS,go_sem,recoverD,hu,Proofs.Tryz.ntmps28,Exit.thenS]
 refine wpS_of_wp (Code.wp_mono (P:=qz) (Q:=Lift ⟨qz,19,w0,M0⟩ fun e' _ H' M'=>e' = .normal∧(hget H' 8000=some (.box [.v (.string ⟨(faultS e).toArray⟩)] (some (ptrV c)))∧hget H' 248=some (.box tc (some (ptrV bt))))∧M'=M) ?_ ((?_:CodeK ⟨qz,19,w0,M0⟩ _ _ [(0,true,.ptr 8000 0 0 0),(1,true,.v (faultV e))] [(8000,.box [.v x] (some (ptrV c))),(248,.box tc (some (ptrV bt)))] M) _ w ⟨ν,?_,⟨hh.holds,hh.nodup,hh.apart,hh.mem,hh.below,hh.le0,hh.fresh,hh.one⟩⟩))
 · rintro e' a w' ⟨σ',H',M',⟨ν',hs',hh'⟩,rfl,⟨k1,k2⟩,rfl⟩
   have h2:=hh'.two k1 k2 (by decide)
   exact ⟨hs'.2.1,_,rfl,_,results_none rfl _ _ _,rfl,rfl,ν',⟨h2.holds,h2.nodup,h2.apart,h2.mem,h2.below,h2.le0,h2.fresh,h2.one⟩⟩
 · refine CodeK.seq (CodeK.reg (RegK.at 1 ?_))
   simp only [zxj,zxk,opX,isIfc,zz,zq,seval,zl,za,ze,zo,List.take,List.drop]
   refine RegK.nilIf (v:=faultV e) rfl rfl rfl rfl rfl (.inr ⟨_,_,rfl⟩) ⟨_,Proofs.Tryz.underlying20⟩ (RegK.nil ?_)
   have hif:isIfc (faultV e)=true:=rfl
   refine wpX_sound (live:=[0,1,2,3,6,13]) _ _ _ _ _ ?_
   simp only [zxj,zxk,opX,isIfc,zz,zq,seval,zl,za,ze,zo,nzs,hif,true_implies,Bool.true_eq_false,false_implies,and_true]
   refine ⟨fun _=>⟨rfl,OpK.assertHit (s:=.tup [.agg [.v (.int .i64 e)],.v (.bool true)]) rfl rfl rfl rfl (fun _=>rfl) ⟨_,Proofs.Tryz.underlying78⟩ ?_⟩,fun h=>nomatch h⟩
   simp only [zxj,zxk,opX,isIfc,zz,zq,seval,zl,za,ze,zo,nzs]
   refine ⟨htk _,?_⟩
   refine CallX.ofK ⟨_,Proofs.Tryz.func29,by kernel_rfl,by kernel_rfl⟩ (CallK.pure ⟨rfl,rfl⟩ rfl (itoa_m (n:=(e:Int)) hG (in64 (by omega) (by omega))) ?_)
   have hit:Lib.itoa (e:Int)=Lib.decDigits e:=Lib.itoa_nonneg e
   simp only [zxj,zxk,opX,isIfc,zz,zq,seval,zl,za,ze,zo,nzs,hit]
   have hl:=dec_len_le 3 e (by have:(10:Nat) ^ (3+1)=10000:=(by decide); omega)
   exact ⟨by omega,rfl⟩
 · refine lk2 (x:=ptrV c) (y:=faultV e) (ptr_val hν).symm rfl ?_ ?_ ?_ rfl
   · simp
   · simp [faultV]
   · simp
end Go.X.Dk

namespace Go.X
open Go Go.RowKit
section
variable {E:Env} {H:HS} {M:Mem} {w:World} {ν:Nat→Value}
theorem Heap.rebase {P:Program} {w0:World} {M0:Mem} (hh:Heap ⟨P,0,w0,M0⟩ ν H M w):Heap ⟨P,0,w0,M⟩ ν H M w:=⟨hh.holds,hh.nodup,hh.apart,hh.mem,hh.below,Mem.le.refl M,fun _ hb=>.inl hb,hh.one⟩
theorem Heap.unbase {P:Program} {w0:World} {M0:Mem} (hh:Heap ⟨P,0,w0,M0⟩ ν H M w) {ν':Nat→Value} {H':HS} {M':Mem} {w':World} (h:Heap ⟨P,0,w0,M⟩ ν' H' M' w'):Heap ⟨P,0,w0,M0⟩ ν' H' M' w':=
 ⟨h.holds,h.nodup,h.apart,h.mem,h.below,hh.le0.trans h.le0,fun b hb=>(h.fresh b hb).elim (fun h=>hh.fresh b h) .inr,h.one⟩
theorem Heap.env {P:Program} {w0:World} {M0:Mem} {N N':Nat} (hh:Heap ⟨P,N,w0,M0⟩ ν H M w):Heap ⟨P,N',w0,M0⟩ ν H M w:=⟨hh.holds,hh.nodup,hh.apart,hh.mem,hh.below,hh.le0,hh.fresh,hh.one⟩
/-- known memory of one value becomes a box of the call's own again -/
theorem Heap.unpub (hh:Heap E ν H M w) {c:Nat} {x:Value} {T:TypeId} (hc:M c=some (.cells #[x] T (0,0))) (hb:E.w0.heap.size≤c) (h0:E.M0 c=none) {tc:List SV} {t:Option Value} (hk:hget H 248=some (.box tc t)) (htc:SV.concs tc=true) :
  ∃ ν',Heap E ν' [(8000,.box [.v x] (some (ptrV c))),(248,.box tc t)] (erase c M) w:=by
 have h1:=hh.lone hk
 have hcf:c ∉ fp ν [(248,PO.box tc t)]:=fun hm=>by
  have:=(h1.apart c hm).1
  rw [hc] at this
  cases this
 let ν1:Nat→Value:=fun j=>if j=8000 then ptrV c else ν j
 have n1:ν1 8000=ptrV c:=by simp [ν1]
 have n2:ν1 248=ν 248:=by simp [ν1]
 have hcw:=h1.mem c _ hc
 have hfp:fp ν1 [(8000,PO.box [.v x] (some (ptrV c))),(248,.box tc t)]=c :: fp ν [(248,PO.box tc t)]:=by
  simp only [fp,List.filterMap_cons,List.filterMap_nil,n1,n2,blk?]
 refine ⟨ν1,fun p hp=>?_,?_,fun b hb'=>?_,fun j o hj=>?_,h1.below,fun j o hj=>?_,fun j hj=>?_,fun j=>?_⟩
 · simp only [List.mem_cons,List.not_mem_nil,or_false] at hp
   rcases hp with rfl | rfl
   · exact ⟨⟨c,T,n1,by rw [hcw]; rfl⟩,fun v hv=>by cases hv; exact n1⟩
   · have h2:=h1.holds (248,.box tc t) List.mem_cons_self
     obtain ⟨⟨b,T',e1,e2⟩,e3⟩:=h2
     simp only [n2]
     exact ⟨⟨b,T',e1,by rw [e2,SV.concs_vals (ν:=ν) (ν':=ν1) tc htc]⟩,e3⟩
 · rw [hfp]
   exact List.nodup_cons.2 ⟨hcf,h1.nodup⟩
 · rw [hfp] at hb'
   rcases List.mem_cons.1 hb' with rfl | hm
   · exact ⟨if_pos rfl,hb⟩
   · have h2:=h1.apart b hm
     exact ⟨by unfold erase; split <;> first | rfl | exact h2.1,h2.2⟩
 · unfold erase at hj
   split at hj
   · cases hj
   · exact h1.mem j o hj
 · rw [erase_ne (fun e=>by rw [e,h0] at hj; cases hj)]
   exact h1.le0 j o hj
 · unfold erase at hj
   split at hj
   · exact absurd rfl hj
   · exact h1.fresh j hj
 · by_cases hj:j=8000
   · simp only [ν1,hj,if_true]; rfl
   · simp only [ν1,hj,if_false]; exact h1.one j
end
end Go.X
namespace Go.X.Dk
open Go Go.X Go.RowKit Go.X.Vo Go.X.Tg
theorem calls_hide {P:Program} {f:FuncId} {a:Array Value} {w:World} {Q:Ending→World→Prop} (h:Calls P f a w Q) : ∃ Q1:Ending→World→Prop,(∀ e w',Q1 e w'→Q e w')∧Calls P f a w Q1:=⟨_,fun _ _ h=>h,h⟩
theorem res14 {tmps:Array Value} {c:Nat} {x:ByteArray} {w:World} (h4:tmps[4]? = some (ptrV c)) (hc:w.cell? ⟨c,0,none⟩=some (.string x)):(results Proofs.Tryz.f14 tmps).run qz w = .ok (.string x) w:=by
 simp [results,Proofs.Tryz.results14,Array.getD_eq_getD_getElem?,h4,go_sem,hc]
def rcv (c:Nat):Deferred:={ target:=.fn (.func 28) #[ptrV c],args:=#[] }
theorem door_fault {w0 w3:World} {M0 M3:Mem} {H3:HS} {ν3:Nat→Value} {c bt:Nat} {x:Value} {tc:List SV} {tmps:Array Value} {e:Nat} {RR:Ending→World→Prop} (hG:GlobM (erase c M3)) (hh3:Heap ⟨qz,0,w0,M0⟩ ν3 H3 M3 w3)
  (hc:M3 c=some (.cells #[x] 9 (0,0))) (hb:w0.heap.size≤c) (h0:M0 c=none) (hk:hget H3 248=some (.box tc (some (ptrV bt)))) (htc:SV.concs tc=true) (htk : ∀ d,SV.noKeys d tc=true) (h4:tmps[4]? = some (ptrV c)) (he:e≤1000)
  (hR : ∀ ν' w',Heap ⟨qz,0,w0,M0⟩ ν' [(248,.box tc (some (ptrV bt)))] (erase c M3) w'→RR (.returned (.string ⟨(faultS e).toArray⟩)) w') :
  bodyPostD qz Proofs.Tryz.f14 RR (.panic (faultC e)) { tmps:=tmps,defers:=[rcv c] } w3:=by
 obtain ⟨ν',h1⟩:=hh3.unpub hc hb h0 hk htc
 show Leaves qz Proofs.Tryz.f14 tmps RR [rcv c] (.panicking (faultC e)) w3
 refine leaves_cons (f:=28) (args:=#[ptrV c]) (by simp) (by simp [go_sem]) ?_
 refine (catch_fault hG he htc htk [] h1).mono ?_
 rintro e' u' w'' ⟨rfl,rfl,ν2,h2⟩
 show Leaves qz Proofs.Tryz.f14 tmps RR [] .returning w''
 obtain ⟨⟨b,T,e1,e2⟩,e3⟩:=h2.holds _ List.mem_cons_self
 have hbc:ptrV c=ptrV b:=(e3 _ rfl).symm.trans e1
 obtain rfl:c=b:=by cases hbc; rfl
 exact ⟨_,res14 h4 (by rw [Lib.cell_of_heap e2]; rfl),hR ν2 w'' (h2.lone rfl)⟩
theorem door_ok {w3:World} {c:Nat} {x:ByteArray} {tmps:Array Value} {RR:Ending→World→Prop} (h4:tmps[4]? = some (ptrV c)) (hc:w3.cell? ⟨c,0,none⟩=some (.string x)) (hR:RR (.returned (.string x)) w3) :
  bodyPostD qz Proofs.Tryz.f14 RR .ret { tmps:=tmps,defers:=[rcv c] } w3:=by
 show Leaves qz Proofs.Tryz.f14 tmps RR [rcv c] .returning w3
 refine leaves_cons (f:=28) (args:=#[ptrV c]) (by simp) (by simp [go_sem]) ?_
 refine (catch_idle ⟨c,0,none⟩ w3).mono ?_
 rintro e' u' w'' ⟨rfl,rfl,rfl⟩
 show Leaves qz Proofs.Tryz.f14 tmps RR [] .returning w''
 exact ⟨_,res14 h4 hc,hR⟩
set_option maxHeartbeats 2000000 in
theorem answer_x {A:List Tx→Option (Nat×(TG→OutS))} {bt bd n c:Nat} {ad:Addr} {ws:List Tx} {M:Mem} (hG:GlobM M) (hM:RowM M (.slice (some ad) n c) 1 (ws.map wordV)) (hne:ws≠[]) (hA:AskR 30 A bt bd (.slice (some ad) n c) ws M)
  (hF : ∀ n F,A ws=some (n,F)→OkF F) {T:TG} {b v rg:Value} {wv:List WV} (hT:TgM M T b v rg wv) (hR:TgR T) :
  MeetsX qz 14 [.v (ptrV bd),.v (.slice (some ad) n c)] [(248,.box (tgC T b v rg) (some (ptrV bt)))] M (fun s H' M'=>s = .v (.string ⟨(ansW A T ws).2.toArray⟩)∧EndT bt (ansW A T ws).1 H' M') (fun _ _ _=>False):=by
 refine ⟨⟨_,Proofs.Tryz.func14,by kernel_rfl,by kernel_rfl⟩,fun w0 M0 ν w hh=>?_⟩
 obtain ⟨x,r,rfl⟩ : ∃ x r,ws=x :: r:=by
  cases ws with
  | nil=>exact absurd rfl hne
  | cons x r=>exact ⟨x,r,rfl⟩
 have hn:0 < n:=by
  have h1:=hM.1.2.1
  rw [List.length_map,List.length_cons] at h1
  have h3:lenV (.slice (some ad) n c)=n:=rfl
  omega
 have hcell:cellM M ad=some (.string ⟨x.toArray⟩):=by
  have h1:=((hM.2.2 0 (wordV x) rfl).2 0 _ rfl).1
  have h2:ad.add 0=ad:=by
   obtain ⟨a1,a2,a3⟩:=ad
   cases a3 <;> rfl
  have h3:cellM M (ad.add 0)=some (.string ⟨x.toArray⟩):=h1
  rwa [h2] at h3
 have hargs:(SV.vals ν [.v (ptrV bd),.v (.slice (some ad) n c)]).toArray = #[ptrV bd,.slice (some ad) n c]:=rfl
 rw [hargs]
 have hMc:M w.heap.size=none:=by
  cases hm:M w.heap.size with
  | none=>rfl
  | some ob=>
    have:=(Array.getElem?_eq_some_iff.1 (hh.mem _ ob hm)).1
    omega
 have hM0c:M0 w.heap.size=none:=by
  cases hm:M0 w.heap.size with
  | none=>rfl
  | some ob=>rw [hh.le0 _ ob hm] at hMc; cases hMc
 have hcb:w0.heap.size≤w.heap.size:=hh.below.size
 obtain ⟨M1,hM1,hc1,hh1⟩:=hh.known (w':=w.alloc (.cells #[.string ⟨#[]⟩] 9)) (below_alloc w _) (heap_alloc_at w _)
 have hs1:(w.alloc (.cells #[.string ⟨#[]⟩] 9)).heap.size=w.heap.size+1:=by show (w.heap.push _).size=_; rw [Array.size_push]
 have hh2:Heap ⟨qz,0,w0,M0⟩ (fun j=>if j / 8=1000 then ptrV (w.heap.size+1) else ν j) [(8000,.box (lineC (.slice (some ad) n c) 1) (some (ptrV (w.heap.size+1)))),(248,.box (tgC T b v rg) (some (ptrV bt)))] M1
   ((w.alloc (.cells #[.string ⟨#[]⟩] 9)).alloc (.cells #[.slice (some ad) n c,.int .i64 1] 82)):=by
  have h3:=hh1.grow (below_alloc (w.alloc (.cells #[.string ⟨#[]⟩] 9)) (.cells #[.slice (some ad) n c,.int .i64 1] 82))
  refine h3.add (d:=1000) (p:=.box (lineC (.slice (some ad) n c) 1) (some (ptrV (w.heap.size+1)))) rfl (fun k hk=>if_neg hk) (fun k=>?_) ?_ (fun b' hb'=>?_)
  · show (if k / 8=1000 then ptrV (w.heap.size+1) else ν k).oneCell'=true
    split
    · rfl
    · exact hh.one k
  · have e:(if (8 * 1000) / 8=1000 then ptrV (w.heap.size+1) else ν (8 * 1000))=ptrV (w.heap.size+1):=rfl
    refine ⟨⟨w.heap.size+1,82,rfl,?_⟩,fun v hv=>by cases hv; rfl⟩
    rw [← hs1]
    exact heap_alloc_at _ _
  · obtain rfl:w.heap.size+1=b':=by
     have h4:some (w.heap.size+1)=some b':=hb'
     exact Option.some.inj h4
    have hM1n:M1 (w.heap.size+1)=none:=by
     cases hm:M1 (w.heap.size+1) with
     | none=>rfl
     | some ob=>
       have:=(Array.getElem?_eq_some_iff.1 (hh1.mem _ ob hm)).1
       omega
    refine ⟨fun hm=>?_,hM1n,by show w0.heap.size≤_; omega⟩
    have:=hh1.fp_lt hm
    omega
 have hr:=(hA (w.heap.size+1) T b v rg wv M1 hM1 (hT.le hM1) hR).2 w0 M1 _ _ hh2.rebase
 have hra:(SV.vals (fun j=>if j / 8=1000 then ptrV (w.heap.size+1) else ν j) [.v (ptrV bd),.v (.string ⟨(w0S (x :: r)).toArray⟩),.ptr 8000 0 0 0]).toArray = #[ptrV bd,.string ⟨x.toArray⟩,ptrV (w.heap.size+1)]:=rfl
 rw [hra] at hr
 have hcw:((w.alloc (.cells #[.string ⟨#[]⟩] 9)).alloc (.cells #[.slice (some ad) n c,.int .i64 1] 82)).cell? ad=some (.string ⟨x.toArray⟩):=cellM_on hh2.mem (cellM_le hM1 hcell)
 have hmf : ∀ (fn:Fn) (first cap:Array Value) (w:World),(Instr.makeFunc fn first cap).run qz w = .ok (.func fn first cap) w:=fun _ _ _ _=>rfl
 have h01:((ad.add 0))=ad:=by
  obtain ⟨a1,a2,a3⟩:=ad
  cases a3 <;> rfl
 have hn2 : ¬ n≤0:=by omega
 have htc : ∀ b v rg,SV.concs (tgC T b v rg)=true:=fun _ _ _=>rfl
 have htk : ∀ b v rg d,SV.noKeys d (tgC T b v rg)=true:=fun _ _ _ _=>rfl
 have hGe : ∀ M3,M1.le M3→GlobM (erase w.heap.size M3):=fun M3 h=>hG.le (le_erase (hM1.trans h) hMc)
 obtain ⟨Q1,hQ1,hr1⟩:=calls_hide hr
 clear hr
 go_enter_defers Proofs.Tryz.func14,Proofs.Tryz.ntmps14
 go_wp2_with (go_at_call 30; refine hr1.mono ?_)
 intro e w3 hq
 rcases hQ1 e w3 hq with ⟨s,H3,M3,ν3,rfl,hh3,n',F,g,caps,hA1,rfl,hC,hL1,hL2⟩ | ⟨ch,ν3,H3,M3,rfl,hh3,hA2,rfl,hL2⟩
 rotate_left
 · clear hQ1 hr1
   have hh4:=hh2.unbase hh3
   have hM3:=hh3.le0
   have hans:ansW A T (x :: r)=(T,faultS 12):=by unfold ansW; rw [hA2]
   refine door_fault (tmps:=_) (hGe M3 hM3) hh4 (hM3 _ _ hc1) hcb hM0c hL2 (htc _ _ _) (htk _ _ _) rfl (by decide) fun ν' w' h5=>?_
   rw [hans]
   exact .inl ⟨.v _,_,_,ν',rfl,h5,rfl,b,v,rg,wv,rfl,TgM.erase (hM3 _ _ hc1) ((hT.le hM1).le hM3),hR⟩
 clear hQ1 hr1
 have hh4:=hh2.unbase hh3
 have hM3:=hh3.le0
 have h2:=hh4.two hL1 hL2 (by decide)
 have ht8:ν3 8000=ptrV (w.heap.size+1):=(h2.holds _ List.mem_cons_self).2 _ rfl
 have hend:CallX ⟨qz,1,w0,M0⟩ 31 [.ptr 8000 0 0 0] 0 (fun _ H' M'=>n'=(x :: r).length∧(H'=[(8000,.box (lineC (.slice (some ad) n c) n') (some (ptrV (w.heap.size+1)))),(248,.box (tgC T b v rg) (some (ptrV bt)))]∧M'=M3))
   (fun ch H' M'=>n'≠(x :: r).length∧ch=faultC 12∧(H'=[(8000,.box (lineC (.slice (some ad) n c) n') (some (ptrV (w.heap.size+1)))),(248,.box (tgC T b v rg) (some (ptrV bt)))]∧M'=M3)) [] [(8000,.box (lineC (.slice (some ad) n c) n') (some (ptrV (w.heap.size+1)))),(248,.box (tgC T b v rg) (some (ptrV bt)))] M3:=
  CallX.box1 (A:=fun s=>[s]) 8000 (fun s s' ν ν' h=>by simp only [SV.vals,h]) rfl rfl rfl (fun q' M' hM'=>end_x (((hM.le hM1).le hM3).le hM')) (fun s cs' ⟨hi,hcs⟩=>by subst hcs; exact ⟨hi,rfl,rfl⟩) (fun ch cs' ⟨hi,hch,hcs⟩=>by subst hcs; exact ⟨hi,hch,rfl,rfl⟩)
 have hr2:=(hend ν3 { tmps:=#[undef],defers:=[] } w3 ⟨rfl,rfl,fun k g s h=>by simp [lk] at h⟩ h2.env).2
 have hra2:(SV.vals ν3 [.ptr 8000 0 0 0]).toArray = #[ptrV (w.heap.size+1)]:=by
  simp only [SV.vals,ptr_val ht8]
  rfl
 rw [hra2] at hr2
 obtain ⟨Q2,hQ2,hr2⟩:=calls_hide hr2
 obtain ⟨⟨fn,hf1,hf2,hf3⟩,hclo⟩:=hC.2 T b v rg wv M3 (Mem.le.refl M3) ((hT.le hM1).le hM3) hR
 have hcv : ∀ ν',SV.vals ν' caps=SV.vals ν3 caps:=fun ν'=>SV.concs_vals (ν:=ν3) (ν':=ν') caps hC.1
 have hsv:SV.val ν3 (SV.fn g caps) = .func (.func g) #[] (SV.vals ν3 caps).toArray:=rfl
 rw [hsv]
 generalize hcvv:(SV.vals ν3 caps).toArray=cv
 have hcf : ∀ w,(callFunc g cv).run qz w = .ok (.enter g cv) w:=fun w=>by
  simp only [callFunc,Sem.run_bind,run_program,Result.andThen_ok,hf1,hf2,hf3,Bool.false_eq_true,if_false,Sem.run_pure]
 dsimp only
 clear hend hsv hra2 hC
 go_wp2_with (go_at_call 31; refine hr2.mono ?_)
 intro e4 w4 hq4
 rcases hQ2 e4 w4 hq4 with ⟨v4,rfl,σ4,H4,M4,⟨ν4,hs4,hh5⟩,hi,rfl,rfl⟩ | ⟨ch,rfl,ν4,H4,M4,hh5,hi,rfl,rfl,rfl⟩
 rotate_left
 · have hans:ansW A T (x :: r)=(T,faultS 12):=by
    unfold ansW
    rw [hA1]
    simp only [if_neg hi]
   refine door_fault (tmps:=_) (hGe _ hM3) hh5.env (hM3 _ _ hc1) hcb hM0c rfl (htc _ _ _) (htk _ _ _) rfl (by decide) fun ν' w' h5=>?_
   rw [hans]
   exact .inl ⟨.v _,_,_,ν',rfl,h5,rfl,b,v,rg,wv,rfl,TgM.erase (hM3 _ _ hc1) ((hT.le hM1).le hM3),hR⟩
 clear hQ2 hr2 hq4 hs4
 have h248:Heap ⟨qz,0,w0,M0⟩ ν4 [(248,.box (tgC T b v rg) (some (ptrV bt)))] M4 w4:=(hh5.env (N':=0)).lone rfl
 have hr3:=hclo w0 M4 ν4 w4 h248.rebase
 rw [hcv ν4,hcvv] at hr3
 obtain ⟨Q3,hQ3,hr3⟩:=calls_hide hr3
 dsimp only
 clear hclo hcv
 go_wp2
 refine hr3.mono ?_
 intro e5 w5 hq5
 obtain ⟨⟨hF1,hF2⟩,_⟩:=hF n' F hA1 T hR
 rcases hQ3 e5 w5 hq5 with ⟨s5,H5,M5,ν5,rfl,hh6,⟨_,hE0,rfl⟩,b5,v5,rg5,wv5,rfl,hT5,hR5⟩ | ⟨ch,ν5,H5,M5,rfl,hh6,⟨hE0,rfl⟩,b5,v5,rg5,wv5,rfl,hT5,hR5⟩
 rotate_left
 · have hh7:=h248.unbase hh6
   have hc5:=hh6.le0 _ _ (hM3 _ _ hc1)
   have hans:ansW A T (x :: r)=((F T).1,faultS (F T).2.1.toNat):=by
    unfold ansW
    rw [hA1]
    simp only [if_pos hi,if_neg hE0]
   have he:faultC (F T).2.1=faultC (((F T).2.1.toNat:Nat):Int):=by rw [Int.toNat_of_nonneg hF1]
   rw [he]
   refine door_fault (tmps:=_) (hGe _ (hM3.trans hh6.le0)) hh7 hc5 hcb hM0c rfl (htc _ _ _) (htk _ _ _) rfl (by omega) fun ν' w' h5=>?_
   rw [hans]
   exact .inl ⟨.v _,_,_,ν',rfl,h5,rfl,b5,v5,rg5,wv5,rfl,TgM.erase hc5 hT5,hR5⟩
 have hh7:=h248.unbase hh6
 have hc5:=hh6.le0 _ _ (hM3 _ _ hc1)
 have hw5:=hh7.mem _ _ hc5
 have k1:w5.cell? ⟨w.heap.size,0,none⟩=some (.string ⟨#[]⟩):=by rw [Lib.cell_of_heap hw5]; rfl
 have k2:w5.frozen? ⟨w.heap.size,0,none⟩=false:=Lib.frozen_of_heap hw5 0
 have hans:ansW A T (x :: r)=((F T).1,(F T).2.2):=by
  unfold ansW
  rw [hA1]
  simp only [if_pos hi,if_pos hE0]
 obtain ⟨ν6,h8⟩:=hh7.unpub hc5 hcb hM0c (rfl:hget [(248,PO.box (tgC (F T).1 b5 v5 rg5) (some (ptrV bt)))] 248=_) (htc _ _ _)
 have hv5:SV.val ν5 (.v (.string ⟨(F T).2.2.toArray⟩)) = .string ⟨(F T).2.2.toArray⟩:=rfl
 rw [hv5]
 clear hQ3 hr3 hq5
 dsimp only
 go_wp2
 have hlt:w.heap.size < w5.heap.size:=(Array.getElem?_eq_some_iff.1 hw5).1
 have hset5:(w5.setCell ⟨w.heap.size,0,none⟩ (.string ⟨(F T).2.2.toArray⟩)).heap[w.heap.size]? = some (.cells #[.string ⟨(F T).2.2.toArray⟩] 9 (0,0)):=by
  simp [World.setCell,Array.getElem?_modify,hw5]
 refine door_ok (c:=w.heap.size) (tmps:=_) rfl (by rw [Lib.cell_of_heap hset5]; rfl) ?_
 rw [hans]
 have h9:=h8.upd (k:=8000) (b:=w.heap.size) (p:=.box [.v (.string ⟨(F T).2.2.toArray⟩)] (some (ptrV w.heap.size))) (w':=w5.setCell ⟨w.heap.size,0,none⟩ (.string ⟨(F T).2.2.toArray⟩)) rfl
  (by have:=(h8.holds _ List.mem_cons_self).2 _ rfl; rw [this]; rfl) (fun j hj=>Below.heap_setCell _ _ _ _ (by simpa using hj)) (by simp [World.setCell]) ⟨rfl,rfl,rfl⟩
  ⟨⟨w.heap.size,9,(h8.holds _ List.mem_cons_self).2 _ rfl,hset5⟩,fun v hv=>by cases hv; exact (h8.holds _ List.mem_cons_self).2 _ rfl⟩
 exact .inl ⟨.v _,_,_,ν6,rfl,h9.lone (j:=248) rfl,rfl,b5,v5,rg5,wv5,rfl,TgM.erase hc5 hT5,hR5⟩
end Go.X.Dk

