/- The desk: what a line of rights asks. Conditions: none. (Printed by mkdkr.py.) -/
import Derived.Test.YthafjlokddpjfaaGreatDoorDkB
open Int renaming cast_ofNat_Int→zl,natCast_zero→za,natCast_one→ze,toNat_natCast→zo
namespace Go.X.Vo
end Go.X.Vo
namespace Go.X.Tg
end Go.X.Tg
namespace Go.X.Th
end Go.X.Th
set_option linter.unusedSimpArgs false
set_option linter.unusedVariables false
set_option maxHeartbeats 4000000
set_option maxRecDepth 20000
namespace Go.X.Dk
open Go Go.X Go.RowKit Go.X.Vo Go.X.Tg Go.X.Th
def manys:List (Tx×Value):=(upd ([99,114,97,115,104]:Tx) (.int .i64 1) (upd ([112,114,101,101,109,112,116]:Tx) (.int .i64 4) (upd ([99,108,101,97,114]:Tx) (.int .i64 2) (upd ([114,101,108,101,97,115,101]:Tx) (.int .i64 3) (upd ([114,101,115,101,114,118,101]:Tx) (.int .i64 3) (upd ([114,101,103,105,115,116,101,114]:Tx) (.int .i64 3) ([]:List (Tx×Value))))))))

theorem right_register {bt bd:Nat} {vw:Value} {ws:List Tx} {M:Mem} (hG:GlobM M) (hM:RowM M vw 1 (ws.map wordV)) (hd:BoxM M bd [ptrV bt]) (hw : ∀ w ∈ ws,w.length≤70000) (h:w0S ws=[114,101,103,105,115,116,101,114]) (hne:1≤ws.length):AskM 73 rightS bt bd vw ws M:=by
 intro q T b v rg wv M' hM' hT hR
 have hwn : ∀ w ∈ ws,w.length≤281474976710656:=fun w h=>Nat.le_trans (hw w h) (by decide)
 have hG1:=hG.le hM'
 have hM1:=hM.le hM'
 have hkd:((fnd ([114,101,103,105,115,116,101,114]:Tx) manys 0).map (·.2)).getD (.int .i64 0) = .int .i64 3:=rfl
 have hks:(fnd ([114,101,103,105,115,116,101,114]:Tx) manys 0).isSome=true:=rfl
 refine MeetsX.of_body [0,1,2,3,4,6,7,8,9,10,11,25,27,28,29] Proofs.Tryz.func73 rfl (by kernel_rfl) fun w0 M0=>?_
 rw [h]
 simp only [Proofs.Tryz.f73,LnH,zxj,zxk,opX,isIfc,zz,zq,seval,zl,za,ze,zo,nzs]
 refine ⟨⟨rfl,rfl⟩,⟨rfl,rfl⟩,rfl,OpK.makeMap rfl rfl rfl rfl ?_⟩
 simp only [zxj,zxk,opX,isIfc,zz,zq,seval,zl,za,ze,zo,nzs]
 refine ⟨rfl,OpK.insert (KeyT.string (by kernel_rfl)) (key:=([114,101,103,105,115,116,101,114]:Tx)) (l:=([]:List (Tx×Value))) (kt:=9) (et:=3) (u:=.int .i64 3) rfl rfl (by kernel_rfl) rfl rfl (fun _=>rfl) rfl rfl ?_⟩
 simp only [zxj,zxk,opX,isIfc,zz,zq,seval,zl,za,ze,zo,nzs,hset]
 refine ⟨rfl,OpK.insert (KeyT.string (by kernel_rfl)) (key:=([114,101,115,101,114,118,101]:Tx)) (l:=(upd ([114,101,103,105,115,116,101,114]:Tx) (.int .i64 3) ([]:List (Tx×Value)))) (kt:=9) (et:=3) (u:=.int .i64 3) rfl rfl (by kernel_rfl) rfl rfl (fun _=>rfl) rfl rfl ?_⟩
 simp only [zxj,zxk,opX,isIfc,zz,zq,seval,zl,za,ze,zo,nzs,hset]
 refine ⟨rfl,OpK.insert (KeyT.string (by kernel_rfl)) (key:=([114,101,108,101,97,115,101]:Tx)) (l:=(upd ([114,101,115,101,114,118,101]:Tx) (.int .i64 3) (upd ([114,101,103,105,115,116,101,114]:Tx) (.int .i64 3) ([]:List (Tx×Value))))) (kt:=9) (et:=3) (u:=.int .i64 3) rfl rfl (by kernel_rfl) rfl rfl (fun _=>rfl) rfl rfl ?_⟩
 simp only [zxj,zxk,opX,isIfc,zz,zq,seval,zl,za,ze,zo,nzs,hset]
 refine ⟨rfl,OpK.insert (KeyT.string (by kernel_rfl)) (key:=([99,108,101,97,114]:Tx)) (l:=(upd ([114,101,108,101,97,115,101]:Tx) (.int .i64 3) (upd ([114,101,115,101,114,118,101]:Tx) (.int .i64 3) (upd ([114,101,103,105,115,116,101,114]:Tx) (.int .i64 3) ([]:List (Tx×Value)))))) (kt:=9) (et:=3) (u:=.int .i64 2) rfl rfl (by kernel_rfl) rfl rfl (fun _=>rfl) rfl rfl ?_⟩
 simp only [zxj,zxk,opX,isIfc,zz,zq,seval,zl,za,ze,zo,nzs,hset]
 refine ⟨rfl,OpK.insert (KeyT.string (by kernel_rfl)) (key:=([112,114,101,101,109,112,116]:Tx)) (l:=(upd ([99,108,101,97,114]:Tx) (.int .i64 2) (upd ([114,101,108,101,97,115,101]:Tx) (.int .i64 3) (upd ([114,101,115,101,114,118,101]:Tx) (.int .i64 3) (upd ([114,101,103,105,115,116,101,114]:Tx) (.int .i64 3) ([]:List (Tx×Value))))))) (kt:=9) (et:=3) (u:=.int .i64 4) rfl rfl (by kernel_rfl) rfl rfl (fun _=>rfl) rfl rfl ?_⟩
 simp only [zxj,zxk,opX,isIfc,zz,zq,seval,zl,za,ze,zo,nzs,hset]
 refine ⟨rfl,OpK.insert (KeyT.string (by kernel_rfl)) (key:=([99,114,97,115,104]:Tx)) (l:=(upd ([112,114,101,101,109,112,116]:Tx) (.int .i64 4) (upd ([99,108,101,97,114]:Tx) (.int .i64 2) (upd ([114,101,108,101,97,115,101]:Tx) (.int .i64 3) (upd ([114,101,115,101,114,118,101]:Tx) (.int .i64 3) (upd ([114,101,103,105,115,116,101,114]:Tx) (.int .i64 3) ([]:List (Tx×Value)))))))) (kt:=9) (et:=3) (u:=.int .i64 1) rfl rfl (by kernel_rfl) rfl rfl (fun _=>rfl) rfl rfl ?_⟩
 simp only [zxj,zxk,opX,isIfc,zz,zq,seval,zl,za,ze,zo,nzs,hset]
 refine ⟨rfl,OpK.lookupOk (KeyT.string (by kernel_rfl)) (key:=([114,101,103,105,115,116,101,114]:Tx)) (l:=manys) (kt:=9) (et:=3) (z:=.int .i64 0) rfl rfl rfl (by kernel_rfl) Proofs.Tryz.zeroValue3 rfl rfl (fun _=>rfl) rfl ?_⟩
 rw [hkd,hks]
 simp only [zxj,zxk,opX,isIfc,zz,zq,seval,zl,za,ze,zo,nzs,decide_true,decide_false]
 refine ⟨⟨rfl,rfl⟩,LoopX.rounds 4 ?_⟩
 simp only [RoundsX_succ,rollQ_normal,rollQ_ret,rollQ_exit,rollQ_panic,zxj,zxk,opX,isIfc,zz,zq,seval,zl,za,ze,zo,nzs,decide_true,decide_false]
 refine CallX.box1 (A:=fun s=>[s]) 8000 (fun s s' ν ν' h=>by simp only [SV.vals,h]) rfl rfl rfl (fun q' M2 hM2=>num_x (i:=1) (hG1.le hM2) (hM1.le hM2) hne hwn) (fun s cs' ⟨x1,n1,a1,e1,hs,hcs⟩=>?_) (fun ch cs' ⟨h0,hch⟩=>?_)
 rotate_left
 · have z0:nmS ws 1=none:=h0
   refine ⟨?_,hch,rfl⟩
   rw [rightS_register h]
   simp only [z0,Option.bind_some,Option.bind_none]
 subst hs hcs
 have l1:1 < ws.length:=(List.getElem?_eq_some_iff.1 a1).1
 have f1:nmS ws 1=some n1:=by unfold nmS; rw [a1]; exact e1
 simp only [RoundsX_succ,rollQ_normal,rollQ_ret,rollQ_exit,rollQ_panic,zxj,zxk,opX,isIfc,zz,zq,seval,zl,za,ze,zo,nzs,decide_true,decide_false]
 refine ⟨in64 (by decide) (by decide),?_⟩
 refine CallX.box1 (A:=fun s=>[s]) 8000 (fun s s' ν ν' h=>by simp only [SV.vals,h]) rfl rfl rfl (fun q' M2 hM2=>num_x (i:=2) (hG1.le hM2) (hM1.le hM2) (by omega) hwn) (fun s cs' ⟨x2,n2,a2,e2,hs,hcs⟩=>?_) (fun ch cs' ⟨h0,hch⟩=>?_)
 rotate_left
 · have z0:nmS ws 2=none:=h0
   refine ⟨?_,hch,rfl⟩
   rw [rightS_register h]
   simp only [f1,z0,Option.bind_some,Option.bind_none]
 subst hs hcs
 have l2:2 < ws.length:=(List.getElem?_eq_some_iff.1 a2).1
 have f2:nmS ws 2=some n2:=by unfold nmS; rw [a2]; exact e2
 simp only [RoundsX_succ,rollQ_normal,rollQ_ret,rollQ_exit,rollQ_panic,zxj,zxk,opX,isIfc,zz,zq,seval,zl,za,ze,zo,nzs,decide_true,decide_false]
 refine ⟨in64 (by decide) (by decide),?_⟩
 refine CallX.box1 (A:=fun s=>[s]) 8000 (fun s s' ν ν' h=>by simp only [SV.vals,h]) rfl rfl rfl (fun q' M2 hM2=>num_x (i:=3) (hG1.le hM2) (hM1.le hM2) (by omega) hwn) (fun s cs' ⟨x3,n3,a3,e3,hs,hcs⟩=>?_) (fun ch cs' ⟨h0,hch⟩=>?_)
 rotate_left
 · have z0:nmS ws 3=none:=h0
   refine ⟨?_,hch,rfl⟩
   rw [rightS_register h]
   simp only [f1,f2,z0,Option.bind_some,Option.bind_none]
 subst hs hcs
 have l3:3 < ws.length:=(List.getElem?_eq_some_iff.1 a3).1
 have f3:nmS ws 3=some n3:=by unfold nmS; rw [a3]; exact e3
 simp only [RoundsX_succ,rollQ_normal,rollQ_ret,rollQ_exit,rollQ_panic,zxj,zxk,opX,isIfc,zz,zq,seval,zl,za,ze,zo,nzs,decide_true,decide_false]
 refine ⟨in64 (by decide) (by decide),?_⟩
 refine ⟨rfl,OpK.pubB (k:=32) rfl rfl fun b0 M2 hM2 hb0=>OpK.pubB (k:=24) rfl rfl fun b1 M3 hM3 hb1=>OpK.pubB (k:=80) rfl rfl fun b2 M4 hM4 hb2=>OpK.mkFn (l:=[.v (ptrV b0),.v (ptrV b1),.v (ptrV b2)]) rfl rfl rfl rfl ?_⟩
 simp only [zxj,zxk,opX,isIfc,zz,zq,seval,zl,za,ze,zo,nzs,shA1,shA2,hdelk]
 exact ⟨4,_,_,_,by rw [rightS_register h]; simp only [f1,f2,f3,Option.bind_some],rfl,register_x (w:=n1) (x:=n2) (y:=n3) ((hd.le hM').le ((hM2.trans hM3).trans hM4)) (hb0.le (hM3.trans hM4)) (hb1.le hM4) hb2,rfl,rfl⟩
theorem right_reserve {bt bd:Nat} {vw:Value} {ws:List Tx} {M:Mem} (hG:GlobM M) (hM:RowM M vw 1 (ws.map wordV)) (hd:BoxM M bd [ptrV bt]) (hw : ∀ w ∈ ws,w.length≤70000) (h:w0S ws=[114,101,115,101,114,118,101]) (hne:1≤ws.length):AskM 73 rightS bt bd vw ws M:=by
 intro q T b v rg wv M' hM' hT hR
 have hwn : ∀ w ∈ ws,w.length≤281474976710656:=fun w h=>Nat.le_trans (hw w h) (by decide)
 have hG1:=hG.le hM'
 have hM1:=hM.le hM'
 have hkd:((fnd ([114,101,115,101,114,118,101]:Tx) manys 0).map (·.2)).getD (.int .i64 0) = .int .i64 3:=rfl
 have hks:(fnd ([114,101,115,101,114,118,101]:Tx) manys 0).isSome=true:=rfl
 refine MeetsX.of_body [0,1,2,3,4,6,7,8,9,10,11,25,27,28,29] Proofs.Tryz.func73 rfl (by kernel_rfl) fun w0 M0=>?_
 rw [h]
 simp only [Proofs.Tryz.f73,LnH,zxj,zxk,opX,isIfc,zz,zq,seval,zl,za,ze,zo,nzs]
 refine ⟨⟨rfl,rfl⟩,⟨rfl,rfl⟩,rfl,OpK.makeMap rfl rfl rfl rfl ?_⟩
 simp only [zxj,zxk,opX,isIfc,zz,zq,seval,zl,za,ze,zo,nzs]
 refine ⟨rfl,OpK.insert (KeyT.string (by kernel_rfl)) (key:=([114,101,103,105,115,116,101,114]:Tx)) (l:=([]:List (Tx×Value))) (kt:=9) (et:=3) (u:=.int .i64 3) rfl rfl (by kernel_rfl) rfl rfl (fun _=>rfl) rfl rfl ?_⟩
 simp only [zxj,zxk,opX,isIfc,zz,zq,seval,zl,za,ze,zo,nzs,hset]
 refine ⟨rfl,OpK.insert (KeyT.string (by kernel_rfl)) (key:=([114,101,115,101,114,118,101]:Tx)) (l:=(upd ([114,101,103,105,115,116,101,114]:Tx) (.int .i64 3) ([]:List (Tx×Value)))) (kt:=9) (et:=3) (u:=.int .i64 3) rfl rfl (by kernel_rfl) rfl rfl (fun _=>rfl) rfl rfl ?_⟩
 simp only [zxj,zxk,opX,isIfc,zz,zq,seval,zl,za,ze,zo,nzs,hset]
 refine ⟨rfl,OpK.insert (KeyT.string (by kernel_rfl)) (key:=([114,101,108,101,97,115,101]:Tx)) (l:=(upd ([114,101,115,101,114,118,101]:Tx) (.int .i64 3) (upd ([114,101,103,105,115,116,101,114]:Tx) (.int .i64 3) ([]:List (Tx×Value))))) (kt:=9) (et:=3) (u:=.int .i64 3) rfl rfl (by kernel_rfl) rfl rfl (fun _=>rfl) rfl rfl ?_⟩
 simp only [zxj,zxk,opX,isIfc,zz,zq,seval,zl,za,ze,zo,nzs,hset]
 refine ⟨rfl,OpK.insert (KeyT.string (by kernel_rfl)) (key:=([99,108,101,97,114]:Tx)) (l:=(upd ([114,101,108,101,97,115,101]:Tx) (.int .i64 3) (upd ([114,101,115,101,114,118,101]:Tx) (.int .i64 3) (upd ([114,101,103,105,115,116,101,114]:Tx) (.int .i64 3) ([]:List (Tx×Value)))))) (kt:=9) (et:=3) (u:=.int .i64 2) rfl rfl (by kernel_rfl) rfl rfl (fun _=>rfl) rfl rfl ?_⟩
 simp only [zxj,zxk,opX,isIfc,zz,zq,seval,zl,za,ze,zo,nzs,hset]
 refine ⟨rfl,OpK.insert (KeyT.string (by kernel_rfl)) (key:=([112,114,101,101,109,112,116]:Tx)) (l:=(upd ([99,108,101,97,114]:Tx) (.int .i64 2) (upd ([114,101,108,101,97,115,101]:Tx) (.int .i64 3) (upd ([114,101,115,101,114,118,101]:Tx) (.int .i64 3) (upd ([114,101,103,105,115,116,101,114]:Tx) (.int .i64 3) ([]:List (Tx×Value))))))) (kt:=9) (et:=3) (u:=.int .i64 4) rfl rfl (by kernel_rfl) rfl rfl (fun _=>rfl) rfl rfl ?_⟩
 simp only [zxj,zxk,opX,isIfc,zz,zq,seval,zl,za,ze,zo,nzs,hset]
 refine ⟨rfl,OpK.insert (KeyT.string (by kernel_rfl)) (key:=([99,114,97,115,104]:Tx)) (l:=(upd ([112,114,101,101,109,112,116]:Tx) (.int .i64 4) (upd ([99,108,101,97,114]:Tx) (.int .i64 2) (upd ([114,101,108,101,97,115,101]:Tx) (.int .i64 3) (upd ([114,101,115,101,114,118,101]:Tx) (.int .i64 3) (upd ([114,101,103,105,115,116,101,114]:Tx) (.int .i64 3) ([]:List (Tx×Value)))))))) (kt:=9) (et:=3) (u:=.int .i64 1) rfl rfl (by kernel_rfl) rfl rfl (fun _=>rfl) rfl rfl ?_⟩
 simp only [zxj,zxk,opX,isIfc,zz,zq,seval,zl,za,ze,zo,nzs,hset]
 refine ⟨rfl,OpK.lookupOk (KeyT.string (by kernel_rfl)) (key:=([114,101,115,101,114,118,101]:Tx)) (l:=manys) (kt:=9) (et:=3) (z:=.int .i64 0) rfl rfl rfl (by kernel_rfl) Proofs.Tryz.zeroValue3 rfl rfl (fun _=>rfl) rfl ?_⟩
 rw [hkd,hks]
 simp only [zxj,zxk,opX,isIfc,zz,zq,seval,zl,za,ze,zo,nzs,decide_true,decide_false]
 refine ⟨⟨rfl,rfl⟩,LoopX.rounds 4 ?_⟩
 simp only [RoundsX_succ,rollQ_normal,rollQ_ret,rollQ_exit,rollQ_panic,zxj,zxk,opX,isIfc,zz,zq,seval,zl,za,ze,zo,nzs,decide_true,decide_false]
 refine CallX.box1 (A:=fun s=>[s]) 8000 (fun s s' ν ν' h=>by simp only [SV.vals,h]) rfl rfl rfl (fun q' M2 hM2=>num_x (i:=1) (hG1.le hM2) (hM1.le hM2) hne hwn) (fun s cs' ⟨x1,n1,a1,e1,hs,hcs⟩=>?_) (fun ch cs' ⟨h0,hch⟩=>?_)
 rotate_left
 · have z0:nmS ws 1=none:=h0
   refine ⟨?_,hch,rfl⟩
   rw [rightS_reserve h]
   simp only [z0,Option.bind_some,Option.bind_none]
 subst hs hcs
 have l1:1 < ws.length:=(List.getElem?_eq_some_iff.1 a1).1
 have f1:nmS ws 1=some n1:=by unfold nmS; rw [a1]; exact e1
 simp only [RoundsX_succ,rollQ_normal,rollQ_ret,rollQ_exit,rollQ_panic,zxj,zxk,opX,isIfc,zz,zq,seval,zl,za,ze,zo,nzs,decide_true,decide_false]
 refine ⟨in64 (by decide) (by decide),?_⟩
 refine CallX.box1 (A:=fun s=>[s]) 8000 (fun s s' ν ν' h=>by simp only [SV.vals,h]) rfl rfl rfl (fun q' M2 hM2=>num_x (i:=2) (hG1.le hM2) (hM1.le hM2) (by omega) hwn) (fun s cs' ⟨x2,n2,a2,e2,hs,hcs⟩=>?_) (fun ch cs' ⟨h0,hch⟩=>?_)
 rotate_left
 · have z0:nmS ws 2=none:=h0
   refine ⟨?_,hch,rfl⟩
   rw [rightS_reserve h]
   simp only [f1,z0,Option.bind_some,Option.bind_none]
 subst hs hcs
 have l2:2 < ws.length:=(List.getElem?_eq_some_iff.1 a2).1
 have f2:nmS ws 2=some n2:=by unfold nmS; rw [a2]; exact e2
 simp only [RoundsX_succ,rollQ_normal,rollQ_ret,rollQ_exit,rollQ_panic,zxj,zxk,opX,isIfc,zz,zq,seval,zl,za,ze,zo,nzs,decide_true,decide_false]
 refine ⟨in64 (by decide) (by decide),?_⟩
 refine CallX.box1 (A:=fun s=>[s]) 8000 (fun s s' ν ν' h=>by simp only [SV.vals,h]) rfl rfl rfl (fun q' M2 hM2=>num_x (i:=3) (hG1.le hM2) (hM1.le hM2) (by omega) hwn) (fun s cs' ⟨x3,n3,a3,e3,hs,hcs⟩=>?_) (fun ch cs' ⟨h0,hch⟩=>?_)
 rotate_left
 · have z0:nmS ws 3=none:=h0
   refine ⟨?_,hch,rfl⟩
   rw [rightS_reserve h]
   simp only [f1,f2,z0,Option.bind_some,Option.bind_none]
 subst hs hcs
 have l3:3 < ws.length:=(List.getElem?_eq_some_iff.1 a3).1
 have f3:nmS ws 3=some n3:=by unfold nmS; rw [a3]; exact e3
 simp only [RoundsX_succ,rollQ_normal,rollQ_ret,rollQ_exit,rollQ_panic,zxj,zxk,opX,isIfc,zz,zq,seval,zl,za,ze,zo,nzs,decide_true,decide_false]
 refine ⟨in64 (by decide) (by decide),?_⟩
 refine ⟨rfl,OpK.pubB (k:=32) rfl rfl fun b0 M2 hM2 hb0=>OpK.pubB (k:=24) rfl rfl fun b1 M3 hM3 hb1=>OpK.pubB (k:=80) rfl rfl fun b2 M4 hM4 hb2=>OpK.mkFn (l:=[.v (ptrV b0),.v (ptrV b1),.v (ptrV b2)]) rfl rfl rfl rfl ?_⟩
 simp only [zxj,zxk,opX,isIfc,zz,zq,seval,zl,za,ze,zo,nzs,shA1,shA2,hdelk]
 exact ⟨4,_,_,_,by rw [rightS_reserve h]; simp only [f1,f2,f3,Option.bind_some],rfl,reserve_x (w:=n1) (x:=n2) (y:=n3) ((hd.le hM').le ((hM2.trans hM3).trans hM4)) (hb0.le (hM3.trans hM4)) (hb1.le hM4) hb2,rfl,rfl⟩
theorem right_release {bt bd:Nat} {vw:Value} {ws:List Tx} {M:Mem} (hG:GlobM M) (hM:RowM M vw 1 (ws.map wordV)) (hd:BoxM M bd [ptrV bt]) (hw : ∀ w ∈ ws,w.length≤70000) (h:w0S ws=[114,101,108,101,97,115,101]) (hne:1≤ws.length):AskM 73 rightS bt bd vw ws M:=by
 intro q T b v rg wv M' hM' hT hR
 have hwn : ∀ w ∈ ws,w.length≤281474976710656:=fun w h=>Nat.le_trans (hw w h) (by decide)
 have hG1:=hG.le hM'
 have hM1:=hM.le hM'
 have hkd:((fnd ([114,101,108,101,97,115,101]:Tx) manys 0).map (·.2)).getD (.int .i64 0) = .int .i64 3:=rfl
 have hks:(fnd ([114,101,108,101,97,115,101]:Tx) manys 0).isSome=true:=rfl
 refine MeetsX.of_body [0,1,2,3,4,6,7,8,9,10,11,25,27,28,29] Proofs.Tryz.func73 rfl (by kernel_rfl) fun w0 M0=>?_
 rw [h]
 simp only [Proofs.Tryz.f73,LnH,zxj,zxk,opX,isIfc,zz,zq,seval,zl,za,ze,zo,nzs]
 refine ⟨⟨rfl,rfl⟩,⟨rfl,rfl⟩,rfl,OpK.makeMap rfl rfl rfl rfl ?_⟩
 simp only [zxj,zxk,opX,isIfc,zz,zq,seval,zl,za,ze,zo,nzs]
 refine ⟨rfl,OpK.insert (KeyT.string (by kernel_rfl)) (key:=([114,101,103,105,115,116,101,114]:Tx)) (l:=([]:List (Tx×Value))) (kt:=9) (et:=3) (u:=.int .i64 3) rfl rfl (by kernel_rfl) rfl rfl (fun _=>rfl) rfl rfl ?_⟩
 simp only [zxj,zxk,opX,isIfc,zz,zq,seval,zl,za,ze,zo,nzs,hset]
 refine ⟨rfl,OpK.insert (KeyT.string (by kernel_rfl)) (key:=([114,101,115,101,114,118,101]:Tx)) (l:=(upd ([114,101,103,105,115,116,101,114]:Tx) (.int .i64 3) ([]:List (Tx×Value)))) (kt:=9) (et:=3) (u:=.int .i64 3) rfl rfl (by kernel_rfl) rfl rfl (fun _=>rfl) rfl rfl ?_⟩
 simp only [zxj,zxk,opX,isIfc,zz,zq,seval,zl,za,ze,zo,nzs,hset]
 refine ⟨rfl,OpK.insert (KeyT.string (by kernel_rfl)) (key:=([114,101,108,101,97,115,101]:Tx)) (l:=(upd ([114,101,115,101,114,118,101]:Tx) (.int .i64 3) (upd ([114,101,103,105,115,116,101,114]:Tx) (.int .i64 3) ([]:List (Tx×Value))))) (kt:=9) (et:=3) (u:=.int .i64 3) rfl rfl (by kernel_rfl) rfl rfl (fun _=>rfl) rfl rfl ?_⟩
 simp only [zxj,zxk,opX,isIfc,zz,zq,seval,zl,za,ze,zo,nzs,hset]
 refine ⟨rfl,OpK.insert (KeyT.string (by kernel_rfl)) (key:=([99,108,101,97,114]:Tx)) (l:=(upd ([114,101,108,101,97,115,101]:Tx) (.int .i64 3) (upd ([114,101,115,101,114,118,101]:Tx) (.int .i64 3) (upd ([114,101,103,105,115,116,101,114]:Tx) (.int .i64 3) ([]:List (Tx×Value)))))) (kt:=9) (et:=3) (u:=.int .i64 2) rfl rfl (by kernel_rfl) rfl rfl (fun _=>rfl) rfl rfl ?_⟩
 simp only [zxj,zxk,opX,isIfc,zz,zq,seval,zl,za,ze,zo,nzs,hset]
 refine ⟨rfl,OpK.insert (KeyT.string (by kernel_rfl)) (key:=([112,114,101,101,109,112,116]:Tx)) (l:=(upd ([99,108,101,97,114]:Tx) (.int .i64 2) (upd ([114,101,108,101,97,115,101]:Tx) (.int .i64 3) (upd ([114,101,115,101,114,118,101]:Tx) (.int .i64 3) (upd ([114,101,103,105,115,116,101,114]:Tx) (.int .i64 3) ([]:List (Tx×Value))))))) (kt:=9) (et:=3) (u:=.int .i64 4) rfl rfl (by kernel_rfl) rfl rfl (fun _=>rfl) rfl rfl ?_⟩
 simp only [zxj,zxk,opX,isIfc,zz,zq,seval,zl,za,ze,zo,nzs,hset]
 refine ⟨rfl,OpK.insert (KeyT.string (by kernel_rfl)) (key:=([99,114,97,115,104]:Tx)) (l:=(upd ([112,114,101,101,109,112,116]:Tx) (.int .i64 4) (upd ([99,108,101,97,114]:Tx) (.int .i64 2) (upd ([114,101,108,101,97,115,101]:Tx) (.int .i64 3) (upd ([114,101,115,101,114,118,101]:Tx) (.int .i64 3) (upd ([114,101,103,105,115,116,101,114]:Tx) (.int .i64 3) ([]:List (Tx×Value)))))))) (kt:=9) (et:=3) (u:=.int .i64 1) rfl rfl (by kernel_rfl) rfl rfl (fun _=>rfl) rfl rfl ?_⟩
 simp only [zxj,zxk,opX,isIfc,zz,zq,seval,zl,za,ze,zo,nzs,hset]
 refine ⟨rfl,OpK.lookupOk (KeyT.string (by kernel_rfl)) (key:=([114,101,108,101,97,115,101]:Tx)) (l:=manys) (kt:=9) (et:=3) (z:=.int .i64 0) rfl rfl rfl (by kernel_rfl) Proofs.Tryz.zeroValue3 rfl rfl (fun _=>rfl) rfl ?_⟩
 rw [hkd,hks]
 simp only [zxj,zxk,opX,isIfc,zz,zq,seval,zl,za,ze,zo,nzs,decide_true,decide_false]
 refine ⟨⟨rfl,rfl⟩,LoopX.rounds 4 ?_⟩
 simp only [RoundsX_succ,rollQ_normal,rollQ_ret,rollQ_exit,rollQ_panic,zxj,zxk,opX,isIfc,zz,zq,seval,zl,za,ze,zo,nzs,decide_true,decide_false]
 refine CallX.box1 (A:=fun s=>[s]) 8000 (fun s s' ν ν' h=>by simp only [SV.vals,h]) rfl rfl rfl (fun q' M2 hM2=>num_x (i:=1) (hG1.le hM2) (hM1.le hM2) hne hwn) (fun s cs' ⟨x1,n1,a1,e1,hs,hcs⟩=>?_) (fun ch cs' ⟨h0,hch⟩=>?_)
 rotate_left
 · have z0:nmS ws 1=none:=h0
   refine ⟨?_,hch,rfl⟩
   rw [rightS_release h]
   simp only [z0,Option.bind_some,Option.bind_none]
 subst hs hcs
 have l1:1 < ws.length:=(List.getElem?_eq_some_iff.1 a1).1
 have f1:nmS ws 1=some n1:=by unfold nmS; rw [a1]; exact e1
 simp only [RoundsX_succ,rollQ_normal,rollQ_ret,rollQ_exit,rollQ_panic,zxj,zxk,opX,isIfc,zz,zq,seval,zl,za,ze,zo,nzs,decide_true,decide_false]
 refine ⟨in64 (by decide) (by decide),?_⟩
 refine CallX.box1 (A:=fun s=>[s]) 8000 (fun s s' ν ν' h=>by simp only [SV.vals,h]) rfl rfl rfl (fun q' M2 hM2=>num_x (i:=2) (hG1.le hM2) (hM1.le hM2) (by omega) hwn) (fun s cs' ⟨x2,n2,a2,e2,hs,hcs⟩=>?_) (fun ch cs' ⟨h0,hch⟩=>?_)
 rotate_left
 · have z0:nmS ws 2=none:=h0
   refine ⟨?_,hch,rfl⟩
   rw [rightS_release h]
   simp only [f1,z0,Option.bind_some,Option.bind_none]
 subst hs hcs
 have l2:2 < ws.length:=(List.getElem?_eq_some_iff.1 a2).1
 have f2:nmS ws 2=some n2:=by unfold nmS; rw [a2]; exact e2
 simp only [RoundsX_succ,rollQ_normal,rollQ_ret,rollQ_exit,rollQ_panic,zxj,zxk,opX,isIfc,zz,zq,seval,zl,za,ze,zo,nzs,decide_true,decide_false]
 refine ⟨in64 (by decide) (by decide),?_⟩
 refine CallX.box1 (A:=fun s=>[s]) 8000 (fun s s' ν ν' h=>by simp only [SV.vals,h]) rfl rfl rfl (fun q' M2 hM2=>num_x (i:=3) (hG1.le hM2) (hM1.le hM2) (by omega) hwn) (fun s cs' ⟨x3,n3,a3,e3,hs,hcs⟩=>?_) (fun ch cs' ⟨h0,hch⟩=>?_)
 rotate_left
 · have z0:nmS ws 3=none:=h0
   refine ⟨?_,hch,rfl⟩
   rw [rightS_release h]
   simp only [f1,f2,z0,Option.bind_some,Option.bind_none]
 subst hs hcs
 have l3:3 < ws.length:=(List.getElem?_eq_some_iff.1 a3).1
 have f3:nmS ws 3=some n3:=by unfold nmS; rw [a3]; exact e3
 simp only [RoundsX_succ,rollQ_normal,rollQ_ret,rollQ_exit,rollQ_panic,zxj,zxk,opX,isIfc,zz,zq,seval,zl,za,ze,zo,nzs,decide_true,decide_false]
 refine ⟨in64 (by decide) (by decide),?_⟩
 refine ⟨rfl,OpK.pubB (k:=32) rfl rfl fun b0 M2 hM2 hb0=>OpK.pubB (k:=24) rfl rfl fun b1 M3 hM3 hb1=>OpK.pubB (k:=80) rfl rfl fun b2 M4 hM4 hb2=>OpK.mkFn (l:=[.v (ptrV b0),.v (ptrV b1),.v (ptrV b2)]) rfl rfl rfl rfl ?_⟩
 simp only [zxj,zxk,opX,isIfc,zz,zq,seval,zl,za,ze,zo,nzs,shA1,shA2,hdelk]
 exact ⟨4,_,_,_,by rw [rightS_release h]; simp only [f1,f2,f3,Option.bind_some],rfl,release_x (w:=n1) (x:=n2) (y:=n3) ((hd.le hM').le ((hM2.trans hM3).trans hM4)) (hb0.le (hM3.trans hM4)) (hb1.le hM4) hb2,rfl,rfl⟩
theorem right_clear {bt bd:Nat} {vw:Value} {ws:List Tx} {M:Mem} (hG:GlobM M) (hM:RowM M vw 1 (ws.map wordV)) (hd:BoxM M bd [ptrV bt]) (hw : ∀ w ∈ ws,w.length≤70000) (h:w0S ws=[99,108,101,97,114]) (hne:1≤ws.length):AskM 73 rightS bt bd vw ws M:=by
 intro q T b v rg wv M' hM' hT hR
 have hwn : ∀ w ∈ ws,w.length≤281474976710656:=fun w h=>Nat.le_trans (hw w h) (by decide)
 have hG1:=hG.le hM'
 have hM1:=hM.le hM'
 have hkd:((fnd ([99,108,101,97,114]:Tx) manys 0).map (·.2)).getD (.int .i64 0) = .int .i64 2:=rfl
 have hks:(fnd ([99,108,101,97,114]:Tx) manys 0).isSome=true:=rfl
 refine MeetsX.of_body [0,1,2,3,4,6,7,8,9,10,11,25,27,28,29] Proofs.Tryz.func73 rfl (by kernel_rfl) fun w0 M0=>?_
 rw [h]
 simp only [Proofs.Tryz.f73,LnH,zxj,zxk,opX,isIfc,zz,zq,seval,zl,za,ze,zo,nzs]
 refine ⟨⟨rfl,rfl⟩,⟨rfl,rfl⟩,rfl,OpK.makeMap rfl rfl rfl rfl ?_⟩
 simp only [zxj,zxk,opX,isIfc,zz,zq,seval,zl,za,ze,zo,nzs]
 refine ⟨rfl,OpK.insert (KeyT.string (by kernel_rfl)) (key:=([114,101,103,105,115,116,101,114]:Tx)) (l:=([]:List (Tx×Value))) (kt:=9) (et:=3) (u:=.int .i64 3) rfl rfl (by kernel_rfl) rfl rfl (fun _=>rfl) rfl rfl ?_⟩
 simp only [zxj,zxk,opX,isIfc,zz,zq,seval,zl,za,ze,zo,nzs,hset]
 refine ⟨rfl,OpK.insert (KeyT.string (by kernel_rfl)) (key:=([114,101,115,101,114,118,101]:Tx)) (l:=(upd ([114,101,103,105,115,116,101,114]:Tx) (.int .i64 3) ([]:List (Tx×Value)))) (kt:=9) (et:=3) (u:=.int .i64 3) rfl rfl (by kernel_rfl) rfl rfl (fun _=>rfl) rfl rfl ?_⟩
 simp only [zxj,zxk,opX,isIfc,zz,zq,seval,zl,za,ze,zo,nzs,hset]
 refine ⟨rfl,OpK.insert (KeyT.string (by kernel_rfl)) (key:=([114,101,108,101,97,115,101]:Tx)) (l:=(upd ([114,101,115,101,114,118,101]:Tx) (.int .i64 3) (upd ([114,101,103,105,115,116,101,114]:Tx) (.int .i64 3) ([]:List (Tx×Value))))) (kt:=9) (et:=3) (u:=.int .i64 3) rfl rfl (by kernel_rfl) rfl rfl (fun _=>rfl) rfl rfl ?_⟩
 simp only [zxj,zxk,opX,isIfc,zz,zq,seval,zl,za,ze,zo,nzs,hset]
 refine ⟨rfl,OpK.insert (KeyT.string (by kernel_rfl)) (key:=([99,108,101,97,114]:Tx)) (l:=(upd ([114,101,108,101,97,115,101]:Tx) (.int .i64 3) (upd ([114,101,115,101,114,118,101]:Tx) (.int .i64 3) (upd ([114,101,103,105,115,116,101,114]:Tx) (.int .i64 3) ([]:List (Tx×Value)))))) (kt:=9) (et:=3) (u:=.int .i64 2) rfl rfl (by kernel_rfl) rfl rfl (fun _=>rfl) rfl rfl ?_⟩
 simp only [zxj,zxk,opX,isIfc,zz,zq,seval,zl,za,ze,zo,nzs,hset]
 refine ⟨rfl,OpK.insert (KeyT.string (by kernel_rfl)) (key:=([112,114,101,101,109,112,116]:Tx)) (l:=(upd ([99,108,101,97,114]:Tx) (.int .i64 2) (upd ([114,101,108,101,97,115,101]:Tx) (.int .i64 3) (upd ([114,101,115,101,114,118,101]:Tx) (.int .i64 3) (upd ([114,101,103,105,115,116,101,114]:Tx) (.int .i64 3) ([]:List (Tx×Value))))))) (kt:=9) (et:=3) (u:=.int .i64 4) rfl rfl (by kernel_rfl) rfl rfl (fun _=>rfl) rfl rfl ?_⟩
 simp only [zxj,zxk,opX,isIfc,zz,zq,seval,zl,za,ze,zo,nzs,hset]
 refine ⟨rfl,OpK.insert (KeyT.string (by kernel_rfl)) (key:=([99,114,97,115,104]:Tx)) (l:=(upd ([112,114,101,101,109,112,116]:Tx) (.int .i64 4) (upd ([99,108,101,97,114]:Tx) (.int .i64 2) (upd ([114,101,108,101,97,115,101]:Tx) (.int .i64 3) (upd ([114,101,115,101,114,118,101]:Tx) (.int .i64 3) (upd ([114,101,103,105,115,116,101,114]:Tx) (.int .i64 3) ([]:List (Tx×Value)))))))) (kt:=9) (et:=3) (u:=.int .i64 1) rfl rfl (by kernel_rfl) rfl rfl (fun _=>rfl) rfl rfl ?_⟩
 simp only [zxj,zxk,opX,isIfc,zz,zq,seval,zl,za,ze,zo,nzs,hset]
 refine ⟨rfl,OpK.lookupOk (KeyT.string (by kernel_rfl)) (key:=([99,108,101,97,114]:Tx)) (l:=manys) (kt:=9) (et:=3) (z:=.int .i64 0) rfl rfl rfl (by kernel_rfl) Proofs.Tryz.zeroValue3 rfl rfl (fun _=>rfl) rfl ?_⟩
 rw [hkd,hks]
 simp only [zxj,zxk,opX,isIfc,zz,zq,seval,zl,za,ze,zo,nzs,decide_true,decide_false]
 refine ⟨⟨rfl,rfl⟩,LoopX.rounds 3 ?_⟩
 simp only [RoundsX_succ,rollQ_normal,rollQ_ret,rollQ_exit,rollQ_panic,zxj,zxk,opX,isIfc,zz,zq,seval,zl,za,ze,zo,nzs,decide_true,decide_false]
 refine CallX.box1 (A:=fun s=>[s]) 8000 (fun s s' ν ν' h=>by simp only [SV.vals,h]) rfl rfl rfl (fun q' M2 hM2=>num_x (i:=1) (hG1.le hM2) (hM1.le hM2) hne hwn) (fun s cs' ⟨x1,n1,a1,e1,hs,hcs⟩=>?_) (fun ch cs' ⟨h0,hch⟩=>?_)
 rotate_left
 · have z0:nmS ws 1=none:=h0
   refine ⟨?_,hch,rfl⟩
   rw [rightS_clear h]
   simp only [z0,Option.bind_some,Option.bind_none]
 subst hs hcs
 have l1:1 < ws.length:=(List.getElem?_eq_some_iff.1 a1).1
 have f1:nmS ws 1=some n1:=by unfold nmS; rw [a1]; exact e1
 simp only [RoundsX_succ,rollQ_normal,rollQ_ret,rollQ_exit,rollQ_panic,zxj,zxk,opX,isIfc,zz,zq,seval,zl,za,ze,zo,nzs,decide_true,decide_false]
 refine ⟨in64 (by decide) (by decide),?_⟩
 refine CallX.box1 (A:=fun s=>[s]) 8000 (fun s s' ν ν' h=>by simp only [SV.vals,h]) rfl rfl rfl (fun q' M2 hM2=>num_x (i:=2) (hG1.le hM2) (hM1.le hM2) (by omega) hwn) (fun s cs' ⟨x2,n2,a2,e2,hs,hcs⟩=>?_) (fun ch cs' ⟨h0,hch⟩=>?_)
 rotate_left
 · have z0:nmS ws 2=none:=h0
   refine ⟨?_,hch,rfl⟩
   rw [rightS_clear h]
   simp only [f1,z0,Option.bind_some,Option.bind_none]
 subst hs hcs
 have l2:2 < ws.length:=(List.getElem?_eq_some_iff.1 a2).1
 have f2:nmS ws 2=some n2:=by unfold nmS; rw [a2]; exact e2
 simp only [RoundsX_succ,rollQ_normal,rollQ_ret,rollQ_exit,rollQ_panic,zxj,zxk,opX,isIfc,zz,zq,seval,zl,za,ze,zo,nzs,decide_true,decide_false]
 refine ⟨in64 (by decide) (by decide),?_⟩
 refine ⟨rfl,OpK.pubB (k:=32) rfl rfl fun b0 M2 hM2 hb0=>OpK.pubB (k:=24) rfl rfl fun b1 M3 hM3 hb1=>OpK.pubB (k:=80) rfl rfl fun b2 M4 hM4 hb2=>OpK.mkFn (l:=[.v (ptrV b0),.v (ptrV b1),.v (ptrV b2)]) rfl rfl rfl rfl ?_⟩
 simp only [zxj,zxk,opX,isIfc,zz,zq,seval,zl,za,ze,zo,nzs,shA1,shA2,hdelk]
 exact ⟨3,_,_,_,by rw [rightS_clear h]; simp only [f1,f2,Option.bind_some],rfl,clear_x (w:=n1) (x:=n2) ((hd.le hM').le ((hM2.trans hM3).trans hM4)) (hb0.le (hM3.trans hM4)) (hb1.le hM4) hb2,rfl,rfl⟩
theorem right_preempt {bt bd:Nat} {vw:Value} {ws:List Tx} {M:Mem} (hG:GlobM M) (hM:RowM M vw 1 (ws.map wordV)) (hd:BoxM M bd [ptrV bt]) (hw : ∀ w ∈ ws,w.length≤70000) (h:w0S ws=[112,114,101,101,109,112,116]) (hne:1≤ws.length):AskM 73 rightS bt bd vw ws M:=by
 intro q T b v rg wv M' hM' hT hR
 have hwn : ∀ w ∈ ws,w.length≤281474976710656:=fun w h=>Nat.le_trans (hw w h) (by decide)
 have hG1:=hG.le hM'
 have hM1:=hM.le hM'
 have hkd:((fnd ([112,114,101,101,109,112,116]:Tx) manys 0).map (·.2)).getD (.int .i64 0) = .int .i64 4:=rfl
 have hks:(fnd ([112,114,101,101,109,112,116]:Tx) manys 0).isSome=true:=rfl
 refine MeetsX.of_body [0,1,2,3,4,6,7,8,9,10,11,25,27,28,29] Proofs.Tryz.func73 rfl (by kernel_rfl) fun w0 M0=>?_
 rw [h]
 simp only [Proofs.Tryz.f73,LnH,zxj,zxk,opX,isIfc,zz,zq,seval,zl,za,ze,zo,nzs]
 refine ⟨⟨rfl,rfl⟩,⟨rfl,rfl⟩,rfl,OpK.makeMap rfl rfl rfl rfl ?_⟩
 simp only [zxj,zxk,opX,isIfc,zz,zq,seval,zl,za,ze,zo,nzs]
 refine ⟨rfl,OpK.insert (KeyT.string (by kernel_rfl)) (key:=([114,101,103,105,115,116,101,114]:Tx)) (l:=([]:List (Tx×Value))) (kt:=9) (et:=3) (u:=.int .i64 3) rfl rfl (by kernel_rfl) rfl rfl (fun _=>rfl) rfl rfl ?_⟩
 simp only [zxj,zxk,opX,isIfc,zz,zq,seval,zl,za,ze,zo,nzs,hset]
 refine ⟨rfl,OpK.insert (KeyT.string (by kernel_rfl)) (key:=([114,101,115,101,114,118,101]:Tx)) (l:=(upd ([114,101,103,105,115,116,101,114]:Tx) (.int .i64 3) ([]:List (Tx×Value)))) (kt:=9) (et:=3) (u:=.int .i64 3) rfl rfl (by kernel_rfl) rfl rfl (fun _=>rfl) rfl rfl ?_⟩
 simp only [zxj,zxk,opX,isIfc,zz,zq,seval,zl,za,ze,zo,nzs,hset]
 refine ⟨rfl,OpK.insert (KeyT.string (by kernel_rfl)) (key:=([114,101,108,101,97,115,101]:Tx)) (l:=(upd ([114,101,115,101,114,118,101]:Tx) (.int .i64 3) (upd ([114,101,103,105,115,116,101,114]:Tx) (.int .i64 3) ([]:List (Tx×Value))))) (kt:=9) (et:=3) (u:=.int .i64 3) rfl rfl (by kernel_rfl) rfl rfl (fun _=>rfl) rfl rfl ?_⟩
 simp only [zxj,zxk,opX,isIfc,zz,zq,seval,zl,za,ze,zo,nzs,hset]
 refine ⟨rfl,OpK.insert (KeyT.string (by kernel_rfl)) (key:=([99,108,101,97,114]:Tx)) (l:=(upd ([114,101,108,101,97,115,101]:Tx) (.int .i64 3) (upd ([114,101,115,101,114,118,101]:Tx) (.int .i64 3) (upd ([114,101,103,105,115,116,101,114]:Tx) (.int .i64 3) ([]:List (Tx×Value)))))) (kt:=9) (et:=3) (u:=.int .i64 2) rfl rfl (by kernel_rfl) rfl rfl (fun _=>rfl) rfl rfl ?_⟩
 simp only [zxj,zxk,opX,isIfc,zz,zq,seval,zl,za,ze,zo,nzs,hset]
 refine ⟨rfl,OpK.insert (KeyT.string (by kernel_rfl)) (key:=([112,114,101,101,109,112,116]:Tx)) (l:=(upd ([99,108,101,97,114]:Tx) (.int .i64 2) (upd ([114,101,108,101,97,115,101]:Tx) (.int .i64 3) (upd ([114,101,115,101,114,118,101]:Tx) (.int .i64 3) (upd ([114,101,103,105,115,116,101,114]:Tx) (.int .i64 3) ([]:List (Tx×Value))))))) (kt:=9) (et:=3) (u:=.int .i64 4) rfl rfl (by kernel_rfl) rfl rfl (fun _=>rfl) rfl rfl ?_⟩
 simp only [zxj,zxk,opX,isIfc,zz,zq,seval,zl,za,ze,zo,nzs,hset]
 refine ⟨rfl,OpK.insert (KeyT.string (by kernel_rfl)) (key:=([99,114,97,115,104]:Tx)) (l:=(upd ([112,114,101,101,109,112,116]:Tx) (.int .i64 4) (upd ([99,108,101,97,114]:Tx) (.int .i64 2) (upd ([114,101,108,101,97,115,101]:Tx) (.int .i64 3) (upd ([114,101,115,101,114,118,101]:Tx) (.int .i64 3) (upd ([114,101,103,105,115,116,101,114]:Tx) (.int .i64 3) ([]:List (Tx×Value)))))))) (kt:=9) (et:=3) (u:=.int .i64 1) rfl rfl (by kernel_rfl) rfl rfl (fun _=>rfl) rfl rfl ?_⟩
 simp only [zxj,zxk,opX,isIfc,zz,zq,seval,zl,za,ze,zo,nzs,hset]
 refine ⟨rfl,OpK.lookupOk (KeyT.string (by kernel_rfl)) (key:=([112,114,101,101,109,112,116]:Tx)) (l:=manys) (kt:=9) (et:=3) (z:=.int .i64 0) rfl rfl rfl (by kernel_rfl) Proofs.Tryz.zeroValue3 rfl rfl (fun _=>rfl) rfl ?_⟩
 rw [hkd,hks]
 simp only [zxj,zxk,opX,isIfc,zz,zq,seval,zl,za,ze,zo,nzs,decide_true,decide_false]
 refine ⟨⟨rfl,rfl⟩,LoopX.rounds 5 ?_⟩
 simp only [RoundsX_succ,rollQ_normal,rollQ_ret,rollQ_exit,rollQ_panic,zxj,zxk,opX,isIfc,zz,zq,seval,zl,za,ze,zo,nzs,decide_true,decide_false]
 refine CallX.box1 (A:=fun s=>[s]) 8000 (fun s s' ν ν' h=>by simp only [SV.vals,h]) rfl rfl rfl (fun q' M2 hM2=>num_x (i:=1) (hG1.le hM2) (hM1.le hM2) hne hwn) (fun s cs' ⟨x1,n1,a1,e1,hs,hcs⟩=>?_) (fun ch cs' ⟨h0,hch⟩=>?_)
 rotate_left
 · have z0:nmS ws 1=none:=h0
   refine ⟨?_,hch,rfl⟩
   rw [rightS_preempt h]
   simp only [z0,Option.bind_some,Option.bind_none]
 subst hs hcs
 have l1:1 < ws.length:=(List.getElem?_eq_some_iff.1 a1).1
 have f1:nmS ws 1=some n1:=by unfold nmS; rw [a1]; exact e1
 simp only [RoundsX_succ,rollQ_normal,rollQ_ret,rollQ_exit,rollQ_panic,zxj,zxk,opX,isIfc,zz,zq,seval,zl,za,ze,zo,nzs,decide_true,decide_false]
 refine ⟨in64 (by decide) (by decide),?_⟩
 refine CallX.box1 (A:=fun s=>[s]) 8000 (fun s s' ν ν' h=>by simp only [SV.vals,h]) rfl rfl rfl (fun q' M2 hM2=>num_x (i:=2) (hG1.le hM2) (hM1.le hM2) (by omega) hwn) (fun s cs' ⟨x2,n2,a2,e2,hs,hcs⟩=>?_) (fun ch cs' ⟨h0,hch⟩=>?_)
 rotate_left
 · have z0:nmS ws 2=none:=h0
   refine ⟨?_,hch,rfl⟩
   rw [rightS_preempt h]
   simp only [f1,z0,Option.bind_some,Option.bind_none]
 subst hs hcs
 have l2:2 < ws.length:=(List.getElem?_eq_some_iff.1 a2).1
 have f2:nmS ws 2=some n2:=by unfold nmS; rw [a2]; exact e2
 simp only [RoundsX_succ,rollQ_normal,rollQ_ret,rollQ_exit,rollQ_panic,zxj,zxk,opX,isIfc,zz,zq,seval,zl,za,ze,zo,nzs,decide_true,decide_false]
 refine ⟨in64 (by decide) (by decide),?_⟩
 refine CallX.box1 (A:=fun s=>[s]) 8000 (fun s s' ν ν' h=>by simp only [SV.vals,h]) rfl rfl rfl (fun q' M2 hM2=>num_x (i:=3) (hG1.le hM2) (hM1.le hM2) (by omega) hwn) (fun s cs' ⟨x3,n3,a3,e3,hs,hcs⟩=>?_) (fun ch cs' ⟨h0,hch⟩=>?_)
 rotate_left
 · have z0:nmS ws 3=none:=h0
   refine ⟨?_,hch,rfl⟩
   rw [rightS_preempt h]
   simp only [f1,f2,z0,Option.bind_some,Option.bind_none]
 subst hs hcs
 have l3:3 < ws.length:=(List.getElem?_eq_some_iff.1 a3).1
 have f3:nmS ws 3=some n3:=by unfold nmS; rw [a3]; exact e3
 simp only [RoundsX_succ,rollQ_normal,rollQ_ret,rollQ_exit,rollQ_panic,zxj,zxk,opX,isIfc,zz,zq,seval,zl,za,ze,zo,nzs,decide_true,decide_false]
 refine ⟨in64 (by decide) (by decide),?_⟩
 refine CallX.box1 (A:=fun s=>[s]) 8000 (fun s s' ν ν' h=>by simp only [SV.vals,h]) rfl rfl rfl (fun q' M2 hM2=>num_x (i:=4) (hG1.le hM2) (hM1.le hM2) (by omega) hwn) (fun s cs' ⟨x4,n4,a4,e4,hs,hcs⟩=>?_) (fun ch cs' ⟨h0,hch⟩=>?_)
 rotate_left
 · have z0:nmS ws 4=none:=h0
   refine ⟨?_,hch,rfl⟩
   rw [rightS_preempt h]
   simp only [f1,f2,f3,z0,Option.bind_some,Option.bind_none]
 subst hs hcs
 have l4:4 < ws.length:=(List.getElem?_eq_some_iff.1 a4).1
 have f4:nmS ws 4=some n4:=by unfold nmS; rw [a4]; exact e4
 simp only [RoundsX_succ,rollQ_normal,rollQ_ret,rollQ_exit,rollQ_panic,zxj,zxk,opX,isIfc,zz,zq,seval,zl,za,ze,zo,nzs,decide_true,decide_false]
 refine ⟨in64 (by decide) (by decide),?_⟩
 refine ⟨rfl,OpK.pubB (k:=32) rfl rfl fun b0 M2 hM2 hb0=>OpK.pubB (k:=24) rfl rfl fun b1 M3 hM3 hb1=>OpK.pubB (k:=80) rfl rfl fun b2 M4 hM4 hb2=>OpK.mkFn (l:=[.v (ptrV b0),.v (ptrV b1),.v (ptrV b2)]) rfl rfl rfl rfl ?_⟩
 simp only [zxj,zxk,opX,isIfc,zz,zq,seval,zl,za,ze,zo,nzs,shA1,shA2,hdelk]
 exact ⟨5,_,_,_,by rw [rightS_preempt h]; simp only [f1,f2,f3,f4,Option.bind_some],rfl,preempt_x (w:=n1) (x:=n2) (y:=n3) (z:=n4) ((hd.le hM').le ((hM2.trans hM3).trans hM4)) (hb0.le (hM3.trans hM4)) (hb1.le hM4) hb2,rfl,rfl⟩
theorem right_crash {bt bd:Nat} {vw:Value} {ws:List Tx} {M:Mem} (hG:GlobM M) (hM:RowM M vw 1 (ws.map wordV)) (hd:BoxM M bd [ptrV bt]) (hw : ∀ w ∈ ws,w.length≤70000) (h:w0S ws=[99,114,97,115,104]) (hne:1≤ws.length):AskM 73 rightS bt bd vw ws M:=by
 intro q T b v rg wv M' hM' hT hR
 have hwn : ∀ w ∈ ws,w.length≤281474976710656:=fun w h=>Nat.le_trans (hw w h) (by decide)
 have hG1:=hG.le hM'
 have hM1:=hM.le hM'
 have hkd:((fnd ([99,114,97,115,104]:Tx) manys 0).map (·.2)).getD (.int .i64 0) = .int .i64 1:=rfl
 have hks:(fnd ([99,114,97,115,104]:Tx) manys 0).isSome=true:=rfl
 refine MeetsX.of_body [0,1,2,3,4,6,7,8,9,10,11,25,27,28,29] Proofs.Tryz.func73 rfl (by kernel_rfl) fun w0 M0=>?_
 rw [h]
 simp only [Proofs.Tryz.f73,LnH,zxj,zxk,opX,isIfc,zz,zq,seval,zl,za,ze,zo,nzs]
 refine ⟨⟨rfl,rfl⟩,⟨rfl,rfl⟩,rfl,OpK.makeMap rfl rfl rfl rfl ?_⟩
 simp only [zxj,zxk,opX,isIfc,zz,zq,seval,zl,za,ze,zo,nzs]
 refine ⟨rfl,OpK.insert (KeyT.string (by kernel_rfl)) (key:=([114,101,103,105,115,116,101,114]:Tx)) (l:=([]:List (Tx×Value))) (kt:=9) (et:=3) (u:=.int .i64 3) rfl rfl (by kernel_rfl) rfl rfl (fun _=>rfl) rfl rfl ?_⟩
 simp only [zxj,zxk,opX,isIfc,zz,zq,seval,zl,za,ze,zo,nzs,hset]
 refine ⟨rfl,OpK.insert (KeyT.string (by kernel_rfl)) (key:=([114,101,115,101,114,118,101]:Tx)) (l:=(upd ([114,101,103,105,115,116,101,114]:Tx) (.int .i64 3) ([]:List (Tx×Value)))) (kt:=9) (et:=3) (u:=.int .i64 3) rfl rfl (by kernel_rfl) rfl rfl (fun _=>rfl) rfl rfl ?_⟩
 simp only [zxj,zxk,opX,isIfc,zz,zq,seval,zl,za,ze,zo,nzs,hset]
 refine ⟨rfl,OpK.insert (KeyT.string (by kernel_rfl)) (key:=([114,101,108,101,97,115,101]:Tx)) (l:=(upd ([114,101,115,101,114,118,101]:Tx) (.int .i64 3) (upd ([114,101,103,105,115,116,101,114]:Tx) (.int .i64 3) ([]:List (Tx×Value))))) (kt:=9) (et:=3) (u:=.int .i64 3) rfl rfl (by kernel_rfl) rfl rfl (fun _=>rfl) rfl rfl ?_⟩
 simp only [zxj,zxk,opX,isIfc,zz,zq,seval,zl,za,ze,zo,nzs,hset]
 refine ⟨rfl,OpK.insert (KeyT.string (by kernel_rfl)) (key:=([99,108,101,97,114]:Tx)) (l:=(upd ([114,101,108,101,97,115,101]:Tx) (.int .i64 3) (upd ([114,101,115,101,114,118,101]:Tx) (.int .i64 3) (upd ([114,101,103,105,115,116,101,114]:Tx) (.int .i64 3) ([]:List (Tx×Value)))))) (kt:=9) (et:=3) (u:=.int .i64 2) rfl rfl (by kernel_rfl) rfl rfl (fun _=>rfl) rfl rfl ?_⟩
 simp only [zxj,zxk,opX,isIfc,zz,zq,seval,zl,za,ze,zo,nzs,hset]
 refine ⟨rfl,OpK.insert (KeyT.string (by kernel_rfl)) (key:=([112,114,101,101,109,112,116]:Tx)) (l:=(upd ([99,108,101,97,114]:Tx) (.int .i64 2) (upd ([114,101,108,101,97,115,101]:Tx) (.int .i64 3) (upd ([114,101,115,101,114,118,101]:Tx) (.int .i64 3) (upd ([114,101,103,105,115,116,101,114]:Tx) (.int .i64 3) ([]:List (Tx×Value))))))) (kt:=9) (et:=3) (u:=.int .i64 4) rfl rfl (by kernel_rfl) rfl rfl (fun _=>rfl) rfl rfl ?_⟩
 simp only [zxj,zxk,opX,isIfc,zz,zq,seval,zl,za,ze,zo,nzs,hset]
 refine ⟨rfl,OpK.insert (KeyT.string (by kernel_rfl)) (key:=([99,114,97,115,104]:Tx)) (l:=(upd ([112,114,101,101,109,112,116]:Tx) (.int .i64 4) (upd ([99,108,101,97,114]:Tx) (.int .i64 2) (upd ([114,101,108,101,97,115,101]:Tx) (.int .i64 3) (upd ([114,101,115,101,114,118,101]:Tx) (.int .i64 3) (upd ([114,101,103,105,115,116,101,114]:Tx) (.int .i64 3) ([]:List (Tx×Value)))))))) (kt:=9) (et:=3) (u:=.int .i64 1) rfl rfl (by kernel_rfl) rfl rfl (fun _=>rfl) rfl rfl ?_⟩
 simp only [zxj,zxk,opX,isIfc,zz,zq,seval,zl,za,ze,zo,nzs,hset]
 refine ⟨rfl,OpK.lookupOk (KeyT.string (by kernel_rfl)) (key:=([99,114,97,115,104]:Tx)) (l:=manys) (kt:=9) (et:=3) (z:=.int .i64 0) rfl rfl rfl (by kernel_rfl) Proofs.Tryz.zeroValue3 rfl rfl (fun _=>rfl) rfl ?_⟩
 rw [hkd,hks]
 simp only [zxj,zxk,opX,isIfc,zz,zq,seval,zl,za,ze,zo,nzs,decide_true,decide_false]
 refine ⟨⟨rfl,rfl⟩,LoopX.rounds 2 ?_⟩
 simp only [RoundsX_succ,rollQ_normal,rollQ_ret,rollQ_exit,rollQ_panic,zxj,zxk,opX,isIfc,zz,zq,seval,zl,za,ze,zo,nzs,decide_true,decide_false]
 refine CallX.box1 (A:=fun s=>[s]) 8000 (fun s s' ν ν' h=>by simp only [SV.vals,h]) rfl rfl rfl (fun q' M2 hM2=>num_x (i:=1) (hG1.le hM2) (hM1.le hM2) hne hwn) (fun s cs' ⟨x1,n1,a1,e1,hs,hcs⟩=>?_) (fun ch cs' ⟨h0,hch⟩=>?_)
 rotate_left
 · have z0:nmS ws 1=none:=h0
   refine ⟨?_,hch,rfl⟩
   rw [rightS_crash h]
   simp only [z0,Option.bind_some,Option.bind_none]
 subst hs hcs
 have l1:1 < ws.length:=(List.getElem?_eq_some_iff.1 a1).1
 have f1:nmS ws 1=some n1:=by unfold nmS; rw [a1]; exact e1
 simp only [RoundsX_succ,rollQ_normal,rollQ_ret,rollQ_exit,rollQ_panic,zxj,zxk,opX,isIfc,zz,zq,seval,zl,za,ze,zo,nzs,decide_true,decide_false]
 refine ⟨in64 (by decide) (by decide),?_⟩
 refine ⟨rfl,OpK.pubB (k:=32) rfl rfl fun b0 M2 hM2 hb0=>OpK.pubB (k:=24) rfl rfl fun b1 M3 hM3 hb1=>OpK.pubB (k:=80) rfl rfl fun b2 M4 hM4 hb2=>OpK.mkFn (l:=[.v (ptrV b0),.v (ptrV b1),.v (ptrV b2)]) rfl rfl rfl rfl ?_⟩
 simp only [zxj,zxk,opX,isIfc,zz,zq,seval,zl,za,ze,zo,nzs,shA1,shA2,hdelk]
 exact ⟨2,_,_,_,by rw [rightS_crash h]; simp only [f1,Option.bind_some],rfl,crash_x (n:=n1) (by have:=numS_lt e1; omega) (hG1.le ((hM2.trans hM3).trans hM4)) ((hd.le hM').le ((hM2.trans hM3).trans hM4)) (hb0.le (hM3.trans hM4)) (hb1.le hM4) hb2,rfl,rfl⟩
theorem right_all {bt bd:Nat} {vw:Value} {ws:List Tx} {M:Mem} (hG:GlobM M) (hM:RowM M vw 1 (ws.map wordV)) (hd:BoxM M bd [ptrV bt]) (hw : ∀ w ∈ ws,w.length≤70000) (h:w0S ws=[97,108,108]) (hne:1≤ws.length):AskM 73 rightS bt bd vw ws M:=by
 intro q T b v rg wv M' hM' hT hR
 have hwn : ∀ w ∈ ws,w.length≤281474976710656:=fun w h=>Nat.le_trans (hw w h) (by decide)
 have hG1:=hG.le hM'
 have hM1:=hM.le hM'
 have hkd:((fnd ([97,108,108]:Tx) manys 0).map (·.2)).getD (.int .i64 0) = .int .i64 0:=rfl
 have hks:(fnd ([97,108,108]:Tx) manys 0).isSome=false:=rfl
 refine MeetsX.of_body [0,1,2,3,4,6,7,8,9,10,11,25,27,28,29] Proofs.Tryz.func73 rfl (by kernel_rfl) fun w0 M0=>?_
 rw [h]
 simp only [Proofs.Tryz.f73,LnH,zxj,zxk,opX,isIfc,zz,zq,seval,zl,za,ze,zo,nzs]
 refine ⟨⟨rfl,rfl⟩,⟨rfl,rfl⟩,rfl,OpK.makeMap rfl rfl rfl rfl ?_⟩
 simp only [zxj,zxk,opX,isIfc,zz,zq,seval,zl,za,ze,zo,nzs]
 refine ⟨rfl,OpK.insert (KeyT.string (by kernel_rfl)) (key:=([114,101,103,105,115,116,101,114]:Tx)) (l:=([]:List (Tx×Value))) (kt:=9) (et:=3) (u:=.int .i64 3) rfl rfl (by kernel_rfl) rfl rfl (fun _=>rfl) rfl rfl ?_⟩
 simp only [zxj,zxk,opX,isIfc,zz,zq,seval,zl,za,ze,zo,nzs,hset]
 refine ⟨rfl,OpK.insert (KeyT.string (by kernel_rfl)) (key:=([114,101,115,101,114,118,101]:Tx)) (l:=(upd ([114,101,103,105,115,116,101,114]:Tx) (.int .i64 3) ([]:List (Tx×Value)))) (kt:=9) (et:=3) (u:=.int .i64 3) rfl rfl (by kernel_rfl) rfl rfl (fun _=>rfl) rfl rfl ?_⟩
 simp only [zxj,zxk,opX,isIfc,zz,zq,seval,zl,za,ze,zo,nzs,hset]
 refine ⟨rfl,OpK.insert (KeyT.string (by kernel_rfl)) (key:=([114,101,108,101,97,115,101]:Tx)) (l:=(upd ([114,101,115,101,114,118,101]:Tx) (.int .i64 3) (upd ([114,101,103,105,115,116,101,114]:Tx) (.int .i64 3) ([]:List (Tx×Value))))) (kt:=9) (et:=3) (u:=.int .i64 3) rfl rfl (by kernel_rfl) rfl rfl (fun _=>rfl) rfl rfl ?_⟩
 simp only [zxj,zxk,opX,isIfc,zz,zq,seval,zl,za,ze,zo,nzs,hset]
 refine ⟨rfl,OpK.insert (KeyT.string (by kernel_rfl)) (key:=([99,108,101,97,114]:Tx)) (l:=(upd ([114,101,108,101,97,115,101]:Tx) (.int .i64 3) (upd ([114,101,115,101,114,118,101]:Tx) (.int .i64 3) (upd ([114,101,103,105,115,116,101,114]:Tx) (.int .i64 3) ([]:List (Tx×Value)))))) (kt:=9) (et:=3) (u:=.int .i64 2) rfl rfl (by kernel_rfl) rfl rfl (fun _=>rfl) rfl rfl ?_⟩
 simp only [zxj,zxk,opX,isIfc,zz,zq,seval,zl,za,ze,zo,nzs,hset]
 refine ⟨rfl,OpK.insert (KeyT.string (by kernel_rfl)) (key:=([112,114,101,101,109,112,116]:Tx)) (l:=(upd ([99,108,101,97,114]:Tx) (.int .i64 2) (upd ([114,101,108,101,97,115,101]:Tx) (.int .i64 3) (upd ([114,101,115,101,114,118,101]:Tx) (.int .i64 3) (upd ([114,101,103,105,115,116,101,114]:Tx) (.int .i64 3) ([]:List (Tx×Value))))))) (kt:=9) (et:=3) (u:=.int .i64 4) rfl rfl (by kernel_rfl) rfl rfl (fun _=>rfl) rfl rfl ?_⟩
 simp only [zxj,zxk,opX,isIfc,zz,zq,seval,zl,za,ze,zo,nzs,hset]
 refine ⟨rfl,OpK.insert (KeyT.string (by kernel_rfl)) (key:=([99,114,97,115,104]:Tx)) (l:=(upd ([112,114,101,101,109,112,116]:Tx) (.int .i64 4) (upd ([99,108,101,97,114]:Tx) (.int .i64 2) (upd ([114,101,108,101,97,115,101]:Tx) (.int .i64 3) (upd ([114,101,115,101,114,118,101]:Tx) (.int .i64 3) (upd ([114,101,103,105,115,116,101,114]:Tx) (.int .i64 3) ([]:List (Tx×Value)))))))) (kt:=9) (et:=3) (u:=.int .i64 1) rfl rfl (by kernel_rfl) rfl rfl (fun _=>rfl) rfl rfl ?_⟩
 simp only [zxj,zxk,opX,isIfc,zz,zq,seval,zl,za,ze,zo,nzs,hset]
 refine ⟨rfl,OpK.lookupOk (KeyT.string (by kernel_rfl)) (key:=([97,108,108]:Tx)) (l:=manys) (kt:=9) (et:=3) (z:=.int .i64 0) rfl rfl rfl (by kernel_rfl) Proofs.Tryz.zeroValue3 rfl rfl (fun _=>rfl) rfl ?_⟩
 rw [hkd,hks]
 simp only [zxj,zxk,opX,isIfc,zz,zq,seval,zl,za,ze,zo,nzs,decide_true,decide_false]
 refine ⟨⟨rfl,rfl⟩,LoopX.rounds 1 ?_⟩
 simp only [RoundsX_succ,rollQ_normal,rollQ_ret,rollQ_exit,rollQ_panic,zxj,zxk,opX,isIfc,zz,zq,seval,zl,za,ze,zo,nzs,decide_true,decide_false]
 refine ⟨rfl,OpK.pubB (k:=32) rfl rfl fun b0 M2 hM2 hb0=>OpK.pubB (k:=24) rfl rfl fun b1 M3 hM3 hb1=>OpK.pubB (k:=80) rfl rfl fun b2 M4 hM4 hb2=>OpK.mkFn (l:=[.v (ptrV b0),.v (ptrV b1),.v (ptrV b2)]) rfl rfl rfl rfl ?_⟩
 simp only [zxj,zxk,opX,isIfc,zz,zq,seval,zl,za,ze,zo,nzs,shA1,shA2,hdelk]
 exact ⟨1,_,_,_,by rw [rightS_all h],rfl,all_x (hG1.le ((hM2.trans hM3).trans hM4)) ((hd.le hM').le ((hM2.trans hM3).trans hM4)) (hb0.le (hM3.trans hM4)) (hb1.le hM4) hb2,rfl,rfl⟩
end Go.X.Dk

