/- The desk: what a deed's line asks. Conditions: none. (Printed by mkdkd.py.) -/
import Derived.Test.YthafjlokddpjfaaGreatDoorDkB
open Int renaming cast_ofNat_Int→zl,natCast_zero→za,natCast_one→ze,toNat_natCast→zo
namespace Go.X.Vo
end Go.X.Vo
namespace Go.X.Tg
end Go.X.Tg
namespace Go.X.Th
end Go.X.Th
set_option linter.unusedSimpArgs false
set_option linter.unusedVariables false
set_option maxHeartbeats 4000000
set_option maxRecDepth 20000
namespace Go.X.Dk
open Go Go.X Go.RowKit Go.X.Vo Go.X.Tg Go.X.Th
def kinds:List (Tx×Value):=(upd ([99,108,111,110,101]:Tx) (.int .i64 5) (upd ([116,114,105,109]:Tx) (.int .i64 4) (upd ([119,114,105,116,101]:Tx) (.int .i64 3) (upd ([100,114,111,112]:Tx) (.int .i64 2) (upd ([109,97,107,101]:Tx) (.int .i64 1) ([]:List (Tx×Value)))))))

theorem deed_make {bt bd:Nat} {vw:Value} {ws:List Tx} {M:Mem} (hG:GlobM M) (hM:RowM M vw 1 (ws.map wordV)) (hd:BoxM M bd [ptrV bt]) (hw : ∀ w ∈ ws,w.length≤70000) (h:w0S ws=[109,97,107,101]) (hne:1≤ws.length):AskM 72 deedS bt bd vw ws M:=by
 intro q T b v rg wv M' hM' hT hR
 have hwn : ∀ w ∈ ws,w.length≤281474976710656:=fun w h=>Nat.le_trans (hw w h) (by decide)
 have hG1:=hG.le hM'
 have hM1:=hM.le hM'
 have hkd:((fnd ([109,97,107,101]:Tx) kinds 0).map (·.2)).getD (.int .i64 0) = .int .i64 1:=rfl
 refine MeetsX.of_body [0,1,2,3,6,7,8,9,19,26,27,34,42,48] Proofs.Tryz.func72 rfl (by kernel_rfl) fun w0 M0=>?_
 rw [h]
 simp only [Proofs.Tryz.f72,LnH,zxj,zxk,opX,isIfc,zz,zq,seval,zl,za,ze,zo,nzs]
 refine ⟨⟨rfl,rfl⟩,rfl,OpK.makeMap rfl rfl rfl rfl ?_⟩
 simp only [zxj,zxk,opX,isIfc,zz,zq,seval,zl,za,ze,zo,nzs]
 refine ⟨rfl,OpK.insert (KeyT.string (by kernel_rfl)) (key:=([109,97,107,101]:Tx)) (l:=([]:List (Tx×Value))) (kt:=9) (et:=3) (u:=.int .i64 1) rfl rfl (by kernel_rfl) rfl rfl (fun _=>rfl) rfl rfl ?_⟩
 simp only [zxj,zxk,opX,isIfc,zz,zq,seval,zl,za,ze,zo,nzs,hset]
 refine ⟨rfl,OpK.insert (KeyT.string (by kernel_rfl)) (key:=([100,114,111,112]:Tx)) (l:=(upd ([109,97,107,101]:Tx) (.int .i64 1) ([]:List (Tx×Value)))) (kt:=9) (et:=3) (u:=.int .i64 2) rfl rfl (by kernel_rfl) rfl rfl (fun _=>rfl) rfl rfl ?_⟩
 simp only [zxj,zxk,opX,isIfc,zz,zq,seval,zl,za,ze,zo,nzs,hset]
 refine ⟨rfl,OpK.insert (KeyT.string (by kernel_rfl)) (key:=([119,114,105,116,101]:Tx)) (l:=(upd ([100,114,111,112]:Tx) (.int .i64 2) (upd ([109,97,107,101]:Tx) (.int .i64 1) ([]:List (Tx×Value))))) (kt:=9) (et:=3) (u:=.int .i64 3) rfl rfl (by kernel_rfl) rfl rfl (fun _=>rfl) rfl rfl ?_⟩
 simp only [zxj,zxk,opX,isIfc,zz,zq,seval,zl,za,ze,zo,nzs,hset]
 refine ⟨rfl,OpK.insert (KeyT.string (by kernel_rfl)) (key:=([116,114,105,109]:Tx)) (l:=(upd ([119,114,105,116,101]:Tx) (.int .i64 3) (upd ([100,114,111,112]:Tx) (.int .i64 2) (upd ([109,97,107,101]:Tx) (.int .i64 1) ([]:List (Tx×Value)))))) (kt:=9) (et:=3) (u:=.int .i64 4) rfl rfl (by kernel_rfl) rfl rfl (fun _=>rfl) rfl rfl ?_⟩
 simp only [zxj,zxk,opX,isIfc,zz,zq,seval,zl,za,ze,zo,nzs,hset]
 refine ⟨rfl,OpK.insert (KeyT.string (by kernel_rfl)) (key:=([99,108,111,110,101]:Tx)) (l:=(upd ([116,114,105,109]:Tx) (.int .i64 4) (upd ([119,114,105,116,101]:Tx) (.int .i64 3) (upd ([100,114,111,112]:Tx) (.int .i64 2) (upd ([109,97,107,101]:Tx) (.int .i64 1) ([]:List (Tx×Value))))))) (kt:=9) (et:=3) (u:=.int .i64 5) rfl rfl (by kernel_rfl) rfl rfl (fun _=>rfl) rfl rfl ?_⟩
 simp only [zxj,zxk,opX,isIfc,zz,zq,seval,zl,za,ze,zo,nzs,hset]
 refine ⟨rfl,OpK.lookup (KeyT.string (by kernel_rfl)) (key:=([109,97,107,101]:Tx)) (l:=kinds) (kt:=9) (et:=3) (z:=.int .i64 0) rfl rfl rfl (by kernel_rfl) Proofs.Tryz.zeroValue3 rfl rfl (fun _=>rfl) rfl ?_⟩
 rw [hkd]
 simp only [zxj,zxk,opX,isIfc,zz,zq,seval,zl,za,ze,zo,nzs,decide_true,decide_false]
 refine CallX.box1 (A:=fun s=>[s]) 8000 (fun s s' ν ν' h=>by simp only [SV.vals,h]) rfl rfl rfl (fun q' M2 hM2=>num_x (i:=1) (hG1.le hM2) (hM1.le hM2) hne hwn) (fun s cs' ⟨x1,n1,a1,e1,hs,hcs⟩=>?_) (fun ch cs' ⟨h0,hch⟩=>?_)
 rotate_left
 · have z0:nmS ws 1=none:=h0
   refine ⟨?_,hch,rfl⟩
   rw [deedS_make h]
   simp only [z0,Option.bind_some,Option.bind_none]
 subst hs hcs
 have l1:1 < ws.length:=(List.getElem?_eq_some_iff.1 a1).1
 have f1:nmS ws 1=some n1:=by unfold nmS; rw [a1]; exact e1
 simp only [zxj,zxk,opX,isIfc,zz,zq,seval,zl,za,ze,zo,nzs,w_make_trim,w_make_read,w_make_write,w_make_clone,decide_true,decide_false]
 refine ⟨⟨rfl,rfl⟩,?_⟩
 refine CallX.box1 (A:=fun s=>[s]) 8000 (fun s s' ν ν' h=>by simp only [SV.vals,h]) rfl rfl rfl (fun q' M2 hM2=>word_x (i:=2) (hM1.le hM2) (by omega)) (fun s cs' ⟨x2,a2,hs,hcs⟩=>?_) (fun ch cs' ⟨h0,hch,_⟩=>?_)
 rotate_left
 · have z0:ws[2]? = none:=h0
   refine ⟨?_,hch,rfl⟩
   rw [deedS_make h]
   simp only [f1,z0,Option.bind_some,Option.bind_none]
 subst hs hcs
 have l2:2 < ws.length:=(List.getElem?_eq_some_iff.1 a2).1
 simp only [zxj,zxk,opX,isIfc,zz,zq,seval,zl,za,ze,zo,nzs,w_make_trim,w_make_read,w_make_write,w_make_clone,decide_true,decide_false]
 refine ⟨⟨rfl,rfl⟩,?_⟩
 refine CallX.box1 (A:=fun s=>[s]) 8000 (fun s s' ν ν' h=>by simp only [SV.vals,h]) rfl rfl rfl (fun q' M2 hM2=>num_x (i:=3) (hG1.le hM2) (hM1.le hM2) (by omega) hwn) (fun s cs' ⟨x3,n3,a3,e3,hs,hcs⟩=>?_) (fun ch cs' ⟨h0,hch⟩=>?_)
 rotate_left
 · have z0:nmS ws 3=none:=h0
   refine ⟨?_,hch,rfl⟩
   rw [deedS_make h]
   simp only [f1,a2,z0,Option.bind_some,Option.bind_none]
 subst hs hcs
 have l3:3 < ws.length:=(List.getElem?_eq_some_iff.1 a3).1
 have f3:nmS ws 3=some n3:=by unfold nmS; rw [a3]; exact e3
 simp only [zxj,zxk,opX,isIfc,zz,zq,seval,zl,za,ze,zo,nzs,w_make_trim,w_make_read,w_make_write,w_make_clone,decide_true,decide_false]
 refine ⟨rfl,OpK.pubB (k:=24) rfl rfl fun b0 M2 hM2 hb0=>OpK.pubB (k:=64) rfl rfl fun b1 M3 hM3 hb1=>OpK.pubB (k:=72) rfl rfl fun b2 M4 hM4 hb2=>OpK.mkFn (l:=[.v (ptrV b0),.v (ptrV b1),.v (ptrV b2)]) rfl rfl rfl rfl ?_⟩
 simp only [zxj,zxk,opX,isIfc,zz,zq,seval,zl,za,ze,zo,nzs,shA1,shA2,hdelk]
 exact ⟨4,_,_,_,by rw [deedS_make h]; simp only [f1,a2,f3,Option.bind_some],rfl,deed2_x (w:=n1) (o:=(1,x2,[],n3,[])) ((hd.le hM').le ((hM2.trans hM3).trans hM4)) (hb0.le (hM3.trans hM4)) (hb1.le hM4) hb2,rfl,rfl⟩
theorem deed_drop {bt bd:Nat} {vw:Value} {ws:List Tx} {M:Mem} (hG:GlobM M) (hM:RowM M vw 1 (ws.map wordV)) (hd:BoxM M bd [ptrV bt]) (hw : ∀ w ∈ ws,w.length≤70000) (h:w0S ws=[100,114,111,112]) (hne:1≤ws.length):AskM 72 deedS bt bd vw ws M:=by
 intro q T b v rg wv M' hM' hT hR
 have hwn : ∀ w ∈ ws,w.length≤281474976710656:=fun w h=>Nat.le_trans (hw w h) (by decide)
 have hG1:=hG.le hM'
 have hM1:=hM.le hM'
 have hkd:((fnd ([100,114,111,112]:Tx) kinds 0).map (·.2)).getD (.int .i64 0) = .int .i64 2:=rfl
 refine MeetsX.of_body [0,1,2,3,6,7,8,9,19,26,27,34,42,48] Proofs.Tryz.func72 rfl (by kernel_rfl) fun w0 M0=>?_
 rw [h]
 simp only [Proofs.Tryz.f72,LnH,zxj,zxk,opX,isIfc,zz,zq,seval,zl,za,ze,zo,nzs]
 refine ⟨⟨rfl,rfl⟩,rfl,OpK.makeMap rfl rfl rfl rfl ?_⟩
 simp only [zxj,zxk,opX,isIfc,zz,zq,seval,zl,za,ze,zo,nzs]
 refine ⟨rfl,OpK.insert (KeyT.string (by kernel_rfl)) (key:=([109,97,107,101]:Tx)) (l:=([]:List (Tx×Value))) (kt:=9) (et:=3) (u:=.int .i64 1) rfl rfl (by kernel_rfl) rfl rfl (fun _=>rfl) rfl rfl ?_⟩
 simp only [zxj,zxk,opX,isIfc,zz,zq,seval,zl,za,ze,zo,nzs,hset]
 refine ⟨rfl,OpK.insert (KeyT.string (by kernel_rfl)) (key:=([100,114,111,112]:Tx)) (l:=(upd ([109,97,107,101]:Tx) (.int .i64 1) ([]:List (Tx×Value)))) (kt:=9) (et:=3) (u:=.int .i64 2) rfl rfl (by kernel_rfl) rfl rfl (fun _=>rfl) rfl rfl ?_⟩
 simp only [zxj,zxk,opX,isIfc,zz,zq,seval,zl,za,ze,zo,nzs,hset]
 refine ⟨rfl,OpK.insert (KeyT.string (by kernel_rfl)) (key:=([119,114,105,116,101]:Tx)) (l:=(upd ([100,114,111,112]:Tx) (.int .i64 2) (upd ([109,97,107,101]:Tx) (.int .i64 1) ([]:List (Tx×Value))))) (kt:=9) (et:=3) (u:=.int .i64 3) rfl rfl (by kernel_rfl) rfl rfl (fun _=>rfl) rfl rfl ?_⟩
 simp only [zxj,zxk,opX,isIfc,zz,zq,seval,zl,za,ze,zo,nzs,hset]
 refine ⟨rfl,OpK.insert (KeyT.string (by kernel_rfl)) (key:=([116,114,105,109]:Tx)) (l:=(upd ([119,114,105,116,101]:Tx) (.int .i64 3) (upd ([100,114,111,112]:Tx) (.int .i64 2) (upd ([109,97,107,101]:Tx) (.int .i64 1) ([]:List (Tx×Value)))))) (kt:=9) (et:=3) (u:=.int .i64 4) rfl rfl (by kernel_rfl) rfl rfl (fun _=>rfl) rfl rfl ?_⟩
 simp only [zxj,zxk,opX,isIfc,zz,zq,seval,zl,za,ze,zo,nzs,hset]
 refine ⟨rfl,OpK.insert (KeyT.string (by kernel_rfl)) (key:=([99,108,111,110,101]:Tx)) (l:=(upd ([116,114,105,109]:Tx) (.int .i64 4) (upd ([119,114,105,116,101]:Tx) (.int .i64 3) (upd ([100,114,111,112]:Tx) (.int .i64 2) (upd ([109,97,107,101]:Tx) (.int .i64 1) ([]:List (Tx×Value))))))) (kt:=9) (et:=3) (u:=.int .i64 5) rfl rfl (by kernel_rfl) rfl rfl (fun _=>rfl) rfl rfl ?_⟩
 simp only [zxj,zxk,opX,isIfc,zz,zq,seval,zl,za,ze,zo,nzs,hset]
 refine ⟨rfl,OpK.lookup (KeyT.string (by kernel_rfl)) (key:=([100,114,111,112]:Tx)) (l:=kinds) (kt:=9) (et:=3) (z:=.int .i64 0) rfl rfl rfl (by kernel_rfl) Proofs.Tryz.zeroValue3 rfl rfl (fun _=>rfl) rfl ?_⟩
 rw [hkd]
 simp only [zxj,zxk,opX,isIfc,zz,zq,seval,zl,za,ze,zo,nzs,decide_true,decide_false]
 refine CallX.box1 (A:=fun s=>[s]) 8000 (fun s s' ν ν' h=>by simp only [SV.vals,h]) rfl rfl rfl (fun q' M2 hM2=>num_x (i:=1) (hG1.le hM2) (hM1.le hM2) hne hwn) (fun s cs' ⟨x1,n1,a1,e1,hs,hcs⟩=>?_) (fun ch cs' ⟨h0,hch⟩=>?_)
 rotate_left
 · have z0:nmS ws 1=none:=h0
   refine ⟨?_,hch,rfl⟩
   rw [deedS_drop h]
   simp only [z0,Option.bind_some,Option.bind_none]
 subst hs hcs
 have l1:1 < ws.length:=(List.getElem?_eq_some_iff.1 a1).1
 have f1:nmS ws 1=some n1:=by unfold nmS; rw [a1]; exact e1
 simp only [zxj,zxk,opX,isIfc,zz,zq,seval,zl,za,ze,zo,nzs,w_drop_make,w_drop_trim,w_drop_read,w_drop_write,w_drop_clone,decide_true,decide_false]
 refine ⟨⟨rfl,rfl⟩,?_⟩
 refine CallX.box1 (A:=fun s=>[s]) 8000 (fun s s' ν ν' h=>by simp only [SV.vals,h]) rfl rfl rfl (fun q' M2 hM2=>word_x (i:=2) (hM1.le hM2) (by omega)) (fun s cs' ⟨x2,a2,hs,hcs⟩=>?_) (fun ch cs' ⟨h0,hch,_⟩=>?_)
 rotate_left
 · have z0:ws[2]? = none:=h0
   refine ⟨?_,hch,rfl⟩
   rw [deedS_drop h]
   simp only [f1,z0,Option.bind_some,Option.bind_none]
 subst hs hcs
 have l2:2 < ws.length:=(List.getElem?_eq_some_iff.1 a2).1
 simp only [zxj,zxk,opX,isIfc,zz,zq,seval,zl,za,ze,zo,nzs,w_drop_make,w_drop_trim,w_drop_read,w_drop_write,w_drop_clone,decide_true,decide_false]
 refine ⟨⟨rfl,rfl⟩,?_⟩
 refine ⟨rfl,OpK.pubB (k:=24) rfl rfl fun b0 M2 hM2 hb0=>OpK.pubB (k:=64) rfl rfl fun b1 M3 hM3 hb1=>OpK.pubB (k:=72) rfl rfl fun b2 M4 hM4 hb2=>OpK.mkFn (l:=[.v (ptrV b0),.v (ptrV b1),.v (ptrV b2)]) rfl rfl rfl rfl ?_⟩
 simp only [zxj,zxk,opX,isIfc,zz,zq,seval,zl,za,ze,zo,nzs,shA1,shA2,hdelk]
 exact ⟨3,_,_,_,by rw [deedS_drop h]; simp only [f1,a2,Option.bind_some],rfl,deed2_x (w:=n1) (o:=(2,x2,[],0,[])) ((hd.le hM').le ((hM2.trans hM3).trans hM4)) (hb0.le (hM3.trans hM4)) (hb1.le hM4) hb2,rfl,rfl⟩
theorem deed_write {bt bd:Nat} {vw:Value} {ws:List Tx} {M:Mem} (hG:GlobM M) (hM:RowM M vw 1 (ws.map wordV)) (hd:BoxM M bd [ptrV bt]) (hw : ∀ w ∈ ws,w.length≤70000) (h:w0S ws=[119,114,105,116,101]) (hne:1≤ws.length):AskM 72 deedS bt bd vw ws M:=by
 intro q T b v rg wv M' hM' hT hR
 have hwn : ∀ w ∈ ws,w.length≤281474976710656:=fun w h=>Nat.le_trans (hw w h) (by decide)
 have hG1:=hG.le hM'
 have hM1:=hM.le hM'
 have hkd:((fnd ([119,114,105,116,101]:Tx) kinds 0).map (·.2)).getD (.int .i64 0) = .int .i64 3:=rfl
 refine MeetsX.of_body [0,1,2,3,6,7,8,9,19,26,27,34,42,48] Proofs.Tryz.func72 rfl (by kernel_rfl) fun w0 M0=>?_
 rw [h]
 simp only [Proofs.Tryz.f72,LnH,zxj,zxk,opX,isIfc,zz,zq,seval,zl,za,ze,zo,nzs]
 refine ⟨⟨rfl,rfl⟩,rfl,OpK.makeMap rfl rfl rfl rfl ?_⟩
 simp only [zxj,zxk,opX,isIfc,zz,zq,seval,zl,za,ze,zo,nzs]
 refine ⟨rfl,OpK.insert (KeyT.string (by kernel_rfl)) (key:=([109,97,107,101]:Tx)) (l:=([]:List (Tx×Value))) (kt:=9) (et:=3) (u:=.int .i64 1) rfl rfl (by kernel_rfl) rfl rfl (fun _=>rfl) rfl rfl ?_⟩
 simp only [zxj,zxk,opX,isIfc,zz,zq,seval,zl,za,ze,zo,nzs,hset]
 refine ⟨rfl,OpK.insert (KeyT.string (by kernel_rfl)) (key:=([100,114,111,112]:Tx)) (l:=(upd ([109,97,107,101]:Tx) (.int .i64 1) ([]:List (Tx×Value)))) (kt:=9) (et:=3) (u:=.int .i64 2) rfl rfl (by kernel_rfl) rfl rfl (fun _=>rfl) rfl rfl ?_⟩
 simp only [zxj,zxk,opX,isIfc,zz,zq,seval,zl,za,ze,zo,nzs,hset]
 refine ⟨rfl,OpK.insert (KeyT.string (by kernel_rfl)) (key:=([119,114,105,116,101]:Tx)) (l:=(upd ([100,114,111,112]:Tx) (.int .i64 2) (upd ([109,97,107,101]:Tx) (.int .i64 1) ([]:List (Tx×Value))))) (kt:=9) (et:=3) (u:=.int .i64 3) rfl rfl (by kernel_rfl) rfl rfl (fun _=>rfl) rfl rfl ?_⟩
 simp only [zxj,zxk,opX,isIfc,zz,zq,seval,zl,za,ze,zo,nzs,hset]
 refine ⟨rfl,OpK.insert (KeyT.string (by kernel_rfl)) (key:=([116,114,105,109]:Tx)) (l:=(upd ([119,114,105,116,101]:Tx) (.int .i64 3) (upd ([100,114,111,112]:Tx) (.int .i64 2) (upd ([109,97,107,101]:Tx) (.int .i64 1) ([]:List (Tx×Value)))))) (kt:=9) (et:=3) (u:=.int .i64 4) rfl rfl (by kernel_rfl) rfl rfl (fun _=>rfl) rfl rfl ?_⟩
 simp only [zxj,zxk,opX,isIfc,zz,zq,seval,zl,za,ze,zo,nzs,hset]
 refine ⟨rfl,OpK.insert (KeyT.string (by kernel_rfl)) (key:=([99,108,111,110,101]:Tx)) (l:=(upd ([116,114,105,109]:Tx) (.int .i64 4) (upd ([119,114,105,116,101]:Tx) (.int .i64 3) (upd ([100,114,111,112]:Tx) (.int .i64 2) (upd ([109,97,107,101]:Tx) (.int .i64 1) ([]:List (Tx×Value))))))) (kt:=9) (et:=3) (u:=.int .i64 5) rfl rfl (by kernel_rfl) rfl rfl (fun _=>rfl) rfl rfl ?_⟩
 simp only [zxj,zxk,opX,isIfc,zz,zq,seval,zl,za,ze,zo,nzs,hset]
 refine ⟨rfl,OpK.lookup (KeyT.string (by kernel_rfl)) (key:=([119,114,105,116,101]:Tx)) (l:=kinds) (kt:=9) (et:=3) (z:=.int .i64 0) rfl rfl rfl (by kernel_rfl) Proofs.Tryz.zeroValue3 rfl rfl (fun _=>rfl) rfl ?_⟩
 rw [hkd]
 simp only [zxj,zxk,opX,isIfc,zz,zq,seval,zl,za,ze,zo,nzs,decide_true,decide_false]
 refine CallX.box1 (A:=fun s=>[s]) 8000 (fun s s' ν ν' h=>by simp only [SV.vals,h]) rfl rfl rfl (fun q' M2 hM2=>num_x (i:=1) (hG1.le hM2) (hM1.le hM2) hne hwn) (fun s cs' ⟨x1,n1,a1,e1,hs,hcs⟩=>?_) (fun ch cs' ⟨h0,hch⟩=>?_)
 rotate_left
 · have z0:nmS ws 1=none:=h0
   refine ⟨?_,hch,rfl⟩
   rw [deedS_write h]
   simp only [z0,Option.bind_some,Option.bind_none]
 subst hs hcs
 have l1:1 < ws.length:=(List.getElem?_eq_some_iff.1 a1).1
 have f1:nmS ws 1=some n1:=by unfold nmS; rw [a1]; exact e1
 simp only [zxj,zxk,opX,isIfc,zz,zq,seval,zl,za,ze,zo,nzs,w_write_make,w_write_trim,w_write_read,w_write_clone,decide_true,decide_false]
 refine ⟨⟨rfl,rfl⟩,?_⟩
 refine CallX.box1 (A:=fun s=>[s]) 8000 (fun s s' ν ν' h=>by simp only [SV.vals,h]) rfl rfl rfl (fun q' M2 hM2=>word_x (i:=2) (hM1.le hM2) (by omega)) (fun s cs' ⟨x2,a2,hs,hcs⟩=>?_) (fun ch cs' ⟨h0,hch,_⟩=>?_)
 rotate_left
 · have z0:ws[2]? = none:=h0
   refine ⟨?_,hch,rfl⟩
   rw [deedS_write h]
   simp only [f1,z0,Option.bind_some,Option.bind_none]
 subst hs hcs
 have l2:2 < ws.length:=(List.getElem?_eq_some_iff.1 a2).1
 simp only [zxj,zxk,opX,isIfc,zz,zq,seval,zl,za,ze,zo,nzs,w_write_make,w_write_trim,w_write_read,w_write_clone,decide_true,decide_false]
 refine ⟨⟨rfl,rfl⟩,?_⟩
 refine CallX.box1 (A:=fun s=>[s]) 8000 (fun s s' ν ν' h=>by simp only [SV.vals,h]) rfl rfl rfl (fun q' M2 hM2=>num_x (i:=3) (hG1.le hM2) (hM1.le hM2) (by omega) hwn) (fun s cs' ⟨x3,n3,a3,e3,hs,hcs⟩=>?_) (fun ch cs' ⟨h0,hch⟩=>?_)
 rotate_left
 · have z0:nmS ws 3=none:=h0
   refine ⟨?_,hch,rfl⟩
   rw [deedS_write h]
   simp only [f1,a2,z0,Option.bind_some,Option.bind_none]
 subst hs hcs
 have l3:3 < ws.length:=(List.getElem?_eq_some_iff.1 a3).1
 have f3:nmS ws 3=some n3:=by unfold nmS; rw [a3]; exact e3
 simp only [zxj,zxk,opX,isIfc,zz,zq,seval,zl,za,ze,zo,nzs,w_write_make,w_write_trim,w_write_read,w_write_clone,decide_true,decide_false]
 refine CallX.box1 (A:=fun s=>[s]) 8000 (fun s s' ν ν' h=>by simp only [SV.vals,h]) rfl rfl rfl (fun q' M2 hM2=>text_x (i:=4) (hM1.le hM2) (by omega) hw) (fun s cs' ⟨x4,n4,a4,e4,hs,hcs⟩=>?_) (fun ch cs' ⟨h0,hch⟩=>?_)
 rotate_left
 · have z0:ttS ws 4=none:=h0
   refine ⟨?_,hch,rfl⟩
   rw [deedS_write h]
   simp only [f1,a2,f3,z0,Option.bind_some,Option.bind_none]
 subst hs hcs
 have l4:4 < ws.length:=(List.getElem?_eq_some_iff.1 a4).1
 have f4:ttS ws 4=some n4:=by unfold ttS; rw [a4]; exact e4
 simp only [zxj,zxk,opX,isIfc,zz,zq,seval,zl,za,ze,zo,nzs,w_write_make,w_write_trim,w_write_read,w_write_clone,decide_true,decide_false]
 refine ⟨rfl,OpK.pubB (k:=24) rfl rfl fun b0 M2 hM2 hb0=>OpK.pubB (k:=64) rfl rfl fun b1 M3 hM3 hb1=>OpK.pubB (k:=72) rfl rfl fun b2 M4 hM4 hb2=>OpK.mkFn (l:=[.v (ptrV b0),.v (ptrV b1),.v (ptrV b2)]) rfl rfl rfl rfl ?_⟩
 simp only [zxj,zxk,opX,isIfc,zz,zq,seval,zl,za,ze,zo,nzs,shA1,shA2,hdelk]
 exact ⟨5,_,_,_,by rw [deedS_write h]; simp only [f1,a2,f3,f4,Option.bind_some],rfl,deed2_x (w:=n1) (o:=(3,x2,[],n3,n4)) ((hd.le hM').le ((hM2.trans hM3).trans hM4)) (hb0.le (hM3.trans hM4)) (hb1.le hM4) hb2,rfl,rfl⟩
theorem deed_trim {bt bd:Nat} {vw:Value} {ws:List Tx} {M:Mem} (hG:GlobM M) (hM:RowM M vw 1 (ws.map wordV)) (hd:BoxM M bd [ptrV bt]) (hw : ∀ w ∈ ws,w.length≤70000) (h:w0S ws=[116,114,105,109]) (hne:1≤ws.length):AskM 72 deedS bt bd vw ws M:=by
 intro q T b v rg wv M' hM' hT hR
 have hwn : ∀ w ∈ ws,w.length≤281474976710656:=fun w h=>Nat.le_trans (hw w h) (by decide)
 have hG1:=hG.le hM'
 have hM1:=hM.le hM'
 have hkd:((fnd ([116,114,105,109]:Tx) kinds 0).map (·.2)).getD (.int .i64 0) = .int .i64 4:=rfl
 refine MeetsX.of_body [0,1,2,3,6,7,8,9,19,26,27,34,42,48] Proofs.Tryz.func72 rfl (by kernel_rfl) fun w0 M0=>?_
 rw [h]
 simp only [Proofs.Tryz.f72,LnH,zxj,zxk,opX,isIfc,zz,zq,seval,zl,za,ze,zo,nzs]
 refine ⟨⟨rfl,rfl⟩,rfl,OpK.makeMap rfl rfl rfl rfl ?_⟩
 simp only [zxj,zxk,opX,isIfc,zz,zq,seval,zl,za,ze,zo,nzs]
 refine ⟨rfl,OpK.insert (KeyT.string (by kernel_rfl)) (key:=([109,97,107,101]:Tx)) (l:=([]:List (Tx×Value))) (kt:=9) (et:=3) (u:=.int .i64 1) rfl rfl (by kernel_rfl) rfl rfl (fun _=>rfl) rfl rfl ?_⟩
 simp only [zxj,zxk,opX,isIfc,zz,zq,seval,zl,za,ze,zo,nzs,hset]
 refine ⟨rfl,OpK.insert (KeyT.string (by kernel_rfl)) (key:=([100,114,111,112]:Tx)) (l:=(upd ([109,97,107,101]:Tx) (.int .i64 1) ([]:List (Tx×Value)))) (kt:=9) (et:=3) (u:=.int .i64 2) rfl rfl (by kernel_rfl) rfl rfl (fun _=>rfl) rfl rfl ?_⟩
 simp only [zxj,zxk,opX,isIfc,zz,zq,seval,zl,za,ze,zo,nzs,hset]
 refine ⟨rfl,OpK.insert (KeyT.string (by kernel_rfl)) (key:=([119,114,105,116,101]:Tx)) (l:=(upd ([100,114,111,112]:Tx) (.int .i64 2) (upd ([109,97,107,101]:Tx) (.int .i64 1) ([]:List (Tx×Value))))) (kt:=9) (et:=3) (u:=.int .i64 3) rfl rfl (by kernel_rfl) rfl rfl (fun _=>rfl) rfl rfl ?_⟩
 simp only [zxj,zxk,opX,isIfc,zz,zq,seval,zl,za,ze,zo,nzs,hset]
 refine ⟨rfl,OpK.insert (KeyT.string (by kernel_rfl)) (key:=([116,114,105,109]:Tx)) (l:=(upd ([119,114,105,116,101]:Tx) (.int .i64 3) (upd ([100,114,111,112]:Tx) (.int .i64 2) (upd ([109,97,107,101]:Tx) (.int .i64 1) ([]:List (Tx×Value)))))) (kt:=9) (et:=3) (u:=.int .i64 4) rfl rfl (by kernel_rfl) rfl rfl (fun _=>rfl) rfl rfl ?_⟩
 simp only [zxj,zxk,opX,isIfc,zz,zq,seval,zl,za,ze,zo,nzs,hset]
 refine ⟨rfl,OpK.insert (KeyT.string (by kernel_rfl)) (key:=([99,108,111,110,101]:Tx)) (l:=(upd ([116,114,105,109]:Tx) (.int .i64 4) (upd ([119,114,105,116,101]:Tx) (.int .i64 3) (upd ([100,114,111,112]:Tx) (.int .i64 2) (upd ([109,97,107,101]:Tx) (.int .i64 1) ([]:List (Tx×Value))))))) (kt:=9) (et:=3) (u:=.int .i64 5) rfl rfl (by kernel_rfl) rfl rfl (fun _=>rfl) rfl rfl ?_⟩
 simp only [zxj,zxk,opX,isIfc,zz,zq,seval,zl,za,ze,zo,nzs,hset]
 refine ⟨rfl,OpK.lookup (KeyT.string (by kernel_rfl)) (key:=([116,114,105,109]:Tx)) (l:=kinds) (kt:=9) (et:=3) (z:=.int .i64 0) rfl rfl rfl (by kernel_rfl) Proofs.Tryz.zeroValue3 rfl rfl (fun _=>rfl) rfl ?_⟩
 rw [hkd]
 simp only [zxj,zxk,opX,isIfc,zz,zq,seval,zl,za,ze,zo,nzs,decide_true,decide_false]
 refine CallX.box1 (A:=fun s=>[s]) 8000 (fun s s' ν ν' h=>by simp only [SV.vals,h]) rfl rfl rfl (fun q' M2 hM2=>num_x (i:=1) (hG1.le hM2) (hM1.le hM2) hne hwn) (fun s cs' ⟨x1,n1,a1,e1,hs,hcs⟩=>?_) (fun ch cs' ⟨h0,hch⟩=>?_)
 rotate_left
 · have z0:nmS ws 1=none:=h0
   refine ⟨?_,hch,rfl⟩
   rw [deedS_trim h]
   simp only [z0,Option.bind_some,Option.bind_none]
 subst hs hcs
 have l1:1 < ws.length:=(List.getElem?_eq_some_iff.1 a1).1
 have f1:nmS ws 1=some n1:=by unfold nmS; rw [a1]; exact e1
 simp only [zxj,zxk,opX,isIfc,zz,zq,seval,zl,za,ze,zo,nzs,w_trim_make,w_trim_read,w_trim_write,w_trim_clone,decide_true,decide_false]
 refine ⟨⟨rfl,rfl⟩,?_⟩
 refine CallX.box1 (A:=fun s=>[s]) 8000 (fun s s' ν ν' h=>by simp only [SV.vals,h]) rfl rfl rfl (fun q' M2 hM2=>word_x (i:=2) (hM1.le hM2) (by omega)) (fun s cs' ⟨x2,a2,hs,hcs⟩=>?_) (fun ch cs' ⟨h0,hch,_⟩=>?_)
 rotate_left
 · have z0:ws[2]? = none:=h0
   refine ⟨?_,hch,rfl⟩
   rw [deedS_trim h]
   simp only [f1,z0,Option.bind_some,Option.bind_none]
 subst hs hcs
 have l2:2 < ws.length:=(List.getElem?_eq_some_iff.1 a2).1
 simp only [zxj,zxk,opX,isIfc,zz,zq,seval,zl,za,ze,zo,nzs,w_trim_make,w_trim_read,w_trim_write,w_trim_clone,decide_true,decide_false]
 refine ⟨⟨rfl,rfl⟩,?_⟩
 refine CallX.box1 (A:=fun s=>[s]) 8000 (fun s s' ν ν' h=>by simp only [SV.vals,h]) rfl rfl rfl (fun q' M2 hM2=>num_x (i:=3) (hG1.le hM2) (hM1.le hM2) (by omega) hwn) (fun s cs' ⟨x3,n3,a3,e3,hs,hcs⟩=>?_) (fun ch cs' ⟨h0,hch⟩=>?_)
 rotate_left
 · have z0:nmS ws 3=none:=h0
   refine ⟨?_,hch,rfl⟩
   rw [deedS_trim h]
   simp only [f1,a2,z0,Option.bind_some,Option.bind_none]
 subst hs hcs
 have l3:3 < ws.length:=(List.getElem?_eq_some_iff.1 a3).1
 have f3:nmS ws 3=some n3:=by unfold nmS; rw [a3]; exact e3
 simp only [zxj,zxk,opX,isIfc,zz,zq,seval,zl,za,ze,zo,nzs,w_trim_make,w_trim_read,w_trim_write,w_trim_clone,decide_true,decide_false]
 refine ⟨rfl,OpK.pubB (k:=24) rfl rfl fun b0 M2 hM2 hb0=>OpK.pubB (k:=64) rfl rfl fun b1 M3 hM3 hb1=>OpK.pubB (k:=72) rfl rfl fun b2 M4 hM4 hb2=>OpK.mkFn (l:=[.v (ptrV b0),.v (ptrV b1),.v (ptrV b2)]) rfl rfl rfl rfl ?_⟩
 simp only [zxj,zxk,opX,isIfc,zz,zq,seval,zl,za,ze,zo,nzs,shA1,shA2,hdelk]
 exact ⟨4,_,_,_,by rw [deedS_trim h]; simp only [f1,a2,f3,Option.bind_some],rfl,deed2_x (w:=n1) (o:=(4,x2,[],n3,[])) ((hd.le hM').le ((hM2.trans hM3).trans hM4)) (hb0.le (hM3.trans hM4)) (hb1.le hM4) hb2,rfl,rfl⟩
theorem deed_clone {bt bd:Nat} {vw:Value} {ws:List Tx} {M:Mem} (hG:GlobM M) (hM:RowM M vw 1 (ws.map wordV)) (hd:BoxM M bd [ptrV bt]) (hw : ∀ w ∈ ws,w.length≤70000) (h:w0S ws=[99,108,111,110,101]) (hne:1≤ws.length):AskM 72 deedS bt bd vw ws M:=by
 intro q T b v rg wv M' hM' hT hR
 have hwn : ∀ w ∈ ws,w.length≤281474976710656:=fun w h=>Nat.le_trans (hw w h) (by decide)
 have hG1:=hG.le hM'
 have hM1:=hM.le hM'
 have hkd:((fnd ([99,108,111,110,101]:Tx) kinds 0).map (·.2)).getD (.int .i64 0) = .int .i64 5:=rfl
 refine MeetsX.of_body [0,1,2,3,6,7,8,9,19,26,27,34,42,48] Proofs.Tryz.func72 rfl (by kernel_rfl) fun w0 M0=>?_
 rw [h]
 simp only [Proofs.Tryz.f72,LnH,zxj,zxk,opX,isIfc,zz,zq,seval,zl,za,ze,zo,nzs]
 refine ⟨⟨rfl,rfl⟩,rfl,OpK.makeMap rfl rfl rfl rfl ?_⟩
 simp only [zxj,zxk,opX,isIfc,zz,zq,seval,zl,za,ze,zo,nzs]
 refine ⟨rfl,OpK.insert (KeyT.string (by kernel_rfl)) (key:=([109,97,107,101]:Tx)) (l:=([]:List (Tx×Value))) (kt:=9) (et:=3) (u:=.int .i64 1) rfl rfl (by kernel_rfl) rfl rfl (fun _=>rfl) rfl rfl ?_⟩
 simp only [zxj,zxk,opX,isIfc,zz,zq,seval,zl,za,ze,zo,nzs,hset]
 refine ⟨rfl,OpK.insert (KeyT.string (by kernel_rfl)) (key:=([100,114,111,112]:Tx)) (l:=(upd ([109,97,107,101]:Tx) (.int .i64 1) ([]:List (Tx×Value)))) (kt:=9) (et:=3) (u:=.int .i64 2) rfl rfl (by kernel_rfl) rfl rfl (fun _=>rfl) rfl rfl ?_⟩
 simp only [zxj,zxk,opX,isIfc,zz,zq,seval,zl,za,ze,zo,nzs,hset]
 refine ⟨rfl,OpK.insert (KeyT.string (by kernel_rfl)) (key:=([119,114,105,116,101]:Tx)) (l:=(upd ([100,114,111,112]:Tx) (.int .i64 2) (upd ([109,97,107,101]:Tx) (.int .i64 1) ([]:List (Tx×Value))))) (kt:=9) (et:=3) (u:=.int .i64 3) rfl rfl (by kernel_rfl) rfl rfl (fun _=>rfl) rfl rfl ?_⟩
 simp only [zxj,zxk,opX,isIfc,zz,zq,seval,zl,za,ze,zo,nzs,hset]
 refine ⟨rfl,OpK.insert (KeyT.string (by kernel_rfl)) (key:=([116,114,105,109]:Tx)) (l:=(upd ([119,114,105,116,101]:Tx) (.int .i64 3) (upd ([100,114,111,112]:Tx) (.int .i64 2) (upd ([109,97,107,101]:Tx) (.int .i64 1) ([]:List (Tx×Value)))))) (kt:=9) (et:=3) (u:=.int .i64 4) rfl rfl (by kernel_rfl) rfl rfl (fun _=>rfl) rfl rfl ?_⟩
 simp only [zxj,zxk,opX,isIfc,zz,zq,seval,zl,za,ze,zo,nzs,hset]
 refine ⟨rfl,OpK.insert (KeyT.string (by kernel_rfl)) (key:=([99,108,111,110,101]:Tx)) (l:=(upd ([116,114,105,109]:Tx) (.int .i64 4) (upd ([119,114,105,116,101]:Tx) (.int .i64 3) (upd ([100,114,111,112]:Tx) (.int .i64 2) (upd ([109,97,107,101]:Tx) (.int .i64 1) ([]:List (Tx×Value))))))) (kt:=9) (et:=3) (u:=.int .i64 5) rfl rfl (by kernel_rfl) rfl rfl (fun _=>rfl) rfl rfl ?_⟩
 simp only [zxj,zxk,opX,isIfc,zz,zq,seval,zl,za,ze,zo,nzs,hset]
 refine ⟨rfl,OpK.lookup (KeyT.string (by kernel_rfl)) (key:=([99,108,111,110,101]:Tx)) (l:=kinds) (kt:=9) (et:=3) (z:=.int .i64 0) rfl rfl rfl (by kernel_rfl) Proofs.Tryz.zeroValue3 rfl rfl (fun _=>rfl) rfl ?_⟩
 rw [hkd]
 simp only [zxj,zxk,opX,isIfc,zz,zq,seval,zl,za,ze,zo,nzs,decide_true,decide_false]
 refine CallX.box1 (A:=fun s=>[s]) 8000 (fun s s' ν ν' h=>by simp only [SV.vals,h]) rfl rfl rfl (fun q' M2 hM2=>num_x (i:=1) (hG1.le hM2) (hM1.le hM2) hne hwn) (fun s cs' ⟨x1,n1,a1,e1,hs,hcs⟩=>?_) (fun ch cs' ⟨h0,hch⟩=>?_)
 rotate_left
 · have z0:nmS ws 1=none:=h0
   refine ⟨?_,hch,rfl⟩
   rw [deedS_clone h]
   simp only [z0,Option.bind_some,Option.bind_none]
 subst hs hcs
 have l1:1 < ws.length:=(List.getElem?_eq_some_iff.1 a1).1
 have f1:nmS ws 1=some n1:=by unfold nmS; rw [a1]; exact e1
 simp only [zxj,zxk,opX,isIfc,zz,zq,seval,zl,za,ze,zo,nzs,w_clone_make,w_clone_trim,w_clone_read,w_clone_write,decide_true,decide_false]
 refine ⟨⟨rfl,rfl⟩,?_⟩
 refine CallX.box1 (A:=fun s=>[s]) 8000 (fun s s' ν ν' h=>by simp only [SV.vals,h]) rfl rfl rfl (fun q' M2 hM2=>word_x (i:=2) (hM1.le hM2) (by omega)) (fun s cs' ⟨x2,a2,hs,hcs⟩=>?_) (fun ch cs' ⟨h0,hch,_⟩=>?_)
 rotate_left
 · have z0:ws[2]? = none:=h0
   refine ⟨?_,hch,rfl⟩
   rw [deedS_clone h]
   simp only [f1,z0,Option.bind_some,Option.bind_none]
 subst hs hcs
 have l2:2 < ws.length:=(List.getElem?_eq_some_iff.1 a2).1
 simp only [zxj,zxk,opX,isIfc,zz,zq,seval,zl,za,ze,zo,nzs,w_clone_make,w_clone_trim,w_clone_read,w_clone_write,decide_true,decide_false]
 refine ⟨⟨rfl,rfl⟩,?_⟩
 refine CallX.box1 (A:=fun s=>[s]) 8000 (fun s s' ν ν' h=>by simp only [SV.vals,h]) rfl rfl rfl (fun q' M2 hM2=>word_x (i:=3) (hM1.le hM2) (by omega)) (fun s cs' ⟨x3,a3,hs,hcs⟩=>?_) (fun ch cs' ⟨h0,hch,_⟩=>?_)
 rotate_left
 · have z0:ws[3]? = none:=h0
   refine ⟨?_,hch,rfl⟩
   rw [deedS_clone h]
   simp only [f1,a2,z0,Option.bind_some,Option.bind_none]
 subst hs hcs
 have l3:3 < ws.length:=(List.getElem?_eq_some_iff.1 a3).1
 simp only [zxj,zxk,opX,isIfc,zz,zq,seval,zl,za,ze,zo,nzs,w_clone_make,w_clone_trim,w_clone_read,w_clone_write,decide_true,decide_false]
 refine ⟨rfl,OpK.pubB (k:=24) rfl rfl fun b0 M2 hM2 hb0=>OpK.pubB (k:=64) rfl rfl fun b1 M3 hM3 hb1=>OpK.pubB (k:=72) rfl rfl fun b2 M4 hM4 hb2=>OpK.mkFn (l:=[.v (ptrV b0),.v (ptrV b1),.v (ptrV b2)]) rfl rfl rfl rfl ?_⟩
 simp only [zxj,zxk,opX,isIfc,zz,zq,seval,zl,za,ze,zo,nzs,shA1,shA2,hdelk]
 exact ⟨4,_,_,_,by rw [deedS_clone h]; simp only [f1,a2,a3,Option.bind_some],rfl,deed2_x (w:=n1) (o:=(5,x2,x3,0,[])) ((hd.le hM').le ((hM2.trans hM3).trans hM4)) (hb0.le (hM3.trans hM4)) (hb1.le hM4) hb2,rfl,rfl⟩
theorem deed_read {bt bd:Nat} {vw:Value} {ws:List Tx} {M:Mem} (hG:GlobM M) (hM:RowM M vw 1 (ws.map wordV)) (hd:BoxM M bd [ptrV bt]) (hw : ∀ w ∈ ws,w.length≤70000) (h:w0S ws=[114,101,97,100]) (hne:1≤ws.length):AskM 72 deedS bt bd vw ws M:=by
 intro q T b v rg wv M' hM' hT hR
 have hwn : ∀ w ∈ ws,w.length≤281474976710656:=fun w h=>Nat.le_trans (hw w h) (by decide)
 have hG1:=hG.le hM'
 have hM1:=hM.le hM'
 have hkd:((fnd ([114,101,97,100]:Tx) kinds 0).map (·.2)).getD (.int .i64 0) = .int .i64 0:=rfl
 refine MeetsX.of_body [0,1,2,3,6,7,8,9,19,26,27,34,42,48] Proofs.Tryz.func72 rfl (by kernel_rfl) fun w0 M0=>?_
 rw [h]
 simp only [Proofs.Tryz.f72,LnH,zxj,zxk,opX,isIfc,zz,zq,seval,zl,za,ze,zo,nzs]
 refine ⟨⟨rfl,rfl⟩,rfl,OpK.makeMap rfl rfl rfl rfl ?_⟩
 simp only [zxj,zxk,opX,isIfc,zz,zq,seval,zl,za,ze,zo,nzs]
 refine ⟨rfl,OpK.insert (KeyT.string (by kernel_rfl)) (key:=([109,97,107,101]:Tx)) (l:=([]:List (Tx×Value))) (kt:=9) (et:=3) (u:=.int .i64 1) rfl rfl (by kernel_rfl) rfl rfl (fun _=>rfl) rfl rfl ?_⟩
 simp only [zxj,zxk,opX,isIfc,zz,zq,seval,zl,za,ze,zo,nzs,hset]
 refine ⟨rfl,OpK.insert (KeyT.string (by kernel_rfl)) (key:=([100,114,111,112]:Tx)) (l:=(upd ([109,97,107,101]:Tx) (.int .i64 1) ([]:List (Tx×Value)))) (kt:=9) (et:=3) (u:=.int .i64 2) rfl rfl (by kernel_rfl) rfl rfl (fun _=>rfl) rfl rfl ?_⟩
 simp only [zxj,zxk,opX,isIfc,zz,zq,seval,zl,za,ze,zo,nzs,hset]
 refine ⟨rfl,OpK.insert (KeyT.string (by kernel_rfl)) (key:=([119,114,105,116,101]:Tx)) (l:=(upd ([100,114,111,112]:Tx) (.int .i64 2) (upd ([109,97,107,101]:Tx) (.int .i64 1) ([]:List (Tx×Value))))) (kt:=9) (et:=3) (u:=.int .i64 3) rfl rfl (by kernel_rfl) rfl rfl (fun _=>rfl) rfl rfl ?_⟩
 simp only [zxj,zxk,opX,isIfc,zz,zq,seval,zl,za,ze,zo,nzs,hset]
 refine ⟨rfl,OpK.insert (KeyT.string (by kernel_rfl)) (key:=([116,114,105,109]:Tx)) (l:=(upd ([119,114,105,116,101]:Tx) (.int .i64 3) (upd ([100,114,111,112]:Tx) (.int .i64 2) (upd ([109,97,107,101]:Tx) (.int .i64 1) ([]:List (Tx×Value)))))) (kt:=9) (et:=3) (u:=.int .i64 4) rfl rfl (by kernel_rfl) rfl rfl (fun _=>rfl) rfl rfl ?_⟩
 simp only [zxj,zxk,opX,isIfc,zz,zq,seval,zl,za,ze,zo,nzs,hset]
 refine ⟨rfl,OpK.insert (KeyT.string (by kernel_rfl)) (key:=([99,108,111,110,101]:Tx)) (l:=(upd ([116,114,105,109]:Tx) (.int .i64 4) (upd ([119,114,105,116,101]:Tx) (.int .i64 3) (upd ([100,114,111,112]:Tx) (.int .i64 2) (upd ([109,97,107,101]:Tx) (.int .i64 1) ([]:List (Tx×Value))))))) (kt:=9) (et:=3) (u:=.int .i64 5) rfl rfl (by kernel_rfl) rfl rfl (fun _=>rfl) rfl rfl ?_⟩
 simp only [zxj,zxk,opX,isIfc,zz,zq,seval,zl,za,ze,zo,nzs,hset]
 refine ⟨rfl,OpK.lookup (KeyT.string (by kernel_rfl)) (key:=([114,101,97,100]:Tx)) (l:=kinds) (kt:=9) (et:=3) (z:=.int .i64 0) rfl rfl rfl (by kernel_rfl) Proofs.Tryz.zeroValue3 rfl rfl (fun _=>rfl) rfl ?_⟩
 rw [hkd]
 simp only [zxj,zxk,opX,isIfc,zz,zq,seval,zl,za,ze,zo,nzs,decide_true,decide_false]
 refine CallX.box1 (A:=fun s=>[s]) 8000 (fun s s' ν ν' h=>by simp only [SV.vals,h]) rfl rfl rfl (fun q' M2 hM2=>num_x (i:=1) (hG1.le hM2) (hM1.le hM2) hne hwn) (fun s cs' ⟨x1,n1,a1,e1,hs,hcs⟩=>?_) (fun ch cs' ⟨h0,hch⟩=>?_)
 rotate_left
 · have z0:nmS ws 1=none:=h0
   refine ⟨?_,hch,rfl⟩
   rw [deedS_read h]
   simp only [z0,Option.bind_some,Option.bind_none]
 subst hs hcs
 have l1:1 < ws.length:=(List.getElem?_eq_some_iff.1 a1).1
 have f1:nmS ws 1=some n1:=by unfold nmS; rw [a1]; exact e1
 simp only [zxj,zxk,opX,isIfc,zz,zq,seval,zl,za,ze,zo,nzs,w_read_make,w_read_trim,w_read_write,w_read_clone,decide_true,decide_false]
 refine ⟨⟨rfl,rfl⟩,?_⟩
 refine CallX.box1 (A:=fun s=>[s]) 8000 (fun s s' ν ν' h=>by simp only [SV.vals,h]) rfl rfl rfl (fun q' M2 hM2=>word_x (i:=2) (hM1.le hM2) (by omega)) (fun s cs' ⟨x2,a2,hs,hcs⟩=>?_) (fun ch cs' ⟨h0,hch,_⟩=>?_)
 rotate_left
 · have z0:ws[2]? = none:=h0
   refine ⟨?_,hch,rfl⟩
   rw [deedS_read h]
   simp only [f1,z0,Option.bind_some,Option.bind_none]
 subst hs hcs
 have l2:2 < ws.length:=(List.getElem?_eq_some_iff.1 a2).1
 simp only [zxj,zxk,opX,isIfc,zz,zq,seval,zl,za,ze,zo,nzs,w_read_make,w_read_trim,w_read_write,w_read_clone,decide_true,decide_false]
 refine ⟨⟨rfl,rfl⟩,?_⟩
 refine CallX.box1 (A:=fun s=>[s]) 8000 (fun s s' ν ν' h=>by simp only [SV.vals,h]) rfl rfl rfl (fun q' M2 hM2=>num_x (i:=3) (hG1.le hM2) (hM1.le hM2) (by omega) hwn) (fun s cs' ⟨x3,n3,a3,e3,hs,hcs⟩=>?_) (fun ch cs' ⟨h0,hch⟩=>?_)
 rotate_left
 · have z0:nmS ws 3=none:=h0
   refine ⟨?_,hch,rfl⟩
   rw [deedS_read h]
   simp only [f1,a2,z0,Option.bind_some,Option.bind_none]
 subst hs hcs
 have l3:3 < ws.length:=(List.getElem?_eq_some_iff.1 a3).1
 have f3:nmS ws 3=some n3:=by unfold nmS; rw [a3]; exact e3
 simp only [zxj,zxk,opX,isIfc,zz,zq,seval,zl,za,ze,zo,nzs,w_read_make,w_read_trim,w_read_write,w_read_clone,decide_true,decide_false]
 refine ⟨rfl,OpK.pubB (k:=24) rfl rfl fun b0 M2 hM2 hb0=>OpK.pubB (k:=64) rfl rfl fun b1 M3 hM3 hb1=>OpK.pubB (k:=72) rfl rfl fun b2 M4 hM4 hb2=>OpK.mkFn (l:=[.v (ptrV b0),.v (ptrV b1),.v (ptrV b2)]) rfl rfl rfl rfl ?_⟩
 simp only [zxj,zxk,opX,isIfc,zz,zq,seval,zl,za,ze,zo,nzs,shA1,shA2,hdelk]
 exact ⟨4,_,_,_,by rw [deedS_read h]; simp only [f1,a2,f3,Option.bind_some],rfl,deed1_x (w:=n1) (a:=n3) (k:=0) (n:=x2) (t:=[]) (x:=[]) ((hd.le hM').le ((hM2.trans hM3).trans hM4)) (hb0.le (hM3.trans hM4)) (hb1.le hM4) hb2,rfl,rfl⟩
end Go.X.Dk

