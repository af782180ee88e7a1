/- The desk: the closures that ask a target. Conditions: none. (Printed by mkdkb.py.) -/
import Derived.Test.YthafjlokddpjfaaGreatDoorMg25
import Derived.Test.YthafjlokddpjfaaGreatDoorMg24
import Derived.Test.YthafjlokddpjfaaGreatDoorMg26
open Int renaming cast_ofNat_Int→zl,natCast_zero→za,natCast_one→ze,toNat_natCast→zo
namespace Go.X.Vo
end Go.X.Vo
namespace Go.X.Tg
end Go.X.Tg
namespace Go.X.Th
end Go.X.Th
set_option linter.unusedSimpArgs false
set_option linter.unusedVariables false
set_option maxHeartbeats 4000000
set_option maxRecDepth 20000
namespace Go.X.Dk
open Go Go.X Go.RowKit Go.X.Vo Go.X.Tg Go.X.Th
theorem s44:shp Proofs.Tryz.prog 44 = .one:=by kernel_rfl
theorem s45:shp Proofs.Tryz.prog 45 = .one:=by kernel_rfl
theorem trv_right {T:TG} (h:TgR T) {S:Rv.RS} (hS:S.1=0→Rv.resvE S.2.1 S.2.2.1 S.2.2.2.1 S.2.2.2.2=0):TgR (trvS T S):=by
 unfold trvS
 split
 · exact ⟨h.st,hS (by assumption),h.tx,h.many⟩
 · exact h
theorem w_reserve_register:(([114,101,115,101,114,118,101]:Tx)=[114,101,103,105,115,116,101,114])=False:=eq_false (by decide)
theorem w_release_register:(([114,101,108,101,97,115,101]:Tx)=[114,101,103,105,115,116,101,114])=False:=eq_false (by decide)
theorem w_release_reserve:(([114,101,108,101,97,115,101]:Tx)=[114,101,115,101,114,118,101])=False:=eq_false (by decide)
theorem w_clear_register:(([99,108,101,97,114]:Tx)=[114,101,103,105,115,116,101,114])=False:=eq_false (by decide)
theorem w_clear_reserve:(([99,108,101,97,114]:Tx)=[114,101,115,101,114,118,101])=False:=eq_false (by decide)
theorem w_clear_release:(([99,108,101,97,114]:Tx)=[114,101,108,101,97,115,101])=False:=eq_false (by decide)
theorem w_preempt_register:(([112,114,101,101,109,112,116]:Tx)=[114,101,103,105,115,116,101,114])=False:=eq_false (by decide)
theorem w_preempt_reserve:(([112,114,101,101,109,112,116]:Tx)=[114,101,115,101,114,118,101])=False:=eq_false (by decide)
theorem w_preempt_release:(([112,114,101,101,109,112,116]:Tx)=[114,101,108,101,97,115,101])=False:=eq_false (by decide)
theorem w_preempt_clear:(([112,114,101,101,109,112,116]:Tx)=[99,108,101,97,114])=False:=eq_false (by decide)
theorem w_crash_register:(([99,114,97,115,104]:Tx)=[114,101,103,105,115,116,101,114])=False:=eq_false (by decide)
theorem w_crash_reserve:(([99,114,97,115,104]:Tx)=[114,101,115,101,114,118,101])=False:=eq_false (by decide)
theorem w_crash_release:(([99,114,97,115,104]:Tx)=[114,101,108,101,97,115,101])=False:=eq_false (by decide)
theorem w_crash_clear:(([99,114,97,115,104]:Tx)=[99,108,101,97,114])=False:=eq_false (by decide)
theorem w_crash_preempt:(([99,114,97,115,104]:Tx)=[112,114,101,101,109,112,116])=False:=eq_false (by decide)
theorem w_all_register:(([97,108,108]:Tx)=[114,101,103,105,115,116,101,114])=False:=eq_false (by decide)
theorem w_all_reserve:(([97,108,108]:Tx)=[114,101,115,101,114,118,101])=False:=eq_false (by decide)
theorem w_all_release:(([97,108,108]:Tx)=[114,101,108,101,97,115,101])=False:=eq_false (by decide)
theorem w_all_clear:(([97,108,108]:Tx)=[99,108,101,97,114])=False:=eq_false (by decide)
theorem w_all_preempt:(([97,108,108]:Tx)=[112,114,101,101,109,112,116])=False:=eq_false (by decide)
theorem w_all_crash:(([97,108,108]:Tx)=[99,114,97,115,104])=False:=eq_false (by decide)
theorem w_make_trim:(([109,97,107,101]:Tx)=[116,114,105,109])=False:=eq_false (by decide)
theorem w_make_read:(([109,97,107,101]:Tx)=[114,101,97,100])=False:=eq_false (by decide)
theorem w_make_write:(([109,97,107,101]:Tx)=[119,114,105,116,101])=False:=eq_false (by decide)
theorem w_make_clone:(([109,97,107,101]:Tx)=[99,108,111,110,101])=False:=eq_false (by decide)
theorem w_drop_make:(([100,114,111,112]:Tx)=[109,97,107,101])=False:=eq_false (by decide)
theorem w_drop_trim:(([100,114,111,112]:Tx)=[116,114,105,109])=False:=eq_false (by decide)
theorem w_drop_read:(([100,114,111,112]:Tx)=[114,101,97,100])=False:=eq_false (by decide)
theorem w_drop_write:(([100,114,111,112]:Tx)=[119,114,105,116,101])=False:=eq_false (by decide)
theorem w_drop_clone:(([100,114,111,112]:Tx)=[99,108,111,110,101])=False:=eq_false (by decide)
theorem w_write_make:(([119,114,105,116,101]:Tx)=[109,97,107,101])=False:=eq_false (by decide)
theorem w_write_trim:(([119,114,105,116,101]:Tx)=[116,114,105,109])=False:=eq_false (by decide)
theorem w_write_read:(([119,114,105,116,101]:Tx)=[114,101,97,100])=False:=eq_false (by decide)
theorem w_write_clone:(([119,114,105,116,101]:Tx)=[99,108,111,110,101])=False:=eq_false (by decide)
theorem w_trim_make:(([116,114,105,109]:Tx)=[109,97,107,101])=False:=eq_false (by decide)
theorem w_trim_read:(([116,114,105,109]:Tx)=[114,101,97,100])=False:=eq_false (by decide)
theorem w_trim_write:(([116,114,105,109]:Tx)=[119,114,105,116,101])=False:=eq_false (by decide)
theorem w_trim_clone:(([116,114,105,109]:Tx)=[99,108,111,110,101])=False:=eq_false (by decide)
theorem w_clone_make:(([99,108,111,110,101]:Tx)=[109,97,107,101])=False:=eq_false (by decide)
theorem w_clone_trim:(([99,108,111,110,101]:Tx)=[116,114,105,109])=False:=eq_false (by decide)
theorem w_clone_read:(([99,108,111,110,101]:Tx)=[114,101,97,100])=False:=eq_false (by decide)
theorem w_clone_write:(([99,108,111,110,101]:Tx)=[119,114,105,116,101])=False:=eq_false (by decide)
theorem w_read_make:(([114,101,97,100]:Tx)=[109,97,107,101])=False:=eq_false (by decide)
theorem w_read_trim:(([114,101,97,100]:Tx)=[116,114,105,109])=False:=eq_false (by decide)
theorem w_read_write:(([114,101,97,100]:Tx)=[119,114,105,116,101])=False:=eq_false (by decide)
theorem w_read_clone:(([114,101,97,100]:Tx)=[99,108,111,110,101])=False:=eq_false (by decide)
theorem rd_len {T:TG} (hR:TgR T) (w:Int) (n:Tx) (a:Int):(trdS T w n a).1.length≤64:=by
 unfold trdS
 split
 · simp
 · unfold rdS
   split
   · split
     · unfold txtId
       cases h:T.1.1[(fidx (Bg.isId (rdId T.1.2 n a)) T.1.1 0).toNat]? with
       | none=>simp
       | some x=>exact (Bg.oneE_ok ((bagE_ok (stE_ok hR.st).1).2 x (List.mem_of_getElem? h))).1.1
     · simp
   · simp
theorem num_len : ∀ (l:List Nat),(∀ n ∈ l,n≤9223372036854775807)→(numbersS l).length≤2+20 * l.length
 | [],_=>by simp [numbersS,okS]
 | n :: l,h=>by
   have ih:=num_len l (fun m hm=>h m (by simp [hm]))
   have h1:=h n (by simp)
   have h2:=dec_len_le 18 n (by have:(10:Nat) ^ 19=10000000000000000000:=(by decide); omega)
   simp only [numbersS,List.flatMap_cons,List.length_append,List.length_cons] at ih ⊢
   omega
theorem vols_len {bag:List Bg.It} : ∀ {l:List Vol},(∀ v ∈ l,v.2.length≤32∧Nm.nmB v.1=true∧goI bag v.2=0) → ∀ k,((l.take k).flatMap vol1).length≤40 * l.length
 | [],_,k=>by simp
 | x :: l,h,0=>by simp
 | x :: l,h,k+1=>by
   have ih:=vols_len (fun v hv=>h v (List.mem_cons_of_mem _ hv)) k
   obtain ⟨h1,h2,_⟩:=h x (by simp)
   have h3:=Lg.nmB_len h2
   have h4:=dec_len_le 1 x.2.length (by have:(10:Nat) ^ (1+1)=100:=(by decide); omega)
   simp only [List.take_succ_cons,List.flatMap_cons,List.length_append,List.length_cons,vol1,List.length_nil] at ih ⊢
   omega
theorem deed2_x {bt bd b0 b1 b2 w:Nat} {o:OpT} {M:Mem} (hd:BoxM M bd [ptrV bt]) (h0:BoxM M b0 [ptrV bd]) (h1:BoxM M b1 [.int .i64 w]) (h2:BoxM M b2 [.int .i64 o.1,.string ⟨o.2.1.toArray⟩,.string ⟨o.2.2.1.toArray⟩,.int .i64 o.2.2.2.1,.string ⟨o.2.2.2.2.toArray⟩]) :
  CloM bt 122 [.v (ptrV b0),.v (ptrV b1),.v (ptrV b2)] M (doO w o):=by
 refine ⟨rfl,fun T b v rg ws M' hM hT hR=>?_⟩
 have d0:=(hd.le hM).at (j:=0) rfl
 have p0:=(h0.le hM).at (j:=0) rfl
 have p1:=(h1.le hM).at (j:=0) rfl
 have q0:=(h2.le hM).at (j:=0) rfl
 have q1:=(h2.le hM).at (j:=1) rfl
 have q2:=(h2.le hM).at (j:=2) rfl
 have q3:=(h2.le hM).at (j:=3) rfl
 have q4:=(h2.le hM).at (j:=4) rfl
 have dd:=(hd.le hM).at' (j:=0) rfl
 refine MeetsX.of_body [0,1,2,3] Proofs.Tryz.func122 rfl (by kernel_rfl) fun w0 M0=>?_
 simp only [Proofs.Tryz.f122,zxj,zxk,opX,isIfc,zz,zq,seval,zl,za,ze,zo]
 refine DrawX.tail 6 rfl (by kernel_rfl) ?_
 simp only [zxj,zxk,opX,isIfc,zz,zq,seval,zl,za,ze,zo,nzs,s44,s45,d0,p0,p1,q0,q1,q2,q3,q4,dd,true_and]
 refine CallX.asPtr (A:=fun s=>[s,.v (.int .i64 w),opT o]) 248 (fun s s' ν ν' h=>by simp only [opT,SV.vals,SV.val,h]) rfl (CallX.ofK ⟨_,Proofs.Tryz.func124,by kernel_rfl,by kernel_rfl⟩ (tdoK1 rfl w o hT hR fun b' v' ws' M2 hM2 hT2=>?_))
 simp only [zxj,zxk,opX,isIfc,zz,zq,seval,zl,za,ze,zo,nzs]
 refine CallX.pureX rfl rfl (done_x (tdoS T w o).2 M2) (fun s hs=>?_) (fun ch hx=>?_)
 · obtain ⟨h0,rfl⟩:=hs
   simp only [zxj,zxk,opX,isIfc,zz,zq,seval,zl,za,ze,zo,nzs]
   exact ⟨⟨h0,rfl⟩,b',v',rg,ws',rfl,hT2,tdo_right hR w o⟩
 · exact ⟨⟨hx.1,hx.2⟩,b',v',rg,ws',rfl,hT2,tdo_right hR w o⟩
theorem deed1_x {bt bd b0 b1 b2 w a:Nat} {k:Int} {n t x:Tx} {M:Mem} (hd:BoxM M bd [ptrV bt]) (h0:BoxM M b0 [ptrV bd]) (h1:BoxM M b1 [.int .i64 w]) (h2:BoxM M b2 [.int .i64 k,.string ⟨n.toArray⟩,.string ⟨t.toArray⟩,.int .i64 a,.string ⟨x.toArray⟩]) :
  CloM bt 120 [.v (ptrV b0),.v (ptrV b1),.v (ptrV b2)] M (rdO w n a):=by
 refine ⟨rfl,fun T b v rg ws M' hM hT hR=>?_⟩
 have d0:=(hd.le hM).at (j:=0) rfl
 have p0:=(h0.le hM).at (j:=0) rfl
 have p1:=(h1.le hM).at (j:=0) rfl
 have q1:=(h2.le hM).at' (j:=1) rfl
 have q3:=(h2.le hM).at' (j:=3) rfl
 have dd:=(hd.le hM).at' (j:=0) rfl
 have hlen:=rd_len hR w n a
 refine MeetsX.of_body [0,1,2,3,4,5] Proofs.Tryz.func120 rfl (by kernel_rfl) fun w0 M0=>?_
 simp only [Proofs.Tryz.f120,zxj,zxk,opX,isIfc,zz,zq,seval,zl,za,ze,zo]
 refine DrawX.of (DrawK.plan ((tk [0,4,5,7,1,6,8,2,3] (.one 9 (tk [10,11,12,13,14] .done)))) rfl (by kernel_rfl) ?_)
 simp only [zxj,zxk,opX,isIfc,zz,zq,seval,zl,za,ze,zo,nzs,se1,se2,tks,s44,s45,d0,p0,p1,q1,q3,dd,true_and]
 refine CallK.asPtr (A:=fun s=>[s,.v (.int .i64 w),.v (.string ⟨n.toArray⟩),.v (.int .i64 a)]) 248 (fun s s' ν ν' h=>by simp only [SV.vals,SV.val,h]) rfl (treadK1 rfl w n a hT hR ?_)
 have hO:rdO w n a T=(T,(trdS T w n a).2,showS (trdS T w n a).1):=rfl
 rw [hO]
 generalize trdS T w n a=S at *
 simp only [zxj,zxk,opX,isIfc,zz,zq,seval,zl,za,ze,zo,nzs,se1,se2,tks]
 refine CallX.pureX (R:=fun s=>S.2=0∧s = .tup []) (X0:=fun c=>S.2≠0∧c=faultC S.2) rfl rfl ((must_x S.2 M').mono (fun s _ _ h=>⟨by rw [h.2]; rfl,h⟩) (fun _ _ _ h=>h)) (fun s hs=>?_) (fun ch hx=>?_)
 · obtain ⟨h0,rfl⟩:=hs
   simp only [zxj,zxk,opX,isIfc,zz,zq,seval,zl,za,ze,zo,nzs]
   refine CallX.ofK ⟨_,Proofs.Tryz.func71,by kernel_rfl,by kernel_rfl⟩ (CallK.pure ⟨rfl,rfl⟩ rfl (shown_m (s:=S.1) (by omega)) ?_)
   simp only [zxj,zxk,opX,isIfc,zz,zq,seval,zl,za,ze,zo,nzs]
   exact ⟨h0,b,v,rg,ws,rfl,hT,hR⟩
 · exact ⟨⟨hx.1,hx.2⟩,b,v,rg,ws,rfl,hT,hR⟩
theorem register_x {bt bd b0 b1 b2 w x y:Nat} {M:Mem} (hd:BoxM M bd [ptrV bt]) (h0:BoxM M b0 [.string ⟨([114,101,103,105,115,116,101,114]:Tx).toArray⟩]) (h1:BoxM M b1 [ptrV bd]) (h2:BoxM M b2 [.int .i64 (w:Nat),.int .i64 (x:Nat),.int .i64 (y:Nat),.int .i64 0]) :
  CloM bt 125 [.v (ptrV b0),.v (ptrV b1),.v (ptrV b2)] M (regO w x y):=by
 refine ⟨rfl,fun T b v rg ws M' hM hT hR=>?_⟩
 have d0:=(hd.le hM).at (j:=0) rfl
 have p0:=(h0.le hM).at (j:=0) rfl
 have p1:=(h1.le hM).at (j:=0) rfl
 have q0:=(h2.le hM).at' (j:=0) rfl
 have q1:=(h2.le hM).at' (j:=1) rfl
 have q2:=(h2.le hM).at' (j:=2) rfl
 have dd:=(hd.le hM).at' (j:=0) rfl
 refine MeetsX.of_body [0,1,2,3,4,5,6,8,9,10,24,38,52,64,80,113,114,115,116] Proofs.Tryz.func125 rfl (by kernel_rfl) fun w0 M0=>?_
 simp only [Proofs.Tryz.f125,zxj,zxk,opX,isIfc,zz,zq,seval,zl,za,ze,zo,nzs,p0,decide_true,decide_false,true_implies,Bool.true_eq_false,Bool.false_eq_true,false_implies,and_true,true_and]
 refine DrawX.tail 10 rfl (by kernel_rfl) ?_
 simp only [zxj,zxk,opX,isIfc,zz,zq,seval,zl,za,ze,zo,nzs,s44,s45,d0,p1,q0,q1,q2,dd,true_and]
 refine CallX.asPtr (A:=fun s=>[s,.v (.int .i64 w),.v (.int .i64 x),.v (.int .i64 y)]) 248 (fun s s' ν ν' h=>by simp only [SV.vals,SV.val,h]) rfl (CallX.ofK ⟨_,Proofs.Tryz.func126,by kernel_rfl,by kernel_rfl⟩ (tregisterK1 rfl w x y hT fun rg' M2 hM2 hT2=>?_))
 have hRR:=trv_right hR (fun he=>reg_right (g:=T.2.1.1) (l:=T.2.1.2.1) (k:=T.2.1.2.2.1) (h:=T.2.1.2.2.2) (w:=w) (old:=x) (key:=y) he)
 have hO:regO w x y T=(trvS T (Rv.regS T.2.1.1 T.2.1.2.1 T.2.1.2.2.1 T.2.1.2.2.2 w x y),(Rv.regS T.2.1.1 T.2.1.2.1 T.2.1.2.2.1 T.2.1.2.2.2 w x y).1,okS):=rfl
 rw [hO]
 generalize Rv.regS T.2.1.1 T.2.1.2.1 T.2.1.2.2.1 T.2.1.2.2.2 w x y=S at *
 simp only [zxj,zxk,opX,isIfc,zz,zq,seval,zl,za,ze,zo,nzs]
 refine CallX.pureX rfl rfl (done_x S.1 M2) (fun s hs=>?_) (fun ch hx=>?_)
 · obtain ⟨h0,rfl⟩:=hs
   simp only [zxj,zxk,opX,isIfc,zz,zq,seval,zl,za,ze,zo,nzs]
   exact ⟨h0,b,v,rg',ws,rfl,hT2,hRR⟩
 · exact ⟨⟨hx.1,hx.2⟩,b,v,rg',ws,rfl,hT2,hRR⟩
theorem reserve_x {bt bd b0 b1 b2 w x y:Nat} {M:Mem} (hd:BoxM M bd [ptrV bt]) (h0:BoxM M b0 [.string ⟨([114,101,115,101,114,118,101]:Tx).toArray⟩]) (h1:BoxM M b1 [ptrV bd]) (h2:BoxM M b2 [.int .i64 (w:Nat),.int .i64 (x:Nat),.int .i64 (y:Nat),.int .i64 0]) :
  CloM bt 125 [.v (ptrV b0),.v (ptrV b1),.v (ptrV b2)] M (rsvO w x y):=by
 refine ⟨rfl,fun T b v rg ws M' hM hT hR=>?_⟩
 have d0:=(hd.le hM).at (j:=0) rfl
 have p0:=(h0.le hM).at (j:=0) rfl
 have p1:=(h1.le hM).at (j:=0) rfl
 have q0:=(h2.le hM).at' (j:=0) rfl
 have q1:=(h2.le hM).at' (j:=1) rfl
 have q2:=(h2.le hM).at' (j:=2) rfl
 have dd:=(hd.le hM).at' (j:=0) rfl
 refine MeetsX.of_body [0,1,2,3,4,5,6,8,9,10,24,38,52,64,80,113,114,115,116] Proofs.Tryz.func125 rfl (by kernel_rfl) fun w0 M0=>?_
 simp only [Proofs.Tryz.f125,zxj,zxk,opX,isIfc,zz,zq,seval,zl,za,ze,zo,nzs,p0,w_reserve_register,decide_true,decide_false,true_implies,Bool.true_eq_false,Bool.false_eq_true,false_implies,and_true,true_and]
 refine DrawX.tail 10 rfl (by kernel_rfl) ?_
 simp only [zxj,zxk,opX,isIfc,zz,zq,seval,zl,za,ze,zo,nzs,s44,s45,d0,p1,q0,q1,q2,dd,true_and]
 refine CallX.asPtr (A:=fun s=>[s,.v (.int .i64 w),.v (.int .i64 x),.v (.int .i64 y)]) 248 (fun s s' ν ν' h=>by simp only [SV.vals,SV.val,h]) rfl (CallX.ofK ⟨_,Proofs.Tryz.func127,by kernel_rfl,by kernel_rfl⟩ (treserveK1 rfl w x y hT fun rg' M2 hM2 hT2=>?_))
 have hRR:=trv_right hR (fun he=>rsv_right (g:=T.2.1.1) (l:=T.2.1.2.1) (k:=T.2.1.2.2.1) (h:=T.2.1.2.2.2) (w:=w) (key:=x) (k2:=y) he)
 have hO:rsvO w x y T=(trvS T (Rv.rsvS T.2.1.1 T.2.1.2.1 T.2.1.2.2.1 T.2.1.2.2.2 w x y),(Rv.rsvS T.2.1.1 T.2.1.2.1 T.2.1.2.2.1 T.2.1.2.2.2 w x y).1,okS):=rfl
 rw [hO]
 generalize Rv.rsvS T.2.1.1 T.2.1.2.1 T.2.1.2.2.1 T.2.1.2.2.2 w x y=S at *
 simp only [zxj,zxk,opX,isIfc,zz,zq,seval,zl,za,ze,zo,nzs]
 refine CallX.pureX rfl rfl (done_x S.1 M2) (fun s hs=>?_) (fun ch hx=>?_)
 · obtain ⟨h0,rfl⟩:=hs
   simp only [zxj,zxk,opX,isIfc,zz,zq,seval,zl,za,ze,zo,nzs]
   exact ⟨h0,b,v,rg',ws,rfl,hT2,hRR⟩
 · exact ⟨⟨hx.1,hx.2⟩,b,v,rg',ws,rfl,hT2,hRR⟩
theorem release_x {bt bd b0 b1 b2 w x y:Nat} {M:Mem} (hd:BoxM M bd [ptrV bt]) (h0:BoxM M b0 [.string ⟨([114,101,108,101,97,115,101]:Tx).toArray⟩]) (h1:BoxM M b1 [ptrV bd]) (h2:BoxM M b2 [.int .i64 (w:Nat),.int .i64 (x:Nat),.int .i64 (y:Nat),.int .i64 0]) :
  CloM bt 125 [.v (ptrV b0),.v (ptrV b1),.v (ptrV b2)] M (relO w x y):=by
 refine ⟨rfl,fun T b v rg ws M' hM hT hR=>?_⟩
 have d0:=(hd.le hM).at (j:=0) rfl
 have p0:=(h0.le hM).at (j:=0) rfl
 have p1:=(h1.le hM).at (j:=0) rfl
 have q0:=(h2.le hM).at' (j:=0) rfl
 have q1:=(h2.le hM).at' (j:=1) rfl
 have q2:=(h2.le hM).at' (j:=2) rfl
 have dd:=(hd.le hM).at' (j:=0) rfl
 refine MeetsX.of_body [0,1,2,3,4,5,6,8,9,10,24,38,52,64,80,113,114,115,116] Proofs.Tryz.func125 rfl (by kernel_rfl) fun w0 M0=>?_
 simp only [Proofs.Tryz.f125,zxj,zxk,opX,isIfc,zz,zq,seval,zl,za,ze,zo,nzs,p0,w_release_register,w_release_reserve,decide_true,decide_false,true_implies,Bool.true_eq_false,Bool.false_eq_true,false_implies,and_true,true_and]
 refine DrawX.tail 10 rfl (by kernel_rfl) ?_
 simp only [zxj,zxk,opX,isIfc,zz,zq,seval,zl,za,ze,zo,nzs,s44,s45,d0,p1,q0,q1,q2,dd,true_and]
 refine CallX.asPtr (A:=fun s=>[s,.v (.int .i64 w),.v (.int .i64 x),.v (.int .i64 y)]) 248 (fun s s' ν ν' h=>by simp only [SV.vals,SV.val,h]) rfl (CallX.ofK ⟨_,Proofs.Tryz.func128,by kernel_rfl,by kernel_rfl⟩ (treleaseK1 rfl w x y hT fun rg' M2 hM2 hT2=>?_))
 have hRR:=trv_right hR (fun he=>rel_right (g:=T.2.1.1) (l:=T.2.1.2.1) (k:=T.2.1.2.2.1) (h:=T.2.1.2.2.2) (w:=w) (key:=x) (k2:=y) he)
 have hO:relO w x y T=(trvS T (Rv.relS T.2.1.1 T.2.1.2.1 T.2.1.2.2.1 T.2.1.2.2.2 w x y),(Rv.relS T.2.1.1 T.2.1.2.1 T.2.1.2.2.1 T.2.1.2.2.2 w x y).1,okS):=rfl
 rw [hO]
 generalize Rv.relS T.2.1.1 T.2.1.2.1 T.2.1.2.2.1 T.2.1.2.2.2 w x y=S at *
 simp only [zxj,zxk,opX,isIfc,zz,zq,seval,zl,za,ze,zo,nzs]
 refine CallX.pureX rfl rfl (done_x S.1 M2) (fun s hs=>?_) (fun ch hx=>?_)
 · obtain ⟨h0,rfl⟩:=hs
   simp only [zxj,zxk,opX,isIfc,zz,zq,seval,zl,za,ze,zo,nzs]
   exact ⟨h0,b,v,rg',ws,rfl,hT2,hRR⟩
 · exact ⟨⟨hx.1,hx.2⟩,b,v,rg',ws,rfl,hT2,hRR⟩
theorem clear_x {bt bd b0 b1 b2 w x:Nat} {M:Mem} (hd:BoxM M bd [ptrV bt]) (h0:BoxM M b0 [.string ⟨([99,108,101,97,114]:Tx).toArray⟩]) (h1:BoxM M b1 [ptrV bd]) (h2:BoxM M b2 [.int .i64 (w:Nat),.int .i64 (x:Nat),.int .i64 0,.int .i64 0]) :
  CloM bt 125 [.v (ptrV b0),.v (ptrV b1),.v (ptrV b2)] M (clrO w x):=by
 refine ⟨rfl,fun T b v rg ws M' hM hT hR=>?_⟩
 have d0:=(hd.le hM).at (j:=0) rfl
 have p0:=(h0.le hM).at (j:=0) rfl
 have p1:=(h1.le hM).at (j:=0) rfl
 have q0:=(h2.le hM).at' (j:=0) rfl
 have q1:=(h2.le hM).at' (j:=1) rfl
 have dd:=(hd.le hM).at' (j:=0) rfl
 refine MeetsX.of_body [0,1,2,3,4,5,6,8,9,10,24,38,52,64,80,113,114,115,116] Proofs.Tryz.func125 rfl (by kernel_rfl) fun w0 M0=>?_
 simp only [Proofs.Tryz.f125,zxj,zxk,opX,isIfc,zz,zq,seval,zl,za,ze,zo,nzs,p0,w_clear_register,w_clear_reserve,w_clear_release,decide_true,decide_false,true_implies,Bool.true_eq_false,Bool.false_eq_true,false_implies,and_true,true_and]
 refine DrawX.tail 8 rfl (by kernel_rfl) ?_
 simp only [zxj,zxk,opX,isIfc,zz,zq,seval,zl,za,ze,zo,nzs,s44,s45,d0,p1,q0,q1,dd,true_and]
 refine CallX.asPtr (A:=fun s=>[s,.v (.int .i64 w),.v (.int .i64 x)]) 248 (fun s s' ν ν' h=>by simp only [SV.vals,SV.val,h]) rfl (CallX.ofK ⟨_,Proofs.Tryz.func129,by kernel_rfl,by kernel_rfl⟩ (tclearK1 rfl w x hT fun rg' M2 hM2 hT2=>?_))
 have hRR:=trv_right hR (fun he=>clr_right (g:=T.2.1.1) (l:=T.2.1.2.1) (k:=T.2.1.2.2.1) (h:=T.2.1.2.2.2) (w:=w) (key:=x) he)
 have hO:clrO w x T=(trvS T (Rv.clrS T.2.1.1 T.2.1.2.1 T.2.1.2.2.1 T.2.1.2.2.2 w x),(Rv.clrS T.2.1.1 T.2.1.2.1 T.2.1.2.2.1 T.2.1.2.2.2 w x).1,okS):=rfl
 rw [hO]
 generalize Rv.clrS T.2.1.1 T.2.1.2.1 T.2.1.2.2.1 T.2.1.2.2.2 w x=S at *
 simp only [zxj,zxk,opX,isIfc,zz,zq,seval,zl,za,ze,zo,nzs]
 refine CallX.pureX rfl rfl (done_x S.1 M2) (fun s hs=>?_) (fun ch hx=>?_)
 · obtain ⟨h0,rfl⟩:=hs
   simp only [zxj,zxk,opX,isIfc,zz,zq,seval,zl,za,ze,zo,nzs]
   exact ⟨h0,b,v,rg',ws,rfl,hT2,hRR⟩
 · exact ⟨⟨hx.1,hx.2⟩,b,v,rg',ws,rfl,hT2,hRR⟩
theorem preempt_x {bt bd b0 b1 b2 w x y z:Nat} {M:Mem} (hd:BoxM M bd [ptrV bt]) (h0:BoxM M b0 [.string ⟨([112,114,101,101,109,112,116]:Tx).toArray⟩]) (h1:BoxM M b1 [ptrV bd]) (h2:BoxM M b2 [.int .i64 (w:Nat),.int .i64 (x:Nat),.int .i64 (y:Nat),.int .i64 (z:Nat)]) :
  CloM bt 125 [.v (ptrV b0),.v (ptrV b1),.v (ptrV b2)] M (preO w x y z):=by
 refine ⟨rfl,fun T b v rg ws M' hM hT hR=>?_⟩
 have d0:=(hd.le hM).at (j:=0) rfl
 have p0:=(h0.le hM).at (j:=0) rfl
 have p1:=(h1.le hM).at (j:=0) rfl
 have q0:=(h2.le hM).at' (j:=0) rfl
 have q1:=(h2.le hM).at' (j:=1) rfl
 have q2:=(h2.le hM).at' (j:=2) rfl
 have q3:=(h2.le hM).at' (j:=3) rfl
 have dd:=(hd.le hM).at' (j:=0) rfl
 refine MeetsX.of_body [0,1,2,3,4,5,6,8,9,10,24,38,52,64,80,113,114,115,116] Proofs.Tryz.func125 rfl (by kernel_rfl) fun w0 M0=>?_
 simp only [Proofs.Tryz.f125,zxj,zxk,opX,isIfc,zz,zq,seval,zl,za,ze,zo,nzs,p0,w_preempt_register,w_preempt_reserve,w_preempt_release,w_preempt_clear,decide_true,decide_false,true_implies,Bool.true_eq_false,Bool.false_eq_true,false_implies,and_true,true_and]
 refine DrawX.tail 12 rfl (by kernel_rfl) ?_
 simp only [zxj,zxk,opX,isIfc,zz,zq,seval,zl,za,ze,zo,nzs,s44,s45,d0,p1,q0,q1,q2,q3,dd,true_and]
 refine CallX.asPtr (A:=fun s=>[s,.v (.int .i64 w),.v (.int .i64 x),.v (.int .i64 y),.v (.int .i64 z)]) 248 (fun s s' ν ν' h=>by simp only [SV.vals,SV.val,h]) rfl (CallX.ofK ⟨_,Proofs.Tryz.func130,by kernel_rfl,by kernel_rfl⟩ (tpreemptK1 rfl w x y z hT fun rg' M2 hM2 hT2=>?_))
 have hRR:=trv_right hR (fun he=>pre_right (g:=T.2.1.1) (l:=T.2.1.2.1) (k:=T.2.1.2.2.1) (h:=T.2.1.2.2.2) (w:=w) (key:=x) (b:=y) (c:=z) he)
 have hO:preO w x y z T=(trvS T (Rv.preS T.2.1.1 T.2.1.2.1 T.2.1.2.2.1 T.2.1.2.2.2 w x y z),(Rv.preS T.2.1.1 T.2.1.2.1 T.2.1.2.2.1 T.2.1.2.2.2 w x y z).1,okS):=rfl
 rw [hO]
 generalize Rv.preS T.2.1.1 T.2.1.2.1 T.2.1.2.2.1 T.2.1.2.2.2 w x y z=S at *
 simp only [zxj,zxk,opX,isIfc,zz,zq,seval,zl,za,ze,zo,nzs]
 refine CallX.pureX rfl rfl (done_x S.1 M2) (fun s hs=>?_) (fun ch hx=>?_)
 · obtain ⟨h0,rfl⟩:=hs
   simp only [zxj,zxk,opX,isIfc,zz,zq,seval,zl,za,ze,zo,nzs]
   exact ⟨h0,b,v,rg',ws,rfl,hT2,hRR⟩
 · exact ⟨⟨hx.1,hx.2⟩,b,v,rg',ws,rfl,hT2,hRR⟩
theorem crash_x {bt bd b0 b1 b2 n:Nat} {M:Mem} (hn:n≤9223372036854775807) (hG:GlobM M) (hd:BoxM M bd [ptrV bt]) (h0:BoxM M b0 [.string ⟨([99,114,97,115,104]:Tx).toArray⟩]) (h1:BoxM M b1 [ptrV bd]) (h2:BoxM M b2 [.int .i64 (n:Nat),.int .i64 0,.int .i64 0,.int .i64 0]) :
  CloM bt 125 [.v (ptrV b0),.v (ptrV b1),.v (ptrV b2)] M (craO n):=by
 refine ⟨rfl,fun T b v rg ws M' hM hT hR=>?_⟩
 have d0:=(hd.le hM).at (j:=0) rfl
 have p0:=(h0.le hM).at (j:=0) rfl
 have p1:=(h1.le hM).at (j:=0) rfl
 have q0:=(h2.le hM).at' (j:=0) rfl
 have dd:=(hd.le hM).at' (j:=0) rfl
 have hcr:=(crP_right T n).2
 have hcn:(crP T n).2.1=(((crP T n).2.1.toNat:Nat):Int):=by omega
 refine meetsX_end ?_
 refine MeetsX.of_body [0,1,2,3,4,5,6,8,9,10,24,38,52,64,80,113,114,115,116] Proofs.Tryz.func125 rfl (by kernel_rfl) fun w0 M0=>?_
 simp only [Proofs.Tryz.f125,zxj,zxk,opX,isIfc,zz,zq,seval,zl,za,ze,zo,nzs,p0,w_crash_register,w_crash_reserve,w_crash_release,w_crash_clear,w_crash_preempt,decide_true,decide_false,true_implies,Bool.true_eq_false,Bool.false_eq_true,false_implies,and_true,true_and]
 refine DrawX.of (DrawK.tail 6 rfl (by kernel_rfl) ?_)
 simp only [zxj,zxk,opX,isIfc,zz,zq,seval,zl,za,ze,zo,nzs,s44,s45,d0,p1,q0,dd,true_and]
 refine CallK.asPtr (A:=fun s=>[s,.v (.int .i64 n)]) 248 (fun s s' ν ν' h=>by simp only [SV.vals,SV.val,h]) rfl (tcrashK1 rfl n (in64 (by omega) (by omega)) hT hR fun b' v' ws' M2 hM2 hT2=>?_)
 rw [hcn]
 have hO:craO n T=(crS T n,0,numbersS [(crP T n).2.1.toNat]):=rfl
 rw [hO]
 have hRR:=cr_right T n
 generalize crS T n=S at *
 generalize (crP T n).2.1.toNat=m at *
 simp only [zxj,zxk,opX,isIfc,zz,zq,seval,zl,za,ze,zo,nzs]
 refine ⟨rfl,CallK.lend (k:=712) rfl rfl rfl (fun _=>rfl) (fun v M3 hM3 hv=>numbers_m (l:=[m]) (((hG.le hM).le hM2).le hM3) hv (by simp) (fun k hk=>by simp only [List.mem_singleton] at hk; omega)) ?_⟩
 simp only [zxj,zxk,opX,isIfc,zz,zq,seval,zl,za,ze,zo,nzs]
 exact ⟨b',v',_,ws',rfl,hT2,hRR⟩
theorem all_x {bt bd b0 b1 b2:Nat} {M:Mem} (hG:GlobM M) (hd:BoxM M bd [ptrV bt]) (h0:BoxM M b0 [.string ⟨([97,108,108]:Tx).toArray⟩]) (h1:BoxM M b1 [ptrV bd]) (_:BoxM M b2 [.int .i64 0,.int .i64 0,.int .i64 0,.int .i64 0]) :
  CloM bt 125 [.v (ptrV b0),.v (ptrV b1),.v (ptrV b2)] M allO:=by
 refine ⟨rfl,fun T b v rg ws M' hM hT hR=>?_⟩
 have d0:=(hd.le hM).at (j:=0) rfl
 have p0:=(h0.le hM).at (j:=0) rfl
 have p1:=(h1.le hM).at (j:=0) rfl
 have dd:=(hd.le hM).at' (j:=0) rfl
 refine meetsX_end ?_
 refine MeetsX.of_body [0,1,2,3,4,5,6,8,9,10,24,38,52,64,80,113,114,115,116] Proofs.Tryz.func125 rfl (by kernel_rfl) fun w0 M0=>?_
 simp only [Proofs.Tryz.f125,zxj,zxk,opX,isIfc,zz,zq,seval,zl,za,ze,zo,nzs,p0,w_all_register,w_all_reserve,w_all_release,w_all_clear,w_all_preempt,w_all_crash,decide_true,decide_false,true_implies,Bool.true_eq_false,Bool.false_eq_true,false_implies,and_true,true_and]
 have hcc:SV.concs (tgC T b v rg)=true:=rfl
 have hnk : ∀ d,SV.noKeys d (tgC T b v rg)=true:=fun _=>rfl
 refine DrawX.of (DrawK.ent (X:=Value×Value×List WV×Value×Mem) (fun z=>((M'.le z.2.2.2.2∧z.2.2.1.map (·.2)=T.1.2)∧RowM z.2.2.2.2 z.1 4 (T.1.1.map Bg.encT)∧VolsM z.2.2.2.2 z.2.1 z.2.2.1)∧RowM z.2.2.2.2 z.2.2.2.1 2 (T.2.1.2.1.map Rv.encR)) (fun z=>([(3,true,.v (.string ⟨#[]⟩)),(4,true,.ptr 32 0 0 0),(5,true,.ptr 40 0 0 0)],
  [(32,.box [.v z.1,.v z.2.1] none),(40,.box [.v (.int .i64 T.2.1.1),.v z.2.2.2.1,.v (.int .i64 T.2.1.2.2.1),.v (.int .i64 T.2.1.2.2.2)] none),(248,.box (tgC T b v rg) (some (ptrV bt)))],z.2.2.2.2)) ?_ ?_)
 · refine DrawK.held3E 12 [248] ((tk3 [0,5,1,6,2,7,3,8] (.three 4 (.three 9 (.two 10 (.one 11 .done) 11 (.one 10 .done)) 10 (.two 9 (.one 11 .done) 11 (.one 9 .done)) 11 (.two 9 (.one 10 .done) 10 (.one 9 .done))) 10 (.two 4 (.two 9 (.one 11 .done) 11 (.one 9 .done)) 11 (.one 4 (.one 9 .done))) 11 (.two 4 (.two 9 (.one 10 .done) 10 (.one 9 .done)) 10 (.one 4 (.one 9 .done)))))) rfl (by kernel_rfl) fun xs hx=>?_
   simp only [tieEq] at hx
   simp only [zxj,zxk,opX,isIfc,zz,zq,seval,zl,za,ze,zo,nzs,se1,se2,se3,tks3,sd1,hx,hcc,hnk,s44,s45,d0,p1,dd,true_and]
   repeat' apply And.intro
   all_goals
    refine CallK.asPtr (A:=fun s=>[s]) 248 (fun s s' ν ν' h=>by simp only [SV.vals,h]) rfl ?_
    first
     | refine tstateK1 rfl hT hR fun b' v' ws' M2 hM2 hw2 hb2 hv2=>?_
     | refine stateA2 _ rfl rfl hT hR fun b' v' ws' M2 hM2 hw2 hb2 hv2=>?_
     | refine stateA3 _ _ rfl rfl rfl hT hR fun b' v' ws' M2 hM2 hw2 hb2 hv2=>?_
    simp only [zxj,zxk,opX,isIfc,zz,zq,seval,zl,za,ze,zo,nzs,se1,se2,se3,tks3,hcc,hnk,hM2]
   repeat' apply And.intro
   all_goals
    refine CallK.asPtr (A:=fun s=>[s]) 248 (fun s s' ν ν' h=>by simp only [SV.vals,h]) rfl ?_
    first
     | refine tresvK1 rfl (hT.le hM2) hR fun y M3 hM3 hy=>?_
     | refine resvA2 _ rfl rfl (hT.le hM2) hR fun y M3 hM3 hy=>?_
     | refine resvA3 _ _ rfl rfl rfl (hT.le hM2) hR fun y M3 hM3 hy=>?_
    simp only [zxj,zxk,opX,isIfc,zz,zq,seval,zl,za,ze,zo,nzs,se1,se2,se3,tks3,hcc,hnk,hM2.trans hM3,hb2.one,hv2.row.one,hy.one,and_self,true_and]
    repeat' apply And.intro
    all_goals exact ⟨(b',v',ws',y,M3),⟨⟨⟨hM2.trans hM3,hw2⟩,hb2.le hM3,hv2.le hM3⟩,hy⟩,Ent.of (by simp only [zq,seval,zl,za,ze,zo])⟩
 rintro ⟨b',v',ws',y,M2⟩ ⟨⟨⟨m1,m2⟩,m3,m4⟩,m5⟩
 simp only at m1 m2 m3 m4 m5
 obtain ⟨hB,hV,_⟩:=stE_ok hR.st
 have hBl:=Bp.bag_len hB
 have hVo:=volsE_ok hV
 obtain ⟨r1,r2,r3,r4,r5,r6⟩:=Rv.resvE_ok hR.rv
 have r7:T.2.1.2.2.2≤7:=by
  rcases (okK_of hR.rv).2.2 with ⟨_,h⟩ | ⟨_,h,_⟩ | ⟨_,_,_,h⟩
  · omega
  · omega
  · exact (ky_range r2 h).2
 have wl:ws'.length=T.1.2.length:=by rw [← m2,List.length_map]
 have hrow:([[.int .i64 (T.1.1.length:Int)],[.int .i64 T.2.1.1],[.int .i64 T.2.1.2.2.1],[.int .i64 T.2.1.2.2.2]]:List (List Value))=[T.1.1.length,T.2.1.1.toNat,T.2.1.2.2.1.toNat,T.2.1.2.2.2.toNat].map natV:=by
  simp only [natV,List.map_cons,List.map_nil,Int.toNat_of_nonneg r1.1,Int.toNat_of_nonneg r3.1,Int.toNat_of_nonneg r6]
 dsimp only
 have hLn : ∀ n ∈ [T.1.1.length,T.2.1.1.toNat,T.2.1.2.2.1.toNat,T.2.1.2.2.2.toNat],n≤9223372036854775807:=fun n hn=>by
  simp only [List.mem_cons,List.not_mem_nil,or_false] at hn
  omega
 have hall:allS T=numbersS [T.1.1.length,T.2.1.1.toNat,T.2.1.2.2.1.toNat,T.2.1.2.2.2.toNat]++T.1.2.flatMap vol1:=rfl
 have hLl:=num_len _ hLn
 simp only [zxj,zxk,opX,isIfc,zz,zq,seval,zl,za,ze,zo,nzs,m3.len,m3.sl,List.length_map]
 refine ⟨hnk _,CallX.ofK ⟨_,Proofs.Tryz.func63,by kernel_rfl,by kernel_rfl⟩ (CallK.lend (s:=.v (.string ⟨(numbersS [T.1.1.length,T.2.1.1.toNat,T.2.1.2.2.1.toNat,T.2.1.2.2.2.toNat]).toArray⟩)) (k:=880) rfl rfl rfl (fun _=>rfl) (fun v3 M3 hM3 hv3=>?_) ?_)⟩
 · rw [hrow] at hv3
   exact numbers_m (((hG.le hM).le m1).le hM3) hv3 (by simp) hLn
 rw [show (numbersS [T.1.1.length,T.2.1.1.toNat,T.2.1.2.2.1.toNat,T.2.1.2.2.2.toNat])=numbersS [T.1.1.length,T.2.1.1.toNat,T.2.1.2.2.1.toNat,T.2.1.2.2.2.toNat]++(T.1.2.take 0).flatMap vol1 by simp] 
 generalize numbersS [T.1.1.length,T.2.1.1.toNat,T.2.1.2.2.1.toNat,T.2.1.2.2.2.toNat]=L at *
 simp only [zxj,zxk,opX,isIfc,zz,zq,seval,zl,za,ze,zo,nzs,m4.row.len,m4.row.sl,List.length_map,wl]
 refine LoopX.go (X:=Nat) (fun k=>([(6,true,.v (.string ⟨(L++(T.1.2.take k).flatMap vol1).toArray⟩)),(113,true,.v v'),(114,true,.v (.int .i64 T.1.2.length)),(115,true,.v (.int .i64 k))],[(248,.box (tgC T b v rg) (some (ptrV bt)))],M2)) (fun k=>k≤T.1.2.length) (fun k=>T.1.2.length - k) 0 (Nat.zero_le _) (Ent.of ?_) ?_
 · simp only [zq,seval,zl,za,ze,zo,za]
 intro k hk
 by_cases hkl:k < T.1.2.length
 · have e1:((k:Int) < (T.1.2.length:Int))=True:=eq_true (by omega)
   obtain ⟨r,hr⟩ : ∃ r,ws'[k]? = some r:=⟨_,List.getElem?_eq_getElem (by omega)⟩
   have hr2:T.1.2[k]? = some r.2:=by rw [← m2,List.getElem?_map,hr]; rfl
   obtain ⟨⟨u1,u2⟩,⟨u3,u4⟩,u5⟩:=vol_at m4 hr
   have ub:=m4.blk r (List.mem_of_getElem? hr)
   obtain ⟨w1,w2,_⟩:=hVo.2 r.2 (List.mem_of_getElem? hr2)
   have w3:=Lg.nmB_len w2
   have hit:Lib.itoa (r.2.2.length:Int)=Lib.decDigits r.2.2.length:=Lib.itoa_nonneg _
   have hdl:=dec_len_le 1 r.2.2.length (by have:(10:Nat) ^ (1+1)=100:=(by decide); omega)
   have htk:(T.1.2.take (k+1)).flatMap vol1=(T.1.2.take k).flatMap vol1++vol1 r.2:=by
    rw [List.take_add_one,hr2,Option.toList_some,List.flatMap_append]
    simp
   have hsz:=vols_len hVo.2 k
   simp only [zxj,zxk,opX,isIfc,zz,zq,seval,zl,za,ze,zo,nzs,e1,u1,u2,u3,u4,u5,hnk,ub.one]
   refine DrawX.of (DrawK.heldE [64] (tk [0,1,5,2,6,3,7,4] (.one 8 (tk [9,10,11] .done))) rfl (by kernel_rfl) fun ys hy=>?_)
   simp only [tieEq] at hy
   simp only [zxj,zxk,opX,isIfc,zz,zq,seval,zl,za,ze,zo,nzs,se1,se2,tks,sd1,hy,hcc,hnk,ub.len,ub.sl,List.length_map,true_and]
   have hll:L.length≤100:=Nat.le_trans hLl (by simp)
   refine ⟨by omega,by omega,CallK.pure ⟨rfl,rfl⟩ rfl (itoa_m (n:=(r.2.2.length:Int)) ((hG.le hM).le m1) (in64 (by omega) (by omega))) ?_⟩
   have hv1:(32 :: (r.2.1++[58]))++Lib.decDigits r.2.2.length=vol1 r.2:=by simp [vol1]
   simp only [zxj,zxk,opX,isIfc,zz,zq,seval,zl,za,ze,zo,nzs,se1,se2,tks,sd1,hy,hcc,hnk,hit,hv1,true_and]
   have hvl:(vol1 r.2).length≤40:=by
    rw [← hv1]
    simp only [List.length_append,List.length_cons,List.length_nil]
    omega
   refine ⟨by simp only [List.length_append,List.length_cons,List.length_nil]; omega,by rw [List.length_append]; omega,in64 (by omega) (by omega),k+1,⟨by omega,by omega⟩,Ent.of ?_⟩
   simp only [zq,seval,zl,za,ze,zo,Int.natCast_add,htk,List.append_assoc]
 · have e1:((k:Int) < (T.1.2.length:Int))=False:=eq_false (by omega)
   simp only [zxj,zxk,opX,isIfc,zz,zq,seval,zl,za,ze,zo,nzs,e1]
   have hke:T.1.2.take k=T.1.2:=List.take_of_length_le (by omega)
   rw [hke]
   exact ⟨⟨rfl,by show _=SV.v (.string ⟨(allS T).toArray⟩); rw [hall]⟩,b,v,rg,ws,rfl,hT.le m1,hR⟩
end Go.X.Dk

