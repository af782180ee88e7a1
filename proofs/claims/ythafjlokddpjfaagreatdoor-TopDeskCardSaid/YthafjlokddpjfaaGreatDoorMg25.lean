/- Contracts of functions and the logic that they are proved in (3 texts in one). Conditions: none. -/
import Derived.Test.YthafjlokddpjfaaGreatDoorMg24
import Derived.Test.YthafjlokddpjfaaGreatDoorMg11
import Derived.Test.YthafjlokddpjfaaGreatDoorMg12
open Go.Proofs.Tryz renaming prog → qz
open Int renaming cast_ofNat_Int→zl,natCast_zero→za,natCast_one→ze,toNat_natCast→zo
namespace Go.X.Bg
end Go.X.Bg
namespace Go.X.Nm
end Go.X.Nm
namespace Go.X.Bp
end Go.X.Bp
namespace Go.X.Sb
end Go.X.Sb
namespace Go.X.Vo
end Go.X.Vo
namespace Go.X.Tg
end Go.X.Tg
set_option linter.unusedSimpArgs false
set_option linter.unusedVariables false
set_option maxHeartbeats 4000000
set_option maxRecDepth 20000
namespace Go.X.Th
open Go Go.X Go.RowKit Go.X.Bg Go.X.Nm Go.X.Bp Go.X.Sb Go.X.Vo Go.X.Tg

abbrev H1 (qc:Option Value) (tc:List SV):HS:=[(248,.box tc qc)]
section
variable {N:Nat} {w0:World} {M0 M:Mem} {σ:Sig} {K:KP} {d:Nat} {qc:Option Value} {T:TG} {b v rg:Value} {ws:List WV}
theorem tdoK1 (hd:decide (d < N)=true) (w:Int) (o:OpT) (hT:TgM M T b v rg ws) (hR:TgR T)
  (hk : ∀ b' v' ws' M',M.le M'→TgM M' (tdoS T w o).1 b' v' rg ws'→K ((d,true,.v (.int .i64 (tdoS T w o).2)) :: σ) (H1 qc (tgC (tdoS T w o).1 b' v' rg)) M') :
  CallK ⟨qz,N,w0,M0⟩ 124 [.ptr 248 0 0 0,.v (.int .i64 w),opT o] d K σ (H1 qc (tgC T b v rg)) M:=by
 refine CallK.lendB 8000 [0,1,2,5,6,7,8,9,10,12,24,27,38,44] Proofs.Tryz.func124 rfl (by kernel_rfl) hd (by simp only [lentB,tgC,SV.concs,SV.conc,Bool.and_self]) fun xs=>?_
 have hM:=Rv.may T.2.1.1 rg T.2.1.2.2.1 T.2.1.2.2.2 w true T.2.1.2.1 M hT.regs
 simp only [Rv.resvV] at hM
 obtain ⟨A,⟨g,l,k,h⟩,tx,many⟩:=T
 have h2:=hR.rv
 have h4:=hR.many
 have h5:=hR.tx
 simp only at hM h2 h4 h5
 have hmE:Rv.mayE g l k h w=if Rv.whoB w=true then 0 else 1:=if_neg (fun h=>h h2)
 generalize hS:tdoS (A,(g,l,k,h),tx,many) w o=S at *
 unfold tdoS at hS
 simp only at hS
 simp only [Proofs.Tryz.f124,tgC,opT,sd2,sd3,zz,zq,seval,zl,za,ze,zo,nzs,hT.bag.one,hT.vols.row.one,hT.regs.one]
 refine CallK.pure ⟨rfl,rfl⟩ rfl hM ?_
 rw [hmE]
 have hkeep : ∀ (e:Int),S=((A,(g,l,k,h),tx,many),e)→K ((d,true,.v (.int .i64 e)) :: σ) (H1 qc [.v b,.v v,.v (.int .i64 g),.v rg,.v (.int .i64 k),.v (.int .i64 h),.v (.string ⟨tx.toArray⟩),.v (.int .i64 many)]) M:=fun e he=>by
  subst he
  exact hk b v ws M (Mem.le.refl M) hT
 cases hw:Rv.whoB w with
 | false=>
   have e1:hE (g,l,k,h) w true=1:=if_pos hw
   rw [e1,if_pos (by decide)] at hS
   simp only [sd2,sd3,zz,zq,seval,zl,za,ze,zo,nzs]
   exact hkeep 1 hS.symm
 | true=>
 have e1:hE (g,l,k,h) w true=if Rv.mayB l k h w true=true then 0 else 9:=if_neg (by rw [hw]; decide)
 rw [e1] at hS
 cases hmb:Rv.mayB l k h w true with
 | false=>
   rw [hmb,if_pos (by decide),if_neg (by decide)] at hS
   simp only [sd2,sd3,zz,zq,seval,zl,za,ze,zo,nzs,if_true,decide_true]
   exact hkeep 9 hS.symm
 | true=>
 rw [hmb,if_pos rfl,if_neg (fun h=>h rfl)] at hS
 have hL:=ldo b v A.1 ws o M hT.bag hT.vols
 rw [hT.vw] at hL
 simp only [stV,opT] at hL
 have hop:(doL A.1 A.2 o).2=0→Lg.opE o=0:=fun h=>Decidable.of_not_not fun h1=>by
  have:doL A.1 A.2 o=(zSt,Lg.opE o):=if_pos h1
  rw [this] at h
  exact h1 h
 generalize doL A.1 A.2 o=D at *
 simp only [sd2,sd3,zz,zq,seval,zl,za,ze,zo,nzs,if_true,decide_true]
 refine DrawK.ent (X:=Value×Value×List WV×Mem) (fun z=>(M.le z.2.2.2∧z.2.2.1.map (·.2)=D.1.2)∧RowM z.2.2.2 z.1 4 (D.1.1.map Bg.encT)∧VolsM z.2.2.2 z.2.1 z.2.2.1) (fun z=>([(0,true,.ptr 8248 0 0 0),(5,true,.ptr 40 0 0 0),(8,true,.v (.int .i64 D.2)),(9,true,.ptr 72 0 0 0)],
  [(72,.box [.v z.1,.v z.2.1] none),(40,.box [.v (.int .i64 o.1),.v (.string ⟨o.2.1.toArray⟩),.v (.string ⟨o.2.2.1.toArray⟩),.v (.int .i64 o.2.2.2.1),.v (.string ⟨o.2.2.2.2.toArray⟩)] none),(8248,.box [.v b,.v v,.v (.int .i64 g),.v rg,.v (.int .i64 k),.v (.int .i64 h),.v (.string ⟨tx.toArray⟩),.v (.int .i64 many)] (some (xs 248)))],z.2.2.2)) ?_ ?_
 · refine DrawK.heldE [8248,40] (tk [0,4,1,2,3] (.two 5 (tk [6,7,8] (.one 9 (.one 10 (tk [11] .done)))) 9 (.one 5 (tk [6,7,8] (.one 10 (tk [11] .done)))))) (by kernel_rfl) (by kernel_rfl) fun ys hy=>?_
   simp only [tieEq] at hy
   simp only [sd2,sd3,zz,zq,seval,zl,za,ze,zo,nzs,se1,se2,tks,hT.bag.one,hT.vols.row.one,hy]
   refine ⟨?_,?_⟩
   all_goals
    refine CallK.stM (T:=fun s=>.tup [s,.v (.int .i64 D.2)]) (fun _ _=>rfl) rfl rfl hL fun b5 v5 ws5 M5 hM5 hw5 hb5 hv5=>?_
    simp only [zz,zq,seval,zl,za,ze,zo,nzs,se1,se2,tks,stV,hb5.one,hv5.row.one,hM5,hy]
    exact ⟨(b5,v5,ws5,M5),⟨⟨hM5,hw5⟩,hb5,hv5⟩,Ent.heap (HEnt.untie (k:=40) rfl) (Ent.of (by simp only [zq,seval,zl,za,ze,zo,hset]))⟩
 rintro ⟨b2,v2,ws2,M2⟩ ⟨⟨hM2,hw2⟩,hb2,hv2⟩
 simp only at hM2 hw2 hb2 hv2
 have hkeep2 : ∀ (e:Int),S=((A,(g,l,k,h),tx,many),e)→K ((d,true,.v (.int .i64 e)) :: σ) (H1 qc [.v b,.v v,.v (.int .i64 g),.v rg,.v (.int .i64 k),.v (.int .i64 h),.v (.string ⟨tx.toArray⟩),.v (.int .i64 many)]) M2:=fun e he=>by
  subst he
  exact hk b v ws M2 hM2 (hT.le hM2)
 by_cases h6:D.2=0
 rotate_left
 · have c6:=eq_false h6
   rw [if_pos h6] at hS
   simp only [sd2,sd3,zz,zq,seval,zl,za,ze,zo,nzs,c6]
   exact hkeep2 _ hS.symm
 rw [if_neg (fun h=>h h6)] at hS
 have hop2:=hop h6
 by_cases h7:many=200
 · have c7:((many:Int)=200)=True:=eq_true (by omega)
   rw [if_pos h7] at hS
   simp only [sd2,sd3,zz,zq,seval,zl,za,ze,zo,nzs,h6,c7]
   exact hkeep2 _ hS.symm
 have c7:((many:Int)=200)=False:=eq_false (by omega)
 rw [if_neg h7] at hS
 subst hS
 have hEn:=Lg.encodeW o M2
 rw [hop2,if_pos rfl] at hEn
 simp only [Lg.opV] at hEn
 obtain ⟨p1,p2⟩:=put_body hop2
 have hP:=Fr.put 1 (Lg.bodyS o) M2 (body_max hop2)
 rw [p1,p2] at hP
 simp only [Fr.frV] at hP
 have hfl:=frO_len hop2
 simp only [sd2,sd3,zz,zq,seval,zl,za,ze,zo,nzs,h6,c7]
 refine CallK.pure ⟨rfl,rfl⟩ rfl hEn ?_
 simp only [sd2,sd3,zz,zq,seval,zl,za,ze,zo,nzs]
 refine CallK.pure ⟨rfl,rfl⟩ rfl hP ?_
 simp only [sd2,sd3,zz,zq,seval,zl,za,ze,zo,nzs]
 refine DrawK.heldE [72] (tk [0,1,2,3,4,8,10,5,11,6,12] (.two 7 (tk [9] (.one 13 (tk [14,15,16] (.one 17 (tk [18,19] (.one 20 (tk [21,22] (.one 23 .done)))))))) 13 (tk [14] (.one 7 (tk [9,15,16] (.one 17 (tk [18,19] (.one 20 (tk [21,22] (.one 23 .done)))))))))) (by kernel_rfl) (by kernel_rfl) fun ys hy=>?_
 simp only [tieEq] at hy
 simp only [sd2,sd3,zz,zq,seval,zl,za,ze,zo,nzs,se1,se2,tks,hb2.one,hv2.row.one,hT.regs.one,hy,inK,lo,hi]
 have hK:=hk b2 v2 ws2 M2 hM2 ⟨hb2,hv2,hw2,hT.regs.le hM2⟩
 simp only [tgC,Int.natCast_add,ze] at hK
 exact ⟨⟨by omega,⟨by omega,by omega⟩,hK⟩,⟨by omega,by omega⟩,by omega,hK⟩
theorem treadK1 (hd:decide (d < N)=true) (w:Int) (n:Txt) (a:Int) (hT:TgM M T b v rg ws) (hR:TgR T)
  (hk:K ((d,true,.tup [.v (.string ⟨(trdS T w n a).1.toArray⟩),.v (.int .i64 (trdS T w n a).2)]) :: σ) (H1 qc (tgC T b v rg)) M) :
  CallK ⟨qz,N,w0,M0⟩ 121 [.ptr 248 0 0 0,.v (.int .i64 w),.v (.string ⟨n.toArray⟩),.v (.int .i64 a)] d K σ (H1 qc (tgC T b v rg)) M:=by
 refine CallK.lendB 8000 [0,1,2,3,8,9,10,11,22,25] Proofs.Tryz.func121 rfl (by kernel_rfl) hd (by simp only [lentB,tgC,SV.concs,SV.conc,Bool.and_self]) fun xs=>?_
 obtain ⟨A,⟨g,l,k,h⟩,tx,many⟩:=T
 have hM:=Rv.may g rg k h w false l M hT.regs
 simp only [Rv.resvV] at hM
 have h2:=hR.rv
 simp only at h2
 have hmE:Rv.mayE g l k h w=if Rv.whoB w=true then 0 else 1:=if_neg (fun h=>h h2)
 generalize hS:trdS (A,(g,l,k,h),tx,many) w n a=S at *
 unfold trdS at hS
 simp only at hS
 simp only [tgC] at hk
 simp only [Proofs.Tryz.f121,tgC,sd2,sd3,zz,zq,seval,zl,za,ze,zo,nzs,hT.bag.one,hT.vols.row.one,hT.regs.one]
 refine CallK.pure ⟨rfl,rfl⟩ rfl hM ?_
 rw [hmE]
 cases hw:Rv.whoB w with
 | false=>
   have e1:hE (g,l,k,h) w false=1:=if_pos hw
   rw [e1,if_pos (by decide)] at hS
   subst hS
   simp only [sd2,sd3,zz,zq,seval,zl,za,ze,zo,nzs]
   exact hk
 | true=>
 have e1:hE (g,l,k,h) w false=if Rv.mayB l k h w false=true then 0 else 9:=if_neg (by rw [hw]; decide)
 rw [e1] at hS
 cases hmb:Rv.mayB l k h w false with
 | false=>
   rw [hmb,if_pos (by decide),if_neg (by decide)] at hS
   subst hS
   simp only [sd2,sd3,zz,zq,seval,zl,za,ze,zo,nzs,if_true,decide_true]
   exact hk
 | true=>
 rw [hmb,if_pos rfl,if_neg (fun h=>h rfl)] at hS
 subst hS
 have hL:=read b v A.1 ws n a M hT.bag hT.vols
 rw [hT.vw] at hL
 simp only [stV] at hL
 simp only [sd2,sd3,zz,zq,seval,zl,za,ze,zo,nzs,if_true,decide_true,hT.bag.one,hT.vols.row.one]
 refine CallK.pure ⟨rfl,rfl⟩ rfl hL ?_
 simp only [sd2,sd3,zz,zq,seval,zl,za,ze,zo,nzs]
 exact hk
theorem tregisterK1 (hd:decide (d < N)=true) (w x y:Int) (hT:TgM M T b v rg ws)
  (hk : ∀ rg' M',M.le M'→TgM M' (trvS T (Rv.regS T.2.1.1 T.2.1.2.1 T.2.1.2.2.1 T.2.1.2.2.2 w x y)) b v rg' ws→K ((d,true,.v (.int .i64 (Rv.regS T.2.1.1 T.2.1.2.1 T.2.1.2.2.1 T.2.1.2.2.2 w x y).1)) :: σ) (H1 qc (tgC (trvS T (Rv.regS T.2.1.1 T.2.1.2.1 T.2.1.2.2.1 T.2.1.2.2.2 w x y)) b v rg')) M') :
  CallK ⟨qz,N,w0,M0⟩ 126 [.ptr 248 0 0 0,.v (.int .i64 w),.v (.int .i64 x),.v (.int .i64 y)] d K σ (H1 qc (tgC T b v rg)) M:=by
 refine CallK.lendB 8000 [0,1,2,3,8] Proofs.Tryz.func126 rfl (by kernel_rfl) hd (by simp only [lentB,tgC,SV.concs,SV.conc,Bool.and_self]) fun xs=>?_
 obtain ⟨A,⟨g,l,k,h⟩,tx,many⟩:=T
 have hM:=Rv.register g rg k h w x y l M hT.regs
 simp only [Rv.rsv,Rv.resR] at hM
 generalize Rv.regS g l k h w x y=S at *
 simp only [Proofs.Tryz.f126,tgC,sd2,sd3,zz,zq,seval,zl,za,ze,zo,nzs,hT.bag.one,hT.vols.row.one,hT.regs.one]
 refine CallK.row (Rv.ctxT S) rfl rfl hM fun rg' M1 hM1 hrg=>?_
 simp only [Rv.rsT,Rv.rsv,sd2,sd3,zz,zq,seval,zl,za,ze,zo,nzs]
 refine CallK.lendB 8000 [0,1,2,4,6,8] Proofs.Tryz.func177 rfl (by kernel_rfl) rfl (by simp only [lentB,SV.concs,SV.conc,Bool.and_self]) fun ys=>?_
 by_cases h1:S.1=0
 · have e1:trvS (A,(g,l,k,h),tx,many) S=(A,S.2,tx,many):=if_pos h1
   rw [e1] at hk
   have hk1:=hk rg' M1 hM1 ⟨hT.bag.le hM1,hT.vols.le hM1,hT.vw,hrg⟩
   simp only [tgC] at hk1
   rw [h1] at hk1
   simp only [Proofs.Tryz.f177,sd2,sd3,zz,zq,seval,zl,za,ze,zo,nzs,hrg.one,h1,oneVs hrg.sl]
   exact hk1
 · have c1:=eq_false h1
   have e1:trvS (A,(g,l,k,h),tx,many) S=(A,(g,l,k,h),tx,many):=if_neg h1
   rw [e1] at hk
   have hk1:=hk rg M1 hM1 (hT.le hM1)
   simp only [tgC] at hk1
   simp only [Proofs.Tryz.f177,sd2,sd3,zz,zq,seval,zl,za,ze,zo,nzs,hrg.one,c1]
   exact hk1
theorem treserveK1 (hd:decide (d < N)=true) (w x y:Int) (hT:TgM M T b v rg ws)
  (hk : ∀ rg' M',M.le M'→TgM M' (trvS T (Rv.rsvS T.2.1.1 T.2.1.2.1 T.2.1.2.2.1 T.2.1.2.2.2 w x y)) b v rg' ws→K ((d,true,.v (.int .i64 (Rv.rsvS T.2.1.1 T.2.1.2.1 T.2.1.2.2.1 T.2.1.2.2.2 w x y).1)) :: σ) (H1 qc (tgC (trvS T (Rv.rsvS T.2.1.1 T.2.1.2.1 T.2.1.2.2.1 T.2.1.2.2.2 w x y)) b v rg')) M') :
  CallK ⟨qz,N,w0,M0⟩ 127 [.ptr 248 0 0 0,.v (.int .i64 w),.v (.int .i64 x),.v (.int .i64 y)] d K σ (H1 qc (tgC T b v rg)) M:=by
 refine CallK.lendB 8000 [0,1,2,3,8] Proofs.Tryz.func127 rfl (by kernel_rfl) hd (by simp only [lentB,tgC,SV.concs,SV.conc,Bool.and_self]) fun xs=>?_
 obtain ⟨A,⟨g,l,k,h⟩,tx,many⟩:=T
 have hM:=Rv.reserve g rg k h w x y l M hT.regs
 simp only [Rv.rsv,Rv.resR] at hM
 generalize Rv.rsvS g l k h w x y=S at *
 simp only [Proofs.Tryz.f127,tgC,sd2,sd3,zz,zq,seval,zl,za,ze,zo,nzs,hT.bag.one,hT.vols.row.one,hT.regs.one]
 refine CallK.row (Rv.ctxT S) rfl rfl hM fun rg' M1 hM1 hrg=>?_
 simp only [Rv.rsT,Rv.rsv,sd2,sd3,zz,zq,seval,zl,za,ze,zo,nzs]
 refine CallK.lendB 8000 [0,1,2,4,6,8] Proofs.Tryz.func177 rfl (by kernel_rfl) rfl (by simp only [lentB,SV.concs,SV.conc,Bool.and_self]) fun ys=>?_
 by_cases h1:S.1=0
 · have e1:trvS (A,(g,l,k,h),tx,many) S=(A,S.2,tx,many):=if_pos h1
   rw [e1] at hk
   have hk1:=hk rg' M1 hM1 ⟨hT.bag.le hM1,hT.vols.le hM1,hT.vw,hrg⟩
   simp only [tgC] at hk1
   rw [h1] at hk1
   simp only [Proofs.Tryz.f177,sd2,sd3,zz,zq,seval,zl,za,ze,zo,nzs,hrg.one,h1,oneVs hrg.sl]
   exact hk1
 · have c1:=eq_false h1
   have e1:trvS (A,(g,l,k,h),tx,many) S=(A,(g,l,k,h),tx,many):=if_neg h1
   rw [e1] at hk
   have hk1:=hk rg M1 hM1 (hT.le hM1)
   simp only [tgC] at hk1
   simp only [Proofs.Tryz.f177,sd2,sd3,zz,zq,seval,zl,za,ze,zo,nzs,hrg.one,c1]
   exact hk1
theorem tresvK1 (hd:decide (d < N)=true) (hT:TgM M T b v rg ws) (hR:TgR T)
  (hk : ∀ y M',M.le M'→RowM M' y 2 (T.2.1.2.1.map Rv.encR)→K ((d,true,.agg [.v (.int .i64 T.2.1.1),.v y,.v (.int .i64 T.2.1.2.2.1),.v (.int .i64 T.2.1.2.2.2)]) :: σ) (H1 qc (tgC T b v rg)) M') :
  CallK ⟨qz,N,w0,M0⟩ 133 [.ptr 248 0 0 0] d K σ (H1 qc (tgC T b v rg)) M:=by
 refine CallK.lendBR 8000 (fun s=>.agg [.v (.int .i64 T.2.1.1),s,.v (.int .i64 T.2.1.2.2.1),.v (.int .i64 T.2.1.2.2.2)]) (fun s s' ν ν' h=>by simp only [SV.val,SV.vals,h]) [0,2,3] Proofs.Tryz.func133 rfl (by kernel_rfl) hd (by simp only [lentB,tgC,SV.concs,SV.conc,Bool.and_self]) fun xs=>?_
 obtain ⟨A,⟨g,l,k,h⟩,tx,many⟩:=T
 have hs:=hR.rv
 simp only at hs
 have h8:=Rv.len8 (Rv.resvE_ok hs).2.1
 obtain ⟨q1,q2⟩:=hT.regs.rows (by omega)
 simp only at q1 q2
 simp only [tgC] at hk
 simp only [Proofs.Tryz.f133,tgC,sd2,sd3,zz,zq,seval,zl,za,ze,zo,nzs,hT.regs.one,hT.regs.sl,q1,List.length_map]
 refine ⟨⟨⟨by omega,by omega⟩,q2⟩,80,2,_,rfl,rfl,fun y M'' hM'' hy=>?_⟩
 simp only [sp1,sp2,sp3,sd2,sd3,zz,zq,seval,zl,za,ze,zo,nzs]
 exact hk y M'' hM'' hy
theorem treleaseK1 (hd:decide (d < N)=true) (w x y:Int) (hT:TgM M T b v rg ws)
  (hk : ∀ rg' M',M.le M'→TgM M' (trvS T (Rv.relS T.2.1.1 T.2.1.2.1 T.2.1.2.2.1 T.2.1.2.2.2 w x y)) b v rg' ws→K ((d,true,.v (.int .i64 (Rv.relS T.2.1.1 T.2.1.2.1 T.2.1.2.2.1 T.2.1.2.2.2 w x y).1)) :: σ) (H1 qc (tgC (trvS T (Rv.relS T.2.1.1 T.2.1.2.1 T.2.1.2.2.1 T.2.1.2.2.2 w x y)) b v rg')) M') :
  CallK ⟨qz,N,w0,M0⟩ 128 [.ptr 248 0 0 0,.v (.int .i64 w),.v (.int .i64 x),.v (.int .i64 y)] d K σ (H1 qc (tgC T b v rg)) M:=by
 refine CallK.lendB 8000 [0,1,2,3,8] Proofs.Tryz.func128 rfl (by kernel_rfl) hd (by simp only [lentB,tgC,SV.concs,SV.conc,Bool.and_self]) fun xs=>?_
 obtain ⟨A,⟨g,l,k,h⟩,tx,many⟩:=T
 have hM:=Rv.release g rg k h w x y l M hT.regs
 simp only [Rv.rsv,Rv.resR] at hM
 generalize Rv.relS g l k h w x y=S at *
 simp only [Proofs.Tryz.f128,tgC,sd2,sd3,zz,zq,seval,zl,za,ze,zo,nzs,hT.bag.one,hT.vols.row.one,hT.regs.one]
 refine CallK.row (Rv.ctxT S) rfl rfl hM fun rg' M1 hM1 hrg=>?_
 simp only [Rv.rsT,Rv.rsv,sd2,sd3,zz,zq,seval,zl,za,ze,zo,nzs]
 refine CallK.lendB 8000 [0,1,2,4,6,8] Proofs.Tryz.func177 rfl (by kernel_rfl) rfl (by simp only [lentB,SV.concs,SV.conc,Bool.and_self]) fun ys=>?_
 by_cases h1:S.1=0
 · have e1:trvS (A,(g,l,k,h),tx,many) S=(A,S.2,tx,many):=if_pos h1
   rw [e1] at hk
   have hk1:=hk rg' M1 hM1 ⟨hT.bag.le hM1,hT.vols.le hM1,hT.vw,hrg⟩
   simp only [tgC] at hk1
   rw [h1] at hk1
   simp only [Proofs.Tryz.f177,sd2,sd3,zz,zq,seval,zl,za,ze,zo,nzs,hrg.one,h1,oneVs hrg.sl]
   exact hk1
 · have c1:=eq_false h1
   have e1:trvS (A,(g,l,k,h),tx,many) S=(A,(g,l,k,h),tx,many):=if_neg h1
   rw [e1] at hk
   have hk1:=hk rg M1 hM1 (hT.le hM1)
   simp only [tgC] at hk1
   simp only [Proofs.Tryz.f177,sd2,sd3,zz,zq,seval,zl,za,ze,zo,nzs,hrg.one,c1]
   exact hk1
theorem tclearK1 (hd:decide (d < N)=true) (w x:Int) (hT:TgM M T b v rg ws)
  (hk : ∀ rg' M',M.le M'→TgM M' (trvS T (Rv.clrS T.2.1.1 T.2.1.2.1 T.2.1.2.2.1 T.2.1.2.2.2 w x)) b v rg' ws→K ((d,true,.v (.int .i64 (Rv.clrS T.2.1.1 T.2.1.2.1 T.2.1.2.2.1 T.2.1.2.2.2 w x).1)) :: σ) (H1 qc (tgC (trvS T (Rv.clrS T.2.1.1 T.2.1.2.1 T.2.1.2.2.1 T.2.1.2.2.2 w x)) b v rg')) M') :
  CallK ⟨qz,N,w0,M0⟩ 129 [.ptr 248 0 0 0,.v (.int .i64 w),.v (.int .i64 x)] d K σ (H1 qc (tgC T b v rg)) M:=by
 refine CallK.lendB 8000 [0,1,2,6] Proofs.Tryz.func129 rfl (by kernel_rfl) hd (by simp only [lentB,tgC,SV.concs,SV.conc,Bool.and_self]) fun xs=>?_
 obtain ⟨A,⟨g,l,k,h⟩,tx,many⟩:=T
 have hM:=Rv.clear g rg k h w x l M hT.regs
 simp only [Rv.rsv,Rv.resR] at hM
 generalize Rv.clrS g l k h w x=S at *
 simp only [Proofs.Tryz.f129,tgC,sd2,sd3,zz,zq,seval,zl,za,ze,zo,nzs,hT.bag.one,hT.vols.row.one,hT.regs.one]
 refine CallK.row (Rv.ctxT S) rfl rfl hM fun rg' M1 hM1 hrg=>?_
 simp only [Rv.rsT,Rv.rsv,sd2,sd3,zz,zq,seval,zl,za,ze,zo,nzs]
 refine CallK.lendB 8000 [0,1,2,4,6,8] Proofs.Tryz.func177 rfl (by kernel_rfl) rfl (by simp only [lentB,SV.concs,SV.conc,Bool.and_self]) fun ys=>?_
 by_cases h1:S.1=0
 · have e1:trvS (A,(g,l,k,h),tx,many) S=(A,S.2,tx,many):=if_pos h1
   rw [e1] at hk
   have hk1:=hk rg' M1 hM1 ⟨hT.bag.le hM1,hT.vols.le hM1,hT.vw,hrg⟩
   simp only [tgC] at hk1
   rw [h1] at hk1
   simp only [Proofs.Tryz.f177,sd2,sd3,zz,zq,seval,zl,za,ze,zo,nzs,hrg.one,h1,oneVs hrg.sl]
   exact hk1
 · have c1:=eq_false h1
   have e1:trvS (A,(g,l,k,h),tx,many) S=(A,(g,l,k,h),tx,many):=if_neg h1
   rw [e1] at hk
   have hk1:=hk rg M1 hM1 (hT.le hM1)
   simp only [tgC] at hk1
   simp only [Proofs.Tryz.f177,sd2,sd3,zz,zq,seval,zl,za,ze,zo,nzs,hrg.one,c1]
   exact hk1
theorem tpreemptK1 (hd:decide (d < N)=true) (w x y z:Int) (hT:TgM M T b v rg ws)
  (hk : ∀ rg' M',M.le M'→TgM M' (trvS T (Rv.preS T.2.1.1 T.2.1.2.1 T.2.1.2.2.1 T.2.1.2.2.2 w x y z)) b v rg' ws→K ((d,true,.v (.int .i64 (Rv.preS T.2.1.1 T.2.1.2.1 T.2.1.2.2.1 T.2.1.2.2.2 w x y z).1)) :: σ) (H1 qc (tgC (trvS T (Rv.preS T.2.1.1 T.2.1.2.1 T.2.1.2.2.1 T.2.1.2.2.2 w x y z)) b v rg')) M') :
  CallK ⟨qz,N,w0,M0⟩ 130 [.ptr 248 0 0 0,.v (.int .i64 w),.v (.int .i64 x),.v (.int .i64 y),.v (.int .i64 z)] d K σ (H1 qc (tgC T b v rg)) M:=by
 refine CallK.lendB 8000 [0,1,2,3,4,10] Proofs.Tryz.func130 rfl (by kernel_rfl) hd (by simp only [lentB,tgC,SV.concs,SV.conc,Bool.and_self]) fun xs=>?_
 obtain ⟨A,⟨g,l,k,h⟩,tx,many⟩:=T
 have hM:=Rv.preempt g rg k h w x y z l M hT.regs
 simp only [Rv.rsv,Rv.resR] at hM
 generalize Rv.preS g l k h w x y z=S at *
 simp only [Proofs.Tryz.f130,tgC,sd2,sd3,zz,zq,seval,zl,za,ze,zo,nzs,hT.bag.one,hT.vols.row.one,hT.regs.one]
 refine CallK.row (Rv.ctxT S) rfl rfl hM fun rg' M1 hM1 hrg=>?_
 simp only [Rv.rsT,Rv.rsv,sd2,sd3,zz,zq,seval,zl,za,ze,zo,nzs]
 refine CallK.lendB 8000 [0,1,2,4,6,8] Proofs.Tryz.func177 rfl (by kernel_rfl) rfl (by simp only [lentB,SV.concs,SV.conc,Bool.and_self]) fun ys=>?_
 by_cases h1:S.1=0
 · have e1:trvS (A,(g,l,k,h),tx,many) S=(A,S.2,tx,many):=if_pos h1
   rw [e1] at hk
   have hk1:=hk rg' M1 hM1 ⟨hT.bag.le hM1,hT.vols.le hM1,hT.vw,hrg⟩
   simp only [tgC] at hk1
   rw [h1] at hk1
   simp only [Proofs.Tryz.f177,sd2,sd3,zz,zq,seval,zl,za,ze,zo,nzs,hrg.one,h1,oneVs hrg.sl]
   exact hk1
 · have c1:=eq_false h1
   have e1:trvS (A,(g,l,k,h),tx,many) S=(A,(g,l,k,h),tx,many):=if_neg h1
   rw [e1] at hk
   have hk1:=hk rg M1 hM1 (hT.le hM1)
   simp only [tgC] at hk1
   simp only [Proofs.Tryz.f177,sd2,sd3,zz,zq,seval,zl,za,ze,zo,nzs,hrg.one,c1]
   exact hk1
theorem tstateK1 (hd:decide (d < N)=true) (hT:TgM M T b v rg ws) (hR:TgR T)
  (hk : ∀ b' v' ws' M',M.le M'→ws'.map (·.2)=T.1.2→RowM M' b' 4 (T.1.1.map Bg.encT)→VolsM M' v' ws'→K ((d,true,.agg [.v b',.v v']) :: σ) (H1 qc (tgC T b v rg)) M') :
  CallK ⟨qz,N,w0,M0⟩ 132 [.ptr 248 0 0 0] d K σ (H1 qc (tgC T b v rg)) M:=by
 refine CallK.lendB 8000 [0,2] Proofs.Tryz.func132 rfl (by kernel_rfl) hd (by simp only [lentB,tgC,SV.concs,SV.conc,Bool.and_self]) fun xs=>?_
 obtain ⟨A,⟨g,l,k,h⟩,tx,many⟩:=T
 have hs:=hR.st
 simp only at hs
 obtain ⟨hB,hV,_⟩:=stE_ok hs
 have hVo:=volsE_ok hV
 have hbl:=bag_len hB
 have hwl:ws.length=A.2.length:=by rw [← hT.vw,List.length_map]
 have hli : ∀ w ∈ ws,w.2.2.length≤32:=fun w hw=>(hVo.2 w.2 (by rw [← hT.vw]; exact List.mem_map_of_mem hw)).1
 have hcp:=(copied b v A.1 ws M hT.bag hT.vols (by omega) (by omega) (fun w hw=>Nat.le_trans (hli w hw) (by omega))).mono (fun r H M' _ h=>h.weak)
 rw [hT.vw] at hcp
 simp only [stV] at hcp
 simp only [tgC] at hk
 simp only [Proofs.Tryz.f132,tgC,sd2,sd3,zz,zq,seval,zl,za,ze,zo,nzs,hT.bag.one,hT.vols.row.one]
 refine CallK.stM (T:=fun s=>s) (fun _ _=>rfl) rfl rfl hcp fun b3 v3 ws3 M3 hM3 hw3 hb3 hv3=>?_
 simp only [sd2,sd3,zz,zq,seval,zl,za,ze,zo,nzs,stV,hb3.one,hv3.row.one]
 exact hk b3 v3 ws3 M3 hM3 hw3 hb3 hv3
theorem tcrashK1 (hd:decide (d < N)=true) (n:Int) (hn:inK .i64 n) (hT:TgM M T b v rg ws) (hR:TgR T)
  (hk : ∀ b' v' ws' M',M.le M'→TgM M' (crS T n) b' v' (.slice none 0 0) ws'→K ((d,true,.v (.int .i64 (crP T n).2.1)) :: σ) (H1 qc (tgC (crS T n) b' v' (.slice none 0 0))) M') :
  CallK ⟨qz,N,w0,M0⟩ 131 [.ptr 248 0 0 0,.v (.int .i64 n)] d K σ (H1 qc (tgC T b v rg)) M:=by
 refine CallK.lendB 8000 [0,1,4,5,6,7,9,11,33,34,35] Proofs.Tryz.func131 rfl (by kernel_rfl) hd (by simp only [lentB,tgC,SV.concs,SV.conc,Bool.and_self]) fun xs=>?_
 have hC:=crP_right T n
 have hcT:crT T n=T.2.2.1.take (max 0 (min n (T.2.2.1.length:Int))).toNat:=rfl
 have hcP:crP T n=playS (crT T n).length zSt (crT T n) 0:=rfl
 have hcS:crS T n=((crP T n).1,(0,[],0,0),(crT T n).take (Tg.usedN (crT T n) (crP T n).2.1.toNat),(crP T n).2.1.toNat):=rfl
 rw [hcS] at hk
 simp only [tgC] at hk
 generalize crP T n=P at *
 generalize crT T n=s at *
 obtain ⟨A,⟨g,l,k,h⟩,tx,many⟩:=T
 have h4:=hR.many
 have h5:=hR.tx
 simp only at h4 h5 hcT
 have hsl:s.length≤tx.length:=by rw [hcT,List.length_take]; omega
 have hcut:(max 0 (min n (tx.length:Int))).toNat≤tx.length:=by omega
 simp only [Proofs.Tryz.f131,tgC,sd2,sd3,zz,zq,seval,zl,za,ze,zo,nzs,hT.bag.one,hT.vols.row.one,hT.regs.one]
 refine DrawK.heldE [8248] (tk [0,4,5,1,6,2,7,3,8,9,10,11,12,13] .done) (by kernel_rfl) (by kernel_rfl) fun ys hy=>?_
 simp only [tieEq] at hy
 simp only [sd2,sd3,zz,zq,seval,zl,za,ze,zo,nzs,se1,se2,tks,hy,inK,lo,hi,Nat.sub_zero,← hcT]
 refine ⟨⟨by omega,by omega⟩,?_⟩
 have hW:=replayW s M (by unfold maxLen; omega)
 rw [← hcP] at hW
 clear hcP hcS hcT
 obtain ⟨P,m,pe⟩:=P
 obtain ⟨c1,c2,c3⟩:=hC
 simp only at c1 c2 c3 hW hk
 refine CallK.stM (T:=playT m pe) (fun _ _=>rfl) rfl rfl hW fun b2 v2 ws2 M2 hM2 hw2 hb2 hv2=>?_
 simp only [sd2,sd3,zz,zq,seval,zl,za,ze,zo,nzs,playT,stV,hb2.one,hv2.row.one]
 refine LoopK.go (X:=Nat) (fun i=>([(0,true,.ptr 8248 0 0 0),(5,true,.v (.string ⟨s.toArray⟩)),(6,true,.ptr 48 0 0 0),(7,true,.v (.int .i64 m)),(9,true,.v (.string ⟨(s.drop (Tg.usedN s i)).toArray⟩)),(33,true,.v (.int .i64 m)),(34,true,.v (.int .i64 i))],
  [(48,.box [.v b2,.v v2] none),(8248,.box [.v b,.v v,.v (.int .i64 g),.v rg,.v (.int .i64 k),.v (.int .i64 h),.v (.string ⟨tx.toArray⟩),.v (.int .i64 many)] (some (xs 248)))],M2)) (fun i=>i≤m.toNat) (fun i=>m.toNat - i) 0 (Nat.zero_le _) (Ent.of ?_) ?_
 · simp only [zq,seval,zl,za,ze,zo,Tg.usedN,List.drop_zero,za]
   done
 intro i hil
 obtain ⟨u1,u2⟩:=usedN_le s i
 by_cases him:i=m.toNat
 · have ci:((i:Int) < m)=False:=eq_false (by omega)
   have e1:m.toNat=i:=him.symm
   have e2:(m.toNat:Int)=m:=by omega
   have e3:(s.length:Int) - ((s.drop (Tg.usedN s i)).length:Int)=(Tg.usedN s i:Nat):=by rw [List.length_drop]; omega
   simp only [sd2,sd3,zz,zq,seval,zl,za,ze,zo,nzs,ci]
   refine DrawK.heldE [48] (tk [0,1,2,3,5,9,4,6,7,8,10,11] (.one 12 .done)) (by kernel_rfl) (by kernel_rfl) fun zs hz=>?_
   simp only [tieEq] at hz
   simp only [sd2,sd3,zz,zq,seval,zl,za,ze,zo,nzs,se1,se2,tks,hz,hb2.one,hv2.row.one,inK,lo,hi,e3,Nat.sub_zero]
   rw [e1] at hk
   have hK:=hk b2 v2 ws2 M2 hM2 ⟨hb2,hv2,hw2,RowM.nil _ _⟩
   have e4:(i:Int)=m:=by omega
   rw [e4] at hK
   exact ⟨⟨by omega,by omega⟩,⟨by omega,by omega⟩,hK⟩
 have ci:((i:Int) < m)=True:=eq_true (by omega)
 have hG:=Fr.get (s.drop (Tg.usedN s i)) M2 (by rw [List.length_drop]; unfold maxLen; omega)
 obtain ⟨fk,fb,hF⟩ : ∃ fk fb,Fr.getF (s.drop (Tg.usedN s i))=Fr.frV fk fb:=by
  unfold Fr.getF
  split
  · exact ⟨_,_,rfl⟩
  · exact ⟨_,_,rfl⟩
 rw [hF] at hG
 simp only [Fr.frV] at hG
 have hU:=getU_le (s.drop (Tg.usedN s i))
 have hD:Tg.usedN s (i+1)=Tg.usedN s i+(Fr.getU (s.drop (Tg.usedN s i))).toNat:=rfl
 have hL:(s.drop (Tg.usedN s i)).length≤s.length:=by rw [List.length_drop]; omega
 generalize hu:Fr.getU (s.drop (Tg.usedN s i))=u at *
 simp only [sd2,sd3,zz,zq,seval,zl,za,ze,zo,nzs,ci]
 refine CallK.pure ⟨rfl,rfl⟩ rfl hG ?_
 simp only [sd2,sd3,zz,zq,seval,zl,za,ze,zo,nzs,inK,lo,hi]
 have ed:List.take ((s.drop (Tg.usedN s i)).length - u.toNat) ((s.drop (Tg.usedN s i)).drop u.toNat)=s.drop (Tg.usedN s i+u.toNat):=by
  rw [List.drop_drop,List.take_of_length_le]
  simp only [List.length_drop]
  omega
 refine ⟨⟨⟨hU.2.2,by omega⟩,Int.le_refl _⟩,⟨by omega,by omega⟩,i+1,⟨by omega,by omega⟩,Ent.of ?_⟩
 simp only [zq,seval,zl,za,ze,zo,Int.natCast_add,ze,hD,ed]
end
end Go.X.Th

namespace Go.X.Dk
open Go Go.X Go.RowKit Go.X.Vo Go.X.Tg
/-- a target, an error (0: none), what is told -/
abbrev OutS:=TG×Int×Tx
def nmS (ws:List Tx) (i:Nat):Option Nat:=(ws[i]?).bind numS
def ttS (ws:List Tx) (i:Nat):Option Tx:=(ws[i]?).bind textS
def doO (w:Nat) (o:OpT) (T:TG):OutS:=((tdoS T w o).1,(tdoS T w o).2,okS)
def rdO (w:Nat) (n:Tx) (a:Nat) (T:TG):OutS:=(T,(trdS T w n a).2,showS (trdS T w n a).1)
def regO (w x y:Nat) (T:TG):OutS:=(trvS T (Rv.regS T.2.1.1 T.2.1.2.1 T.2.1.2.2.1 T.2.1.2.2.2 w x y),(Rv.regS T.2.1.1 T.2.1.2.1 T.2.1.2.2.1 T.2.1.2.2.2 w x y).1,okS)
def rsvO (w x y:Nat) (T:TG):OutS:=(trvS T (Rv.rsvS T.2.1.1 T.2.1.2.1 T.2.1.2.2.1 T.2.1.2.2.2 w x y),(Rv.rsvS T.2.1.1 T.2.1.2.1 T.2.1.2.2.1 T.2.1.2.2.2 w x y).1,okS)
def relO (w x y:Nat) (T:TG):OutS:=(trvS T (Rv.relS T.2.1.1 T.2.1.2.1 T.2.1.2.2.1 T.2.1.2.2.2 w x y),(Rv.relS T.2.1.1 T.2.1.2.1 T.2.1.2.2.1 T.2.1.2.2.2 w x y).1,okS)
def clrO (w x:Nat) (T:TG):OutS:=(trvS T (Rv.clrS T.2.1.1 T.2.1.2.1 T.2.1.2.2.1 T.2.1.2.2.2 w x),(Rv.clrS T.2.1.1 T.2.1.2.1 T.2.1.2.2.1 T.2.1.2.2.2 w x).1,okS)
def preO (w x y z:Nat) (T:TG):OutS:=(trvS T (Rv.preS T.2.1.1 T.2.1.2.1 T.2.1.2.2.1 T.2.1.2.2.2 w x y z),(Rv.preS T.2.1.1 T.2.1.2.1 T.2.1.2.2.1 T.2.1.2.2.2 w x y z).1,okS)
def craO (n:Nat) (T:TG):OutS:=(crS T n,0,numbersS [(crP T n).2.1.toNat])
def vol1 (v:Vol):Tx:=[32]++v.1++[58]++Lib.decDigits v.2.length
def allS (T:TG):Tx:=numbersS [T.1.1.length,T.2.1.1.toNat,T.2.1.2.2.1.toNat,T.2.1.2.2.2.toNat]++T.1.2.flatMap vol1
def allO (T:TG):OutS:=(T,0,allS T)
/-- a line's first word -/
def w0S (ws:List Tx):Tx:=ws.headD []
/-- how many words a deed takes, and what it is to do; none: it can't be read -/
def deedS (ws:List Tx):Option (Nat×(TG→OutS)):=
 if w0S ws=[109,97,107,101] then (nmS ws 1).bind fun w=>(ws[2]?).bind fun n=>(nmS ws 3).bind fun a=>some (4,doO w (1,n,[],a,[]))
 else if w0S ws=[100,114,111,112] then (nmS ws 1).bind fun w=>(ws[2]?).bind fun n=>some (3,doO w (2,n,[],0,[]))
 else if w0S ws=[119,114,105,116,101] then (nmS ws 1).bind fun w=>(ws[2]?).bind fun n=>(nmS ws 3).bind fun a=>(ttS ws 4).bind fun t=>some (5,doO w (3,n,[],a,t))
 else if w0S ws=[116,114,105,109] then (nmS ws 1).bind fun w=>(ws[2]?).bind fun n=>(nmS ws 3).bind fun a=>some (4,doO w (4,n,[],a,[]))
 else if w0S ws=[99,108,111,110,101] then (nmS ws 1).bind fun w=>(ws[2]?).bind fun n=>(ws[3]?).bind fun t=>some (4,doO w (5,n,t,0,[]))
 else (nmS ws 1).bind fun w=>(ws[2]?).bind fun n=>(nmS ws 3).bind fun a=>some (4,rdO w n a)
def isDeed (w:Tx):Bool:=decide (w=[109,97,107,101]∨w=[100,114,111,112]∨w=[119,114,105,116,101]∨w=[116,114,105,109]∨w=[99,108,111,110,101]∨w=[114,101,97,100])
def rightS (ws:List Tx):Option (Nat×(TG→OutS)):=
 if w0S ws=[114,101,103,105,115,116,101,114] then (nmS ws 1).bind fun w=>(nmS ws 2).bind fun x=>(nmS ws 3).bind fun y=>some (4,regO w x y)
 else if w0S ws=[114,101,115,101,114,118,101] then (nmS ws 1).bind fun w=>(nmS ws 2).bind fun x=>(nmS ws 3).bind fun y=>some (4,rsvO w x y)
 else if w0S ws=[114,101,108,101,97,115,101] then (nmS ws 1).bind fun w=>(nmS ws 2).bind fun x=>(nmS ws 3).bind fun y=>some (4,relO w x y)
 else if w0S ws=[99,108,101,97,114] then (nmS ws 1).bind fun w=>(nmS ws 2).bind fun x=>some (3,clrO w x)
 else if w0S ws=[112,114,101,101,109,112,116] then (nmS ws 1).bind fun w=>(nmS ws 2).bind fun x=>(nmS ws 3).bind fun y=>(nmS ws 4).bind fun z=>some (5,preO w x y z)
 else if w0S ws=[99,114,97,115,104] then (nmS ws 1).bind fun w=>some (2,craO w)
 else if w0S ws=[97,108,108] then some (1,allO)
 else none
theorem deedS_make {ws:List Tx} (h:w0S ws=[109,97,107,101]):deedS ws=(nmS ws 1).bind fun w=>(ws[2]?).bind fun n=>(nmS ws 3).bind fun a=>some (4,doO w (1,n,[],a,[])):=by
 unfold deedS
 rw [if_pos h]
theorem deedS_drop {ws:List Tx} (h:w0S ws=[100,114,111,112]):deedS ws=(nmS ws 1).bind fun w=>(ws[2]?).bind fun n=>some (3,doO w (2,n,[],0,[])):=by
 unfold deedS
 rw [if_neg (by rw [h]; decide),if_pos h]
theorem deedS_write {ws:List Tx} (h:w0S ws=[119,114,105,116,101]):deedS ws=(nmS ws 1).bind fun w=>(ws[2]?).bind fun n=>(nmS ws 3).bind fun a=>(ttS ws 4).bind fun t=>some (5,doO w (3,n,[],a,t)):=by
 unfold deedS
 rw [if_neg (by rw [h]; decide),if_neg (by rw [h]; decide),if_pos h]
theorem deedS_trim {ws:List Tx} (h:w0S ws=[116,114,105,109]):deedS ws=(nmS ws 1).bind fun w=>(ws[2]?).bind fun n=>(nmS ws 3).bind fun a=>some (4,doO w (4,n,[],a,[])):=by
 unfold deedS
 rw [if_neg (by rw [h]; decide),if_neg (by rw [h]; decide),if_neg (by rw [h]; decide),if_pos h]
theorem deedS_clone {ws:List Tx} (h:w0S ws=[99,108,111,110,101]):deedS ws=(nmS ws 1).bind fun w=>(ws[2]?).bind fun n=>(ws[3]?).bind fun t=>some (4,doO w (5,n,t,0,[])):=by
 unfold deedS
 rw [if_neg (by rw [h]; decide),if_neg (by rw [h]; decide),if_neg (by rw [h]; decide),if_neg (by rw [h]; decide),if_pos h]
theorem deedS_read {ws:List Tx} (h:w0S ws=[114,101,97,100]):deedS ws=(nmS ws 1).bind fun w=>(ws[2]?).bind fun n=>(nmS ws 3).bind fun a=>some (4,rdO w n a):=by
 unfold deedS
 rw [if_neg (by rw [h]; decide),if_neg (by rw [h]; decide),if_neg (by rw [h]; decide),if_neg (by rw [h]; decide),if_neg (by rw [h]; decide)]
theorem rightS_register {ws:List Tx} (h:w0S ws=[114,101,103,105,115,116,101,114]):rightS ws=(nmS ws 1).bind fun w=>(nmS ws 2).bind fun x=>(nmS ws 3).bind fun y=>some (4,regO w x y):=by
 unfold rightS
 rw [if_pos h]
theorem rightS_reserve {ws:List Tx} (h:w0S ws=[114,101,115,101,114,118,101]):rightS ws=(nmS ws 1).bind fun w=>(nmS ws 2).bind fun x=>(nmS ws 3).bind fun y=>some (4,rsvO w x y):=by
 unfold rightS
 rw [if_neg (by rw [h]; decide),if_pos h]
theorem rightS_release {ws:List Tx} (h:w0S ws=[114,101,108,101,97,115,101]):rightS ws=(nmS ws 1).bind fun w=>(nmS ws 2).bind fun x=>(nmS ws 3).bind fun y=>some (4,relO w x y):=by
 unfold rightS
 rw [if_neg (by rw [h]; decide),if_neg (by rw [h]; decide),if_pos h]
theorem rightS_clear {ws:List Tx} (h:w0S ws=[99,108,101,97,114]):rightS ws=(nmS ws 1).bind fun w=>(nmS ws 2).bind fun x=>some (3,clrO w x):=by
 unfold rightS
 rw [if_neg (by rw [h]; decide),if_neg (by rw [h]; decide),if_neg (by rw [h]; decide),if_pos h]
theorem rightS_preempt {ws:List Tx} (h:w0S ws=[112,114,101,101,109,112,116]):rightS ws=(nmS ws 1).bind fun w=>(nmS ws 2).bind fun x=>(nmS ws 3).bind fun y=>(nmS ws 4).bind fun z=>some (5,preO w x y z):=by
 unfold rightS
 rw [if_neg (by rw [h]; decide),if_neg (by rw [h]; decide),if_neg (by rw [h]; decide),if_neg (by rw [h]; decide),if_pos h]
theorem rightS_crash {ws:List Tx} (h:w0S ws=[99,114,97,115,104]):rightS ws=(nmS ws 1).bind fun w=>some (2,craO w):=by
 unfold rightS
 rw [if_neg (by rw [h]; decide),if_neg (by rw [h]; decide),if_neg (by rw [h]; decide),if_neg (by rw [h]; decide),if_neg (by rw [h]; decide),if_pos h]
theorem rightS_all {ws:List Tx} (h:w0S ws=[97,108,108]):rightS ws=some (1,allO):=by
 unfold rightS
 rw [if_neg (by rw [h]; decide),if_neg (by rw [h]; decide),if_neg (by rw [h]; decide),if_neg (by rw [h]; decide),if_neg (by rw [h]; decide),if_neg (by rw [h]; decide),if_pos h]
def askT (ws:List Tx):Option (Nat×(TG→OutS)):=if isDeed (w0S ws)=true then deedS ws else rightS ws
/-- what is told of a line -/
def ansW (A:List Tx→Option (Nat×(TG→OutS))) (T:TG) (ws:List Tx):TG×Tx:=match A ws with
 | none=>(T,faultS 12)
 | some (n,F)=>if n=ws.length then ((F T).1,if (F T).2.1=0 then (F T).2.2 else faultS (F T).2.1.toNat) else (T,faultS 12)
/-- the target, as a closure finds and leaves it -/
def EndT (bt:Nat) (T:TG) (H:HS) (M:Mem):Prop:=∃ b v rg ws,H=[(248,.box (tgC T b v rg) (some (ptrV bt)))]∧TgM M T b v rg ws∧TgR T
def EndG (bt:Nat) (T:TG) (H:HS) (M:Mem):Prop:=∃ b v rg ws,hget H 248=some (.box (tgC T b v rg) (some (ptrV bt)))∧TgM M T b v rg ws∧TgR T
theorem meetsX_end {P:Program} {f:FuncId} {args:List SV} {H:HS} {M:Mem} {bt:Nat} {T:TG} {A:SV→Prop} {X:XP} (h:MeetsX P f args H M (fun s H' M''=>A s∧EndG bt T H' M'') (fun _ _ _=>False)):MeetsX P f args H M (fun s H' M''=>A s∧EndT bt T H' M'') X:=
 ⟨h.1,fun w0 M0 ν w hh=>(h.2 w0 M0 ν w hh).mono fun e w' h=>h.elim (fun ⟨s,H',M',ν',h1,h2,h3,b,v,rg,ws,h4,h5⟩=>.inl ⟨s,_,M',ν',h1,h2.lone h4,h3,b,v,rg,ws,rfl,h5⟩) (fun ⟨_,_,_,_,_,_,hf⟩=>hf.elim)⟩
/-- a closure that does what F says -/
def CloM (bt:Nat) (f:FuncId) (caps:List SV) (M:Mem) (F:TG→OutS):Prop:=SV.concs caps=true ∧ ∀ T b v rg ws M',M.le M'→TgM M' T b v rg ws→TgR T →
 MeetsX qz f caps [(248,.box (tgC T b v rg) (some (ptrV bt)))] M' (fun s H' M''=>(s.conc=true∧(F T).2.1=0∧s = .v (.string ⟨(F T).2.2.toArray⟩))∧EndT bt (F T).1 H' M'') (fun ch H' M''=>((F T).2.1≠0∧ch=faultC (F T).2.1)∧EndT bt (F T).1 H' M'')
/-- the line beside the target -/
abbrev LnH (vw:Value) (i:Nat) (q:Option Value) (bt:Nat) (T:TG) (b v rg:Value):HS:=[(8000,.box (lineC vw i) q),(248,.box (tgC T b v rg) (some (ptrV bt)))]
def LnB (vw:Value) (i:Nat) (q:Option Value) (bt:Nat) (T:TG) (b v rg:Value) (H:HS):Prop:=hget H 8000=some (.box (lineC vw i) q)∧hget H 248=some (.box (tgC T b v rg) (some (ptrV bt)))
/-- a function that reads what a line asks -/
def AskM (f:FuncId) (A:List Tx→Option (Nat×(TG→OutS))) (bt bd:Nat) (vw:Value) (ws:List Tx) (M:Mem):Prop:=∀ q T b v rg wv M',M.le M'→TgM M' T b v rg wv→TgR T →
 MeetsX qz f [.v (ptrV bd),.v (.string ⟨(w0S ws).toArray⟩),.ptr 8000 0 0 0] (LnH vw 1 q bt T b v rg) M'
  (fun s H' M''=>∃ n F g caps,A ws=some (n,F)∧s = .fn g caps∧CloM bt g caps M'' F∧LnB vw n q bt T b v rg H')
  (fun ch H' _=>A ws=none∧ch=faultC 12∧hget H' 248=some (.box (tgC T b v rg) (some (ptrV bt))))
/-- as AskM, the line's pointer known -/
def AskR (f:FuncId) (A:List Tx→Option (Nat×(TG→OutS))) (bt bd:Nat) (vw:Value) (ws:List Tx) (M:Mem):Prop:=∀ bl T b v rg wv M',M.le M'→TgM M' T b v rg wv→TgR T →
 MeetsX qz f [.v (ptrV bd),.v (.string ⟨(w0S ws).toArray⟩),.ptr 8000 0 0 0] (LnH vw 1 (some (ptrV bl)) bt T b v rg) M'
  (fun s H' M''=>∃ n F g caps,A ws=some (n,F)∧s = .fn g caps∧CloM bt g caps M'' F∧LnB vw n (some (ptrV bl)) bt T b v rg H')
  (fun ch H' _=>A ws=none∧ch=faultC 12∧hget H' 248=some (.box (tgC T b v rg) (some (ptrV bt))))
def OkF (F:TG→OutS):Prop:=∀ T,TgR T→(0≤(F T).2.1∧(F T).2.1≤1000)∧(F T).2.2.length≤60000
/-- a function that finds nothing that it knows -/
def NilM (f:FuncId) (bt bd:Nat) (vw:Value) (ws:List Tx):Prop:=∀ q T b v rg M',
 MeetsX qz f [.v (ptrV bd),.v (.string ⟨(w0S ws).toArray⟩),.ptr 8000 0 0 0] (LnH vw 1 q bt T b v rg) M' (fun s H' _=>s = .v .nilFunc∧H'=LnH vw 1 q bt T b v rg) (fun _ _ _=>False)
end Go.X.Dk

namespace Go.X.Dk
open Go Go.X Go.RowKit Go.X.Vo Go.X.Tg
/-! a frame at the front of a text -/
theorem fr_len (o:OpT):(frO o).length=(Lg.bodyS o).length+7:=by
 unfold frO Fr.fr Fr.hd
 simp only [List.length_append,List.length_cons,Fr.tl_len]
theorem fr_gN {o:OpT} (h:Lg.opE o=0) (r:Tx):Fr.gN (frO o++r)=(Lg.bodyS o).length∧Fr.sb (frO o++r) 0=1:=by
 have hl:=body_len h
 refine ⟨?_,rfl⟩
 show (UInt8.ofNat ((Lg.bodyS o).length / 256)).toNat * 256+(UInt8.ofNat (Lg.bodyS o).length).toNat=_
 simp only [UInt8.toNat_ofNat']
 omega
theorem fr_get {o:OpT} (h:Lg.opE o=0) (r:Tx):Fr.getE (frO o++r)=0∧((frO o++r).drop 3).take (Fr.gN (frO o++r))=Lg.bodyS o∧(frO o++r).drop (Fr.gN (frO o++r)+7)=r:=by
 obtain ⟨h1,h2⟩:=fr_gN h r
 have hl:=body_len h
 have hlen:=fr_len o
 have e:frO o=Fr.hd 1 (Lg.bodyS o)++Fr.tl (Fr.hd 1 (Lg.bodyS o)):=rfl
 have hh:(Fr.hd 1 (Lg.bodyS o)).length=(Lg.bodyS o).length+3:=by simp [Fr.hd]
 refine ⟨?_,?_,?_⟩
 · unfold Fr.getE
   rw [h1,h2,if_neg (by rw [List.length_append]; omega),if_neg (by omega),if_neg (by rw [List.length_append]; omega)]
   have t1:(frO o++r).take ((Lg.bodyS o).length+3)=Fr.hd 1 (Lg.bodyS o):=by
    rw [e,List.append_assoc,← hh,List.take_left' rfl]
   have t2:((frO o++r).drop ((Lg.bodyS o).length+3)).take 4=Fr.tl (Fr.hd 1 (Lg.bodyS o)):=by
    rw [e,List.append_assoc,← hh,List.drop_left' rfl,List.take_left' (Fr.tl_len _)]
   rw [t1,t2,if_neg (fun h=>h rfl)]
 · rw [h1]
   show ((Lg.bodyS o++Fr.tl (Fr.hd 1 (Lg.bodyS o)))++r).take _=_
   rw [List.append_assoc,List.take_left' rfl]
 · rw [h1]
   exact List.drop_left' (by rw [hlen])
/-- a frame that is cut off -/
theorem fr_cut {o:OpT} (h:Lg.opE o=0) {k:Nat} (hk:k < (frO o).length):Fr.getE ((frO o).take k)=7:=by
 have hl:=body_len h
 have hlen:=fr_len o
 have h2:=fr_gN h []
 rw [List.append_nil] at h2
 unfold Fr.getE
 have hkl:((frO o).take k).length=k:=by rw [List.length_take]; omega
 rw [hkl]
 by_cases h3:k≤2
 · rw [if_pos h3]
 have hs : ∀ i,i < k→Fr.sb ((frO o).take k) i=Fr.sb (frO o) i:=fun i hi=>by
  unfold Fr.sb
  rw [List.getD_eq_getElem?_getD,List.getD_eq_getElem?_getD,List.getElem?_take,if_pos hi]
 have hg:Fr.gN ((frO o).take k)=(Lg.bodyS o).length:=by
  rw [← h2.1]
  unfold Fr.gN
  rw [hs 1 (by omega),hs 2 (by omega)]
 rw [if_neg h3,hg,hs 0 (by omega),h2.2,if_neg (by omega),if_pos (by omega)]
theorem play_cons {f:Nat} {A:St} {o:OpT} {r:Tx} {n:Nat} (h:Lg.opE o=0) (hd:(doA A.1 A.2 o).2=0) (hn:n≠200):playS (f+1) A (frO o++r) n=playS f (doA A.1 A.2 o).1 r (n+1):=by
 obtain ⟨h1,h2,h3⟩:=fr_get h r
 have h4:=(fr_gN h r).2
 rw [playS,h1,h2,h3,h4,if_neg (by decide),if_neg (by decide),if_neg hn,(Lg.dec_body h).1]
 simp only [ne_eq,not_true_eq_false,or_self,if_false,hd]
theorem play_end {f:Nat} {A:St} {o:OpT} {k n:Nat} (h:Lg.opE o=0) (hk:k < (frO o).length):playS f A ((frO o).take k) n=(A,(n:Int),0):=by
 cases f with
 | zero=>rfl
 | succ f=>rw [playS,if_pos (fr_cut h hk)]
/-- how far the frames reach that were played -/
def fl (l:List OpT):Tx:=l.flatMap frO
theorem fl_cons (o:OpT) (l:List OpT):fl (o :: l)=frO o++fl l:=List.flatMap_cons
theorem fl_app (l m:List OpT):fl (l++m)=fl l++fl m:=List.flatMap_append
theorem getU_fr {o:OpT} (h:Lg.opE o=0) (r:Tx):(Fr.getU (frO o++r)).toNat=(frO o).length:=by
 obtain ⟨h1,_,_⟩:=fr_get h r
 obtain ⟨h2,_⟩:=fr_gN h r
 unfold Fr.getU
 rw [if_pos h1,h2,fr_len,zo]
theorem used_fl {l:List OpT} {r:Tx} (h : ∀ o ∈ l,Lg.opE o=0) : ∀ k,k≤l.length→usedN (fl l++r) k=(fl (l.take k)).length
 | 0,_=>by rw [List.take_zero]; rfl
 | k+1,hk=>by
   have ih:=used_fl (r:=r) h k (by omega)
   have hkl:k < l.length:=by omega
   have e:l=l.take k++l[k] :: l.drop (k+1):=by rw [← List.drop_eq_getElem_cons hkl,List.take_append_drop]
   have e2:fl l++r=fl (l.take k)++(frO l[k]++(fl (l.drop (k+1))++r)):=by
    conv=>lhs; rw [e]
    rw [fl_app,fl_cons,List.append_assoc,List.append_assoc]
   have e3:l.take (k+1)=l.take k++[l[k]]:=by rw [List.take_add_one,List.getElem?_eq_getElem hkl]; rfl
   rw [usedN,ih,e3,fl_app,List.length_append,e2,List.drop_left' rfl,getU_fr (h _ (List.getElem_mem hkl))]
   simp [fl]
/-! what is played: all of it -/
theorem play4 {A B C D F:St} {o1 o2 o3 o4:OpT} (h1:Lg.opE o1=0) (h2:Lg.opE o2=0) (h3:Lg.opE o3=0) (h4:Lg.opE o4=0) (d1:doA A.1 A.2 o1=(B,0)) (d2:doA B.1 B.2 o2=(C,0)) (d3:doA C.1 C.2 o3=(D,0)) (d4:doA D.1 D.2 o4=(F,0)) :
  playS (fl [o1,o2,o3,o4]).length A (fl [o1,o2,o3,o4]) 0=(F,4,0):=by
 rw [play_fuel _ ((fl [o1,o2,o3,o4]).length+4) A _ 0 (Nat.le_refl _) (Nat.le_add_right _ _)]
 rw [fl_cons,fl_cons,fl_cons,fl_cons]
 rw [play_cons h1 (by rw [d1]) (by decide),d1,play_cons h2 (by rw [d2]) (by decide),d2,play_cons h3 (by rw [d3]) (by decide),d3,play_cons h4 (by rw [d4]) (by decide),d4]
 exact play_nil _ _ _
theorem crash4 {T:TG} {B C D F:St} {o1 o2 o3 o4:OpT} {n:Int} (ht:T.2.2.1=fl [o1,o2,o3,o4]) (hn:(fl [o1,o2,o3,o4]).length≤n) (h1:Lg.opE o1=0) (h2:Lg.opE o2=0) (h3:Lg.opE o3=0) (h4:Lg.opE o4=0)
  (d1:doA zSt.1 zSt.2 o1=(B,0)) (d2:doA B.1 B.2 o2=(C,0)) (d3:doA C.1 C.2 o3=(D,0)) (d4:doA D.1 D.2 o4=(F,0)) :
  crS T n=(F,(0,[],0,0),fl [o1,o2,o3,o4],4)∧(crP T n).2.1=4:=by
 have e1:crT T n=fl [o1,o2,o3,o4]:=by
  unfold crT
  rw [ht]
  exact List.take_of_length_le (by omega)
 have e2:crP T n=(F,4,0):=by
  unfold crP
  rw [e1]
  exact play4 h1 h2 h3 h4 d1 d2 d3 d4
 have e3:=used_fl (l:=[o1,o2,o3,o4]) (r:=[]) (by simp [h1,h2,h3,h4]) 4 (Nat.le_refl _)
 rw [List.append_nil] at e3
 refine ⟨?_,by rw [e2]⟩
 unfold crS
 rw [e2,e1]
 show (F,_,(fl [o1,o2,o3,o4]).take (usedN (fl [o1,o2,o3,o4]) 4),4)=_
 rw [e3]
 congr 3
 exact List.take_of_length_le (Nat.le_refl _)
/-- cut off within the second or the third frame -/
theorem crash1 {T:TG} {B:St} {o1 o2:OpT} {r:Tx} {n:Nat} (ht:T.2.2.1=frO o1++(frO o2++r)) (h1:Lg.opE o1=0) (h2:Lg.opE o2=0) (d1:doA zSt.1 zSt.2 o1=(B,0)) (hn:(frO o1).length≤n) (hn2:n < (frO o1).length+(frO o2).length) :
  (crS T n).1=B∧(crS T n).2.1=(0,[],0,0)∧(crP T n).2.1=1:=by
 have e1:crT T n=frO o1++(frO o2).take (n - (frO o1).length):=by
  unfold crT
  rw [ht]
  have:(max 0 (min (n:Int) ((frO o1++(frO o2++r)).length:Int))).toNat=n:=by
   simp only [List.length_append]
   omega
  rw [this,List.take_append,List.take_of_length_le hn,List.take_append_of_le_length (by omega)]
 have e2:crP T n=(B,1,0):=by
  unfold crP
  rw [e1,play_fuel _ ((frO o1++(frO o2).take (n - (frO o1).length)).length+1) _ _ 0 (Nat.le_refl _) (Nat.le_add_right _ _),play_cons h1 (by rw [d1]) (by decide),d1]
  exact play_end h2 (by omega)
 exact ⟨by rw [show (crS T n).1=(crP T n).1 from rfl,e2],rfl,by rw [e2]⟩
theorem crash2 {T:TG} {B C:St} {o1 o2 o3:OpT} {r:Tx} {n:Nat} (ht:T.2.2.1=frO o1++(frO o2++(frO o3++r))) (h1:Lg.opE o1=0) (h2:Lg.opE o2=0) (h3:Lg.opE o3=0) (d1:doA zSt.1 zSt.2 o1=(B,0)) (d2:doA B.1 B.2 o2=(C,0))
  (hn:(frO o1).length+(frO o2).length≤n) (hn2:n < (frO o1).length+(frO o2).length+(frO o3).length) :
  (crS T n).1=C∧(crS T n).2.1=(0,[],0,0)∧(crP T n).2.1=2:=by
 have e1:crT T n=frO o1++(frO o2++(frO o3).take (n - (frO o1).length - (frO o2).length)):=by
  unfold crT
  rw [ht]
  have:(max 0 (min (n:Int) ((frO o1++(frO o2++(frO o3++r))).length:Int))).toNat=n:=by
   simp only [List.length_append]
   omega
  rw [this,List.take_append,List.take_of_length_le (by omega),List.take_append,List.take_of_length_le (by omega),List.take_append_of_le_length (by omega)]
 have e2:crP T n=(C,2,0):=by
  unfold crP
  rw [e1,play_fuel _ ((frO o1++(frO o2++(frO o3).take (n - (frO o1).length - (frO o2).length))).length+2) _ _ 0 (Nat.le_refl _) (Nat.le_add_right _ _),play_cons h1 (by rw [d1]) (by decide),d1,play_cons h2 (by rw [d2]) (by decide),d2]
  exact play_end h3 (by omega)
 exact ⟨by rw [show (crS T n).1=(crP T n).1 from rfl,e2],rfl,by rw [e2]⟩
end Go.X.Dk

