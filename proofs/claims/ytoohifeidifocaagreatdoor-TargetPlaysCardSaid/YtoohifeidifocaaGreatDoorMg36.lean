/- Contracts of functions and the logic that they are proved in (3 texts in one). Conditions: none. -/
import Derived.Test.YtoohifeidifocaaGreatDoorMg35
open Nat renaming reduceAdd→zx,reduceMul→zj,reduceDiv→zy,reduceEqDiff→zk,reduceLT→zw,reduceLeDiff→zb,reduceBEq→zg
open Int renaming reduceEq→zd,reduceNe→zf,reduceLT→zp,reduceLE→zm,reduceAdd→zh,reduceSub→zu,reduceMul→zt,reduceNeg→zn,reduceToNat→zc,cast_ofNat_Int→zl,natCast_zero→za,natCast_one→ze,toNat_natCast→zo
namespace Go.X.Bg
end Go.X.Bg
namespace Go.X.Nm
end Go.X.Nm
namespace Go.X.Bp
end Go.X.Bp
namespace Go.X.Sb
end Go.X.Sb
namespace Go.X.Vo
end Go.X.Vo
set_option linter.unusedSimpArgs false
set_option linter.unusedVariables false
set_option maxHeartbeats 4000000
set_option maxRecDepth 20000
namespace Go.X.Tg
open Go Go.X Go.RowKit Go.X.Bg Go.X.Nm Go.X.Bp Go.X.Sb Go.X.Vo

section
variable {N:Nat} {w0:World} {M0 M:Mem} {σ:Sig} {K:KP} {d:Nat} {qa qb qc:Option Value} {oc rc tc:List SV} {T:TG} {b v rg:Value} {ws:List WV}
theorem rdoK (hd:decide (d < N)=true) (ho:SV.concs oc=true) (ht:SV.concs tc=true) (w:Int) (o:OpT) (hT:TgM M T b v rg ws) (hR:TgR T)
    (hk : ∀ b' v' ws' M',M.le M'→TgM M' (tdoS T w o).1 b' v' rg ws'→K ((d,true,.v (.int .i64 (tdoS T w o).2)) :: σ) (H3 qa qb qc oc (tgC (tdoS T w o).1 b' v' rg) tc) M') :
    CallK ⟨Proofs.Tryz.prog,N,w0,M0⟩ 7 [.ptr 264 0 0 0,.v (.int .i64 w),opT o] d K σ (H3 qa qb qc oc (tgC T b v rg) tc) M:=by
  refine CallK.lendB 8000 [0,1,2,5,6,7,8,9,10,11,17,22,34,40] Proofs.Tryz.func7 rfl (by kernel_rfl) hd (by simp only [lentB,tgC,SV.concs,SV.conc,ho,ht,Bool.and_self]) fun xs=>?_
  obtain ⟨A,⟨g,l,k,h⟩,tx,many⟩:=T
  have h2:=hR.rv
  have h4:=hR.many
  have h5:=hR.tx
  obtain ⟨_,hsrt,hk0,_⟩:=Rv.resvE_ok h2
  have hM:=Rv.rmay g rg k h w true l M hT.regs (Rv.srt_keys hsrt) hk0.1
  simp only [Rv.resvV] at hM
  simp only at h2 h4 h5
  have o1:=fun d=>concs_noKeys d oc ho
  have r1:=fun d=>concs_noKeys d tc ht
  generalize hS:tdoS (A,(g,l,k,h),tx,many) w o=S at *
  unfold tdoS at hS
  simp only at hS
  have hkeep : ∀ (e:Int),S=((A,(g,l,k,h),tx,many),e)→K ((d,true,.v (.int .i64 e)) :: σ) (H3 qa qb qc oc [.v b,.v v,.v (.int .i64 g),.v rg,.v (.int .i64 k),.v (.int .i64 h),.v (.string ⟨tx.toArray⟩),.v (.int .i64 many)] tc) M:=fun e he=>by
    subst he
    exact hk b v ws M (Mem.le.refl M) hT
  simp only [Proofs.Tryz.f7,tgC,opT,sd2,sd3,zz,zq,↓reduceIte,zx,zj,zy,zk,zw,zb,reduceCtorEq,zd,zf,zp,zm,zh,zu,zt,zn,zc,zl,za,ze,zo,zg,nzs,hT.bag.one,hT.vols.row.one,hT.regs.one,o1,r1]
  refine CallK.lendB 8000 [0,1,2,6,9,17] Proofs.Tryz.func27 rfl (by kernel_rfl) rfl (by simp only [lentB,SV.concs,SV.conc,ho,ht,Bool.and_self]) fun ys=>?_
  simp only [Proofs.Tryz.f27,sd2,sd3,zz,zq,↓reduceIte,zx,zj,zy,zk,zw,zb,reduceCtorEq,zd,zf,zp,zm,zh,zu,zt,zn,zc,zl,za,ze,zo,zg,nzs,hT.regs.one]
  refine CallK.pure ⟨rfl,rfl⟩ rfl (Bg.within w 0 7 M) ?_
  cases hw:Rv.whoB w with
  | false=>
    have e1:hE (g,l,k,h) w true=1:=if_pos hw
    have e2:decide (0≤w∧w≤7)=false:=by rw [Rv.whoB_dec,hw]
    rw [e1,if_pos (by decide)] at hS
    simp only [sd2,sd3,zz,zq,↓reduceIte,zx,zj,zy,zk,zw,zb,reduceCtorEq,zd,zf,zp,zm,zh,zu,zt,zn,zc,zl,za,ze,zo,zg,nzs,ho,ht,e2]
    exact hkeep 1 hS.symm
  | true=>
  have e2:decide (0≤w∧w≤7)=true:=by rw [Rv.whoB_dec,hw]
  have e1:hE (g,l,k,h) w true=if Rv.mayB l k h w true=true then 0 else 9:=if_neg (by rw [hw]; decide)
  rw [e1] at hS
  simp only [sd2,sd3,zz,zq,↓reduceIte,zx,zj,zy,zk,zw,zb,reduceCtorEq,zd,zf,zp,zm,zh,zu,zt,zn,zc,zl,za,ze,zo,zg,nzs,ho,ht,e2,hT.regs.one]
  refine CallK.pure ⟨rfl,rfl⟩ rfl hM ?_
  cases hmb:Rv.mayB l k h w true with
  | false=>
    rw [hmb,if_pos (by decide),if_neg (by decide)] at hS
    simp only [sd2,sd3,zz,zq,↓reduceIte,zx,zj,zy,zk,zw,zb,reduceCtorEq,zd,zf,zp,zm,zh,zu,zt,zn,zc,zl,za,ze,zo,zg,nzs,ho,ht]
    exact hkeep 9 hS.symm
  | true=>
  rw [hmb,if_pos rfl,if_neg (fun h=>h rfl)] at hS
  have hDd:=Lg.deedW o M
  simp only [Lg.opV] at hDd
  simp only [sd2,sd3,zz,zq,↓reduceIte,zx,zj,zy,zk,zw,zb,reduceCtorEq,zd,zf,zp,zm,zh,zu,zt,zn,zc,zl,za,ze,zo,zg,nzs,ho,ht]
  refine CallK.pure ⟨rfl,rfl⟩ rfl hDd ?_
  by_cases hop:Lg.opE o=0
  rotate_left
  · have c1:=eq_false hop
    have e3:doL A.1 A.2 o=(zSt,Lg.opE o):=if_pos hop
    rw [e3,if_pos hop] at hS
    simp only [sd2,sd3,zz,zq,↓reduceIte,zx,zj,zy,zk,zw,zb,reduceCtorEq,zd,zf,zp,zm,zh,zu,zt,zn,zc,zl,za,ze,zo,zg,nzs,ho,ht,c1]
    exact hkeep _ hS.symm
  have e3:doL A.1 A.2 o=doA A.1 A.2 o:=if_neg (fun h=>h hop)
  rw [e3] at hS
  have hL:=rdo b v A.1 ws o M hT.bag hT.vols
  rw [hT.vw] at hL
  simp only [stV,Vo.opT] at hL
  generalize doA A.1 A.2 o=D at *
  simp only [sd2,sd3,zz,zq,↓reduceIte,zx,zj,zy,zk,zw,zb,reduceCtorEq,zd,zf,zp,zm,zh,zu,zt,zn,zc,zl,za,ze,zo,zg,nzs,hop]
  refine DrawK.ent (X:=Value×Value×List WV×Mem) (fun z=>(M.le z.2.2.2∧z.2.2.1.map (·.2)=D.1.2)∧RowM z.2.2.2 z.1 4 (D.1.1.map Bg.encT)∧VolsM z.2.2.2 z.2.1 z.2.2.1) (fun z=>([(0,true,.ptr 8264 0 0 0),(5,true,.ptr 40 0 0 0),(9,true,.ptr 72 0 0 0),(10,true,.v (.int .i64 D.2))],
    [(72,.box [.v z.1,.v z.2.1] none),(40,.box [.v (.int .i64 o.1),.v (.string ⟨o.2.1.toArray⟩),.v (.string ⟨o.2.2.1.toArray⟩),.v (.int .i64 o.2.2.2.1),.v (.string ⟨o.2.2.2.2.toArray⟩)] none),(8104,.box oc (some (xs 104))),(8264,.box [.v b,.v v,.v (.int .i64 g),.v rg,.v (.int .i64 k),.v (.int .i64 h),.v (.string ⟨tx.toArray⟩),.v (.int .i64 many)] (some (xs 264))),(8248,.box tc (some (xs 248)))],z.2.2.2)) ?_ ?_
  · refine DrawK.heldE [8264,40] (tk [0,4,1,2,3] (.two 5 (tk [6,7,8] (.one 9 (.one 10 (tk [11] .done)))) 9 (.one 5 (tk [6,7,8] (.one 10 (tk [11] .done)))))) (by kernel_rfl) (by kernel_rfl) fun ys hy=>?_
    simp only [tieEq] at hy
    simp only [sd2,sd3,zz,zq,↓reduceIte,zx,zj,zy,zk,zw,zb,reduceCtorEq,zd,zf,zp,zm,zh,zu,zt,zn,zc,zl,za,ze,zo,zg,nzs,se1,se2,tks,hT.bag.one,hT.vols.row.one,hy,o1,r1]
    refine ⟨?_,?_⟩
    all_goals
      refine CallK.stM (T:=fun s=>.tup [s,.v (.int .i64 D.2)]) (fun _ _=>rfl) rfl rfl hL fun b5 v5 ws5 M5 hM5 hw5 hb5 hv5=>?_
      simp only [zz,zq,↓reduceIte,zx,zj,zy,zk,zw,zb,reduceCtorEq,zd,zf,zp,zm,zh,zu,zt,zn,zc,zl,za,ze,zo,zg,nzs,se1,se2,tks,stV,hb5.one,hv5.row.one,hM5,hy,o1,r1]
      exact ⟨(b5,v5,ws5,M5),⟨⟨hM5,hw5⟩,hb5,hv5⟩,Ent.heap (HEnt.untie (k:=40) rfl) (Ent.of (by simp only [zq,↓reduceIte,zx,zj,zy,zk,zw,zb,reduceCtorEq,zd,zf,zp,zm,zh,zu,zt,zn,zc,zl,za,ze,zo,zg,hset]))⟩
  rintro ⟨b2,v2,ws2,M2⟩ ⟨⟨hM2,hw2⟩,hb2,hv2⟩
  simp only at hM2 hw2 hb2 hv2
  have hkeep2 : ∀ (e:Int),S=((A,(g,l,k,h),tx,many),e)→K ((d,true,.v (.int .i64 e)) :: σ) (H3 qa qb qc oc [.v b,.v v,.v (.int .i64 g),.v rg,.v (.int .i64 k),.v (.int .i64 h),.v (.string ⟨tx.toArray⟩),.v (.int .i64 many)] tc) M2:=fun e he=>by
    subst he
    exact hk b v ws M2 hM2 (hT.le hM2)
  by_cases h6:D.2=0
  rotate_left
  · have c6:=eq_false h6
    rw [if_pos h6] at hS
    simp only [sd2,sd3,zz,zq,↓reduceIte,zx,zj,zy,zk,zw,zb,reduceCtorEq,zd,zf,zp,zm,zh,zu,zt,zn,zc,zl,za,ze,zo,zg,nzs,c6,ho,ht]
    exact hkeep2 _ hS.symm
  rw [if_neg (fun h=>h h6)] at hS
  by_cases h7:many=200
  · have c7:((many:Int)=200)=True:=eq_true (by omega)
    rw [if_pos h7] at hS
    simp only [sd2,sd3,zz,zq,↓reduceIte,zx,zj,zy,zk,zw,zb,reduceCtorEq,zd,zf,zp,zm,zh,zu,zt,zn,zc,zl,za,ze,zo,zg,nzs,h6,c7,ho,ht]
    exact hkeep2 _ hS.symm
  have c7:((many:Int)=200)=False:=eq_false (by omega)
  rw [if_neg h7] at hS
  subst hS
  have hEn:=Lg.rbodyW o M2 hop
  simp only [Lg.opV] at hEn
  obtain ⟨p1,p2⟩:=put_body hop
  have hP:=Fr.rframe 1 (Lg.bodyS o) M2 (body_max hop)
  rw [p1,p2] at hP
  simp only [Fr.frV] at hP
  have hfl:=frO_len hop
  simp only [sd2,sd3,zz,zq,↓reduceIte,zx,zj,zy,zk,zw,zb,reduceCtorEq,zd,zf,zp,zm,zh,zu,zt,zn,zc,zl,za,ze,zo,zg,nzs,h6,c7]
  refine CallK.pure ⟨rfl,rfl⟩ rfl hEn ?_
  simp only [sd2,sd3,zz,zq,↓reduceIte,zx,zj,zy,zk,zw,zb,reduceCtorEq,zd,zf,zp,zm,zh,zu,zt,zn,zc,zl,za,ze,zo,zg,nzs]
  refine CallK.pure ⟨rfl,rfl⟩ rfl hP ?_
  simp only [sd2,sd3,zz,zq,↓reduceIte,zx,zj,zy,zk,zw,zb,reduceCtorEq,zd,zf,zp,zm,zh,zu,zt,zn,zc,zl,za,ze,zo,zg,nzs]
  refine DrawK.heldE [72] (tk [0,1,2,3,4,8,10,5,11,6,12] (.two 7 (tk [9] (.one 13 (tk [14,15,16] (.one 17 (tk [18,19] (.one 20 (tk [21,22] (.one 23 .done)))))))) 13 (tk [14] (.one 7 (tk [9,15,16] (.one 17 (tk [18,19] (.one 20 (tk [21,22] (.one 23 .done)))))))))) (by kernel_rfl) (by kernel_rfl) fun ys hy=>?_
  simp only [tieEq] at hy
  simp only [sd2,sd3,zz,zq,↓reduceIte,zx,zj,zy,zk,zw,zb,reduceCtorEq,zd,zf,zp,zm,zh,zu,zt,zn,zc,zl,za,ze,zo,zg,nzs,se1,se2,tks,hb2.one,hv2.row.one,hT.regs.one,hy,inK,lo,hi,ho,ht]
  have hK:=hk b2 v2 ws2 M2 hM2 ⟨hb2,hv2,hw2,hT.regs.le hM2⟩
  simp only [tgC,Int.natCast_add,ze] at hK
  exact ⟨⟨by omega,⟨by omega,by omega⟩,hK⟩,⟨by omega,by omega⟩,by omega,hK⟩
end
end Go.X.Tg

namespace Go.X.Tg
open Go Go.X Go.RowKit Go.X.Bg Go.X.Nm Go.X.Bp Go.X.Sb Go.X.Vo

def trdS (T:TG) (w:Int) (n:Txt) (a:Int):Txt×Int:=if hE T.2.1 w false≠0 then ([],hE T.2.1 w false) else (rdS T.1.1 T.1.2 n a,plE T.1.1 T.1.2 n a)
section
variable {N:Nat} {w0:World} {M0 M:Mem} {σ:Sig} {K:KP} {d:Nat} {qa qb qc:Option Value} {oc rc tc:List SV} {T:TG} {b v rg:Value} {ws:List WV}
theorem treadK (hd:decide (d < N)=true) (ho:SV.concs oc=true) (hr:SV.concs rc=true) (w:Int) (n:Txt) (a:Int) (hT:TgM M T b v rg ws) (hR:TgR T)
    (hk:K ((d,true,.tup [.v (.string ⟨(trdS T w n a).1.toArray⟩),.v (.int .i64 (trdS T w n a).2)]) :: σ) (H3 qa qb qc oc rc (tgC T b v rg)) M) :
    CallK ⟨Proofs.Tryz.prog,N,w0,M0⟩ 8 [.ptr 248 0 0 0,.v (.int .i64 w),.v (.string ⟨n.toArray⟩),.v (.int .i64 a)] d K σ (H3 qa qb qc oc rc (tgC T b v rg)) M:=by
  refine CallK.lendB 8000 [0,1,2,3,8,9,10,11,22,25] Proofs.Tryz.func8 rfl (by kernel_rfl) hd (by simp only [lentB,tgC,SV.concs,SV.conc,ho,hr,Bool.and_self]) fun xs=>?_
  obtain ⟨A,⟨g,l,k,h⟩,tx,many⟩:=T
  have hM:=Rv.may g rg k h w false l M hT.regs
  simp only [Rv.resvV] at hM
  have h2:=hR.rv
  simp only at h2
  have o1:=fun d=>concs_noKeys d oc ho
  have r1:=fun d=>concs_noKeys d rc hr
  have hmE:Rv.mayE g l k h w=if Rv.whoB w=true then 0 else 1:=if_neg (fun h=>h h2)
  generalize hS:trdS (A,(g,l,k,h),tx,many) w n a=S at *
  unfold trdS at hS
  simp only at hS
  simp only [tgC] at hk
  simp only [Proofs.Tryz.f8,tgC,sd2,sd3,zz,zq,↓reduceIte,zx,zj,zy,zk,zw,zb,reduceCtorEq,zd,zf,zp,zm,zh,zu,zt,zn,zc,zl,za,ze,zo,zg,nzs,hT.bag.one,hT.vols.row.one,hT.regs.one,o1,r1]
  refine CallK.pure ⟨rfl,rfl⟩ rfl hM ?_
  rw [hmE]
  cases hw:Rv.whoB w with
  | false=>
    have e1:hE (g,l,k,h) w false=1:=if_pos hw
    rw [e1,if_pos (by decide)] at hS
    subst hS
    simp only [sd2,sd3,zz,zq,↓reduceIte,zx,zj,zy,zk,zw,zb,reduceCtorEq,zd,zf,zp,zm,zh,zu,zt,zn,zc,zl,za,ze,zo,zg,nzs,ho,hr]
    exact hk
  | true=>
  have e1:hE (g,l,k,h) w false=if Rv.mayB l k h w false=true then 0 else 9:=if_neg (by rw [hw]; decide)
  rw [e1] at hS
  cases hmb:Rv.mayB l k h w false with
  | false=>
    rw [hmb,if_pos (by decide),if_neg (by decide)] at hS
    subst hS
    simp only [sd2,sd3,zz,zq,↓reduceIte,zx,zj,zy,zk,zw,zb,reduceCtorEq,zd,zf,zp,zm,zh,zu,zt,zn,zc,zl,za,ze,zo,zg,nzs,ho,hr,if_true,decide_true]
    exact hk
  | true=>
  rw [hmb,if_pos rfl,if_neg (fun h=>h rfl)] at hS
  subst hS
  have hL:=read b v A.1 ws n a M hT.bag hT.vols
  rw [hT.vw] at hL
  simp only [stV] at hL
  simp only [sd2,sd3,zz,zq,↓reduceIte,zx,zj,zy,zk,zw,zb,reduceCtorEq,zd,zf,zp,zm,zh,zu,zt,zn,zc,zl,za,ze,zo,zg,nzs,if_true,decide_true,hT.bag.one,hT.vols.row.one]
  refine CallK.pure ⟨rfl,rfl⟩ rfl hL ?_
  simp only [sd2,sd3,zz,zq,↓reduceIte,zx,zj,zy,zk,zw,zb,reduceCtorEq,zd,zf,zp,zm,zh,zu,zt,zn,zc,zl,za,ze,zo,zg,nzs,ho,hr]
  exact hk
theorem rreadK (hd:decide (d < N)=true) (ho:SV.concs oc=true) (hr:SV.concs tc=true) (w:Int) (n:Txt) (a:Int) (hT:TgM M T b v rg ws) (hR:TgR T)
    (hk : ∀ M',M.le M'→K ((d,true,.tup [.v (.string ⟨(trdS T w n a).1.toArray⟩),.v (.int .i64 (trdS T w n a).2)]) :: σ) (H3 qa qb qc oc (tgC T b v rg) tc) M') :
    CallK ⟨Proofs.Tryz.prog,N,w0,M0⟩ 9 [.ptr 264 0 0 0,.v (.int .i64 w),.v (.string ⟨n.toArray⟩),.v (.int .i64 a)] d K σ (H3 qa qb qc oc (tgC T b v rg) tc) M:=by
  refine CallK.lendB 8000 [0,1,2,3,8,9,10,11,12,17,26,39] Proofs.Tryz.func9 rfl (by kernel_rfl) hd (by simp only [lentB,tgC,SV.concs,SV.conc,ho,hr,Bool.and_self]) fun xs=>?_
  obtain ⟨A,⟨g,l,k,h⟩,tx,many⟩:=T
  have h2:=hR.rv
  obtain ⟨_,hsrt,hk0,_⟩:=Rv.resvE_ok h2
  have hM:=Rv.rmay g rg k h w false l M hT.regs (Rv.srt_keys hsrt) hk0.1
  simp only [Rv.resvV] at hM
  have h1:=hR.st
  simp only at h1 h2
  have o1:=fun d=>concs_noKeys d oc ho
  have r1:=fun d=>concs_noKeys d tc hr
  generalize hS:trdS (A,(g,l,k,h),tx,many) w n a=S at *
  unfold trdS at hS
  simp only at hS
  simp only [tgC] at hk
  have hk1:=hk M (Mem.le.refl M)
  simp only [Proofs.Tryz.f9,tgC,sd2,sd3,zz,zq,↓reduceIte,zx,zj,zy,zk,zw,zb,reduceCtorEq,zd,zf,zp,zm,zh,zu,zt,zn,zc,zl,za,ze,zo,zg,nzs,hT.bag.one,hT.vols.row.one,hT.regs.one,o1,r1]
  refine CallK.lendB 8000 [0,1,2,6,9,17] Proofs.Tryz.func27 rfl (by kernel_rfl) rfl (by simp only [lentB,SV.concs,SV.conc,ho,hr,Bool.and_self]) fun ys=>?_
  simp only [Proofs.Tryz.f27,sd2,sd3,zz,zq,↓reduceIte,zx,zj,zy,zk,zw,zb,reduceCtorEq,zd,zf,zp,zm,zh,zu,zt,zn,zc,zl,za,ze,zo,zg,nzs,hT.regs.one]
  refine CallK.pure ⟨rfl,rfl⟩ rfl (Bg.within w 0 7 M) ?_
  cases hw:Rv.whoB w with
  | false=>
    have e1:hE (g,l,k,h) w false=1:=if_pos hw
    have e2:decide (0≤w∧w≤7)=false:=by rw [Rv.whoB_dec,hw]
    rw [e1,if_pos (by decide)] at hS
    subst hS
    simp only [sd2,sd3,zz,zq,↓reduceIte,zx,zj,zy,zk,zw,zb,reduceCtorEq,zd,zf,zp,zm,zh,zu,zt,zn,zc,zl,za,ze,zo,zg,nzs,ho,hr,e2]
    exact hk1
  | true=>
  have e2:decide (0≤w∧w≤7)=true:=by rw [Rv.whoB_dec,hw]
  have e1:hE (g,l,k,h) w false=if Rv.mayB l k h w false=true then 0 else 9:=if_neg (by rw [hw]; decide)
  rw [e1] at hS
  simp only [sd2,sd3,zz,zq,↓reduceIte,zx,zj,zy,zk,zw,zb,reduceCtorEq,zd,zf,zp,zm,zh,zu,zt,zn,zc,zl,za,ze,zo,zg,nzs,ho,hr,e2,hT.regs.one]
  refine CallK.pure ⟨rfl,rfl⟩ rfl hM ?_
  cases hmb:Rv.mayB l k h w false with
  | false=>
    rw [hmb,if_pos (by decide),if_neg (by decide)] at hS
    subst hS
    simp only [sd2,sd3,zz,zq,↓reduceIte,zx,zj,zy,zk,zw,zb,reduceCtorEq,zd,zf,zp,zm,zh,zu,zt,zn,zc,zl,za,ze,zo,zg,nzs,ho,hr]
    exact hk1
  | true=>
  rw [hmb,if_pos rfl,if_neg (fun h=>h rfl)] at hS
  subst hS
  have hF:=rvol b v ws n M hT.vols
  rw [hT.vw] at hF
  simp only [stV] at hF
  simp only [sd2,sd3,zz,zq,↓reduceIte,zx,zj,zy,zk,zw,zb,reduceCtorEq,zd,zf,zp,zm,zh,zu,zt,zn,zc,zl,za,ze,zo,zg,nzs,ho,hr,hT.bag.one,hT.vols.row.one]
  refine CallK.pure ⟨rfl,rfl⟩ rfl hF ?_
  by_cases h3:volIx A.2 n < 0
  · have c3:=eq_true h3
    have q1:plE A.1 A.2 n a=4:=by unfold plE; rw [if_neg (fun h=>h h1),if_pos h3]
    have q2:rdS A.1 A.2 n a=[]:=if_neg (by rw [q1]; decide)
    rw [q1,q2] at hk1
    simp only [sd2,sd3,zz,zq,↓reduceIte,zx,zj,zy,zk,zw,zb,reduceCtorEq,zd,zf,zp,zm,zh,zu,zt,zn,zc,zl,za,ze,zo,zg,nzs,ho,hr,c3]
    exact hk1
  have c3:=eq_false h3
  have hT2:=texts b v A.1 ws M hT.bag hT.vols (by rw [hT.vw]; exact h1)
  have hsrt2:=vols_srt (stE_ok h1).2.1
  simp only [stV] at hT2
  obtain ⟨j,x,k1,k2,k3,k4⟩:=volIx_at (ws:=ws) (n:=n) (by rw [hT.vw]; exact h3)
  rw [hT.vw] at k1 k4
  rw [← hT.vw] at hsrt2
  simp only [sd2,sd3,zz,zq,↓reduceIte,zx,zj,zy,zk,zw,zb,reduceCtorEq,zd,zf,zp,zm,zh,zu,zt,zn,zc,zl,za,ze,zo,zg,nzs,ho,hr,c3,hT.bag.one,hT.vols.row.one]
  refine CallK.ownN (T:=fun (_:List (List UInt8×Value)) f=>f 0) (P:=fun es _=>[.mp (encL encN es)]) (fun x f f' ν ν' h=>h 0 (by decide)) (fun x f f' ν ν' h=>⟨fun w y hy=>hy,trivial⟩) rfl rfl hT2 (by simp only [zz,zq,↓reduceIte,zx,zj,zy,zk,zw,zb,reduceCtorEq,zd,zf,zp,zm,zh,zu,zt,zn,zc,zl,za,ze,zo,zg,nzs,hdel,o1,r1]) fun es M3 hM3 hes=>?_
  simp only [zz,zq,↓reduceIte,zx,zj,zy,zk,zw,zb,reduceCtorEq,zd,zf,zp,zm,zh,zu,zt,zn,zc,zl,za,ze,zo,zg,sp1,sp2,sp3,nzs,shA1,shA2,hdel]
  obtain ⟨t,ht,htr⟩:=txt_fnd hes hsrt2 k2
  rw [k3] at ht
  refine ⟨rfl,OpK.lookup (KeyT.string (by kernel_rfl)) (key:=n) (kt:=9) (et:=71) (z:=.slice none 0 0) rfl rfl rfl (by kernel_rfl) Proofs.Tryz.zeroValue71 rfl rfl (fun _=>rfl) rfl ?_⟩
  rw [ht]
  have hk3:=hk M3 hM3
  have htl:=htr.len_le
  rw [List.length_map,List.length_map] at htl
  have hbk:=blks_at k1 k4
  simp only [sd2,sd3,zz,zq,↓reduceIte,zx,zj,zy,zk,zw,zb,reduceCtorEq,zd,zf,zp,zm,zh,zu,zt,zn,zc,zl,za,ze,zo,zg,nzs,ho,hr,htr.len,htr.sl,List.length_map,inK,lo,hi]
  refine ⟨by omega,CallK.pure ⟨rfl,rfl⟩ rfl (Bg.within a 0 ((x.2.2.length:Int) - 1) M3) ?_⟩
  by_cases h4:0≤a∧a≤(x.2.2.length:Int) - 1
  rotate_left
  · have c4:=decide_eq_false h4
    have q1:plE A.1 A.2 n a=1:=by unfold plE; rw [if_neg (fun h=>h h1),if_neg h3,hbk,if_pos (by omega)]
    have q2:rdS A.1 A.2 n a=[]:=if_neg (by rw [q1]; decide)
    rw [q1,q2] at hk3
    simp only [sd2,sd3,zz,zq,↓reduceIte,zx,zj,zy,zk,zw,zb,reduceCtorEq,zd,zf,zp,zm,zh,zu,zt,zn,zc,zl,za,ze,zo,zg,nzs,ho,hr,c4]
    exact hk3
  have c4:=decide_eq_true h4
  have q1:plE A.1 A.2 n a=0:=by unfold plE; rw [if_neg (fun h=>h h1),if_neg h3,hbk,if_neg (by omega)]
  obtain ⟨m,rfl⟩ : ∃ m:Nat,a=m:=⟨a.toNat,by omega⟩
  obtain ⟨id,hid,_⟩:=l_drop_at (l:=x.2.2) (i:=m) (by omega)
  have hrd:rdId A.2 n (m:Int)=id:=by unfold rdId; rw [hbk,zo,hid]; rfl
  have e3:rdS A.1 A.2 n (m:Int)=(tE A.1 id).drop 1:=by
    unfold rdS
    rw [if_pos q1,hrd,tE_drop]
  have hcell:=htr.el1 (enc:=encS) (l:=x.2.2.map (tE A.1)) (x:=tE A.1 id) (i:=m) (c:=.string ⟨(tE A.1 id).toArray⟩) (by rw [List.getElem?_map,hid]; rfl) rfl
  have hix:=htr.ix (i:=(m:Int)) (by omega) (by rw [List.length_map,List.length_map]; omega)
  have hl1:1≤(tE A.1 id).length:=by unfold tE; split <;> simp
  have et:List.take ((tE A.1 id).length - 1) ((tE A.1 id).drop 1)=(tE A.1 id).drop 1:=List.take_of_length_le (by rw [List.length_drop]; exact Nat.le_refl _)
  rw [q1,e3] at hk3
  simp only [sd2,sd3,zz,zq,↓reduceIte,zx,zj,zy,zk,zw,zb,reduceCtorEq,zd,zf,zp,zm,zh,zu,zt,zn,zc,zl,za,ze,zo,zg,nzs,ho,hr,c4,hix,hix.2,hcell.1,hcell.2,et]
  exact ⟨⟨by omega,by omega⟩,hk3⟩
end
end Go.X.Tg

namespace Go.X.Tg
open Go Go.X Go.RowKit Go.X.Bg Go.X.Nm Go.X.Bp Go.X.Sb Go.X.Vo

def trvS (T:TG) (S:Rv.RS):TG:=if S.1=0 then (T.1,S.2,T.2.2) else T
mutual
theorem conc_pub (k:Nat) (v:Value) : ∀ s:SV,s.conc=true→SV.pub k v s=s
  | .v _,_=>rfl
  | .own _,h=>by simp [SV.conc] at h
  | .ptr _ _ _ _,h=>by simp [SV.conc] at h
  | .ea _ _ _ _,_=>rfl
  | .agg l,h=>by simp only [SV.conc] at h; simp only [SV.pub,concs_pubs k v l h]
  | .tup l,h=>by simp only [SV.conc] at h; simp only [SV.pub,concs_pubs k v l h]
  | .fn f l,h=>by simp only [SV.conc] at h; simp only [SV.pub,concs_pubs k v l h]
theorem concs_pubs (k:Nat) (v:Value) : ∀ l:List SV,SV.concs l=true→SV.pubs k v l=l
  | [],_=>rfl
  | s :: l,h=>by
    simp only [SV.concs,Bool.and_eq_true] at h
    simp only [SV.pubs,conc_pub k v s h.1,concs_pubs k v l h.2]
end
section
variable {N:Nat} {w0:World} {M0 M:Mem} {σ:Sig} {K:KP} {d:Nat} {qa qb qc:Option Value} {oc rc tc:List SV} {T:TG} {b v rg:Value} {ws:List WV}
theorem tregisterK (hd:decide (d < N)=true) (ho:SV.concs oc=true) (hr:SV.concs rc=true) (w x y:Int) (hT:TgM M T b v rg ws)
    (hk : ∀ rg' M',M.le M'→TgM M' (trvS T (Rv.regS T.2.1.1 T.2.1.2.1 T.2.1.2.2.1 T.2.1.2.2.2 w x y)) b v rg' ws→K ((d,true,.v (.int .i64 (Rv.regS T.2.1.1 T.2.1.2.1 T.2.1.2.2.1 T.2.1.2.2.2 w x y).1)) :: σ) (H3 qa qb qc oc rc (tgC (trvS T (Rv.regS T.2.1.1 T.2.1.2.1 T.2.1.2.2.1 T.2.1.2.2.2 w x y)) b v rg')) M') :
    CallK ⟨Proofs.Tryz.prog,N,w0,M0⟩ 10 [.ptr 248 0 0 0,.v (.int .i64 w),.v (.int .i64 x),.v (.int .i64 y)] d K σ (H3 qa qb qc oc rc (tgC T b v rg)) M:=by
  refine CallK.lendB 8000 [0,1,2,3,8] Proofs.Tryz.func10 rfl (by kernel_rfl) hd (by simp only [lentB,tgC,SV.concs,SV.conc,ho,hr,Bool.and_self]) fun xs=>?_
  obtain ⟨A,⟨g,l,k,h⟩,tx,many⟩:=T
  have hM:=Rv.register g rg k h w x y l M hT.regs
  simp only [Rv.rsv,Rv.resR] at hM
  have o1:=fun d=>concs_noKeys d oc ho
  have r1:=fun d=>concs_noKeys d rc hr
  generalize Rv.regS g l k h w x y=S at *
  simp only [Proofs.Tryz.f10,tgC,sd2,sd3,zz,zq,↓reduceIte,zx,zj,zy,zk,zw,zb,reduceCtorEq,zd,zf,zp,zm,zh,zu,zt,zn,zc,zl,za,ze,zo,zg,nzs,hT.bag.one,hT.vols.row.one,hT.regs.one,o1,r1]
  refine CallK.row (Rv.ctxT S) rfl rfl hM fun rg' M1 hM1 hrg=>?_
  simp only [Rv.rsT,Rv.rsv,sd2,sd3,zz,zq,↓reduceIte,zx,zj,zy,zk,zw,zb,reduceCtorEq,zd,zf,zp,zm,zh,zu,zt,zn,zc,zl,za,ze,zo,zg,nzs]
  refine CallK.lendB 8000 [0,1,2,4,6,8] Proofs.Tryz.func36 rfl (by kernel_rfl) rfl (by simp only [lentB,SV.concs,SV.conc,ho,hr,Bool.and_self]) fun ys=>?_
  by_cases h1:S.1=0
  · have e1:trvS (A,(g,l,k,h),tx,many) S=(A,S.2,tx,many):=if_pos h1
    rw [e1] at hk
    have hk1:=hk rg' M1 hM1 ⟨hT.bag.le hM1,hT.vols.le hM1,hT.vw,hrg⟩
    simp only [tgC] at hk1
    rw [h1] at hk1
    simp only [Proofs.Tryz.f36,sd2,sd3,zz,zq,↓reduceIte,zx,zj,zy,zk,zw,zb,reduceCtorEq,zd,zf,zp,zm,zh,zu,zt,zn,zc,zl,za,ze,zo,zg,nzs,hrg.one,h1,o1,r1,ho,hr,oneVs hrg.sl]
    exact hk1
  · have c1:=eq_false h1
    have e1:trvS (A,(g,l,k,h),tx,many) S=(A,(g,l,k,h),tx,many):=if_neg h1
    rw [e1] at hk
    have hk1:=hk rg M1 hM1 (hT.le hM1)
    simp only [tgC] at hk1
    simp only [Proofs.Tryz.f36,sd2,sd3,zz,zq,↓reduceIte,zx,zj,zy,zk,zw,zb,reduceCtorEq,zd,zf,zp,zm,zh,zu,zt,zn,zc,zl,za,ze,zo,zg,nzs,hrg.one,c1,o1,r1,ho,hr]
    exact hk1
theorem treserveK (hd:decide (d < N)=true) (ho:SV.concs oc=true) (hr:SV.concs rc=true) (w x y:Int) (hT:TgM M T b v rg ws)
    (hk : ∀ rg' M',M.le M'→TgM M' (trvS T (Rv.rsvS T.2.1.1 T.2.1.2.1 T.2.1.2.2.1 T.2.1.2.2.2 w x y)) b v rg' ws→K ((d,true,.v (.int .i64 (Rv.rsvS T.2.1.1 T.2.1.2.1 T.2.1.2.2.1 T.2.1.2.2.2 w x y).1)) :: σ) (H3 qa qb qc oc rc (tgC (trvS T (Rv.rsvS T.2.1.1 T.2.1.2.1 T.2.1.2.2.1 T.2.1.2.2.2 w x y)) b v rg')) M') :
    CallK ⟨Proofs.Tryz.prog,N,w0,M0⟩ 11 [.ptr 248 0 0 0,.v (.int .i64 w),.v (.int .i64 x),.v (.int .i64 y)] d K σ (H3 qa qb qc oc rc (tgC T b v rg)) M:=by
  refine CallK.lendB 8000 [0,1,2,3,8] Proofs.Tryz.func11 rfl (by kernel_rfl) hd (by simp only [lentB,tgC,SV.concs,SV.conc,ho,hr,Bool.and_self]) fun xs=>?_
  obtain ⟨A,⟨g,l,k,h⟩,tx,many⟩:=T
  have hM:=Rv.reserve g rg k h w x y l M hT.regs
  simp only [Rv.rsv,Rv.resR] at hM
  have o1:=fun d=>concs_noKeys d oc ho
  have r1:=fun d=>concs_noKeys d rc hr
  generalize Rv.rsvS g l k h w x y=S at *
  simp only [Proofs.Tryz.f11,tgC,sd2,sd3,zz,zq,↓reduceIte,zx,zj,zy,zk,zw,zb,reduceCtorEq,zd,zf,zp,zm,zh,zu,zt,zn,zc,zl,za,ze,zo,zg,nzs,hT.bag.one,hT.vols.row.one,hT.regs.one,o1,r1]
  refine CallK.row (Rv.ctxT S) rfl rfl hM fun rg' M1 hM1 hrg=>?_
  simp only [Rv.rsT,Rv.rsv,sd2,sd3,zz,zq,↓reduceIte,zx,zj,zy,zk,zw,zb,reduceCtorEq,zd,zf,zp,zm,zh,zu,zt,zn,zc,zl,za,ze,zo,zg,nzs]
  refine CallK.lendB 8000 [0,1,2,4,6,8] Proofs.Tryz.func36 rfl (by kernel_rfl) rfl (by simp only [lentB,SV.concs,SV.conc,ho,hr,Bool.and_self]) fun ys=>?_
  by_cases h1:S.1=0
  · have e1:trvS (A,(g,l,k,h),tx,many) S=(A,S.2,tx,many):=if_pos h1
    rw [e1] at hk
    have hk1:=hk rg' M1 hM1 ⟨hT.bag.le hM1,hT.vols.le hM1,hT.vw,hrg⟩
    simp only [tgC] at hk1
    rw [h1] at hk1
    simp only [Proofs.Tryz.f36,sd2,sd3,zz,zq,↓reduceIte,zx,zj,zy,zk,zw,zb,reduceCtorEq,zd,zf,zp,zm,zh,zu,zt,zn,zc,zl,za,ze,zo,zg,nzs,hrg.one,h1,o1,r1,ho,hr,oneVs hrg.sl]
    exact hk1
  · have c1:=eq_false h1
    have e1:trvS (A,(g,l,k,h),tx,many) S=(A,(g,l,k,h),tx,many):=if_neg h1
    rw [e1] at hk
    have hk1:=hk rg M1 hM1 (hT.le hM1)
    simp only [tgC] at hk1
    simp only [Proofs.Tryz.f36,sd2,sd3,zz,zq,↓reduceIte,zx,zj,zy,zk,zw,zb,reduceCtorEq,zd,zf,zp,zm,zh,zu,zt,zn,zc,zl,za,ze,zo,zg,nzs,hrg.one,c1,o1,r1,ho,hr]
    exact hk1
theorem treleaseK (hd:decide (d < N)=true) (ho:SV.concs oc=true) (hr:SV.concs rc=true) (w x y:Int) (hT:TgM M T b v rg ws)
    (hk : ∀ rg' M',M.le M'→TgM M' (trvS T (Rv.relS T.2.1.1 T.2.1.2.1 T.2.1.2.2.1 T.2.1.2.2.2 w x y)) b v rg' ws→K ((d,true,.v (.int .i64 (Rv.relS T.2.1.1 T.2.1.2.1 T.2.1.2.2.1 T.2.1.2.2.2 w x y).1)) :: σ) (H3 qa qb qc oc rc (tgC (trvS T (Rv.relS T.2.1.1 T.2.1.2.1 T.2.1.2.2.1 T.2.1.2.2.2 w x y)) b v rg')) M') :
    CallK ⟨Proofs.Tryz.prog,N,w0,M0⟩ 12 [.ptr 248 0 0 0,.v (.int .i64 w),.v (.int .i64 x),.v (.int .i64 y)] d K σ (H3 qa qb qc oc rc (tgC T b v rg)) M:=by
  refine CallK.lendB 8000 [0,1,2,3,8] Proofs.Tryz.func12 rfl (by kernel_rfl) hd (by simp only [lentB,tgC,SV.concs,SV.conc,ho,hr,Bool.and_self]) fun xs=>?_
  obtain ⟨A,⟨g,l,k,h⟩,tx,many⟩:=T
  have hM:=Rv.release g rg k h w x y l M hT.regs
  simp only [Rv.rsv,Rv.resR] at hM
  have o1:=fun d=>concs_noKeys d oc ho
  have r1:=fun d=>concs_noKeys d rc hr
  generalize Rv.relS g l k h w x y=S at *
  simp only [Proofs.Tryz.f12,tgC,sd2,sd3,zz,zq,↓reduceIte,zx,zj,zy,zk,zw,zb,reduceCtorEq,zd,zf,zp,zm,zh,zu,zt,zn,zc,zl,za,ze,zo,zg,nzs,hT.bag.one,hT.vols.row.one,hT.regs.one,o1,r1]
  refine CallK.row (Rv.ctxT S) rfl rfl hM fun rg' M1 hM1 hrg=>?_
  simp only [Rv.rsT,Rv.rsv,sd2,sd3,zz,zq,↓reduceIte,zx,zj,zy,zk,zw,zb,reduceCtorEq,zd,zf,zp,zm,zh,zu,zt,zn,zc,zl,za,ze,zo,zg,nzs]
  refine CallK.lendB 8000 [0,1,2,4,6,8] Proofs.Tryz.func36 rfl (by kernel_rfl) rfl (by simp only [lentB,SV.concs,SV.conc,ho,hr,Bool.and_self]) fun ys=>?_
  by_cases h1:S.1=0
  · have e1:trvS (A,(g,l,k,h),tx,many) S=(A,S.2,tx,many):=if_pos h1
    rw [e1] at hk
    have hk1:=hk rg' M1 hM1 ⟨hT.bag.le hM1,hT.vols.le hM1,hT.vw,hrg⟩
    simp only [tgC] at hk1
    rw [h1] at hk1
    simp only [Proofs.Tryz.f36,sd2,sd3,zz,zq,↓reduceIte,zx,zj,zy,zk,zw,zb,reduceCtorEq,zd,zf,zp,zm,zh,zu,zt,zn,zc,zl,za,ze,zo,zg,nzs,hrg.one,h1,o1,r1,ho,hr,oneVs hrg.sl]
    exact hk1
  · have c1:=eq_false h1
    have e1:trvS (A,(g,l,k,h),tx,many) S=(A,(g,l,k,h),tx,many):=if_neg h1
    rw [e1] at hk
    have hk1:=hk rg M1 hM1 (hT.le hM1)
    simp only [tgC] at hk1
    simp only [Proofs.Tryz.f36,sd2,sd3,zz,zq,↓reduceIte,zx,zj,zy,zk,zw,zb,reduceCtorEq,zd,zf,zp,zm,zh,zu,zt,zn,zc,zl,za,ze,zo,zg,nzs,hrg.one,c1,o1,r1,ho,hr]
    exact hk1
theorem tclearK (hd:decide (d < N)=true) (ho:SV.concs oc=true) (hr:SV.concs rc=true) (w x:Int) (hT:TgM M T b v rg ws)
    (hk : ∀ rg' M',M.le M'→TgM M' (trvS T (Rv.clrS T.2.1.1 T.2.1.2.1 T.2.1.2.2.1 T.2.1.2.2.2 w x)) b v rg' ws→K ((d,true,.v (.int .i64 (Rv.clrS T.2.1.1 T.2.1.2.1 T.2.1.2.2.1 T.2.1.2.2.2 w x).1)) :: σ) (H3 qa qb qc oc rc (tgC (trvS T (Rv.clrS T.2.1.1 T.2.1.2.1 T.2.1.2.2.1 T.2.1.2.2.2 w x)) b v rg')) M') :
    CallK ⟨Proofs.Tryz.prog,N,w0,M0⟩ 13 [.ptr 248 0 0 0,.v (.int .i64 w),.v (.int .i64 x)] d K σ (H3 qa qb qc oc rc (tgC T b v rg)) M:=by
  refine CallK.lendB 8000 [0,1,2,6] Proofs.Tryz.func13 rfl (by kernel_rfl) hd (by simp only [lentB,tgC,SV.concs,SV.conc,ho,hr,Bool.and_self]) fun xs=>?_
  obtain ⟨A,⟨g,l,k,h⟩,tx,many⟩:=T
  have hM:=Rv.clear g rg k h w x l M hT.regs
  simp only [Rv.rsv,Rv.resR] at hM
  have o1:=fun d=>concs_noKeys d oc ho
  have r1:=fun d=>concs_noKeys d rc hr
  generalize Rv.clrS g l k h w x=S at *
  simp only [Proofs.Tryz.f13,tgC,sd2,sd3,zz,zq,↓reduceIte,zx,zj,zy,zk,zw,zb,reduceCtorEq,zd,zf,zp,zm,zh,zu,zt,zn,zc,zl,za,ze,zo,zg,nzs,hT.bag.one,hT.vols.row.one,hT.regs.one,o1,r1]
  refine CallK.row (Rv.ctxT S) rfl rfl hM fun rg' M1 hM1 hrg=>?_
  simp only [Rv.rsT,Rv.rsv,sd2,sd3,zz,zq,↓reduceIte,zx,zj,zy,zk,zw,zb,reduceCtorEq,zd,zf,zp,zm,zh,zu,zt,zn,zc,zl,za,ze,zo,zg,nzs]
  refine CallK.lendB 8000 [0,1,2,4,6,8] Proofs.Tryz.func36 rfl (by kernel_rfl) rfl (by simp only [lentB,SV.concs,SV.conc,ho,hr,Bool.and_self]) fun ys=>?_
  by_cases h1:S.1=0
  · have e1:trvS (A,(g,l,k,h),tx,many) S=(A,S.2,tx,many):=if_pos h1
    rw [e1] at hk
    have hk1:=hk rg' M1 hM1 ⟨hT.bag.le hM1,hT.vols.le hM1,hT.vw,hrg⟩
    simp only [tgC] at hk1
    rw [h1] at hk1
    simp only [Proofs.Tryz.f36,sd2,sd3,zz,zq,↓reduceIte,zx,zj,zy,zk,zw,zb,reduceCtorEq,zd,zf,zp,zm,zh,zu,zt,zn,zc,zl,za,ze,zo,zg,nzs,hrg.one,h1,o1,r1,ho,hr,oneVs hrg.sl]
    exact hk1
  · have c1:=eq_false h1
    have e1:trvS (A,(g,l,k,h),tx,many) S=(A,(g,l,k,h),tx,many):=if_neg h1
    rw [e1] at hk
    have hk1:=hk rg M1 hM1 (hT.le hM1)
    simp only [tgC] at hk1
    simp only [Proofs.Tryz.f36,sd2,sd3,zz,zq,↓reduceIte,zx,zj,zy,zk,zw,zb,reduceCtorEq,zd,zf,zp,zm,zh,zu,zt,zn,zc,zl,za,ze,zo,zg,nzs,hrg.one,c1,o1,r1,ho,hr]
    exact hk1
theorem tpreemptK (hd:decide (d < N)=true) (ho:SV.concs oc=true) (hr:SV.concs rc=true) (w x y z:Int) (hT:TgM M T b v rg ws)
    (hk : ∀ rg' M',M.le M'→TgM M' (trvS T (Rv.preS T.2.1.1 T.2.1.2.1 T.2.1.2.2.1 T.2.1.2.2.2 w x y z)) b v rg' ws→K ((d,true,.v (.int .i64 (Rv.preS T.2.1.1 T.2.1.2.1 T.2.1.2.2.1 T.2.1.2.2.2 w x y z).1)) :: σ) (H3 qa qb qc oc rc (tgC (trvS T (Rv.preS T.2.1.1 T.2.1.2.1 T.2.1.2.2.1 T.2.1.2.2.2 w x y z)) b v rg')) M') :
    CallK ⟨Proofs.Tryz.prog,N,w0,M0⟩ 14 [.ptr 248 0 0 0,.v (.int .i64 w),.v (.int .i64 x),.v (.int .i64 y),.v (.int .i64 z)] d K σ (H3 qa qb qc oc rc (tgC T b v rg)) M:=by
  refine CallK.lendB 8000 [0,1,2,3,4,10] Proofs.Tryz.func14 rfl (by kernel_rfl) hd (by simp only [lentB,tgC,SV.concs,SV.conc,ho,hr,Bool.and_self]) fun xs=>?_
  obtain ⟨A,⟨g,l,k,h⟩,tx,many⟩:=T
  have hM:=Rv.preempt g rg k h w x y z l M hT.regs
  simp only [Rv.rsv,Rv.resR] at hM
  have o1:=fun d=>concs_noKeys d oc ho
  have r1:=fun d=>concs_noKeys d rc hr
  generalize Rv.preS g l k h w x y z=S at *
  simp only [Proofs.Tryz.f14,tgC,sd2,sd3,zz,zq,↓reduceIte,zx,zj,zy,zk,zw,zb,reduceCtorEq,zd,zf,zp,zm,zh,zu,zt,zn,zc,zl,za,ze,zo,zg,nzs,hT.bag.one,hT.vols.row.one,hT.regs.one,o1,r1]
  refine CallK.row (Rv.ctxT S) rfl rfl hM fun rg' M1 hM1 hrg=>?_
  simp only [Rv.rsT,Rv.rsv,sd2,sd3,zz,zq,↓reduceIte,zx,zj,zy,zk,zw,zb,reduceCtorEq,zd,zf,zp,zm,zh,zu,zt,zn,zc,zl,za,ze,zo,zg,nzs]
  refine CallK.lendB 8000 [0,1,2,4,6,8] Proofs.Tryz.func36 rfl (by kernel_rfl) rfl (by simp only [lentB,SV.concs,SV.conc,ho,hr,Bool.and_self]) fun ys=>?_
  by_cases h1:S.1=0
  · have e1:trvS (A,(g,l,k,h),tx,many) S=(A,S.2,tx,many):=if_pos h1
    rw [e1] at hk
    have hk1:=hk rg' M1 hM1 ⟨hT.bag.le hM1,hT.vols.le hM1,hT.vw,hrg⟩
    simp only [tgC] at hk1
    rw [h1] at hk1
    simp only [Proofs.Tryz.f36,sd2,sd3,zz,zq,↓reduceIte,zx,zj,zy,zk,zw,zb,reduceCtorEq,zd,zf,zp,zm,zh,zu,zt,zn,zc,zl,za,ze,zo,zg,nzs,hrg.one,h1,o1,r1,ho,hr,oneVs hrg.sl]
    exact hk1
  · have c1:=eq_false h1
    have e1:trvS (A,(g,l,k,h),tx,many) S=(A,(g,l,k,h),tx,many):=if_neg h1
    rw [e1] at hk
    have hk1:=hk rg M1 hM1 (hT.le hM1)
    simp only [tgC] at hk1
    simp only [Proofs.Tryz.f36,sd2,sd3,zz,zq,↓reduceIte,zx,zj,zy,zk,zw,zb,reduceCtorEq,zd,zf,zp,zm,zh,zu,zt,zn,zc,zl,za,ze,zo,zg,nzs,hrg.one,c1,o1,r1,ho,hr]
    exact hk1
theorem tlogK (hd:decide (d < N)=true) (ho:SV.concs oc=true) (hr:SV.concs rc=true) (hT:TgM M T b v rg ws) (hk:K ((d,true,.v (.string ⟨T.2.2.1.toArray⟩)) :: σ) (H3 qa qb qc oc rc (tgC T b v rg)) M) :
    CallK ⟨Proofs.Tryz.prog,N,w0,M0⟩ 18 [.ptr 248 0 0 0] d K σ (H3 qa qb qc oc rc (tgC T b v rg)) M:=by
  refine CallK.lendB 8000 [0,2] Proofs.Tryz.func18 rfl (by kernel_rfl) hd (by simp only [lentB,tgC,SV.concs,SV.conc,ho,hr,Bool.and_self]) fun xs=>?_
  obtain ⟨A,⟨g,l,k,h⟩,tx,many⟩:=T
  simp only [tgC] at hk
  simp only [Proofs.Tryz.f18,tgC,sd2,sd3,zz,zq,↓reduceIte,zx,zj,zy,zk,zw,zb,reduceCtorEq,zd,zf,zp,zm,zh,zu,zt,zn,zc,zl,za,ze,zo,zg,nzs,ho,hr]
  exact hk
theorem tstateK (hd:decide (d < N)=true) (ho:SV.concs oc=true) (hr:SV.concs rc=true) (hT:TgM M T b v rg ws) (hR:TgR T)
    (hk : ∀ b' v' ws' M',M.le M'→ws'.map (·.2)=T.1.2→RowM M' b' 4 (T.1.1.map Bg.encT)→VolsM M' v' ws'→K ((d,true,.agg [.v b',.v v']) :: σ) (H3 qa qb qc oc rc (tgC T b v rg)) M') :
    CallK ⟨Proofs.Tryz.prog,N,w0,M0⟩ 22 [.ptr 248 0 0 0] d K σ (H3 qa qb qc oc rc (tgC T b v rg)) M:=by
  refine CallK.lendB 8000 [0,2] Proofs.Tryz.func22 rfl (by kernel_rfl) hd (by simp only [lentB,tgC,SV.concs,SV.conc,ho,hr,Bool.and_self]) fun xs=>?_
  obtain ⟨A,⟨g,l,k,h⟩,tx,many⟩:=T
  have o1:=fun d=>concs_noKeys d oc ho
  have r1:=fun d=>concs_noKeys d rc hr
  have hs:=hR.st
  simp only at hs
  obtain ⟨hB,hV,_⟩:=stE_ok hs
  have hVo:=volsE_ok hV
  have hbl:=bag_len hB
  have hwl:ws.length=A.2.length:=by rw [← hT.vw,List.length_map]
  have hli : ∀ w ∈ ws,w.2.2.length≤32:=fun w hw=>(hVo.2 w.2 (by rw [← hT.vw]; exact List.mem_map_of_mem hw)).1
  have hcp:=(copied b v A.1 ws M hT.bag hT.vols (by omega) (by omega) (fun w hw=>Nat.le_trans (hli w hw) (by omega))).mono (fun r H M' _ h=>h.weak)
  rw [hT.vw] at hcp
  simp only [stV] at hcp
  simp only [tgC] at hk
  simp only [Proofs.Tryz.f22,tgC,sd2,sd3,zz,zq,↓reduceIte,zx,zj,zy,zk,zw,zb,reduceCtorEq,zd,zf,zp,zm,zh,zu,zt,zn,zc,zl,za,ze,zo,zg,nzs,hT.bag.one,hT.vols.row.one,o1,r1]
  refine CallK.stM (T:=fun s=>s) (fun _ _=>rfl) rfl rfl hcp fun b3 v3 ws3 M3 hM3 hw3 hb3 hv3=>?_
  simp only [sd2,sd3,zz,zq,↓reduceIte,zx,zj,zy,zk,zw,zb,reduceCtorEq,zd,zf,zp,zm,zh,zu,zt,zn,zc,zl,za,ze,zo,zg,nzs,stV,hb3.one,hv3.row.one,ho,hr]
  exact hk b3 v3 ws3 M3 hM3 hw3 hb3 hv3
theorem tresvK (hd:decide (d < N)=true) (ho:SV.concs oc=true) (hr:SV.concs rc=true) (hT:TgM M T b v rg ws) (hR:TgR T)
    (hk : ∀ y M',M.le M'→RowM M' y 2 (T.2.1.2.1.map Rv.encR)→K ((d,true,.agg [.v (.int .i64 T.2.1.1),.v y,.v (.int .i64 T.2.1.2.2.1),.v (.int .i64 T.2.1.2.2.2)]) :: σ) (H3 qa qb qc oc rc (tgC T b v rg)) M') :
    CallK ⟨Proofs.Tryz.prog,N,w0,M0⟩ 20 [.ptr 248 0 0 0] d K σ (H3 qa qb qc oc rc (tgC T b v rg)) M:=by
  refine CallK.lendBR 8000 (fun s=>.agg [.v (.int .i64 T.2.1.1),s,.v (.int .i64 T.2.1.2.2.1),.v (.int .i64 T.2.1.2.2.2)]) (fun s s' ν ν' h=>by simp only [SV.val,SV.vals,h]) [0,2,3] Proofs.Tryz.func20 rfl (by kernel_rfl) hd (by simp only [lentB,tgC,SV.concs,SV.conc,ho,hr,Bool.and_self]) fun xs=>?_
  obtain ⟨A,⟨g,l,k,h⟩,tx,many⟩:=T
  have o1:=fun d=>concs_noKeys d oc ho
  have r1:=fun d=>concs_noKeys d rc hr
  have hs:=hR.rv
  simp only at hs
  have h8:=Rv.len8 (Rv.resvE_ok hs).2.1
  obtain ⟨q1,q2⟩:=hT.regs.rows (by omega)
  simp only at q1 q2
  simp only [tgC] at hk
  simp only [Proofs.Tryz.f20,tgC,sd2,sd3,zz,zq,↓reduceIte,zx,zj,zy,zk,zw,zb,reduceCtorEq,zd,zf,zp,zm,zh,zu,zt,zn,zc,zl,za,ze,zo,zg,nzs,hT.regs.one,hT.regs.sl,o1,r1,q1,List.length_map,hr,ho]
  refine ⟨⟨⟨by omega,by omega⟩,q2⟩,80,2,_,rfl,rfl,fun y M'' hM'' hy=>?_⟩
  simp only [sp1,sp2,sp3,sd2,sd3,zz,zq,↓reduceIte,zx,zj,zy,zk,zw,zb,reduceCtorEq,zd,zf,zp,zm,zh,zu,zt,zn,zc,zl,za,ze,zo,zg,nzs,ho,hr,concs_pubs _ _ oc ho,concs_pubs _ _ rc hr]
  exact hk y M'' hM'' hy
end
end Go.X.Tg

