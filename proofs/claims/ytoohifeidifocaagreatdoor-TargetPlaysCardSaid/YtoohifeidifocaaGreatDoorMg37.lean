/- Contracts of functions and the logic that they are proved in (3 texts in one). Conditions: none. -/
import Derived.Test.YtoohifeidifocaaGreatDoorMg36
open Nat renaming reduceAdd→zx,reduceMul→zj,reduceDiv→zy,reduceEqDiff→zk,reduceLT→zw,reduceLeDiff→zb,reduceBEq→zg
open Int renaming reduceEq→zd,reduceNe→zf,reduceLT→zp,reduceLE→zm,reduceAdd→zh,reduceSub→zu,reduceMul→zt,reduceNeg→zn,reduceToNat→zc,cast_ofNat_Int→zl,natCast_zero→za,natCast_one→ze,toNat_natCast→zo
namespace Go.X.Bg
end Go.X.Bg
namespace Go.X.Nm
end Go.X.Nm
namespace Go.X.Bp
end Go.X.Bp
namespace Go.X.Sb
end Go.X.Sb
namespace Go.X.Vo
end Go.X.Vo
set_option linter.unusedSimpArgs false
set_option linter.unusedVariables false
set_option maxHeartbeats 4000000
set_option maxRecDepth 20000
namespace Go.X.Tg
open Go Go.X Go.RowKit Go.X.Bg Go.X.Nm Go.X.Bp Go.X.Sb Go.X.Vo

theorem getU_le (s:Txt):(Fr.getU s).toNat≤s.length∧(Fr.getU s).toNat≤707∧0≤Fr.getU s:=by
  unfold Fr.getU
  by_cases h:Fr.getE s=0
  · rw [if_pos h]
    have h1:=get_ok h
    have h2:Fr.gN s≤700:=by
      unfold Fr.getE at h
      split at h
      · cases h
      split at h
      · cases h
      rename_i h3
      omega
    omega
  · rw [if_neg h]
    exact ⟨Nat.zero_le _,Nat.zero_le _,Int.le_refl _⟩
/-- how many letters the first frames take -/
def usedN (s:Txt):Nat→Nat
  | 0=>0
  | k+1=>usedN s k+(Fr.getU (s.drop (usedN s k))).toNat
theorem usedN_le (s:Txt) : ∀ k,usedN s k≤s.length∧usedN s k≤707 * k
  | 0=>⟨Nat.zero_le _,Nat.zero_le _⟩
  | k+1=>by
    have h1:=usedN_le s k
    have h2:=getU_le (s.drop (usedN s k))
    rw [List.length_drop] at h2
    rw [usedN]
    omega
theorem play_right : ∀ (f:Nat) (A:St) (s:Txt) (n:Nat),stE A.1 A.2=0→n≤200→stE (playS f A s n).1.1 (playS f A s n).1.2=0∧0≤(playS f A s n).2.1∧(playS f A s n).2.1≤200
  | 0,A,s,n,hA,hn=>⟨hA,by simp only [playS]; omega,by simp only [playS]; omega⟩
  | f+1,A,s,n,hA,hn=>by
    rw [playS]
    split
    · exact ⟨hA,by simp only; omega,by simp only; omega⟩
    split
    · exact ⟨rfl,Int.le_refl _,(by decide:(0:Int)≤200)⟩
    split
    · exact ⟨rfl,Int.le_refl _,(by decide:(0:Int)≤200)⟩
    split
    · exact ⟨rfl,Int.le_refl _,(by decide:(0:Int)≤200)⟩
    split
    · exact ⟨rfl,Int.le_refl _,(by decide:(0:Int)≤200)⟩
    · exact play_right f _ _ _ (doA_right _ _ _) (by omega)
def crT (T:TG) (n:Int):Txt:=T.2.2.1.take (max 0 (min n (T.2.2.1.length:Int))).toNat
def crP (T:TG) (n:Int):St×Int×Int:=playS (crT T n).length zSt (crT T n) 0
def crS (T:TG) (n:Int):TG:=((crP T n).1,(0,[],0,0),(crT T n).take (usedN (crT T n) (crP T n).2.1.toNat),(crP T n).2.1.toNat)
theorem crP_right (T:TG) (n:Int):stE (crP T n).1.1 (crP T n).1.2=0∧0≤(crP T n).2.1∧(crP T n).2.1≤200:=play_right _ _ _ _ rfl (by decide)
theorem cr_right (T:TG) (n:Int):TgR (crS T n):=by
  obtain ⟨h1,h2,h3⟩:=crP_right T n
  refine ⟨h1,rfl,?_,?_⟩
  · have:=usedN_le (crT T n) (crP T n).2.1.toNat
    simp only [crS,List.length_take]
    omega
  · simp only [crS]
    omega
section
variable {N:Nat} {w0:World} {M0 M:Mem} {σ:Sig} {K:KP} {d:Nat} {qa qb qc:Option Value} {oc rc tc:List SV} {T:TG} {b v rg:Value} {ws:List WV}
theorem tcrashK (hd:decide (d < N)=true) (ho:SV.concs oc=true) (hr:SV.concs rc=true) (n:Int) (hn:inK .i64 n) (hT:TgM M T b v rg ws) (hR:TgR T)
    (hk : ∀ b' v' ws' M',M.le M'→TgM M' (crS T n) b' v' (.slice none 0 0) ws'→K ((d,true,.v (.int .i64 (crP T n).2.1)) :: σ) (H3 qa qb qc oc rc (tgC (crS T n) b' v' (.slice none 0 0))) M') :
    CallK ⟨Proofs.Tryz.prog,N,w0,M0⟩ 15 [.ptr 248 0 0 0,.v (.int .i64 n)] d K σ (H3 qa qb qc oc rc (tgC T b v rg)) M:=by
  refine CallK.lendB 8000 [0,1,4,5,6,7,9,11,33,34,35] Proofs.Tryz.func15 rfl (by kernel_rfl) hd (by simp only [lentB,tgC,SV.concs,SV.conc,ho,hr,Bool.and_self]) fun xs=>?_
  have hC:=crP_right T n
  have hcT:crT T n=T.2.2.1.take (max 0 (min n (T.2.2.1.length:Int))).toNat:=rfl
  have hcP:crP T n=playS (crT T n).length zSt (crT T n) 0:=rfl
  have hcS:crS T n=((crP T n).1,(0,[],0,0),(crT T n).take (usedN (crT T n) (crP T n).2.1.toNat),(crP T n).2.1.toNat):=rfl
  rw [hcS] at hk
  simp only [tgC] at hk
  generalize crP T n=P at *
  generalize crT T n=s at *
  obtain ⟨A,⟨g,l,k,h⟩,tx,many⟩:=T
  have h4:=hR.many
  have h5:=hR.tx
  simp only at h4 h5 hcT
  have o1:=fun d=>concs_noKeys d oc ho
  have r1:=fun d=>concs_noKeys d rc hr
  have hsl:s.length≤tx.length:=by rw [hcT,List.length_take]; omega
  have hcut:(max 0 (min n (tx.length:Int))).toNat≤tx.length:=by omega
  simp only [Proofs.Tryz.f15,tgC,sd2,sd3,zz,zq,↓reduceIte,zx,zj,zy,zk,zw,zb,reduceCtorEq,zd,zf,zp,zm,zh,zu,zt,zn,zc,zl,za,ze,zo,zg,nzs,hT.bag.one,hT.vols.row.one,hT.regs.one,o1,r1]
  refine DrawK.heldE [8248] (tk [0,4,5,1,6,2,7,3,8,9,10,11,12,13] .done) (by kernel_rfl) (by kernel_rfl) fun ys hy=>?_
  simp only [tieEq] at hy
  simp only [sd2,sd3,zz,zq,↓reduceIte,zx,zj,zy,zk,zw,zb,reduceCtorEq,zd,zf,zp,zm,zh,zu,zt,zn,zc,zl,za,ze,zo,zg,nzs,se1,se2,tks,hy,o1,r1,ho,hr,inK,lo,hi,Nat.sub_zero,← hcT]
  refine ⟨⟨by omega,by omega⟩,?_⟩
  have hW:=replayW s M (by unfold maxLen; omega)
  rw [← hcP] at hW
  clear hcP hcS hcT
  obtain ⟨P,m,pe⟩:=P
  obtain ⟨c1,c2,c3⟩:=hC
  simp only at c1 c2 c3 hW hk
  refine CallK.stM (T:=playT m pe) (fun _ _=>rfl) rfl rfl hW fun b2 v2 ws2 M2 hM2 hw2 hb2 hv2=>?_
  simp only [sd2,sd3,zz,zq,↓reduceIte,zx,zj,zy,zk,zw,zb,reduceCtorEq,zd,zf,zp,zm,zh,zu,zt,zn,zc,zl,za,ze,zo,zg,nzs,playT,stV,hb2.one,hv2.row.one,o1,r1,ho,hr]
  refine LoopK.go (X:=Nat) (fun i=>([(0,true,.ptr 8248 0 0 0),(5,true,.v (.string ⟨s.toArray⟩)),(6,true,.ptr 48 0 0 0),(7,true,.v (.int .i64 m)),(9,true,.v (.string ⟨(s.drop (usedN s i)).toArray⟩)),(33,true,.v (.int .i64 m)),(34,true,.v (.int .i64 i))],
    [(48,.box [.v b2,.v v2] none),(8104,.box oc (some (xs 104))),(8264,.box rc (some (xs 264))),(8248,.box [.v b,.v v,.v (.int .i64 g),.v rg,.v (.int .i64 k),.v (.int .i64 h),.v (.string ⟨tx.toArray⟩),.v (.int .i64 many)] (some (xs 248)))],M2)) (fun i=>i≤m.toNat) (fun i=>m.toNat - i) 0 (Nat.zero_le _) (Ent.of ?_) ?_
  · simp only [zq,↓reduceIte,zx,zj,zy,zk,zw,zb,reduceCtorEq,zd,zf,zp,zm,zh,zu,zt,zn,zc,zl,za,ze,zo,zg,usedN,List.drop_zero,za]
    done
  intro i hil
  obtain ⟨u1,u2⟩:=usedN_le s i
  by_cases him:i=m.toNat
  · have ci:((i:Int) < m)=False:=eq_false (by omega)
    have e1:m.toNat=i:=him.symm
    have e2:(m.toNat:Int)=m:=by omega
    have e3:(s.length:Int) - ((s.drop (usedN s i)).length:Int)=(usedN s i:Nat):=by rw [List.length_drop]; omega
    simp only [sd2,sd3,zz,zq,↓reduceIte,zx,zj,zy,zk,zw,zb,reduceCtorEq,zd,zf,zp,zm,zh,zu,zt,zn,zc,zl,za,ze,zo,zg,nzs,ci,o1,r1]
    refine DrawK.heldE [48] (tk [0,1,2,3,5,9,4,6,7,8,10,11] (.one 12 .done)) (by kernel_rfl) (by kernel_rfl) fun zs hz=>?_
    simp only [tieEq] at hz
    simp only [sd2,sd3,zz,zq,↓reduceIte,zx,zj,zy,zk,zw,zb,reduceCtorEq,zd,zf,zp,zm,zh,zu,zt,zn,zc,zl,za,ze,zo,zg,nzs,se1,se2,tks,hz,hb2.one,hv2.row.one,o1,r1,ho,hr,inK,lo,hi,e3,Nat.sub_zero]
    rw [e1] at hk
    have hK:=hk b2 v2 ws2 M2 hM2 ⟨hb2,hv2,hw2,RowM.nil _ _⟩
    have e4:(i:Int)=m:=by omega
    rw [e4] at hK
    exact ⟨⟨by omega,by omega⟩,⟨by omega,by omega⟩,hK⟩
  have ci:((i:Int) < m)=True:=eq_true (by omega)
  have hG:=Fr.get (s.drop (usedN s i)) M2 (by rw [List.length_drop]; unfold maxLen; omega)
  obtain ⟨fk,fb,hF⟩ : ∃ fk fb,Fr.getF (s.drop (usedN s i))=Fr.frV fk fb:=by
    unfold Fr.getF
    split
    · exact ⟨_,_,rfl⟩
    · exact ⟨_,_,rfl⟩
  rw [hF] at hG
  simp only [Fr.frV] at hG
  have hU:=getU_le (s.drop (usedN s i))
  have hD:usedN s (i+1)=usedN s i+(Fr.getU (s.drop (usedN s i))).toNat:=rfl
  have hL:(s.drop (usedN s i)).length≤s.length:=by rw [List.length_drop]; omega
  generalize hu:Fr.getU (s.drop (usedN s i))=u at *
  simp only [sd2,sd3,zz,zq,↓reduceIte,zx,zj,zy,zk,zw,zb,reduceCtorEq,zd,zf,zp,zm,zh,zu,zt,zn,zc,zl,za,ze,zo,zg,nzs,ci,o1,r1]
  refine CallK.pure ⟨rfl,rfl⟩ rfl hG ?_
  simp only [sd2,sd3,zz,zq,↓reduceIte,zx,zj,zy,zk,zw,zb,reduceCtorEq,zd,zf,zp,zm,zh,zu,zt,zn,zc,zl,za,ze,zo,zg,nzs,o1,r1,inK,lo,hi]
  have ed:List.take ((s.drop (usedN s i)).length - u.toNat) ((s.drop (usedN s i)).drop u.toNat)=s.drop (usedN s i+u.toNat):=by
    rw [List.drop_drop,List.take_of_length_le]
    simp only [List.length_drop]
    omega
  refine ⟨⟨⟨hU.2.2,by omega⟩,Int.le_refl _⟩,⟨by omega,by omega⟩,i+1,⟨by omega,by omega⟩,Ent.of ?_⟩
  simp only [zq,↓reduceIte,zx,zj,zy,zk,zw,zb,reduceCtorEq,zd,zf,zp,zm,zh,zu,zt,zn,zc,zl,za,ze,zo,zg,Int.natCast_add,ze,hD,ed]
theorem rcrashK (hd:decide (d < N)=true) (ho:SV.concs oc=true) (hr:SV.concs tc=true) (n:Int) (hn:inK .i64 n) (hT:TgM M T b v rg ws) (hR:TgR T)
    (hk : ∀ b' v' ws' M',M.le M'→TgM M' (crS T n) b' v' (.slice none 0 0) ws'→K ((d,true,.v (.int .i64 (crP T n).2.1)) :: σ) (H3 qa qb qc oc (tgC (crS T n) b' v' (.slice none 0 0)) tc) M') :
    CallK ⟨Proofs.Tryz.prog,N,w0,M0⟩ 16 [.ptr 264 0 0 0,.v (.int .i64 n)] d K σ (H3 qa qb qc oc (tgC T b v rg) tc) M:=by
  refine CallK.lendB 8000 [0,1,4,5,6,7,9,11,33,34,35] Proofs.Tryz.func16 rfl (by kernel_rfl) hd (by simp only [lentB,tgC,SV.concs,SV.conc,ho,hr,Bool.and_self]) fun xs=>?_
  have hC:=crP_right T n
  have hcT:crT T n=T.2.2.1.take (max 0 (min n (T.2.2.1.length:Int))).toNat:=rfl
  have hcP:crP T n=playS (crT T n).length zSt (crT T n) 0:=rfl
  have hcS:crS T n=((crP T n).1,(0,[],0,0),(crT T n).take (usedN (crT T n) (crP T n).2.1.toNat),(crP T n).2.1.toNat):=rfl
  rw [hcS] at hk
  simp only [tgC] at hk
  generalize crP T n=P at *
  generalize crT T n=s at *
  obtain ⟨A,⟨g,l,k,h⟩,tx,many⟩:=T
  have h4:=hR.many
  have h5:=hR.tx
  simp only at h4 h5 hcT
  have o1:=fun d=>concs_noKeys d oc ho
  have r1:=fun d=>concs_noKeys d tc hr
  have hsl:s.length≤tx.length:=by rw [hcT,List.length_take]; omega
  have hcut:(max 0 (min n (tx.length:Int))).toNat≤tx.length:=by omega
  simp only [Proofs.Tryz.f16,tgC,sd2,sd3,zz,zq,↓reduceIte,zx,zj,zy,zk,zw,zb,reduceCtorEq,zd,zf,zp,zm,zh,zu,zt,zn,zc,zl,za,ze,zo,zg,nzs,hT.bag.one,hT.vols.row.one,hT.regs.one,o1,r1]
  refine DrawK.heldE [8264] (tk [0,4,5,1,6,2,7,3,8,9,10,11,12,13] .done) (by kernel_rfl) (by kernel_rfl) fun ys hy=>?_
  simp only [tieEq] at hy
  simp only [sd2,sd3,zz,zq,↓reduceIte,zx,zj,zy,zk,zw,zb,reduceCtorEq,zd,zf,zp,zm,zh,zu,zt,zn,zc,zl,za,ze,zo,zg,nzs,se1,se2,tks,hy,o1,r1,ho,hr,inK,lo,hi,Nat.sub_zero,← hcT]
  refine ⟨⟨by omega,by omega⟩,?_⟩
  have hW:=rreplay s.length s (.slice none 0 0) (.slice none 0 0) [] [] 0 M (Nat.le_refl _) (by unfold maxLen; omega) (by decide) (RowM.nil _ _) (zero_volsM M).2
  have hz0:(([],List.map (fun x:WV=>x.2) []):St)=zSt:=rfl
  rw [hz0,← hcP] at hW
  simp only [stV] at hW
  clear hcP hcS hcT
  obtain ⟨P,m,pe⟩:=P
  obtain ⟨c1,c2,c3⟩:=hC
  simp only at c1 c2 c3 hW hk
  refine CallK.stM (T:=playT m pe) (fun _ _=>rfl) rfl rfl hW fun b2 v2 ws2 M2 hM2 hw2 hb2 hv2=>?_
  simp only [sd2,sd3,zz,zq,↓reduceIte,zx,zj,zy,zk,zw,zb,reduceCtorEq,zd,zf,zp,zm,zh,zu,zt,zn,zc,zl,za,ze,zo,zg,nzs,playT,stV,hb2.one,hv2.row.one,o1,r1,ho,hr]
  refine LoopK.go (X:=Nat) (fun i=>([(0,true,.ptr 8264 0 0 0),(5,true,.v (.string ⟨s.toArray⟩)),(6,true,.ptr 48 0 0 0),(7,true,.v (.int .i64 m)),(9,true,.v (.string ⟨(s.take (usedN s i)).toArray⟩)),(33,true,.v (.int .i64 m)),(34,true,.v (.int .i64 i))],
    [(48,.box [.v b2,.v v2] none),(8104,.box oc (some (xs 104))),(8248,.box tc (some (xs 248))),(8264,.box [.v b,.v v,.v (.int .i64 g),.v rg,.v (.int .i64 k),.v (.int .i64 h),.v (.string ⟨tx.toArray⟩),.v (.int .i64 many)] (some (xs 264)))],M2)) (fun i=>i≤m.toNat) (fun i=>m.toNat - i) 0 (Nat.zero_le _) (Ent.of ?_) ?_
  · simp only [zq,↓reduceIte,zx,zj,zy,zk,zw,zb,reduceCtorEq,zd,zf,zp,zm,zh,zu,zt,zn,zc,zl,za,ze,zo,zg,usedN,List.take_zero,za]
    done
  intro i hil
  obtain ⟨u1,u2⟩:=usedN_le s i
  by_cases him:i=m.toNat
  · have ci:((i:Int) < m)=False:=eq_false (by omega)
    have e1:m.toNat=i:=him.symm
    have e2:(m.toNat:Int)=m:=by omega
    simp only [sd2,sd3,zz,zq,↓reduceIte,zx,zj,zy,zk,zw,zb,reduceCtorEq,zd,zf,zp,zm,zh,zu,zt,zn,zc,zl,za,ze,zo,zg,nzs,ci,o1,r1,hb2.one,hv2.row.one,ho,hr]
    rw [e1] at hk
    have hK:=hk b2 v2 ws2 M2 hM2 ⟨hb2,hv2,hw2,RowM.nil _ _⟩
    have e4:(i:Int)=m:=by omega
    rw [e4] at hK
    exact hK
  have ci:((i:Int) < m)=True:=eq_true (by omega)
  have hG:=Fr.unframe (s.drop (usedN s i)) M2 (by rw [List.length_drop]; unfold maxLen; omega)
  obtain ⟨fk,fb,hF⟩ : ∃ fk fb,Fr.getF (s.drop (usedN s i))=Fr.frV fk fb:=by
    unfold Fr.getF
    split
    · exact ⟨_,_,rfl⟩
    · exact ⟨_,_,rfl⟩
  rw [hF] at hG
  simp only [Fr.frV] at hG
  have hU:=getU_le (s.drop (usedN s i))
  have hD:usedN s (i+1)=usedN s i+(Fr.getU (s.drop (usedN s i))).toNat:=rfl
  have hL:(s.drop (usedN s i)).length≤s.length:=by rw [List.length_drop]; omega
  have eL:(s.take (usedN s i)).length=usedN s i:=by rw [List.length_take]; omega
  have e6:List.take (s.length - usedN s i) (s.drop (usedN s i))=s.drop (usedN s i):=List.take_of_length_le (by rw [List.length_drop]; exact Nat.le_refl _)
  generalize hu:Fr.getU (s.drop (usedN s i))=u at *
  simp only [sd2,sd3,zz,zq,↓reduceIte,zx,zj,zy,zk,zw,zb,reduceCtorEq,zd,zf,zp,zm,zh,zu,zt,zn,zc,zl,za,ze,zo,zg,nzs,ci,o1,r1,eL,e6]
  refine ⟨⟨⟨by omega,by omega⟩,Int.le_refl _⟩,?_⟩
  refine CallK.pure ⟨rfl,rfl⟩ rfl hG ?_
  simp only [sd2,sd3,zz,zq,↓reduceIte,zx,zj,zy,zk,zw,zb,reduceCtorEq,zd,zf,zp,zm,zh,zu,zt,zn,zc,zl,za,ze,zo,zg,nzs,o1,r1,inK,lo,hi,eL]
  have hD2:(s.drop (usedN s i)).length=s.length - usedN s i:=List.length_drop
  have e7:((usedN s i:Int)+u).toNat=usedN s (i+1):=by omega
  refine ⟨⟨by omega,by omega⟩,⟨by omega,by omega⟩,⟨by omega,by omega⟩,i+1,⟨by omega,by omega⟩,Ent.of ?_⟩
  simp only [zq,↓reduceIte,zx,zj,zy,zk,zw,zb,reduceCtorEq,zd,zf,zp,zm,zh,zu,zt,zn,zc,zl,za,ze,zo,zg,Int.natCast_add,ze,e7,Nat.sub_zero]
end
end Go.X.Tg

namespace Go.X.Tg
open Go Go.X Go.RowKit Go.X.Bg Go.X.Nm Go.X.Bp Go.X.Sb Go.X.Vo

def okK (l:List (Int×Int)) (k h:Int):Prop:=(k=0∧h=0)∨(Rv.allB k=true∧h=0∧l≠[])∨(k≠0∧Rv.allB k=false∧Rv.kindB k=true∧0 < Rv.ky h l)
theorem ck_srt : ∀ {l:List (Int×Int)} {last:Int},-1≤last→Rv.srt (last+1) l→Rv.ck l last=0
  | [],_,_,_=>rfl
  | x :: l,last,h,⟨h1,h2,h3⟩=>by
    rw [Rv.ck,if_neg (by omega),if_neg (by omega)]
    exact ck_srt (by omega) h3
theorem fi_ky {l:List (Int×Int)} {w:Int} (hs:Rv.srt 0 l):(0 < Rv.ky w l)↔0≤Rv.fi w l 0:=Rv.ky_fi w l 0 (Rv.srt_keys hs)
theorem resvE_of {g:Int} {l:List (Int×Int)} {k h:Int} (hg:0≤g∧g≤2147483647) (hs:Rv.srt 0 l) (hk:okK l k h):Rv.resvE g l k h=0:=by
  unfold Rv.resvE
  rw [if_neg (by omega),ck_srt (by omega) hs,if_neg (fun h=>h rfl)]
  unfold Rv.kE
  rcases hk with ⟨h1,h2⟩ | ⟨h1,h2,h3⟩ | ⟨h1,h2,h3,h4⟩
  · rw [if_pos (.inl h1),if_neg]
    subst h1
    rintro (h | ⟨h,_⟩)
    · exact h h2
    · exact absurd h (by decide)
  · rw [if_pos (.inr h1),if_neg]
    rintro (h | ⟨_,h⟩)
    · exact h h2
    · exact h3 h
  · have h5:=(fi_ky hs).1 h4
    rw [if_neg (by rw [h2]; simp [h1]),if_neg (by rw [h3]; decide),if_neg (by omega)]
theorem okK_of {g:Int} {l:List (Int×Int)} {k h:Int} (he:Rv.resvE g l k h=0):(0≤g∧g≤2147483647)∧Rv.srt 0 l∧okK l k h:=by
  obtain ⟨hg,hs,hk,hA,h0,hh⟩:=Rv.resvE_ok he
  refine ⟨hg,hs,?_⟩
  by_cases h1:k=0
  · exact .inl ⟨h1,h0 h1⟩
  cases h2:Rv.allB k with
  | true=>exact .inr (.inl ⟨h2,hA h2⟩)
  | false=>
    unfold Rv.resvE at he
    rw [if_neg (by omega),ck_srt (by omega) hs,if_neg (fun h=>h rfl)] at he
    unfold Rv.kE at he
    rw [if_neg (by rw [h2]; simp [h1])] at he
    split at he
    · cases he
    rename_i h3
    split at he
    · cases he
    rename_i h4
    exact .inr (.inr ⟨h1,h2,by simpa using h3,(fi_ky hs).2 (by omega)⟩)
theorem ky_range {l:List (Int×Int)} {w:Int} (hs:Rv.srt 0 l) (h:0 < Rv.ky w l):0≤w∧w≤7:=by
  rcases Rv.fi_some (w:=w) (l:=l) (i:=0) with ⟨q1,_⟩ | ⟨j,x,_,q2,q3,_⟩
  · have:=(fi_ky hs).1 h
    omega
  · have:=Rv.srt_le hs x (List.mem_of_getElem? q2)
    omega
theorem ky_ne {l:List (Int×Int)} {w:Int} (h:0 < Rv.ky w l):l≠[]:=fun e=>by
  subst e
  exact absurd (show 0 < (0:Int) from h) (by decide)
theorem gen_ok (f:Int→Int) : ∀ (n:Nat) (a:Int),a+n≤8→(∀ h,a≤h→h < a+n→f h≤1000)→Rv.srt a (Rv.gen f n a) ∧ ∀ q,a≤q→q < a+n→0≤f q→Rv.ky q (Rv.gen f n a)=f q
  | 0,a,_,_=>⟨trivial,fun q h1 h2=>by omega⟩
  | n+1,a,ha,hf=>by
    obtain ⟨i1,i2⟩:=gen_ok f n (a+1) (by omega) (fun h h1 h2=>hf h (by omega) (by omega))
    rw [Rv.gen]
    by_cases h:0 < f a
    · rw [if_pos h]
      refine ⟨⟨⟨Int.le_refl _,by simp only; omega⟩,⟨by simp only; omega,hf a (by omega) (by omega)⟩,i1⟩,fun q h1 h2 h3=>?_⟩
      rw [Rv.ky]
      by_cases hq:a=q
      · subst hq
        rw [if_pos rfl]
      · rw [if_neg hq]
        exact i2 q (by omega) (by omega) h3
    · rw [if_neg h]
      refine ⟨Rv.srt_mono (by omega) i1,fun q h1 h2 h3=>?_⟩
      by_cases hq:a=q
      · subst hq
        rw [Rv.ky_lt i1 (by omega)]
        omega
      · exact i2 q (by omega) (by omega) h3
theorem kr_ok {l:List (Int×Int)} {w key:Int} (hs:Rv.srt 0 l) (hk:0≤key∧key≤1000):Rv.srt 0 (Rv.kr l w key) ∧ ∀ q,0≤q→q≤7→Rv.ky q (Rv.kr l w key)=if q=w then key else Rv.ky q l:=by
  obtain ⟨h1,h2⟩:=gen_ok (fun h=>if h=w then key else Rv.ky h l) 8 0 (by decide) (fun h _ _=>by
    have:=Rv.ky_pos (w:=h) hs
    split <;> omega)
  refine ⟨h1,fun q h3 h4=>h2 q h3 (by omega) ?_⟩
  have:=Rv.ky_pos (w:=q) hs
  split <;> omega
theorem reg_right {g:Int} {l:List (Int×Int)} {k h w old key:Int} (he:(Rv.regS g l k h w old key).1=0) :
    Rv.resvE (Rv.regS g l k h w old key).2.1 (Rv.regS g l k h w old key).2.2.1 (Rv.regS g l k h w old key).2.2.2.1 (Rv.regS g l k h w old key).2.2.2.2=0:=by
  unfold Rv.regS at he ⊢
  by_cases h1:Rv.resvE g l k h≠0
  · rw [if_pos h1] at he; exact absurd he h1
  rw [if_neg h1] at he ⊢
  by_cases h2:Rv.whoB w=false∨(key < 0∨1000 < key)
  · rw [if_pos h2] at he; exact absurd he (by decide)
  rw [if_neg h2] at he ⊢
  by_cases h3:Rv.ky w l≠old
  · rw [if_pos h3] at he; exact absurd he (by decide)
  rw [if_neg h3] at he ⊢
  by_cases h4:g=2147483647
  · rw [if_pos h4] at he; exact absurd he (by decide)
  rw [if_neg h4]
  obtain ⟨hg,hs,hk⟩:=okK_of (Classical.not_not.1 h1)
  have hkey:0≤key∧key≤1000:=by omega
  obtain ⟨k1,k2⟩:=kr_ok (w:=w) hs hkey
  refine resvE_of (by simp only; omega) k1 ?_
  simp only
  cases hF:Rv.kF l k h w key with
  | true=>exact .inl ⟨rfl,rfl⟩
  | false=>
    simp only [Bool.false_eq_true,if_false]
    unfold Rv.kF at hF
    rcases hk with e | ⟨e1,e2,e3⟩ | ⟨e1,e2,e3,e4⟩
    · exact .inl e
    · refine .inr (.inl ⟨e1,e2,fun e=>?_⟩)
      rw [e1,e] at hF
      simp at hF
    · refine .inr (.inr ⟨e1,e2,e3,?_⟩)
      obtain ⟨r1,r2⟩:=ky_range hs e4
      rw [k2 h r1 r2]
      by_cases hw:h=w
      · rw [if_pos hw]
        have hh:Rv.hasB l k h w=true:=by
          unfold Rv.hasB
          rw [e2]
          simp [e1,hw]
        rw [e2,hh] at hF
        have : ¬ key=0:=fun e=>by rw [e] at hF; simp at hF
        omega
      · rw [if_neg hw]
        exact e4
theorem keyE_in {g:Int} {l:List (Int×Int)} {k h w key:Int} (he:Rv.keyE g l k h w key=0):(0≤g∧g≤2147483647)∧Rv.srt 0 l∧okK l k h∧0 < Rv.ky w l:=by
  obtain ⟨h1,_,h3,_⟩:=Rv.keyE_ok he
  obtain ⟨hg,hs,hk⟩:=okK_of h1
  exact ⟨hg,hs,hk,(fi_ky hs).2 h3⟩
theorem kind_ne {c:Int} (h:Rv.kindB c=true):c≠0:=fun e=>by subst e; exact absurd h (by decide)
theorem okK_held {l:List (Int×Int)} {w c:Int} (h:0 < Rv.ky w l) (hc:Rv.kindB c=true):okK l c (if Rv.allB c=true then 0 else w):=by
  cases hA:Rv.allB c with
  | true=>exact .inr (.inl ⟨hA,rfl,ky_ne h⟩)
  | false=>exact .inr (.inr ⟨kind_ne hc,hA,hc,h⟩)
theorem rsv_right {g:Int} {l:List (Int×Int)} {k h w key k2:Int} (he:(Rv.rsvS g l k h w key k2).1=0) :
    Rv.resvE (Rv.rsvS g l k h w key k2).2.1 (Rv.rsvS g l k h w key k2).2.2.1 (Rv.rsvS g l k h w key k2).2.2.2.1 (Rv.rsvS g l k h w key k2).2.2.2.2=0:=by
  unfold Rv.rsvS at he ⊢
  by_cases h1:Rv.keyE g l k h w key≠0
  · rw [if_pos h1] at he; exact absurd he h1
  rw [if_neg h1] at he ⊢
  by_cases h2:Rv.kindB k2=false
  · rw [if_pos h2] at he; exact absurd he (by decide)
  rw [if_neg h2] at he ⊢
  by_cases h3:k≠0∧(Rv.hasB l k h w=false∨k≠k2)
  · rw [if_pos h3] at he; exact absurd he (by decide)
  rw [if_neg h3]
  obtain ⟨hg,hs,hk,hw⟩:=keyE_in (Classical.not_not.1 h1)
  exact resvE_of hg hs (okK_held hw (by simpa using h2))
theorem rel_right {g:Int} {l:List (Int×Int)} {k h w key k2:Int} (he:(Rv.relS g l k h w key k2).1=0) :
    Rv.resvE (Rv.relS g l k h w key k2).2.1 (Rv.relS g l k h w key k2).2.2.1 (Rv.relS g l k h w key k2).2.2.2.1 (Rv.relS g l k h w key k2).2.2.2.2=0:=by
  unfold Rv.relS at he ⊢
  by_cases h1:Rv.keyE g l k h w key≠0
  · rw [if_pos h1] at he; exact absurd he h1
  rw [if_neg h1] at he ⊢
  by_cases h2:Rv.kindB k2=false
  · rw [if_pos h2] at he; exact absurd he (by decide)
  rw [if_neg h2] at he ⊢
  obtain ⟨hg,hs,hk,hw⟩:=keyE_in (Classical.not_not.1 h1)
  by_cases h3:Rv.hasB l k h w=false
  · rw [if_pos h3]
    exact resvE_of hg hs hk
  rw [if_neg h3] at he ⊢
  by_cases h4:k≠k2
  · rw [if_pos h4] at he; exact absurd he (by decide)
  rw [if_neg h4]
  exact resvE_of hg hs (.inl ⟨rfl,rfl⟩)
theorem clr_right {g:Int} {l:List (Int×Int)} {k h w key:Int} (he:(Rv.clrS g l k h w key).1=0) :
    Rv.resvE (Rv.clrS g l k h w key).2.1 (Rv.clrS g l k h w key).2.2.1 (Rv.clrS g l k h w key).2.2.2.1 (Rv.clrS g l k h w key).2.2.2.2=0:=by
  unfold Rv.clrS at he ⊢
  by_cases h1:Rv.keyE g l k h w key≠0
  · rw [if_pos h1] at he; exact absurd he h1
  rw [if_neg h1] at he ⊢
  by_cases h2:g=2147483647
  · rw [if_pos h2] at he; exact absurd he (by decide)
  rw [if_neg h2]
  obtain ⟨hg,hs,hk,hw⟩:=keyE_in (Classical.not_not.1 h1)
  exact resvE_of (by simp only; omega) trivial (.inl ⟨rfl,rfl⟩)
theorem outS_ok {s:Rv.ST} {q w:Int} (hs:Rv.srt 0 s.1) (hk:okK s.1 s.2.1 s.2.2) (hq:q≠w) :
    Rv.srt 0 (Rv.outS s q).1∧okK (Rv.outS s q).1 (Rv.outS s q).2.1 (Rv.outS s q).2.2∧Rv.ky w (Rv.outS s q).1=Rv.ky w s.1:=by
  obtain ⟨l,k,h⟩:=s
  simp only at hs hk
  have hf : ∀ x,Rv.ky x (Rv.outL l q)=if x=q then 0 else Rv.ky x l:=fun x=>Rv.ky_filter hs
  refine ⟨Rv.srt_filter hs,?_,by simp only [Rv.outS,hf,if_neg hq.symm]⟩
  simp only [Rv.outS]
  cases hF:Rv.outF l k h q with
  | true=>exact .inl ⟨rfl,rfl⟩
  | false=>
    simp only [Bool.false_eq_true,if_false]
    unfold Rv.outF at hF
    rcases hk with e | ⟨e1,e2,e3⟩ | ⟨e1,e2,e3,e4⟩
    · exact .inl e
    · refine .inr (.inl ⟨e1,e2,fun e=>?_⟩)
      rw [e1,e] at hF
      have hb:Rv.hasB l k h q=false:=by simpa using hF
      unfold Rv.hasB at hb
      rw [if_pos e1] at hb
      obtain ⟨x,r,hl⟩ : ∃ x r,l=x :: r:=by cases l with
        | nil=>exact absurd rfl e3
        | cons x r=>exact ⟨x,r,rfl⟩
      have hx:x ∈ l:=by rw [hl]; exact List.mem_cons_self
      have hxq:x.1≠q:=by
        rcases Rv.fi_some (w:=q) (l:=l) (i:=0) with ⟨_,q2⟩ | ⟨j,x,q1,_⟩
        · exact q2 x hx
        · simp only [decide_eq_false_iff_not] at hb
          omega
      have:x ∈ Rv.outL l q:=List.mem_filter.2 ⟨hx,by simp [hxq]⟩
      rw [e] at this
      cases this
    · refine .inr (.inr ⟨e1,e2,e3,?_⟩)
      rw [hf h]
      by_cases hw:h=q
      · have hh:Rv.hasB l k h q=true:=by
          unfold Rv.hasB
          rw [e2]
          simp [e1,hw]
        rw [e2,hh] at hF
        exact absurd hF (by simp)
      · rw [if_neg hw]
        exact e4
theorem strS_ok {w:Int} : ∀ (hs:List Int) (s:Rv.ST),Rv.srt 0 s.1→okK s.1 s.2.1 s.2.2 →
    Rv.srt 0 (Rv.strS w s hs).1∧okK (Rv.strS w s hs).1 (Rv.strS w s hs).2.1 (Rv.strS w s hs).2.2∧Rv.ky w (Rv.strS w s hs).1=Rv.ky w s.1
  | [],s,h1,h2=>⟨h1,h2,rfl⟩
  | q :: r,s,h1,h2=>by
    rw [Rv.strS]
    by_cases hq:q=w
    · rw [if_pos hq]
      exact strS_ok r s h1 h2
    · rw [if_neg hq]
      obtain ⟨a1,a2,a3⟩:=outS_ok h1 h2 hq
      obtain ⟨b1,b2,b3⟩:=strS_ok (w:=w) r _ a1 a2
      exact ⟨b1,b2,b3.trans a3⟩
theorem pre_right {g:Int} {l:List (Int×Int)} {k h w key b c:Int} (he:(Rv.preS g l k h w key b c).1=0) :
    Rv.resvE (Rv.preS g l k h w key b c).2.1 (Rv.preS g l k h w key b c).2.2.1 (Rv.preS g l k h w key b c).2.2.2.1 (Rv.preS g l k h w key b c).2.2.2.2=0:=by
  unfold Rv.preS at he ⊢
  by_cases h1:Rv.keyE g l k h w key≠0
  · rw [if_pos h1] at he; exact absurd he h1
  rw [if_neg h1] at he ⊢
  by_cases h2:Rv.kindB c=false∨(b < 1∨1000 < b)
  · rw [if_pos h2] at he; exact absurd he (by decide)
  rw [if_neg h2] at he ⊢
  by_cases h3:Rv.hands l b=[]
  · rw [if_pos h3] at he; exact absurd he (by decide)
  rw [if_neg h3] at he ⊢
  by_cases h4:g=2147483647
  · rw [if_pos h4] at he; exact absurd he (by decide)
  rw [if_neg h4]
  obtain ⟨hg,hs,hk,hw⟩:=keyE_in (Classical.not_not.1 h1)
  obtain ⟨a1,a2,a3⟩:=strS_ok (w:=w) (Rv.hands l b) (l,k,h) hs hk
  have hc:Rv.kindB c=true:=by
    cases hc:Rv.kindB c with
    | true=>rfl
    | false=>exact absurd (.inl hc) h2
  have hg2:0≤g+1∧g+1≤2147483647:=by omega
  by_cases h5:Rv.tookB k h (Rv.hands l b)=true
  · rw [if_pos h5]
    exact resvE_of hg2 a1 (okK_held (by rw [a3]; exact hw) hc)
  · rw [if_neg h5]
    exact resvE_of hg2 a1 a2
end Go.X.Tg

namespace Go.X.Tg
open Go Go.X Go.RowKit Go.X.Bg Go.X.Nm Go.X.Bp Go.X.Sb Go.X.Vo

def zTG:TG:=(zSt,(0,[],0,0),[],0)
def z0:Value:=.slice none 0 0
theorem zTG_right:TgR zTG:=⟨rfl,rfl,Nat.le_refl _,Nat.zero_le _⟩
theorem zTG_mem (M:Mem):TgM M zTG z0 z0 z0 []:=⟨RowM.nil _ _,(zero_volsM M).2,rfl,RowM.nil _ _⟩
theorem new (M:Mem):Meets Proofs.Tryz.prog 4 [] M (NewB (tgC zTG z0 z0 z0)):=by
  refine Meets.of_body [0] Proofs.Tryz.func4 rfl (by kernel_rfl) rfl fun w=>?_
  simp only [Proofs.Tryz.f4,zz,zq,↓reduceIte,zx,zj,zy,zk,zw,zb,reduceCtorEq,zd,zf,zp,zm,zh,zu,zt,zn,zc,zl,za,ze,zo,zg,nzs]
  exact ⟨_,rfl,rfl⟩
def atL (l:List Int) (i:Nat):Int:=(l[i]?).getD 0
theorem at_ (y:Value) (l:List Int) (i:Nat) (M:Mem) (hy:RowM M y 1 (l.map fun a=>[Value.int .i64 a])) :
    Meets Proofs.Tryz.prog 6 [.v y,.v (.int .i64 i)] M fun r _ _=>r = .v (.int .i64 (atL l i)):=by
  refine Meets.of_body [0,1,4,8] Proofs.Tryz.func6 rfl (by kernel_rfl) rfl fun w=>?_
  have hyl:=hy.len_le
  rw [List.length_map] at hyl
  unfold atL
  by_cases h:i < l.length
  · have c1:((i:Int) < (l.length:Int))=True:=eq_true (by omega)
    obtain ⟨x,hx,hd⟩:=l_drop_at (l:=l) (i:=i) h
    have g1:=hy.el1 hx rfl
    have i1:=hy.ix (i:=(i:Int)) (by omega) (by rw [List.length_map]; omega)
    simp only [Proofs.Tryz.f6,zz,zq,↓reduceIte,zx,zj,zy,zk,zw,zb,reduceCtorEq,zd,zf,zp,zm,zh,zu,zt,zn,zc,zl,za,ze,zo,zg,nzs,hy.len,hy.sl,List.length_map,c1,g1.1,hx,Option.getD_some]
    exact ⟨i1,g1.2⟩
  · have c1:((i:Int) < (l.length:Int))=False:=eq_false (by omega)
    have hx:l[i]? = none:=List.getElem?_eq_none (by omega)
    simp only [Proofs.Tryz.f6,zz,zq,↓reduceIte,zx,zj,zy,zk,zw,zb,reduceCtorEq,zd,zf,zp,zm,zh,zu,zt,zn,zc,zl,za,ze,zo,zg,nzs,hy.len,hy.sl,List.length_map,c1,hx,Option.getD_none]
abbrev H1 (tc:List SV):HS:=[(176,.box tc none)]
section
variable {N:Nat} {w0:World} {M0 M:Mem} {σ:Sig} {K:KP} {d:Nat} {T:TG} {b v rg:Value} {ws:List WV}
theorem tdo0K (hd:decide (d < N)=true) (w:Int) (o:OpT) (hT:TgM M T b v rg ws) (hR:TgR T)
    (hk : ∀ b' v' ws' M',M.le M'→TgM M' (tdoS T w o).1 b' v' rg ws'→K ((d,true,.v (.int .i64 (tdoS T w o).2)) :: σ) (H1 (tgC (tdoS T w o).1 b' v' rg)) M') :
    CallK ⟨Proofs.Tryz.prog,N,w0,M0⟩ 5 [.ptr 176 0 0 0,.v (.int .i64 w),opT o] d K σ (H1 (tgC T b v rg)) M:=by
  refine CallK.lendB 8000 [0,1,2,5,6,7,8,9,10,12,24,27,38,44] Proofs.Tryz.func5 rfl (by kernel_rfl) hd (by simp only [lentB,tgC,SV.concs,SV.conc,Bool.and_self]) fun xs=>?_
  have hM:=Rv.may T.2.1.1 rg T.2.1.2.2.1 T.2.1.2.2.2 w true T.2.1.2.1 M hT.regs
  simp only [Rv.resvV] at hM
  obtain ⟨A,⟨g,l,k,h⟩,tx,many⟩:=T
  have h2:=hR.rv
  have h4:=hR.many
  have h5:=hR.tx
  simp only at hM h2 h4 h5
  have hmE:Rv.mayE g l k h w=if Rv.whoB w=true then 0 else 1:=if_neg (fun h=>h h2)
  generalize hS:tdoS (A,(g,l,k,h),tx,many) w o=S at *
  unfold tdoS at hS
  simp only at hS
  simp only [Proofs.Tryz.f5,tgC,opT,sd2,sd3,zz,zq,↓reduceIte,zx,zj,zy,zk,zw,zb,reduceCtorEq,zd,zf,zp,zm,zh,zu,zt,zn,zc,zl,za,ze,zo,zg,nzs,hT.bag.one,hT.vols.row.one,hT.regs.one]
  refine CallK.pure ⟨rfl,rfl⟩ rfl hM ?_
  rw [hmE]
  have hkeep : ∀ (e:Int),S=((A,(g,l,k,h),tx,many),e)→K ((d,true,.v (.int .i64 e)) :: σ) (H1 [.v b,.v v,.v (.int .i64 g),.v rg,.v (.int .i64 k),.v (.int .i64 h),.v (.string ⟨tx.toArray⟩),.v (.int .i64 many)]) M:=fun e he=>by
    subst he
    exact hk b v ws M (Mem.le.refl M) hT
  cases hw:Rv.whoB w with
  | false=>
    have e1:hE (g,l,k,h) w true=1:=if_pos hw
    rw [e1,if_pos (by decide)] at hS
    simp only [sd2,sd3,zz,zq,↓reduceIte,zx,zj,zy,zk,zw,zb,reduceCtorEq,zd,zf,zp,zm,zh,zu,zt,zn,zc,zl,za,ze,zo,zg,nzs]
    exact hkeep 1 hS.symm
  | true=>
  have e1:hE (g,l,k,h) w true=if Rv.mayB l k h w true=true then 0 else 9:=if_neg (by rw [hw]; decide)
  rw [e1] at hS
  cases hmb:Rv.mayB l k h w true with
  | false=>
    rw [hmb,if_pos (by decide),if_neg (by decide)] at hS
    simp only [sd2,sd3,zz,zq,↓reduceIte,zx,zj,zy,zk,zw,zb,reduceCtorEq,zd,zf,zp,zm,zh,zu,zt,zn,zc,zl,za,ze,zo,zg,nzs,if_true,decide_true]
    exact hkeep 9 hS.symm
  | true=>
  rw [hmb,if_pos rfl,if_neg (fun h=>h rfl)] at hS
  have hL:=ldo b v A.1 ws o M hT.bag hT.vols
  rw [hT.vw] at hL
  simp only [stV,opT] at hL
  have hop:(doL A.1 A.2 o).2=0→Lg.opE o=0:=fun h=>Decidable.of_not_not fun h1=>by
    have:doL A.1 A.2 o=(zSt,Lg.opE o):=if_pos h1
    rw [this] at h
    exact h1 h
  generalize doL A.1 A.2 o=D at *
  simp only [sd2,sd3,zz,zq,↓reduceIte,zx,zj,zy,zk,zw,zb,reduceCtorEq,zd,zf,zp,zm,zh,zu,zt,zn,zc,zl,za,ze,zo,zg,nzs,if_true,decide_true]
  refine DrawK.ent (X:=Value×Value×List WV×Mem) (fun z=>(M.le z.2.2.2∧z.2.2.1.map (·.2)=D.1.2)∧RowM z.2.2.2 z.1 4 (D.1.1.map Bg.encT)∧VolsM z.2.2.2 z.2.1 z.2.2.1) (fun z=>([(0,true,.ptr 8176 0 0 0),(5,true,.ptr 40 0 0 0),(8,true,.v (.int .i64 D.2)),(9,true,.ptr 72 0 0 0)],
    [(72,.box [.v z.1,.v z.2.1] none),(40,.box [.v (.int .i64 o.1),.v (.string ⟨o.2.1.toArray⟩),.v (.string ⟨o.2.2.1.toArray⟩),.v (.int .i64 o.2.2.2.1),.v (.string ⟨o.2.2.2.2.toArray⟩)] none),(8176,.box [.v b,.v v,.v (.int .i64 g),.v rg,.v (.int .i64 k),.v (.int .i64 h),.v (.string ⟨tx.toArray⟩),.v (.int .i64 many)] (some (xs 176)))],z.2.2.2)) ?_ ?_
  · refine DrawK.heldE [8176,40] (tk [0,4,1,2,3] (.two 5 (tk [6,7,8] (.one 9 (.one 10 (tk [11] .done)))) 9 (.one 5 (tk [6,7,8] (.one 10 (tk [11] .done)))))) (by kernel_rfl) (by kernel_rfl) fun ys hy=>?_
    simp only [tieEq] at hy
    simp only [sd2,sd3,zz,zq,↓reduceIte,zx,zj,zy,zk,zw,zb,reduceCtorEq,zd,zf,zp,zm,zh,zu,zt,zn,zc,zl,za,ze,zo,zg,nzs,se1,se2,tks,hT.bag.one,hT.vols.row.one,hy]
    refine ⟨?_,?_⟩
    all_goals
      refine CallK.stM (T:=fun s=>.tup [s,.v (.int .i64 D.2)]) (fun _ _=>rfl) rfl rfl hL fun b5 v5 ws5 M5 hM5 hw5 hb5 hv5=>?_
      simp only [zz,zq,↓reduceIte,zx,zj,zy,zk,zw,zb,reduceCtorEq,zd,zf,zp,zm,zh,zu,zt,zn,zc,zl,za,ze,zo,zg,nzs,se1,se2,tks,stV,hb5.one,hv5.row.one,hM5,hy]
      exact ⟨(b5,v5,ws5,M5),⟨⟨hM5,hw5⟩,hb5,hv5⟩,Ent.heap (HEnt.untie (k:=40) rfl) (Ent.of (by simp only [zq,↓reduceIte,zx,zj,zy,zk,zw,zb,reduceCtorEq,zd,zf,zp,zm,zh,zu,zt,zn,zc,zl,za,ze,zo,zg,hset]))⟩
  rintro ⟨b2,v2,ws2,M2⟩ ⟨⟨hM2,hw2⟩,hb2,hv2⟩
  simp only at hM2 hw2 hb2 hv2
  have hkeep2 : ∀ (e:Int),S=((A,(g,l,k,h),tx,many),e)→K ((d,true,.v (.int .i64 e)) :: σ) (H1 [.v b,.v v,.v (.int .i64 g),.v rg,.v (.int .i64 k),.v (.int .i64 h),.v (.string ⟨tx.toArray⟩),.v (.int .i64 many)]) M2:=fun e he=>by
    subst he
    exact hk b v ws M2 hM2 (hT.le hM2)
  by_cases h6:D.2=0
  rotate_left
  · have c6:=eq_false h6
    rw [if_pos h6] at hS
    simp only [sd2,sd3,zz,zq,↓reduceIte,zx,zj,zy,zk,zw,zb,reduceCtorEq,zd,zf,zp,zm,zh,zu,zt,zn,zc,zl,za,ze,zo,zg,nzs,c6]
    exact hkeep2 _ hS.symm
  rw [if_neg (fun h=>h h6)] at hS
  have hop2:=hop h6
  by_cases h7:many=200
  · have c7:((many:Int)=200)=True:=eq_true (by omega)
    rw [if_pos h7] at hS
    simp only [sd2,sd3,zz,zq,↓reduceIte,zx,zj,zy,zk,zw,zb,reduceCtorEq,zd,zf,zp,zm,zh,zu,zt,zn,zc,zl,za,ze,zo,zg,nzs,h6,c7]
    exact hkeep2 _ hS.symm
  have c7:((many:Int)=200)=False:=eq_false (by omega)
  rw [if_neg h7] at hS
  subst hS
  have hEn:=Lg.encodeW o M2
  rw [hop2,if_pos rfl] at hEn
  simp only [Lg.opV] at hEn
  obtain ⟨p1,p2⟩:=put_body hop2
  have hP:=Fr.put 1 (Lg.bodyS o) M2 (body_max hop2)
  rw [p1,p2] at hP
  simp only [Fr.frV] at hP
  have hfl:=frO_len hop2
  simp only [sd2,sd3,zz,zq,↓reduceIte,zx,zj,zy,zk,zw,zb,reduceCtorEq,zd,zf,zp,zm,zh,zu,zt,zn,zc,zl,za,ze,zo,zg,nzs,h6,c7]
  refine CallK.pure ⟨rfl,rfl⟩ rfl hEn ?_
  simp only [sd2,sd3,zz,zq,↓reduceIte,zx,zj,zy,zk,zw,zb,reduceCtorEq,zd,zf,zp,zm,zh,zu,zt,zn,zc,zl,za,ze,zo,zg,nzs]
  refine CallK.pure ⟨rfl,rfl⟩ rfl hP ?_
  simp only [sd2,sd3,zz,zq,↓reduceIte,zx,zj,zy,zk,zw,zb,reduceCtorEq,zd,zf,zp,zm,zh,zu,zt,zn,zc,zl,za,ze,zo,zg,nzs]
  refine DrawK.heldE [72] (tk [0,1,2,3,4,8,10,5,11,6,12] (.two 7 (tk [9] (.one 13 (tk [14,15,16] (.one 17 (tk [18,19] (.one 20 (tk [21,22] (.one 23 .done)))))))) 13 (tk [14] (.one 7 (tk [9,15,16] (.one 17 (tk [18,19] (.one 20 (tk [21,22] (.one 23 .done)))))))))) (by kernel_rfl) (by kernel_rfl) fun ys hy=>?_
  simp only [tieEq] at hy
  simp only [sd2,sd3,zz,zq,↓reduceIte,zx,zj,zy,zk,zw,zb,reduceCtorEq,zd,zf,zp,zm,zh,zu,zt,zn,zc,zl,za,ze,zo,zg,nzs,se1,se2,tks,hb2.one,hv2.row.one,hT.regs.one,hy,inK,lo,hi]
  have hK:=hk b2 v2 ws2 M2 hM2 ⟨hb2,hv2,hw2,hT.regs.le hM2⟩
  simp only [tgC,Int.natCast_add,ze] at hK
  exact ⟨⟨by omega,⟨by omega,by omega⟩,hK⟩,⟨by omega,by omega⟩,by omega,hK⟩
end
end Go.X.Tg

