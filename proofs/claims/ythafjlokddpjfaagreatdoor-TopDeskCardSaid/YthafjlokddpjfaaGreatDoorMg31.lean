/- Contracts of functions and the logic that they are proved in (7 texts in one). Conditions: none. -/
import Derived.Test.YthafjlokddpjfaaGreatDoorDkB
import Derived.Test.YthafjlokddpjfaaGreatDoorMg24
import Derived.Test.YthafjlokddpjfaaGreatDoorMg30
import Derived.Test.YthafjlokddpjfaaGreatDoorMg26
import Derived.Test.YthafjlokddpjfaaGreatDoorMg12
open Int renaming cast_ofNat_Int→zl,natCast_zero→za,natCast_one→ze,toNat_natCast→zo
namespace Go.X.Vo
end Go.X.Vo
namespace Go.X.Tg
end Go.X.Tg
namespace Go.X.Bg
end Go.X.Bg
namespace Go.X.Nm
end Go.X.Nm
namespace Go.X.Bp
end Go.X.Bp
namespace Go.X.Sb
end Go.X.Sb
namespace Go.X.Th
end Go.X.Th
set_option linter.unusedSimpArgs false
set_option linter.unusedVariables false
set_option maxHeartbeats 4000000
set_option maxRecDepth 20000
namespace Go.X.Dk
open Go Go.X Go.RowKit Go.X.Vo Go.X.Tg
theorem opE_rng (o:OpT):0≤Lg.opE o∧Lg.opE o≤12:=by
 unfold Lg.opE
 repeat' split
 all_goals decide
theorem put_rng (l:List Bg.It) (s:Tx):0≤(Bp.putG l s).2.2∧(Bp.putG l s).2.2≤12:=by
 unfold Bp.putG
 repeat' split
 all_goals simp
theorem fresh_rng (l:List Vol) (n:Tx):0≤freshE l n∧freshE l n≤12:=by
 unfold freshE
 repeat' split
 all_goals decide
theorem pl_rng {bag:List Bg.It} {l:List Vol} (h:stE bag l=0) (n:Tx) (a:Int):0≤plE bag l n a∧plE bag l n a≤12:=by
 unfold plE
 rw [h,if_neg (by decide)]
 repeat' split
 all_goals decide
theorem doA_rng {bag:List Bg.It} {l:List Vol} (h:stE bag l=0) (o:OpT):0≤(doA bag l o).2∧(doA bag l o).2≤12:=by
 have h1:=fresh_rng l o.2.1
 have h2:=fresh_rng l o.2.2.1
 have h3:=pl_rng h o.2.1 o.2.2.2.1
 unfold doA makeA dropA cloneA trimA writeA
 rw [h]
 repeat' split
 all_goals first
  | exact h1
  | exact h2
  | exact h3
  | (simp; done)
  | (unfold writeS
     split
     · exact put_rng _ _
     · simp; done)
theorem h_rng (R:RQ) (w:Int) (b:Bool):0≤hE R w b∧hE R w b≤12:=by
 unfold hE
 repeat' split
 all_goals decide
theorem tdo_rng {T:TG} (hR:TgR T) (w:Int) (o:OpT):0≤(tdoS T w o).2∧(tdoS T w o).2≤12:=by
 unfold tdoS
 split
 · exact h_rng _ _ _
 split
 · show 0≤(doL T.1.1 T.1.2 o).2∧(doL T.1.1 T.1.2 o).2≤12
   unfold doL
   split
   · exact opE_rng o
   · exact doA_rng hR.st o
 split
 · simp
 · simp
theorem trd_rng {T:TG} (hR:TgR T) (w:Int) (n:Tx) (a:Int):0≤(trdS T w n a).2∧(trdS T w n a).2≤12:=by
 unfold trdS
 split
 · exact h_rng _ _ _
 · exact pl_rng hR.st n a
theorem reg_rng {g:Int} {l:List (Int×Int)} {k h:Int} (he:Rv.resvE g l k h=0) (w x y:Int):0≤(Rv.regS g l k h w x y).1∧(Rv.regS g l k h w x y).1≤12:=by
 unfold Rv.regS
 rw [he]
 repeat' split
 all_goals simp [Rv.zr]
theorem key_rng {g:Int} {l:List (Int×Int)} {k h:Int} (he:Rv.resvE g l k h=0) (w x:Int):0≤Rv.keyE g l k h w x∧Rv.keyE g l k h w x≤12:=by
 unfold Rv.keyE
 rw [he]
 repeat' split
 all_goals first
  | decide
  | (simp at *; done)
theorem rsv_rng {g:Int} {l:List (Int×Int)} {k h:Int} (he:Rv.resvE g l k h=0) (w x y:Int):0≤(Rv.rsvS g l k h w x y).1∧(Rv.rsvS g l k h w x y).1≤12:=by
 have hk:=key_rng he w x
 unfold Rv.rsvS
 repeat' split
 all_goals first
  | exact hk
  | (simp [Rv.zr]; done)
theorem rel_rng {g:Int} {l:List (Int×Int)} {k h:Int} (he:Rv.resvE g l k h=0) (w x y:Int):0≤(Rv.relS g l k h w x y).1∧(Rv.relS g l k h w x y).1≤12:=by
 have hk:=key_rng he w x
 unfold Rv.relS
 repeat' split
 all_goals first
  | exact hk
  | (simp [Rv.zr]; done)
theorem clr_rng {g:Int} {l:List (Int×Int)} {k h:Int} (he:Rv.resvE g l k h=0) (w x:Int):0≤(Rv.clrS g l k h w x).1∧(Rv.clrS g l k h w x).1≤12:=by
 have hk:=key_rng he w x
 unfold Rv.clrS
 repeat' split
 all_goals first
  | exact hk
  | (simp [Rv.zr]; done)
theorem pre_rng {g:Int} {l:List (Int×Int)} {k h:Int} (he:Rv.resvE g l k h=0) (w x y z:Int):0≤(Rv.preS g l k h w x y z).1∧(Rv.preS g l k h w x y z).1≤12:=by
 have hk:=key_rng he w x
 unfold Rv.preS
 repeat' split
 all_goals first
  | exact hk
  | (simp [Rv.zr]; done)
theorem okS_len:okS.length≤60000:=by decide
theorem ok_do (w:Nat) (o:OpT):OkF (doO w o):=fun T hR=>⟨⟨(tdo_rng hR w o).1,Int.le_trans (tdo_rng hR w o).2 (by decide)⟩,okS_len⟩
theorem show_le (s:Tx) (h:s.length≤10000):(showS s).length≤60000:=by
 unfold showS
 split
 · decide
 · have:=show_len s
   omega
theorem ok_rd (w:Nat) (n:Tx) (a:Nat):OkF (rdO w n a):=fun T hR=>⟨⟨(trd_rng hR w n a).1,Int.le_trans (trd_rng hR w n a).2 (by decide)⟩,show_le _ (Nat.le_trans (rd_len hR w n a) (by decide))⟩
theorem ok_reg (w x y:Nat):OkF (regO w x y):=fun T hR=>⟨⟨(reg_rng hR.rv w x y).1,Int.le_trans (reg_rng hR.rv w x y).2 (by decide)⟩,okS_len⟩
theorem ok_rsv (w x y:Nat):OkF (rsvO w x y):=fun T hR=>⟨⟨(rsv_rng hR.rv w x y).1,Int.le_trans (rsv_rng hR.rv w x y).2 (by decide)⟩,okS_len⟩
theorem ok_rel (w x y:Nat):OkF (relO w x y):=fun T hR=>⟨⟨(rel_rng hR.rv w x y).1,Int.le_trans (rel_rng hR.rv w x y).2 (by decide)⟩,okS_len⟩
theorem ok_clr (w x:Nat):OkF (clrO w x):=fun T hR=>⟨⟨(clr_rng hR.rv w x).1,Int.le_trans (clr_rng hR.rv w x).2 (by decide)⟩,okS_len⟩
theorem ok_pre (w x y z:Nat):OkF (preO w x y z):=fun T hR=>⟨⟨(pre_rng hR.rv w x y z).1,Int.le_trans (pre_rng hR.rv w x y z).2 (by decide)⟩,okS_len⟩
theorem ok_cra (n:Nat):OkF (craO n):=fun T hR=>by
 have h:=(crP_right T n).2
 refine ⟨⟨Int.le_refl _,(by decide:(0:Int)≤1000)⟩,Nat.le_trans (num_len [(crP T n).2.1.toNat] (fun m hm=>?_)) (by simp)⟩
 simp only [List.mem_singleton] at hm
 omega
theorem ok_all:OkF allO:=fun T hR=>by
 obtain ⟨hB,hV,_⟩:=stE_ok hR.st
 have hVo:=volsE_ok hV
 have hBl:=Bp.bag_len hB
 obtain ⟨r1,r2,r3,r4,r5,r6⟩:=Rv.resvE_ok hR.rv
 have r7:T.2.1.2.2.2≤7:=by
  rcases (okK_of hR.rv).2.2 with ⟨_,h⟩ | ⟨_,h,_⟩ | ⟨_,_,_,h⟩
  · omega
  · omega
  · exact (ky_range r2 h).2
 refine ⟨⟨Int.le_refl _,(by decide:(0:Int)≤1000)⟩,?_⟩
 show (numbersS _++T.1.2.flatMap vol1).length≤60000
 have h1:=num_len [T.1.1.length,T.2.1.1.toNat,T.2.1.2.2.1.toNat,T.2.1.2.2.2.toNat] (fun n hn=>by
  simp only [List.mem_cons,List.not_mem_nil,or_false] at hn
  omega)
 have h2:=vols_len hVo.2 T.1.2.length
 rw [List.take_length] at h2
 rw [List.length_append]
 simp only [List.length_cons,List.length_nil] at h1
 omega
def OkP (o:Option (Nat×(TG→OutS))):Prop:=∀ n F,o=some (n,F)→OkF F
theorem OkP.none:OkP none:=fun _ _ h=>by cases h
theorem OkP.some {n:Nat} {F:TG→OutS} (h:OkF F):OkP (some (n,F)):=fun _ _ e=>by cases e; exact h
theorem OkP.bind {α:Type} {o:Option α} {f:α→Option (Nat×(TG→OutS))} (h : ∀ a,OkP (f a)):OkP (o.bind f):=by
 cases o with
 | none=>exact OkP.none
 | some a=>exact h a
theorem okT (ws:List Tx):OkP (askT ws):=by
 unfold askT deedS rightS
 repeat' split
 all_goals repeat' (refine OkP.bind fun _=>?_)
 all_goals first
  | exact OkP.none
  | exact OkP.some (ok_do _ _)
  | exact OkP.some (ok_rd _ _ _)
  | exact OkP.some (ok_reg _ _ _)
  | exact OkP.some (ok_rsv _ _ _)
  | exact OkP.some (ok_rel _ _ _)
  | exact OkP.some (ok_clr _ _)
  | exact OkP.some (ok_pre _ _ _ _)
  | exact OkP.some (ok_cra _)
  | exact OkP.some ok_all
end Go.X.Dk

namespace Go.X.Tg
open Go Go.X Go.RowKit Go.X.Bg Go.X.Nm Go.X.Bp Go.X.Sb Go.X.Vo

def zTG:TG:=(zSt,(0,[],0,0),[],0)
def z0:Value:=.slice none 0 0
theorem zTG_right:TgR zTG:=⟨rfl,rfl,Nat.le_refl _,Nat.zero_le _⟩
theorem zTG_mem (M:Mem):TgM M zTG z0 z0 z0 []:=⟨RowM.nil _ _,(zero_volsM M).2,rfl,RowM.nil _ _⟩
theorem new (M:Mem):Meets Proofs.Tryz.prog 12 [] M (NewB (tgC zTG z0 z0 z0)):=by
 refine Meets.of_body [0] Proofs.Tryz.func12 rfl (by kernel_rfl) rfl fun w=>?_
 simp only [Proofs.Tryz.f12,zz,zq,seval,zl,za,ze,zo,nzs]
 exact ⟨_,rfl,rfl⟩
abbrev H1 (tc:List SV):HS:=[(176,.box tc none)]
section
variable {N:Nat} {w0:World} {M0 M:Mem} {σ:Sig} {K:KP} {d:Nat} {T:TG} {b v rg:Value} {ws:List WV}
end
end Go.X.Tg

namespace Go.X.Dk
open Go Go.X Go.RowKit Go.X.Vo Go.X.Tg Go.X.Th
def outS (A:List Tx→Option (Nat×(TG→OutS))):TG→List (List Tx)→Tx
 | _,[]=>[]
 | T,ws :: r=>(ansW A T ws).2++10 :: outS A (ansW A T ws).1 r
def runS (A:List Tx→Option (Nat×(TG→OutS))) (s:Tx):Tx:=if 65536 < s.length∨200 < (linesS s).length then [101,114,114,111,114,32,50,10] else outS A zTG (saidS s)
theorem joinK {I P1 P2 B1 B2 C1 D1 D2 G1 G2:Prop} {E:Env} {f d:Nat} {K:KP} {σ1 σ2:Sig} {M:Mem} (R:Value→Prop) (x v:Value)
  (hI:I) (h1:P1→B1∧B2∧C1∧D1∧(G1→R x)) (h2:P2→D2∧(G2→R v)) (e1:Ent E σ1 [] M ([(3,true,.v x)],[],M)) (e2:Ent E σ2 [] M ([(3,true,.v v)],[],M)) (hK : ∀ v',R v'→CallK E f [] d K [(3,true,.v v')] [] M) :
  I∧(P1→B1∧B2∧C1∧D1∧(G1→CallK E f [] d K σ1 [] M))∧(P2→D2∧(G2→CallK E f [] d K σ2 [] M)):=by
 have w : ∀ {σ v'},Ent E σ [] M ([(3,true,.v v')],[],M)→R v'→CallK E f [] d K σ [] M:=fun he hr ν a w hs hh=>by
  obtain ⟨ν',hs',hh'⟩:=he a w ⟨ν,hs,hh⟩
  exact hK _ hr ν' a w hs' hh'
 refine ⟨hI,fun p=>?_,fun p=>?_⟩
 · obtain ⟨a,b,c,d,e⟩:=h1 p
   exact ⟨a,b,c,d,fun g=>w e1 (e g)⟩
 · obtain ⟨d,e⟩:=h2 p
   exact ⟨d,fun g=>w e2 (e g)⟩
theorem dropE_last : ∀ {L:List Tx} {lw:Tx},L[L.length - 1]? = some lw→(lw=[]→dropE L=(L.drop 0).take (L.length - 1 - 0))∧(lw≠[]→dropE L=L)
 | [],lw,h=>by simp at h
 | [x],lw,h=>by
   simp at h
   subst h
   exact ⟨fun e=>by simp [dropE,e],fun e=>by simp [dropE,e]⟩
 | x :: y :: r,lw,h=>by
   have h2:(y :: r)[(y :: r).length - 1]? = some lw:=by
    simp only [List.length_cons,Nat.add_sub_cancel] at h ⊢
    rw [List.getElem?_cons_succ] at h
    exact h
   obtain ⟨i1,i2⟩:=dropE_last h2
   rw [dropE_cons _ (by simp)]
   refine ⟨fun e=>?_,fun e=>by rw [i2 e]⟩
   rw [i1 e]
   simp
theorem splitC_len {c:UInt8} : ∀ (s w:Tx),w ∈ splitC c s→w.length≤s.length
 | [],w,h=>by
   simp only [splitC,List.mem_singleton] at h
   subst h
   exact Nat.le_refl _
 | b :: l,w,h=>by
   have ih:=splitC_len (c:=c) l
   unfold splitC at h
   split at h
   · rcases List.mem_cons.1 h with rfl | h
     · exact Nat.zero_le _
     · exact Nat.le_succ_of_le (ih w h)
   · split at h
     · rename_i e
       exact absurd e (splitC_ne c l)
     · rename_i x t e
       rw [e] at ih
       rcases List.mem_cons.1 h with rfl | h
       · simp only [List.length_cons]
         have:=ih x List.mem_cons_self
         omega
       · exact Nat.le_succ_of_le (ih w (List.mem_cons_of_mem _ h))
theorem splitC_cnt {c:UInt8} : ∀ (s:Tx),(splitC c s).length≤s.length+1
 | []=>Nat.le_refl _
 | b :: l=>by
   have ih:=splitC_cnt (c:=c) l
   unfold splitC
   split
   · simp only [List.length_cons]; omega
   · split
     · simp only [List.length_cons,List.length_nil]; omega
     · rename_i x t e
       rw [e] at ih
       simp only [List.length_cons] at ih ⊢
       omega
theorem dropE_mem : ∀ {L:List Tx} {l:Tx},l ∈ dropE L→l ∈ L
 | [],l,h=>by simp [dropE] at h
 | [x],l,h=>by
   unfold dropE at h
   split at h
   · cases h
   · exact h
 | x :: y :: r,l,h=>by
   rw [dropE_cons _ (by simp)] at h
   rcases List.mem_cons.1 h with rfl | h
   · exact List.mem_cons_self
   · exact List.mem_cons_of_mem _ (dropE_mem h)
theorem line_len {s l:Tx} (h:l ∈ linesS s):l.length≤s.length:=splitC_len _ _ (dropE_mem h)
theorem word_len {l w:Tx} (h:w ∈ wordsS l):w.length≤l.length:=splitC_len _ _ (List.mem_filter.1 h).1
theorem row_some {M:Mem} {v:Value} {sz:Nat} {es:List (List Value)} (h:RowM M v sz es) (hne:es≠[]) : ∃ ad n c,v = .slice (some ad) n c:=by
 have h1:=h.2.1 hne
 cases v with
 | slice a n c=>cases a with
   | none=>simp [someV] at h1
   | some ad=>exact ⟨_,_,_,rfl⟩
 | _=>simp [someV] at h1
theorem dec_len (n:Nat):(Lib.decDigits n).length≤n+1:=by
 induction n using Nat.strongRecOn with
 | ind n ih=>
   rw [Lib.decDigits]
   split
   · simp
   · have:=ih (n / 10) (by omega)
     rw [List.length_append,List.length_singleton]
     omega
theorem ansW_len {A:List Tx→Option (Nat×(TG→OutS))} {T:TG} {ws:List Tx} (hF:OkP (A ws)) (hR:TgR T):(ansW A T ws).2.length≤60000:=by
 have hf : ∀ n:Nat,n≤1000→(faultS n).length≤60000:=fun n hn=>by
  unfold faultS
  rw [List.length_append]
  have:=dec_len n
  simp only [List.length_cons,List.length_nil]
  omega
 unfold ansW
 cases h:A ws with
 | none=>exact hf 12 (by omega)
 | some p=>
   obtain ⟨n,F⟩:=p
   have h1:=hF n F h T hR
   simp only
   split
   · simp only
     split
     · exact h1.2
     · exact hf _ (by omega)
   · exact hf 12 (by omega)
theorem run_m {A:List Tx→Option (Nat×(TG→OutS))} {s:Tx} {M:Mem} (hG:GlobM M) (hs:s.length < 4294967281)
  (hA : ∀ ws ∈ saidS s,∀ bt bd vw M',GlobM M'→RowM M' vw 1 (ws.map wordV)→BoxM M' bd [ptrV bt]→(∀ w ∈ ws,w.length≤70000)→AskR 30 A bt bd vw ws M') (hF : ∀ ws ∈ saidS s,OkP (A ws)) :
  Meets Proofs.Tryz.prog 5 [.v (.string ⟨s.toArray⟩)] M fun r _ _=>r = .v (.string ⟨(runS A s).toArray⟩):=by
 refine Meets.of_body [0,2,3,4,5,6,8,9,11,21,33,37,38,39,40,44,45,46,47,51,65] Proofs.Tryz.func5 rfl (by kernel_rfl) rfl fun w=>?_
 simp only [Proofs.Tryz.f5,zz,zq,seval,zl,za,ze,zo,nzs]
 refine CallK.res rfl rfl (split_m hG hs) (fun r M' ⟨v,h,_⟩=>by subst h; rfl) fun r M1 hM1 ⟨v,hr,hv⟩=>?_
 subst hr
 have hvl:=hv.len_le
 rw [List.length_map] at hvl
 have hne:=splitC_ne 10 s
 have hpos:0 < (splitC 10 s).length:=List.length_pos_iff.2 hne
 obtain ⟨lw,hlw⟩ : ∃ lw,(splitC 10 s)[(splitC 10 s).length - 1]? = some lw:=⟨_,List.getElem?_eq_getElem (by omega)⟩
 obtain ⟨j1,j2⟩:=dropE_last hlw
 have hcl:=hv.cell (i:=(splitC 10 s).length - 1) (e:=wordV lw) (by rw [List.getElem?_map,hlw]; rfl) (off:=0) (by omega)
 have hc0:elE M1 v 1 ((splitC 10 s).length - 1) 0 = .string ⟨lw.toArray⟩:=hcl.1
 have hix:=hv.ix (i:=(((splitC 10 s).length - 1:Nat):Int)) (by omega) (by rw [List.length_map]; omega)
 have hn1:(((splitC 10 s).length:Int) - 1)=(((splitC 10 s).length - 1:Nat):Int):=by omega
 have hcp:=hv.1.2.2.1
 rw [hv.len,List.length_map] at hcp
 have hsub:=hv.sub (lo:=0) (hi:=(splitC 10 s).length - 1) (Nat.zero_le _) (by rw [List.length_map]; omega)
 simp only [zz,zq,seval,zl,za,ze,zo,nzs,hv.len,hv.sl,List.length_map,hn1,hc0,hcl.2.1,hix,true_and]
 generalize hx:subV v 1 0 ((splitC 10 s).length - 1)=x at *
 have hrun : ∀ k:Nat,(65536 < (s.length:Int)∨200 < (k:Int))→k=(linesS s).length→(SV.v (.string ⟨#[101,114,114,111,114,32,50,10]⟩)) = .v (.string ⟨(runS A s).toArray⟩):=fun k h hk=>by
  unfold runS
  rw [if_pos (by omega)]
 have hlx:lw=[]→lenV x=(linesS s).length:=fun h=>by
  have:=hsub.len
  rw [this,List.length_take,List.length_drop,List.length_map]
  unfold linesS
  rw [j1 h,List.length_take,List.length_drop]
 refine joinK (fun v'=>RowM M1 v' 1 ((linesS s).map wordV)∧s.length≤65536∧(linesS s).length≤200) x v ?_ (fun h=>⟨?_,?_,?_,?_,fun hg=>?_⟩) (fun h=>⟨?_,fun hg=>?_⟩) (Ent.of ?_) (Ent.of ?_) (fun v' ⟨hv',hsl,hll⟩=>?_)
 · (first | exact in64 (by omega) (by simp only [maxLen] at hvl; omega) | exact in64 (by omega) (by omega))
 · (first | exact in64 (by omega) (by simp only [maxLen] at hvl; omega) | exact in64 (by omega) (by omega))
 · exact ⟨by omega,by omega⟩
 · exact fun h=>⟨h,hsub.1.1⟩
 · exact fun h'=>hrun _ h' (hlx h)
 · refine ⟨?_,by omega,by have:=hlx h; omega⟩
   have e:linesS s=((splitC 10 s).drop 0).take ((splitC 10 s).length - 1 - 0):=j1 h
   rw [e,List.map_take,List.map_drop]
   exact hsub
 · exact fun h'=>hrun _ h' (by rw [show linesS s=splitC 10 s from j2 h])
 · have e:linesS s=splitC 10 s:=j2 h
   rw [e]
   exact ⟨hv,by omega,by omega⟩
 · exact ⟨⟨⟨rfl,trivial⟩,trivial⟩,rfl⟩
 · exact ⟨⟨⟨rfl,trivial⟩,trivial⟩,rfl⟩
 clear hx hsub hlx hrun j1 j2 hcl hc0 hix hv
 have hrs:runS A s=outS A zTG (saidS s):=by
  unfold runS
  rw [if_neg (by omega)]
 rw [hrs]
 refine CallK.newBox rfl rfl (new M1) rfl rfl fun M2 hM2=>?_
 simp only [zz,zq,seval,zl,za,ze,zo,nzs]
 refine ⟨rfl,OpK.tie 272 rfl fun bt=>OpK.boxP 288 272 rfl rfl (OpK.pubB (k:=288) rfl rfl fun bd M3 hM3 hbd=>OpK.bldNewC (e:=5) rfl rfl rfl ⟨_,_,rfl,rfl,rfl⟩ fun b M4 hM4 hb0 hB=>?_)⟩
 simp only [zz,zq,seval,zl,za,ze,zo,nzs,shA1,shA2,hdelk,hset]
 have hnl:lenV v'=(linesS s).length:=by rw [hv'.len,List.length_map]
 rw [hnl]
 have hBb:BoxM M4 bd [ptrV bt]:=hbd.le hM4
 have hbne:bd≠b:=fun e=>by
  have h0:=hbd 0 (ptrV bt) rfl
  unfold cellM at h0
  rw [e] at h0
  simp only [hb0] at h0
  cases h0
 have hv4:RowM M4 v' 1 ((linesS s).map wordV):=hv'.le (hM2.trans (hM3.trans hM4))
 clear hv' hbd
 refine ⟨hv4.1.1,?_⟩
 refine LoopK.go (X:=Nat×TG×Tx×(Value×Value×Value×List WV)×Mem)
  (fun x=>([(5,true,.v (ptrV bd)),(6,true,.v (ptrV b)),(37,true,.v v'),(38,true,.v (.int .i64 ((linesS s).length:Int))),(39,true,.v (.int .i64 (x.1:Int)))],[(272,.box (tgC x.2.1 x.2.2.2.1.1 x.2.2.2.1.2.1 x.2.2.2.1.2.2.1) (some (ptrV bt)))],x.2.2.2.2))
  (fun x=>((x.1≤(linesS s).length∧x.2.2.1.length≤x.1 * 70000)∧TgM x.2.2.2.2 x.2.1 x.2.2.2.1.1 x.2.2.2.1.2.1 x.2.2.2.1.2.2.1 x.2.2.2.1.2.2.2∧TgR x.2.1)∧(BldC ⟨Proofs.Tryz.prog,73,w,M⟩ 52 5 b x.2.2.1 x.2.2.2.2∧RowM x.2.2.2.2 v' 1 ((linesS s).map wordV)∧BoxM x.2.2.2.2 bd [ptrV bt])
    ∧ outS A zTG (saidS s)=x.2.2.1++outS A x.2.1 ((((linesS s).drop x.1).map wordsS).filter goodL))
  (fun x=>(linesS s).length - x.1) (0,zTG,[],(z0,z0,z0,[]),M4) ⟨⟨⟨Nat.zero_le _,Nat.zero_le _⟩,zTG_mem M4,zTG_right⟩,⟨hB,hv4,hBb⟩,rfl⟩ (Ent.of ?_) ?_
 · simp only [zq,seval,zl,za,ze,zo,za]
 rintro ⟨k,T,o,⟨x1,x2,x3,wv⟩,M5⟩ ⟨⟨⟨k1,k2⟩,hTM,hTR⟩,⟨hB5,hv5,hbd5⟩,ho⟩
 simp only at k1 k2 hTM hTR hB5 hv5 hbd5 ho
 by_cases hk:k < (linesS s).length
 rotate_left
 · have d1:((k:Int) < ((linesS s).length:Int))=False:=eq_false (by omega)
   simp only [zz,zq,seval,zl,za,ze,zo,nzs,d1]
   refine CallK.bldStringC Proofs.Tryz.lays169 Proofs.Tryz.extra169 rfl rfl rfl rfl ⟨_,Proofs.Tryz.func16,by kernel_rfl,by kernel_rfl⟩ hB5 ?_
   rw [List.drop_eq_nil_of_le (by omega)] at ho
   simp only [zz,zq,seval,zl,za,ze,zo,nzs,ho,List.map_nil,List.filter_nil,outS,List.append_nil]
 have d1:((k:Int) < ((linesS s).length:Int))=True:=eq_true (by omega)
 obtain ⟨l,hl⟩ : ∃ l,(linesS s)[k]? = some l:=⟨_,List.getElem?_eq_getElem hk⟩
 have hlm:l ∈ linesS s:=List.mem_of_getElem? hl
 have hll2:=line_len hlm
 have hdr:(linesS s).drop k=l :: (linesS s).drop (k+1):=by
  rw [List.drop_eq_getElem_cons hk]
  congr 1
  rw [List.getElem?_eq_getElem hk] at hl
  exact Option.some.inj hl
 rw [hdr,List.map_cons,List.filter_cons] at ho
 have hcl:=hv5.cell (i:=k) (e:=wordV l) (by rw [List.getElem?_map,hl]; rfl) (off:=0) (by omega)
 have hc0:elE M5 v' 1 k 0 = .string ⟨l.toArray⟩:=hcl.1
 have hix:=hv5.ix (i:=(k:Int)) (by omega) (by rw [List.length_map]; omega)
 simp only [zz,zq,seval,zl,za,ze,zo,nzs,d1,hc0,hcl.2.1,hix,true_and]
 refine CallK.res rfl rfl (split_m (hG.le hB5.le) (by omega)) (fun r M' ⟨v,h,_⟩=>by subst h; rfl) fun r M6 hM6 ⟨v2,hr2,hv2⟩=>?_
 subst hr2
 have hn2:lenV v2=(splitC 32 l).length:=by rw [hv2.len,List.length_map]
 have hl2:=splitC_cnt (c:=32) l
 simp only [zz,zq,seval,zl,za,ze,zo,nzs,hn2]
 refine ⟨hv2.1.1,?_⟩
 refine LoopK.nilRow 9 75 1 rfl rfl rfl ?_
 refine LoopK.go (X:=Nat×List Tx)
  (fun x=>([(5,true,.v (ptrV bd)),(6,true,.v (ptrV b)),(9,true,.own 600),(37,true,.v v'),(38,true,.v (.int .i64 ((linesS s).length:Int))),(39,true,.v (.int .i64 (k:Int))),(44,true,.v v2),(45,true,.v (.int .i64 ((splitC 32 l).length:Int))),(46,true,.v (.int .i64 (x.1:Int)))],
    [(600,.row 1 (x.2.map wordV)),(272,.box (tgC T x1 x2 x3) (some (ptrV bt)))],M6))
  (fun x=>x.1≤(splitC 32 l).length∧x.2.length≤x.1∧x.2=((splitC 32 l).take x.1).filter isW) (fun x=>(splitC 32 l).length - x.1) (0,[]) ⟨Nat.zero_le _,Nat.zero_le _,rfl⟩ (Ent.of ?_) ?_
 · simp only [zq,seval,zl,za,ze,zo,za,List.map_nil]
 rintro ⟨i,ac⟩ ⟨i1,i2,i3⟩
 simp only at i1 i2 i3
 by_cases hi:i < (splitC 32 l).length
 · have d2:((i:Int) < ((splitC 32 l).length:Int))=True:=eq_true (by omega)
   obtain ⟨x,hx⟩ : ∃ x,(splitC 32 l)[i]? = some x:=⟨_,List.getElem?_eq_getElem hi⟩
   have hcl:=hv2.cell (i:=i) (e:=wordV x) (by rw [List.getElem?_map,hx]; rfl) (off:=0) (by omega)
   have hc0:elE M6 v2 1 i 0 = .string ⟨x.toArray⟩:=hcl.1
   have hix:=hv2.ix (i:=(i:Int)) (by omega) (by rw [List.length_map]; omega)
   have htk:(splitC 32 l).take (i+1)=(splitC 32 l).take i++[x]:=by rw [List.take_add_one,hx]; rfl
   have hnx:((splitC 32 l).take (i+1)).filter isW=ac++(if isW x=true then [x] else []):=by
    rw [htk,List.filter_append,← i3,List.filter_cons,List.filter_nil]
   by_cases h0:x=[]
   · have e0:(x=[])=True:=eq_true h0
     have w0:isW x=false:=by rw [h0]; rfl
     rw [w0] at hnx
     simp only [zz,zq,seval,zl,za,ze,zo,nzs,d2,hc0,hcl.2.1,hix,true_and,e0,decide_true,not_true,decide_false,true_implies,Bool.false_eq_true,false_implies]
     refine ⟨in64 (by omega) (by omega),(i+1,ac),⟨⟨by simp only; omega,by simp only; omega,?_⟩,by simp only; omega⟩,Ent.of ?_⟩
     · simp only [hnx,Bool.false_eq_true,if_false,List.append_nil]
     · simp only [zq,seval,zl,za,ze,zo,Int.natCast_add,ze]
   · have e0:(x=[])=False:=eq_false h0
     have w0:isW x=true:=by cases x with | nil=>exact absurd rfl h0 | cons a r=>rfl
     rw [w0] at hnx
     simp only [zz,zq,seval,zl,za,ze,zo,nzs,d2,hc0,hcl.2.1,hix,true_and,e0,not_false_eq_true,decide_true,decide_false,true_implies,Bool.false_eq_true,false_implies]
     have e:ac.map wordV++[[.string ⟨x.toArray⟩]]=(ac++[x]).map wordV:=by rw [List.map_append]; rfl
     have hal:(ac.map wordV).length=ac.length:=List.length_map ..
     rw [e,hal]
     refine ⟨rfl,⟨by omega,by omega⟩,rfl,in64 (by omega) (by omega),(i+1,ac++[x]),⟨⟨by simp only; omega,by simp only [List.length_append,List.length_singleton]; omega,?_⟩,by simp only; omega⟩,?_⟩
     · simp only [hnx,if_true]
     · refine Ent.rekey 9 75 440 1 _ rfl rfl rfl rfl (Ent.of ?_)
       simp only [zq,seval,zl,za,ze,zo,Int.natCast_add,ze]
 have d2:((i:Int) < ((splitC 32 l).length:Int))=False:=eq_false (by omega)
 have hac:ac=wordsS l:=by
  rw [i3,List.take_of_length_le (by omega)]
  rfl
 subst hac
 have hwl : ∀ w ∈ wordsS l,w.length≤70000:=fun w hw=>by have:=word_len hw; omega
 have hin:goodL (wordsS l)=true→wordsS l ∈ saidS s:=fun h=>List.mem_filter.2 ⟨List.mem_map.2 ⟨l,hlm,rfl⟩,h⟩
 generalize wordsS l=W at *
 have hv6:RowM M6 v' 1 ((linesS s).map wordV):=hv5.le hM6
 have hbd6:BoxM M6 bd [ptrV bt]:=hbd5.le hM6
 have hT6:=hTM.le hM6
 have hB6:=hB5.mono hM6
 by_cases hg:goodL W=true
 rotate_left
 · rw [if_neg hg] at ho
   cases W with
   | nil=>
     simp only [zz,zq,seval,zl,za,ze,zo,nzs,d2,List.map_nil,List.length_nil,za,decide_true]
     refine ⟨in64 (by omega) (by omega),(k+1,T,o,(x1,x2,x3,wv),M6),⟨⟨⟨⟨by simp only; omega,Nat.le_trans k2 (Nat.mul_le_mul_right _ (Nat.le_succ k))⟩,hT6,hTR⟩,⟨hB6,hv6,hbd6⟩,ho⟩,by simp only; omega⟩,Ent.of ?_⟩
     simp only [zq,seval,zl,za,ze,zo,Int.natCast_add,ze]
   | cons x r=>
     have hx:x=[35]:=by
      have:=of_decide_eq_false (Bool.eq_false_iff.2 hg)
      exact Classical.byContradiction this
     subst hx
     have hn:((((r.map wordV).length+1:Nat):Int)=0)=False:=eq_false (by omega)
     have hn1:((0:Int) < (((r.map wordV).length+1:Nat):Int))=True:=eq_true (by omega)
     have hn2:(0 < (r.map wordV).length+1)=True:=eq_true (by omega)
     simp only [zz,zq,seval,zl,za,ze,zo,nzs,d2,hn,hn1,hn2,wordV,decide_true,decide_false,not_false_eq_true,true_implies,and_true]
     refine ⟨in64 (by omega) (by omega),(k+1,T,o,(x1,x2,x3,wv),M6),⟨⟨⟨⟨by simp only; omega,Nat.le_trans k2 (Nat.mul_le_mul_right _ (Nat.le_succ k))⟩,hT6,hTR⟩,⟨hB6,hv6,hbd6⟩,ho⟩,by simp only; omega⟩,Ent.of ?_⟩
     simp only [zq,seval,zl,za,ze,zo,Int.natCast_add,ze]
 rw [if_pos hg] at ho
 cases W with
 | nil=>cases hg
 | cons x r=>
   have hx:x≠[35]:=of_decide_eq_true hg
   have hn:((((r.map wordV).length+1:Nat):Int)=0)=False:=eq_false (by omega)
   have hn1:((0:Int) < (((r.map wordV).length+1:Nat):Int))=True:=eq_true (by omega)
   have hn2:(0 < (r.map wordV).length+1)=True:=eq_true (by omega)
   have ex:(x=[35])=False:=eq_false hx
   simp only [zz,zq,seval,zl,za,ze,zo,nzs,d2,hn,hn1,hn2,ex,wordV,decide_true,decide_false,not_false_eq_true,true_implies,and_true]
   refine CallK.pub (k:=600) rfl fun vw M7 hM7 hvw=>?_
   have hvw':RowM M7 vw 1 ((x :: r).map wordV):=hvw
   obtain ⟨ad,nn,cc,rfl⟩:=row_some hvw' (by simp)
   have hG7:=(hG.le hB6.le).le hM7
   have hA7:=hA (x :: r) (hin hg) bt bd _ M7 hG7 hvw' (hbd6.le hM7) hwl
   have hF7:=hF (x :: r) (hin hg)
   refine CallK.ofX1 (X:=fun _ _ _=>False) 272 (bt:=bt) (R:=fun s tc' M'=>s = .v (.string ⟨(ansW A T (x :: r)).2.toArray⟩) ∧ ∃ b v rg ws,tc'=tgC (ansW A T (x :: r)).1 b v rg∧TgM M' (ansW A T (x :: r)).1 b v rg ws∧TgR (ansW A T (x :: r)).1) rfl rfl rfl rfl
    ((answer_x hG7 hvw' (by simp) hA7 hF7 (hT6.le hM7) hTR).mono ?_ ?_) fun s tc' M8 hM8 ⟨hs8,y1,y2,y3,wv',htc,hT8,hR8⟩=>?_
   · rintro s H' M' ⟨rfl,b',v',rg',ws',rfl,h1,h2⟩
     exact ⟨rfl,_,rfl,rfl,rfl,_,_,_,_,rfl,h1,h2⟩
   · exact fun _ _ _ h=>h
   subst hs8 htc
   have hlen:=ansW_len (T:=T) hF7 hTR
   generalize hq:ansW A T (x :: r)=q at *
   obtain ⟨T',u⟩:=q
   simp only at hlen hT8 hR8
   have hK7:=hM7.trans hM8
   have hou:(o++(u++[10])).length≤(k+1) * 70000:=by
    simp only [List.length_append,List.length_singleton]
    have:(k+1) * 70000=k * 70000+70000:=Nat.succ_mul k 70000
    omega
   have hks:k * 70000≤14000000:=by
    have:k≤200:=by omega
    exact Nat.mul_le_mul_right 70000 this
   have hoo:outS A zTG (saidS s)=(o++(u++[10]))++outS A T' ((((linesS s).drop (k+1)).map wordsS).filter goodL):=by
    rw [ho]
    show o++((ansW A T (x :: r)).2++10 :: outS A (ansW A T (x :: r)).1 _)=_
    rw [hq]
    simp only [List.append_assoc,List.cons_append,List.nil_append]
   have hul:bl ⟨u.toArray⟩=u:=rfl
   simp only [zz,zq,seval,zl,za,ze,zo,sp1,sp2,sp3,nzs]
   refine CallK.bldStrC Proofs.Tryz.lays166 Proofs.Tryz.extra166 rfl rfl rfl rfl ⟨_,Proofs.Tryz.func13,by kernel_rfl,by kernel_rfl⟩ (hB6.mono hK7) (by show o.length+u.length≤_; omega) fun M9 hB9 hK9=>?_
   rw [hul] at hB9
   have b8:=(hB6.mono hK7).bldB
   simp only [zz,zq,seval,zl,za,ze,zo,nzs]
   refine CallK.bldByteC (c:=10) Proofs.Tryz.lays167 Proofs.Tryz.extra167 rfl rfl rfl rfl ⟨_,Proofs.Tryz.func15,by kernel_rfl,by kernel_rfl⟩ hB9 (by rw [List.length_append]; omega) fun M10 hB10 hK10=>?_
   rw [List.append_assoc] at hB10
   have b9:=hB9.bldB
   simp only [zz,zq,seval,zl,za,ze,zo,nzs]
   refine ⟨in64 (by omega) (by omega),(k+1,T',o++(u++[10]),(y1,y2,y3,wv'),M10),⟨⟨⟨⟨by simp only; omega,hou⟩,TgM.keep hK10 b9 (TgM.keep hK9 b8 hT8),hR8⟩,
    ⟨hB10,hK10.rowMap b9 (hK9.rowMap b8 (hv6.le hK7) 0 fun x=>⟨_,rfl,rfl⟩) 0 fun x=>⟨_,rfl,rfl⟩,hK10.box hbne (hK9.box hbne (hbd6.le hK7) rfl) rfl⟩,hoo⟩,by simp only; omega⟩,Ent.of ?_⟩
   simp only [zq,seval,zl,za,ze,zo,Int.natCast_add,ze]
end Go.X.Dk

namespace Go.X.Dk
open Go Go.X Go.RowKit Go.X.Vo Go.X.Tg
theorem ans_of {A:List Tx→Option (Nat×(TG→OutS))} {T T':TG} {ws:List Tx} {n:Nat} {F:TG→OutS} {x:Tx} (h:A ws=some (n,F)) (hn:n=ws.length) (hF:F T=(T',0,x)):ansW A T ws=(T',x):=by
 unfold ansW
 rw [h]
 simp only [hn,if_true,hF]
theorem ans_err {A:List Tx→Option (Nat×(TG→OutS))} {T T':TG} {ws:List Tx} {n e:Nat} {F:TG→OutS} {x:Tx} (h:A ws=some (n,F)) (hn:n=ws.length) (he:e≠0) (hF:F T=(T',(e:Int),x)):ansW A T ws=(T',faultS e):=by
 unfold ansW
 rw [h]
 have : ¬ (e:Int)=0:=by omega
 simp only [hn,if_true,hF,this,if_false,zo]
abbrev R0:RQ:=(0,[],0,0)
theorem do_ok {A B:St} {R:RQ} {tx:Tx} {m w:Nat} {o:OpT} (h:hE R w true=0) (ho:Lg.opE o=0) (hd:doA A.1 A.2 o=(B,0)) (hm:m≠200):doO w o (A,R,tx,m)=((B,R,tx++frO o,m+1),0,okS):=by
 have hl:doL A.1 A.2 o=(B,0):=by
  unfold doL
  rw [if_neg (fun e=>e ho),hd]
 have ht:tdoS (A,R,tx,m) w o=((B,R,tx++frO o,m+1),0):=by
  unfold tdoS
  simp only [h,hl,ne_eq,not_true_eq_false,if_false,hm]
 unfold doO
 rw [ht]
theorem rd_ok {A:St} {R:RQ} {tx x:Tx} {m w:Nat} {n:Tx} {a:Nat} (h:hE R w false=0) (hp:plE A.1 A.2 n a=0∧rdS A.1 A.2 n a=x):rdO w n a (A,R,tx,m)=((A,R,tx,m),0,showS x):=by
 have ht:trdS (A,R,tx,m) w n a=(x,0):=by
  unfold trdS
  simp only [h,ne_eq,not_true_eq_false,if_false,hp.1,hp.2]
 unfold rdO
 rw [ht]
theorem rd_bad {A:St} {R:RQ} {tx:Tx} {m w e:Nat} {n:Tx} {a:Nat} (h:hE R w false=(e:Int)) (he:e≠0):rdO w n a (A,R,tx,m)=((A,R,tx,m),(e:Int),showS []):=by
 have h0 : ¬ (e:Int)=0:=by omega
 have ht:trdS (A,R,tx,m) w n a=([],(e:Int)):=by
  unfold trdS
  simp only [h,ne_eq,h0,not_false_eq_true,if_true]
 unfold rdO
 rw [ht]
theorem rd_none {A:St} {R:RQ} {tx:Tx} {m w:Nat} {n:Tx} {a:Nat} (h:hE R w false=0) (hs:stE A.1 A.2=0) (hv:volIx A.2 n < 0):rdO w n a (A,R,tx,m)=((A,R,tx,m),((4:Nat):Int),showS []):=by
 have hp:plE A.1 A.2 n a=4:=by
  unfold plE
  rw [hs,if_neg (by decide),if_pos hv]
 have hr:rdS A.1 A.2 n a=[]:=if_neg (by rw [hp]; decide)
 have ht:trdS (A,R,tx,m) w n a=([],4):=by
  unfold trdS
  simp only [h,ne_eq,not_true_eq_false,if_false,hp,hr]
 unfold rdO
 rw [ht]
 rfl
theorem n49:numS [49]=some 1:=num1 rfl
theorem n50:numS [50]=some 2:=num1 rfl
theorem n48:numS [48]=some 0:=num1 rfl
theorem n51:numS [51]=some 3:=num1 rfl
theorem n55:numS [55]=some 7:=num1 rfl
theorem ask0:askT [[109,97,107,101],[49],[118],[50]]=some (4,doO 1 oM):=by
 show ((numS [49]).bind fun w=>(some [118]).bind fun n=>(numS [50]).bind fun a=>some (4,doO w (1,n,[],a,[])))=_
 rw [n49,n50]
 rfl
theorem askW (x s:Tx) (hx:textS x=some s):askT [[119,114,105,116,101],[49],[118],[48],x]=some (5,doO 1 (oW s)):=by
 show ((numS [49]).bind fun w=>(some [118]).bind fun n=>(numS [48]).bind fun a=>(textS x).bind fun t=>some (5,doO w (3,n,[],a,t)))=_
 rw [n49,n48,hx]
 rfl
theorem askX (x s:Tx) (hx:textS x=some s):askT [[119,114,105,116,101],[49],[119],[48],x]=some (5,doO 1 (oX s)):=by
 show ((numS [49]).bind fun w=>(some [119]).bind fun n=>(numS [48]).bind fun a=>(textS x).bind fun t=>some (5,doO w (3,n,[],a,t)))=_
 rw [n49,n48,hx]
 rfl
theorem askC:askT [[99,108,111,110,101],[49],[118],[119]]=some (4,doO 1 oC):=by
 show ((numS [49]).bind fun w=>(some [118]).bind fun n=>(some [119]).bind fun t=>some (4,doO w (5,n,t,0,[])))=_
 rw [n49]
 rfl
theorem askRd (x n y:Tx) (w a:Nat) (hx:numS x=some w) (hy:numS y=some a):askT [[114,101,97,100],x,n,y]=some (4,rdO w n a):=by
 show ((numS x).bind fun w=>(some n).bind fun n=>(numS y).bind fun a=>some (4,rdO w n a))=_
 rw [hx,hy]
 rfl
theorem askG:askT [[114,101,103,105,115,116,101,114],[50],[48],[55]]=some (4,regO 2 0 7):=by
 show ((numS [50]).bind fun w=>(numS [48]).bind fun x=>(numS [55]).bind fun y=>some (4,regO w x y))=_
 rw [n50,n48,n55]
 rfl
theorem askV:askT [[114,101,115,101,114,118,101],[50],[55],[51]]=some (4,rsvO 2 7 3):=by
 show ((numS [50]).bind fun w=>(numS [55]).bind fun x=>(numS [51]).bind fun y=>some (4,rsvO w x y))=_
 rw [n50,n55,n51]
 rfl
theorem askN (x:Tx) (n:Nat) (hx:numS x=some n):askT [[99,114,97,115,104],x]=some (2,craO n):=by
 show ((numS x).bind fun w=>some (2,craO w))=_
 rw [hx]
 rfl
theorem askA:askT [[97,108,108]]=some (1,allO):=rfl
end Go.X.Dk

namespace Go.X.Dk
open Go Go.X Go.RowKit Go.X.Vo Go.X.Tg
theorem out_cons {A:List Tx→Option (Nat×(TG→OutS))} {T T':TG} {ws:List Tx} {r:List (List Tx)} {x:Tx} (h:ansW A T ws=(T',x)):outS A T (ws :: r)=x++10 :: outS A T' r:=by
 show (ansW A T ws).2++10 :: outS A (ansW A T ws).1 r=_
 rw [h]
abbrev R1:RQ:=(1,[(2,7)],0,0)
abbrev R2:RQ:=(1,[(2,7)],3,2)
theorem lenM:(frO oM).length=13:=by rw [fr_len]; rfl
theorem lenC:(frO oC).length=14:=by rw [fr_len]; rfl
theorem lenW (s:Tx):(frO (oW s)).length=13+s.length:=by
 rw [fr_len]
 simp [Lg.bodyS,Lg.txt,oW]
 omega
theorem lenX (s:Tx):(frO (oX s)).length=13+s.length:=by
 rw [fr_len]
 simp [Lg.bodyS,Lg.txt,oX]
 omega
theorem reg_ok (A:St) (tx:Tx) (m:Nat):regO 2 0 7 (A,R0,tx,m)=((A,R1,tx,m),0,okS):=rfl
theorem rsv_ok (A:St) (tx:Tx) (m:Nat):rsvO 2 7 3 (A,R1,tx,m)=((A,R2,tx,m),0,okS):=rfl
theorem dd {n:Nat} (h:n < 10):Lib.decDigits n=[UInt8.ofNat (48+n)]:=Lib.decDigits_one h
/-- the sixteen answers -/
def ansL (s t:Tx) (n:Nat):List Tx:=[okS,okS,okS,okS,showS s,showS t,[95],okS,okS,[101,114,114,111,114,32,57],showS t,[111,107,32,52],showS t,[111,107,32]++(if s=t then [49] else [50])++[32,48,32,48,32,48,32,118,58,50,32,119,58,50],[111,107,32]++[UInt8.ofNat (48+n)],[101,114,114,111,114,32,52]]
theorem sess_out {s t:Tx} (h:s.length≤64) (h':t.length≤64) : ∃ n,(n=1∨n=2)∧outS askT zTG (sess (showS s) (showS t))=(ansL s t n).flatMap (· ++ [10]):=by
 have hw1:hE R0 1 true=0:=rfl
 have hr1:hE R0 1 false=0:=rfl
 have hr9:hE R2 1 false=((9:Nat):Int):=rfl
 have hr2:hE R2 2 false=0:=rfl
 have s1:ansW askT zTG [[109,97,107,101],[49],[118],[50]]=((A1,R0,[]++frO oM,1),okS):=ans_of ask0 rfl (do_ok (w:=1) hw1 oM_ok d1 (by decide))
 have s2:ansW askT (A1,R0,[]++frO oM,1) [[119,114,105,116,101],[49],[118],[48],showS s]=((A2 s,R0,[]++frO oM++frO (oW s),2),okS):=ans_of (askW _ s (text_show s)) rfl (do_ok (w:=1) hw1 (oW_ok h) (d2 h) (by decide))
 have s3:ansW askT (A2 s,R0,[]++frO oM++frO (oW s),2) [[99,108,111,110,101],[49],[118],[119]]=((A3 s,R0,[]++frO oM++frO (oW s)++frO oC,3),okS):=ans_of askC rfl (do_ok (w:=1) hw1 oC_ok (d3 h) (by decide))
 have s4:ansW askT (A3 s,R0,[]++frO oM++frO (oW s)++frO oC,3) [[119,114,105,116,101],[49],[119],[48],showS t]=((A4 s t,R0,[]++frO oM++frO (oW s)++frO oC++frO (oX t),4),okS):=ans_of (askX _ t (text_show t)) rfl (do_ok (w:=1) hw1 (oX_ok h') (d4 h h') (by decide))
 have hf:[]++frO oM++frO (oW s)++frO oC++frO (oX t)=fl [oM,oW s,oC,oX t]:=by
  unfold fl
  simp only [List.flatMap_cons,List.flatMap_nil,List.nil_append,List.append_assoc,List.append_nil]
 rw [hf] at s4
 have hfl:(fl [oM,oW s,oC,oX t]).length=53+s.length+t.length:=by
  rw [← hf]
  simp only [List.length_append,lenM,lenC,lenW,lenX,List.length_nil]
  omega
 generalize hF:fl [oM,oW s,oC,oX t]=F at *
 have s5:ansW askT (A4 s t,R0,F,4) [[114,101,97,100],[49],[118],[48]]=((A4 s t,R0,F,4),showS s):=ans_of (askRd [49] [118] [48] 1 0 n49 n48) rfl (rd_ok (w:=1) hr1 (read_v h h'))
 have s6:ansW askT (A4 s t,R0,F,4) [[114,101,97,100],[49],[119],[48]]=((A4 s t,R0,F,4),showS t):=ans_of (askRd [49] [119] [48] 1 0 n49 n48) rfl (rd_ok (w:=1) hr1 (read_w h h'))
 have s7:ansW askT (A4 s t,R0,F,4) [[114,101,97,100],[49],[119],[49]]=((A4 s t,R0,F,4),[95]):=ans_of (askRd [49] [119] [49] 1 1 n49 n49) rfl (rd_ok (w:=1) hr1 (read_w1 h h'))
 have s8:ansW askT (A4 s t,R0,F,4) [[114,101,103,105,115,116,101,114],[50],[48],[55]]=((A4 s t,R1,F,4),okS):=ans_of askG rfl (reg_ok _ _ _)
 have s9:ansW askT (A4 s t,R1,F,4) [[114,101,115,101,114,118,101],[50],[55],[51]]=((A4 s t,R2,F,4),okS):=ans_of askV rfl (rsv_ok _ _ _)
 have s10:ansW askT (A4 s t,R2,F,4) [[114,101,97,100],[49],[118],[48]]=((A4 s t,R2,F,4),faultS 9):=ans_err (askRd [49] [118] [48] 1 0 n49 n48) rfl (by decide) (rd_bad (w:=1) hr9 (by decide))
 have s11:ansW askT (A4 s t,R2,F,4) [[114,101,97,100],[50],[119],[48]]=((A4 s t,R2,F,4),showS t):=ans_of (askRd [50] [119] [48] 2 0 n50 n48) rfl (rd_ok (w:=2) hr2 (read_w h h'))
 have c4:=crash4 (T:=(A4 s t,R2,F,4)) (n:=999999) (o1:=oM) (o2:=oW s) (o3:=oC) (o4:=oX t) (show F=_ from hF.symm) (by rw [hF,hfl]; omega) oM_ok (oW_ok h) oC_ok (oX_ok h') d1 (d2 h) (d3 h) (d4 h h')
 rw [hF] at c4
 have s12:ansW askT (A4 s t,R2,F,4) [[99,114,97,115,104],[57,57,57,57,57,57]]=((A4 s t,R0,F,4),numbersS [4]):=ans_of (askN _ _ num6) rfl (by
  unfold craO
  show ((crS _ 999999),(0:Int),numbersS [(crP _ 999999).2.1.toNat])=_
  rw [c4.1,c4.2]
  rfl)
 have s13:=s6
 have s14:ansW askT (A4 s t,R0,F,4) [[97,108,108]]=((A4 s t,R0,F,4),allS (A4 s t,R0,F,4)):=ans_of askA rfl rfl
 obtain ⟨n,T',hn,s15,hv,hR⟩ : ∃ (n:Nat) (T':TG),(n=1∨n=2)∧ansW askT (A4 s t,R0,F,4) [[99,114,97,115,104],[51,48]]=(T',numbersS [n])∧(stE T'.1.1 T'.1.2=0∧volIx T'.1.2 [119] < 0)∧T'.2.1=R0:=by
  have hnn : ∀ n:Nat,(crP (A4 s t,R0,F,4) 30).2.1=n→ansW askT (A4 s t,R0,F,4) [[99,114,97,115,104],[51,48]]=(crS (A4 s t,R0,F,4) 30,numbersS [n]):=fun n hn=>ans_of (askN _ _ num30) rfl (by
   unfold craO
   show ((crS _ 30),(0:Int),numbersS [(crP _ 30).2.1.toNat])=_
   rw [hn]
   rfl)
  by_cases hs:4 < s.length
  · obtain ⟨e1,e2,e3⟩:=crash1 (T:=(A4 s t,R0,F,4)) (n:=30) (o1:=oM) (o2:=oW s) (r:=fl [oC,oX t]) (show F=_ from by rw [← hF,fl_cons,fl_cons]) oM_ok (oW_ok h) d1 (by rw [lenM]; omega) (by rw [lenM,lenW]; omega)
    refine ⟨1,_,.inl rfl,hnn 1 e3,?_,e2⟩
    rw [show (crS (A4 s t,R0,F,4) 30).1=A1 from e1]
    exact ⟨by kernel_rfl,by decide⟩
  · obtain ⟨e1,e2,e3⟩:=crash2 (T:=(A4 s t,R0,F,4)) (n:=30) (o1:=oM) (o2:=oW s) (o3:=oC) (r:=fl [oX t]) (show F=_ from by rw [← hF,fl_cons,fl_cons,fl_cons]) oM_ok (oW_ok h) oC_ok d1 (d2 h) (by rw [lenM,lenW]; omega) (by rw [lenM,lenW,lenC]; omega)
    refine ⟨2,_,.inr rfl,hnn 2 e3,?_,e2⟩
    rw [show (crS (A4 s t,R0,F,4) 30).1=A2 s from e1]
    exact ⟨right2 h,(by decide:(-1:Int) < 0)⟩
 obtain ⟨A',R',tx',m'⟩:=T'
 simp only at hv hR
 subst hR
 have s16:ansW askT (A',R0,tx',m') [[114,101,97,100],[49],[119],[48]]=((A',R0,tx',m'),faultS 4):=ans_err (askRd [49] [119] [48] 1 0 n49 n48) rfl (by decide) (rd_none (w:=1) hr1 hv.1 hv.2)
 refine ⟨n,hn,?_⟩
 unfold sess
 rw [out_cons s1,out_cons s2,out_cons s3,out_cons s4,out_cons s5,out_cons s6,out_cons s7,out_cons s8,out_cons s9,out_cons s10,out_cons s11,out_cons s12,out_cons s13,out_cons s14,out_cons s15,out_cons s16]
 have f9:faultS 9=[101,114,114,111,114,32,57]:=by unfold faultS; rw [dd (by decide)]; rfl
 have f4:faultS 4=[101,114,114,111,114,32,52]:=by unfold faultS; rw [dd (by decide)]; rfl
 have k4:numbersS [4]=[111,107,32,52]:=by unfold numbersS; simp only [List.flatMap_cons,List.flatMap_nil]; rw [dd (by decide)]; rfl
 have kn:numbersS [n]=[111,107,32]++[UInt8.ofNat (48+n)]:=by unfold numbersS; simp only [List.flatMap_cons,List.flatMap_nil]; rw [dd (by omega)]; rfl
 have ka:allS (A4 s t,R0,F,4)=[111,107,32]++(if s=t then [49] else [50])++[32,48,32,48,32,48,32,118,58,50,32,119,58,50]:=by
  show numbersS [(A4 s t).1.length,0,0,0]++(vol1 ([118],[id1 s,hole])++(vol1 ([119],[id2 s t,hole])++[]))=_
  rw [many4]
  unfold numbersS vol1
  simp only [List.flatMap_cons,List.flatMap_nil,List.length_cons,List.length_nil,dd (show (0:Nat) < 10 by decide),dd (show 0+1+1 < 10 by decide)]
  split
  · rw [dd (by decide)]; rfl
  · rw [dd (by decide)]; rfl
 rw [f9,f4,k4,kn,ka]
 unfold ansL
 simp only [List.flatMap_cons,List.flatMap_nil,outS,List.append_assoc,List.cons_append,List.nil_append]
end Go.X.Dk

namespace Go.X.Dk
open Go Go.X Go.RowKit Go.X.Vo Go.X.Tg Go.X.Th
theorem read_t {bt bd:Nat} {vw:Value} {ws:List Tx} {M:Mem} (hp:plainW (w0S ws)) (hG:GlobM M) (hM:RowM M vw 1 (ws.map wordV)) (hd:BoxM M bd [ptrV bt]) (hw : ∀ w ∈ ws,w.length≤70000) (hne:1≤ws.length) :
  AskR 30 askT bt bd vw ws M:=by
 by_cases hi:isDeed (w0S ws)=true
 · have h:=of_decide_eq_true hi
   refine read_deed hp hi ?_
   rcases h with h | h | h | h | h | h
   · exact deed_make hG hM hd hw h hne
   · exact deed_drop hG hM hd hw h hne
   · exact deed_write hG hM hd hw h hne
   · exact deed_trim hG hM hd hw h hne
   · exact deed_clone hG hM hd hw h hne
   · exact deed_read hG hM hd hw h hne
 · have hi:isDeed (w0S ws)=false:=Bool.eq_false_iff.2 hi
   refine read_right hp hi (deed_nil hi) ?_
   by_cases h1:w0S ws=[114,101,103,105,115,116,101,114]
   · exact right_register hG hM hd hw h1 hne
   by_cases h2:w0S ws=[114,101,115,101,114,118,101]
   · exact right_reserve hG hM hd hw h2 hne
   by_cases h3:w0S ws=[114,101,108,101,97,115,101]
   · exact right_release hG hM hd hw h3 hne
   by_cases h4:w0S ws=[99,108,101,97,114]
   · exact right_clear hG hM hd hw h4 hne
   by_cases h5:w0S ws=[112,114,101,101,109,112,116]
   · exact right_preempt hG hM hd hw h5 hne
   by_cases h6:w0S ws=[99,114,97,115,104]
   · exact right_crash hG hM hd hw h6 hne
   by_cases h7:w0S ws=[97,108,108]
   · exact right_all hG hM hd hw h7 hne
   exact right_bad (by rintro (h | h | h | h | h | h | h) <;> contradiction)
end Go.X.Dk

namespace Go.X.Dk
open Go Go.X Go.RowKit
theorem show1_nil (b:UInt8):show1 b≠[]:=by unfold show1; split <;> simp
theorem one_less (c d:UInt8):Op.bytesLess [c] [d]=decide (c.toNat < d.toNat):=by
 by_cases h:c.toNat < d.toNat
 · have h1:c < d:=UInt8.lt_iff_toNat_lt.2 h
   simp [Op.bytesLess,h1,h]
 · have h1 : ¬ c < d:=fun e=>h (UInt8.lt_iff_toNat_lt.1 e)
   simp [Op.bytesLess,h1,h]
theorem one_eq (c d:UInt8):([c]=[d])↔c.toNat=d.toNat:=by
 simp only [List.cons.injEq,and_true]
 exact UInt8.toNat_inj.symm
theorem shc (c:UInt8):((((Op.bytesLess [c] [32]=true∨[c]=[32])∨Op.bytesLess [c] [126]=false ∧ ¬[c]=[126])∨[c]=[37])∨[c]=[95]) ↔ ¬ (plainB c=true∧c.toNat≠37):=by
 have e1:(32:UInt8).toNat=32:=rfl
 have e2:(126:UInt8).toNat=126:=rfl
 have e3:(37:UInt8).toNat=37:=rfl
 have e4:(95:UInt8).toNat=95:=rfl
 simp only [one_less,one_eq,e1,e2,e3,e4,plainB,decide_eq_true_eq,decide_eq_false_iff_not]
 omega
theorem rshow_m {s:Tx} {M:Mem} (hs:s.length≤1000000):Meets Proofs.Tryz.prog 10 [.v (.string ⟨s.toArray⟩)] M fun r _ _=>r = .v (.string ⟨(showS s).toArray⟩):=by
 refine Meets.of_body [0,2,3,4,5,6,8,9,10,30,54] Proofs.Tryz.func10 rfl (by kernel_rfl) rfl fun w=>?_
 simp only [Proofs.Tryz.f10,zz,zq,seval,zl,za,ze,zo,nzs]
 refine LoopK.go (X:=Nat) (fun k=>([(0,true,.v (.string ⟨s.toArray⟩)),(3,true,.v (.string ⟨((s.take k).flatMap show1).toArray⟩)),(8,true,.v (.int .i64 (s.length:Int))),(9,true,.v (.int .i64 (k:Int)))],[],M)) (fun k=>k≤s.length) (fun k=>s.length - k) 0 (Nat.zero_le _) (Ent.of ?_) ?_
 · simp only [zq,seval,zl,za,ze,zo,za,List.take_zero,List.flatMap_nil]
 intro k k1
 by_cases hk:k < s.length
 · have d1:((k:Int) < (s.length:Int))=True:=eq_true (by omega)
   obtain ⟨c,hc⟩ : ∃ c,s[k]? = some c:=⟨_,List.getElem?_eq_getElem hk⟩
   have hd:s.drop k=c :: s.drop (k+1):=by
    rw [List.drop_eq_getElem_cons hk]
    congr 1
    rw [List.getElem?_eq_getElem hk] at hc
    exact Option.some.inj hc
   have hsl:(s.drop k).take (((k:Int)+1).toNat - k)=[c]:=by
    have:((k:Int)+1).toNat - k=1:=by omega
    rw [this,hd]
    rfl
   have hx:strIx s (k:Int)=((c.toNat:Nat):Int):=by
    unfold strIx
    simp [hc]
   have hnx:(s.take (k+1)).flatMap show1=(s.take k).flatMap show1++show1 c:=by
    rw [List.take_add_one,hc,Option.toList_some,List.flatMap_append]
    simp
   have hlen:=show_len (s.take k)
   rw [List.length_take] at hlen
   simp only [zz,zq,seval,zl,za,ze,zo,nzs,d1,hsl,hx]
   refine ⟨in64 (by omega) (by omega),by omega,fun h=>?_,fun h=>?_⟩
   · have hnp:=(shc c).1 h
     have hs1:show1 c=[37,hexS (c.toNat / 16),hexS (c.toNat % 16)]:=if_neg hnp
     have hcl:=UInt8.toNat_lt c
     have q16:c.toNat / 16 < 16:=by omega
     have r16:c.toNat % 16 < 16:=Nat.mod_lt _ (by decide)
     have y1:=hex_at q16
     have y2:=hex_at r16
     have hwr:IntKind.i64.wrap (c.toNat:Int)=((c.toNat:Nat):Int):=wrap_in (in64 (by omega) (by omega))
     have v1:(c.toNat:Int).tdiv 16=((c.toNat / 16:Nat):Int):=rfl
     have v2:(c.toNat:Int).tmod 16=((c.toNat % 16:Nat):Int):=rfl
     refine ⟨by omega,DrawK.quiet rfl (by kernel_rfl) ?_⟩
     simp only [zz,zq,seval,zl,za,ze,zo,nzs,hwr,v1,v2]
     generalize c.toNat / 16=q at *
     generalize c.toNat % 16=r at *
     have z1:((q:Int)+1).toNat=q+1:=by omega
     have z2:((r:Int)+1).toNat=r+1:=by omega
     simp only [zz,zq,seval,zl,za,ze,zo,nzs,z1,z2,y1,y2,List.length_cons,List.length_nil,List.cons_append,List.nil_append]
     refine ⟨in64 (by omega) (by omega),in64 (by omega) (by omega),in64 (by omega) (by omega),by omega,in64 (by omega) (by omega),by omega,by omega,in64 (by omega) (by omega),k+1,⟨by omega,by omega⟩,Ent.of ?_⟩
     simp only [zq,seval,zl,za,ze,zo,hnx,hs1,Int.natCast_add]
   · have hp:plainB c=true∧c.toNat≠37:=Classical.not_not.1 (fun h1=>by
      have h2:=(shc c).2 h1
      obtain ⟨⟨⟨⟨h3,h4⟩,h5⟩,h6⟩,h7⟩:=h
      rcases h2 with ((((h8 | h8) | ⟨h8,h9⟩) | h8) | h8)
      · rw [h3] at h8; cases h8
      · exact h4 h8
      · exact h5.elim (fun e=>by rw [h8] at e; cases e) h9
      · exact h6 h8
      · exact h7 h8)
     have hs1:show1 c=[c]:=if_pos hp
     refine ⟨by omega,in64 (by omega) (by omega),k+1,⟨by omega,by omega⟩,Ent.of ?_⟩
     simp only [zq,seval,zl,za,ze,zo,hnx,hs1,Int.natCast_add]
 · have d1:((k:Int) < (s.length:Int))=False:=eq_false (by omega)
   have hke:s.take k=s:=by rw [show k=s.length by omega,List.take_length]
   simp only [zz,zq,seval,zl,za,ze,zo,nzs,d1,hke]
   refine ⟨fun h=>?_,fun h=>?_⟩
   · have h0:s=[]:=by
      cases s with
      | nil=>rfl
      | cons b s=>rw [List.flatMap_cons] at h; exact absurd (List.append_eq_nil_iff.1 h).1 (show1_nil b)
     rw [h0]
     rfl
   · have h0:s≠[]:=fun e=>h (by rw [e]; rfl)
     rw [show showS s=s.flatMap show1 from if_neg h0]
end Go.X.Dk

