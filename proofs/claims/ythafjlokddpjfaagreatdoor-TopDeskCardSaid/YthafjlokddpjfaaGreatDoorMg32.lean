/- Contracts of functions and the logic that they are proved in (2 texts in one). Conditions: none. -/
import Derived.Test.YthafjlokddpjfaaGreatDoorMg31
import Derived.Test.YthafjlokddpjfaaGreatDoorMg12
import Derived.Lib.LaidTab
import Derived.LaidSub
import Derived.MakeChecks
import Derived.Stop.LaidErr
import Derived.Shelf.Vars
import Derived.SizedLaws
import Derived.HandedShaped
import Derived.Test.YthafjlokddpjfaaGreatDoorMg10
open Go.Proofs.Tryz renaming prog → qz
open Int renaming cast_ofNat_Int→zl,natCast_zero→za,natCast_one→ze,toNat_natCast→zo
namespace Go.X.Vo
end Go.X.Vo
namespace Go.X.Tg
end Go.X.Tg
namespace Go.X.Th
end Go.X.Th
set_option linter.unusedSimpArgs false
set_option linter.unusedVariables false
set_option maxHeartbeats 4000000
set_option maxRecDepth 20000
namespace Go.X.Dk
open Go Go.X Go.RowKit Go.X.Vo Go.X.Tg Go.X.Th
theorem begun_m {M:Mem}:Meets qz 9 [] M fun r _ _=>r = .v (.bool true):=by
 refine Meets.of_body [0,1,2] Proofs.Tryz.func9 rfl (by kernel_rfl) rfl fun w=>?_
 simp only [Proofs.Tryz.f9,zz,zq,seval,zl,za,ze,zo,nzs]
 have h:=Go.X.Pl.Mul 3 3 M (by decide) (by decide)
 have e:Go.X.Pl.mulV 3 3 = .tup [.v (.int .i64 5),.v (.int .i64 0)]:=by
  have h5:Go.X.Pol.mulp 3 3=5:=by simp [Go.X.Pol.mulp]
  unfold Go.X.Pl.mulV
  rw [h5]
  rfl
 rw [e] at h
 refine CallK.pure ⟨rfl,rfl⟩ rfl h ?_
 simp only [zz,zq,seval,zl,za,ze,zo,nzs]
theorem split_flat : ∀ {L:List Tx},(∀ x ∈ L,10 ∉ x)→splitC 10 (L.flatMap (· ++ [10]))=L++[[]]
 | [],_=>rfl
 | x :: L,h=>by
   have e:(x :: L).flatMap (· ++ [10])=x++10 :: L.flatMap (· ++ [10]):=by simp
   rw [e,splitC_at (h x List.mem_cons_self),split_flat fun y hy=>h y (List.mem_cons_of_mem _ hy)]
   rfl
theorem sess_plain (a b:Tx) : ∀ ws ∈ sess a b,plainW (w0S ws)∧1≤ws.length:=by
 intro ws h
 simp only [sess,List.mem_cons,List.not_mem_nil,or_false] at h
 rcases h with rfl | rfl | rfl | rfl | rfl | rfl | rfl | rfl | rfl | rfl | rfl | rfl | rfl | rfl | rfl | rfl
 all_goals refine ⟨?_,by simp⟩
 all_goals (unfold plainW w0S; simp only [List.headD]; decide)
theorem showS_len (s:Tx):(showS s).length≤3 * s.length+1:=by
 unfold showS
 split
 · simp
 · have:=show_len s
   omega
theorem ans_no {s t:Tx} {n:Nat} (hn:n=1∨n=2) : ∀ x ∈ ansL s t n,10 ∉ x:=by
 intro x h
 have h1:=(show_no s).2
 have h2:=(show_no t).2
 simp only [ansL,List.mem_cons,List.not_mem_nil,or_false] at h
 rcases h with rfl | rfl | rfl | rfl | rfl | rfl | rfl | rfl | rfl | rfl | rfl | rfl | rfl | rfl | rfl | rfl
 all_goals first
  | assumption
  | decide
  | (split <;> decide)
  | (rcases hn with rfl | rfl <;> decide)
theorem deskIn {s t:Tx} (h:s.length≤64) (h':t.length≤64) {M:Mem} (hG:GlobM M) : ∃ n,(n=1∨n=2)∧Meets qz 5 [.v (.string ⟨(inS (showS s) (showS t)).toArray⟩)] M fun r _ _=>r = .v (.string ⟨((ansL s t n).flatMap (· ++ [10])).toArray⟩):=by
 obtain ⟨n,hn,ho⟩:=sess_out h h'
 refine ⟨n,hn,?_⟩
 have l1:=showS_len s
 have l2:=showS_len t
 have hl:(inS (showS s) (showS t)).length≤1000:=by
  unfold inS
  simp only [List.length_append]
  have a1:c1S.length≤100:=by decide
  have a2:c2S.length≤100:=by decide
  have a3:c3S.length≤300:=by decide
  omega
 have hm:=run_m (A:=askT) (s:=inS (showS s) (showS t)) (M:=M) hG (by omega) (fun ws hws bt bd vw M' hG' hM' hd hw=>by
  rw [said_in] at hws
  obtain ⟨p1,p2⟩:=sess_plain _ _ ws hws
  exact read_t p1 hG' hM' hd hw p2) (fun ws _=>okT ws)
 have hr:runS askT (inS (showS s) (showS t))=(ansL s t n).flatMap (· ++ [10]):=by
  unfold runS
  rw [said_in,ho,lines_in _ _ (show_no s).2 (show_no t).2,if_neg]
  simp only [List.length_cons,List.length_nil]
  omega
 rw [hr] at hm
 exact hm
theorem flat_len {s t:Tx} {n:Nat} (h:s.length≤64) (h':t.length≤64):((ansL s t n).flatMap (· ++ [10])).length < 4294967281:=by
 have l1:=showS_len s
 have l2:=showS_len t
 have l3:(if s=t then [49] else [50]:Tx).length=1:=by split <;> rfl
 simp only [ansL,List.flatMap_cons,List.flatMap_nil,List.length_append,List.length_cons,List.length_nil,okS,l3]
 omega
/-- what is wanted; its fifteenth word is not looked at -/
def wantL (s t:Tx):List Tx:=[okS,okS,okS,okS,showS s,showS t,[95],okS,okS,[101,114,114,111,114,32,57],showS t,[111,107,32,52],showS t,[111,107,32]++(if s=t then [49] else [50])++[32,48,32,48,32,48,32,118,58,50,32,119,58,50],okS,[101,114,114,111,114,32,52],[]]
theorem want_got {s t:Tx} {n i:Nat} (hi:i≠14):(wantL s t)[i]? = (ansL s t n++[[]])[i]?:=by
 have e:wantL s t=(ansL s t n++[[]]).set 14 okS:=rfl
 rw [e,List.getElem?_set_ne (fun h=>hi h.symm)]
theorem topDeskL (s t:Tx) (M:Mem) (h0:s.length≤reachBytes) (h1:t.length≤reachBytes) (hG:GlobM M):Meets qz 4 [.v (.string ⟨s.toArray⟩),.v (.string ⟨t.toArray⟩)] M fun r _ _=>r = .v (.bool true):=by
 unfold reachBytes at h0 h1
 refine Meets.of_body [0,1,4,5,6,7,8,9,10,11,19,33,53,55,56,57,60,72,81] Proofs.Tryz.func4 rfl (by kernel_rfl) rfl fun w=>?_
 by_cases hb:64 < s.length∨64 < t.length
 · by_cases h64:64 < s.length
   · have e1:((64:Int) < (s.length:Int))=True:=eq_true (by omega)
     simp only [Proofs.Tryz.f4,zz,zq,seval,zl,za,ze,zo,nzs,e1,decide_true,not_true,Bool.true_eq_false,false_implies,true_implies,and_true]
     refine CallK.pure ⟨rfl,rfl⟩ rfl begun_m ?_
     simp only [zz,zq,seval,zl,za,ze,zo,nzs]
   · have e1:((64:Int) < (s.length:Int))=False:=eq_false (by omega)
     have e2:((64:Int) < (t.length:Int))=True:=eq_true (by omega)
     simp only [Proofs.Tryz.f4,zz,zq,seval,zl,za,ze,zo,nzs,e1,e2,decide_true,decide_false,Bool.false_eq_true,Bool.true_eq_false,not_false_eq_true,false_implies,true_implies,and_true,true_and]
     refine CallK.pure ⟨rfl,rfl⟩ rfl begun_m ?_
     simp only [zz,zq,seval,zl,za,ze,zo,nzs]
 have hs:s.length≤64:=by omega
 have ht:t.length≤64:=by omega
 have e1:((64:Int) < (s.length:Int))=False:=eq_false (by omega)
 have e2:((64:Int) < (t.length:Int))=False:=eq_false (by omega)
 simp only [Proofs.Tryz.f4,zz,zq,seval,zl,za,ze,zo,nzs,e1,e2,decide_false,Bool.false_eq_true,false_implies,true_implies,true_and,not_false_eq_true]
 have l1:=showS_len s
 have l2:=showS_len t
 refine CallK.pure ⟨rfl,rfl⟩ rfl (rshow_m (by omega)) ?_
 simp only [zz,zq,seval,zl,za,ze,zo,nzs]
 refine CallK.pure ⟨rfl,rfl⟩ rfl (rshow_m (by omega)) ?_
 by_cases hst:s=t
 · have e3:(s=t)=True:=eq_true hst
   simp only [zz,zq,seval,zl,za,ze,zo,nzs,e3,decide_true,true_implies,not_true,false_implies,and_true]
   refine ⟨by omega,by omega,by simp only [List.length_append,List.length_cons,List.length_nil]; omega,by simp; omega,CallK.pub (k:=328) rfl fun vw M1 hM1 hvw=>?_⟩
   obtain ⟨n,hn,hrun⟩:=deskIn hs ht (hG.le hM1)
   refine CallK.pure ⟨rfl,rfl⟩ rfl hrun ?_
   simp only [zz,zq,seval,zl,za,ze,zo,sp1,sp2,sp3,nzs]
   have hvw':RowM M1 vw 1 ((wantL s t).map wordV):=by
    unfold wantL
    rw [if_pos hst]
    exact hvw
   refine CallK.res rfl rfl (split_m (hG.le hM1) (flat_len hs ht)) (fun r M' ⟨v,h,_⟩=>by subst h; rfl) fun r M2 hM2 ⟨v2,hr2,hv2⟩=>?_
   subst hr2
   rw [split_flat (ans_no hn)] at hv2
   have hw2:=hvw'.le hM2
   have hl1:lenV vw=17:=by rw [hw2.len,List.length_map]; rfl
   have hl2:lenV v2=17:=by rw [hv2.len,List.length_map]; rfl
   simp only [zz,zq,seval,zl,za,ze,zo,nzs]
   refine CallK.pure ⟨rfl,rfl⟩ rfl begun_m ?_
   simp only [zz,zq,seval,zl,za,ze,zo,nzs,hl1,hl2]
   refine ⟨hv2.1.1,hw2.1.1,hw2.1.1,LoopK.go (X:=Nat) (fun k=>([(4,true,.v (.bool false)),(9,true,.v vw),(10,true,.v v2),(55,true,.v (.int .i64 17)),(56,true,.v (.int .i64 (k:Int)))],[],M2)) (fun k=>k≤17) (fun k=>17 - k) 0 (by decide) (Ent.of ?_) ?_⟩
   · simp only [zq,seval,zl,za,ze,zo,za]
   intro k hk
   have hk:k≤17:=hk
   by_cases hlt:k < 17
   rotate_left
   · have d1:((k:Int) < 17)=False:=eq_false (by omega)
     simp only [zz,zq,seval,zl,za,ze,zo,nzs,d1]
   have d1:((k:Int) < 17)=True:=eq_true (by omega)
   obtain ⟨x,hx⟩ : ∃ x,(wantL s t)[k]? = some x:=⟨_,List.getElem?_eq_getElem (by show k < 17; omega)⟩
   obtain ⟨y,hy⟩ : ∃ y,(ansL s t n++[[]])[k]? = some y:=⟨_,List.getElem?_eq_getElem (by show k < 17; omega)⟩
   have cw:=hw2.cell (i:=k) (e:=wordV x) (by rw [List.getElem?_map,hx]; rfl) (off:=0) (by omega)
   have cv:=hv2.cell (i:=k) (e:=wordV y) (by rw [List.getElem?_map,hy]; rfl) (off:=0) (by omega)
   have xw:=hw2.ix (i:=(k:Int)) (by omega) (by rw [List.length_map]; show (k:Int) < 17; omega)
   have xv:=hv2.ix (i:=(k:Int)) (by omega) (by rw [List.length_map]; show (k:Int) < 17; omega)
   have cw0:elE M2 vw 1 k 0 = .string ⟨x.toArray⟩:=cw.1
   have cv0:elE M2 v2 1 k 0 = .string ⟨y.toArray⟩:=cv.1
   by_cases h14:k=14
   · subst h14
     have e4:(((14:Nat):Int)=14)=True:=eq_true rfl
     rcases hn with rfl | rfl
     · obtain rfl:y=[111,107,32,49]:=(Option.some.inj hy).symm
       simp only [zz,zq,seval,zl,za,ze,zo,nzs,d1,e4,cv0,cv.2.1,xv,decide_true,true_implies,true_and,and_true]
       exact ⟨xv,in64 (by decide) (by decide),15,⟨by decide,by decide⟩,Ent.of ⟨⟨by simp only [zq,seval,zl,za,ze,zo],trivial⟩,rfl⟩⟩
     · obtain rfl:y=[111,107,32,50]:=(Option.some.inj hy).symm
       simp only [zz,zq,seval,zl,za,ze,zo,nzs,d1,e4,cv0,cv.2.1,xv,decide_true,true_implies,true_and,and_true]
       exact ⟨xv,fun h=>⟨h,xv⟩,in64 (by decide) (by decide),15,⟨by decide,by decide⟩,Ent.of ⟨⟨by simp only [zq,seval,zl,za,ze,zo],trivial⟩,rfl⟩⟩
   have e4:((k:Int)=14)=False:=eq_false (by omega)
   obtain rfl:x=y:=by
    have:=want_got (s:=s) (t:=t) (n:=n) h14
    rw [hx,hy] at this
    exact Option.some.inj this
   simp only [zz,zq,seval,zl,za,ze,zo,nzs,d1,e4,decide_false,Bool.false_eq_true,false_implies,true_implies,true_and,and_true,not_false_eq_true]
   refine DrawK.quiet rfl (by kernel_rfl) ?_
   simp only [zz,zq,seval,zl,za,ze,zo,nzs,cw0,cv0,cv.2.1,cw.2.1,xv,xw,not_true,decide_false,Bool.false_eq_true,false_implies,true_implies,true_and,and_true,not_false_eq_true]
   exact ⟨in64 (by omega) (by omega),k+1,⟨by omega,by omega⟩,Ent.of (by simp only [zq,seval,zl,za,ze,zo,Int.natCast_add,ze])⟩
 · have e3:(s=t)=False:=eq_false hst
   simp only [zz,zq,seval,zl,za,ze,zo,nzs,e3,decide_false,Bool.false_eq_true,true_implies,false_implies,true_and]
   refine ⟨by omega,by omega,by simp only [List.length_append,List.length_cons,List.length_nil]; omega,by simp; omega,CallK.pub (k:=328) rfl fun vw M1 hM1 hvw=>?_⟩
   obtain ⟨n,hn,hrun⟩:=deskIn hs ht (hG.le hM1)
   refine CallK.pure ⟨rfl,rfl⟩ rfl hrun ?_
   simp only [zz,zq,seval,zl,za,ze,zo,sp1,sp2,sp3,nzs]
   have hvw':RowM M1 vw 1 ((wantL s t).map wordV):=by
    unfold wantL
    rw [if_neg hst]
    exact hvw
   refine CallK.res rfl rfl (split_m (hG.le hM1) (flat_len hs ht)) (fun r M' ⟨v,h,_⟩=>by subst h; rfl) fun r M2 hM2 ⟨v2,hr2,hv2⟩=>?_
   subst hr2
   rw [split_flat (ans_no hn)] at hv2
   have hw2:=hvw'.le hM2
   have hl1:lenV vw=17:=by rw [hw2.len,List.length_map]; rfl
   have hl2:lenV v2=17:=by rw [hv2.len,List.length_map]; rfl
   simp only [zz,zq,seval,zl,za,ze,zo,nzs]
   refine CallK.pure ⟨rfl,rfl⟩ rfl begun_m ?_
   simp only [zz,zq,seval,zl,za,ze,zo,nzs,hl1,hl2]
   refine ⟨hv2.1.1,hw2.1.1,hw2.1.1,LoopK.go (X:=Nat) (fun k=>([(4,true,.v (.bool false)),(9,true,.v vw),(10,true,.v v2),(55,true,.v (.int .i64 17)),(56,true,.v (.int .i64 (k:Int)))],[],M2)) (fun k=>k≤17) (fun k=>17 - k) 0 (by decide) (Ent.of ?_) ?_⟩
   · simp only [zq,seval,zl,za,ze,zo,za]
   intro k hk
   have hk:k≤17:=hk
   by_cases hlt:k < 17
   rotate_left
   · have d1:((k:Int) < 17)=False:=eq_false (by omega)
     simp only [zz,zq,seval,zl,za,ze,zo,nzs,d1]
   have d1:((k:Int) < 17)=True:=eq_true (by omega)
   obtain ⟨x,hx⟩ : ∃ x,(wantL s t)[k]? = some x:=⟨_,List.getElem?_eq_getElem (by show k < 17; omega)⟩
   obtain ⟨y,hy⟩ : ∃ y,(ansL s t n++[[]])[k]? = some y:=⟨_,List.getElem?_eq_getElem (by show k < 17; omega)⟩
   have cw:=hw2.cell (i:=k) (e:=wordV x) (by rw [List.getElem?_map,hx]; rfl) (off:=0) (by omega)
   have cv:=hv2.cell (i:=k) (e:=wordV y) (by rw [List.getElem?_map,hy]; rfl) (off:=0) (by omega)
   have xw:=hw2.ix (i:=(k:Int)) (by omega) (by rw [List.length_map]; show (k:Int) < 17; omega)
   have xv:=hv2.ix (i:=(k:Int)) (by omega) (by rw [List.length_map]; show (k:Int) < 17; omega)
   have cw0:elE M2 vw 1 k 0 = .string ⟨x.toArray⟩:=cw.1
   have cv0:elE M2 v2 1 k 0 = .string ⟨y.toArray⟩:=cv.1
   by_cases h14:k=14
   · subst h14
     have e4:(((14:Nat):Int)=14)=True:=eq_true rfl
     rcases hn with rfl | rfl
     · obtain rfl:y=[111,107,32,49]:=(Option.some.inj hy).symm
       simp only [zz,zq,seval,zl,za,ze,zo,nzs,d1,e4,cv0,cv.2.1,xv,decide_true,true_implies,true_and,and_true]
       exact ⟨xv,in64 (by decide) (by decide),15,⟨by decide,by decide⟩,Ent.of ⟨⟨by simp only [zq,seval,zl,za,ze,zo],trivial⟩,rfl⟩⟩
     · obtain rfl:y=[111,107,32,50]:=(Option.some.inj hy).symm
       simp only [zz,zq,seval,zl,za,ze,zo,nzs,d1,e4,cv0,cv.2.1,xv,decide_true,true_implies,true_and,and_true]
       exact ⟨xv,fun h=>⟨h,xv⟩,in64 (by decide) (by decide),15,⟨by decide,by decide⟩,Ent.of ⟨⟨by simp only [zq,seval,zl,za,ze,zo],trivial⟩,rfl⟩⟩
   have e4:((k:Int)=14)=False:=eq_false (by omega)
   obtain rfl:x=y:=by
    have:=want_got (s:=s) (t:=t) (n:=n) h14
    rw [hx,hy] at this
    exact Option.some.inj this
   simp only [zz,zq,seval,zl,za,ze,zo,nzs,d1,e4,decide_false,Bool.false_eq_true,false_implies,true_implies,true_and,and_true,not_false_eq_true]
   refine DrawK.quiet rfl (by kernel_rfl) ?_
   simp only [zz,zq,seval,zl,za,ze,zo,nzs,cw0,cv0,cv.2.1,cw.2.1,xv,xw,not_true,decide_false,Bool.false_eq_true,false_implies,true_implies,true_and,and_true,not_false_eq_true]
   exact ⟨in64 (by omega) (by omega),k+1,⟨by omega,by omega⟩,Ent.of (by simp only [zq,seval,zl,za,ze,zo,Int.natCast_add,ze])⟩
end Go.X.Dk

namespace Go.X
open Go Go.RowKit
variable {H:Type} {enc:TypeId×Value→H}
/-- a contract under a condition X of its own, its world's shape and the reach at hand -/
theorem handed_laid {a:Assume} {C:Checked} {os:Os} {f:FuncId} {fn:Func} {s:ChangeSpec} {conds:List PathCond} {apart fresh handsOn again:Bool} {X:World→Array Value→Prop}
  (hX : ∀ (w w':World) (args:Array Value),w.heap=w'.heap→X w args→X w' args) (own:ownKnob C.prog.godebug=none) (started:os.Started) (hi:C.prog.inits.idxOf? f=none) (hfn:C.prog.funcs[f]? = some fn)
  (witness : ∃ (w:World) (tape:Tape) (i:Input),w.os=os∧(w.forCall tape i).Shaped C.prog∧i.vars=[]∧Input.okWide C.prog (w.forCall tape i) .any w.heap.size f i ∧
    ((s.pre enc C.prog fn conds apart (w.forCall tape i).memory i.args∧X (w.forCall tape i).memory i.args)∧sizedMet enc C.prog fn (OpenSpec.ofChange s) apart (w.forCall tape i).memory i.args)∧a.holds C.prog (lone (Frame.enter C.prog f i.args .normal) [] (w.forCall tape i)))
  (hc : ∀ (W:World) (base:Nat) (args:Array Value) (ds gs:List (DataW H)) (before:List MemPlace),(∀ (j:Nat) t v,fn.params[j]? = some t→args[j]? = some v→Value.okWide C.prog W .any base t v) →
    DataW.Whole enc C.prog fn.params.toList s.vars apart W args.toList ds gs before→conds.all (PathCond.test C.prog ⟨fn.params.toList,ds,s.plain.varTypes C.prog,gs⟩)=true →
    (DataW.weightsEach C.prog (fn.params.toList++s.plain.varTypes C.prog) (ds++gs)).all (· ≤ reachBytes)=true→X W args→W.ShapedOpen C.prog→a.holds C.prog (lone (Frame.enter C.prog f args .normal) [] W) →
    Calls C.prog f args W fun e W'=>∃ v,e = .returned v∧s.post enc C.prog fn apart fresh handsOn again W args v W') :
  ReturnsInHanded a C os f .any (fun w args=>(s.pre enc C.prog fn conds apart w args∧X w args)∧sizedMet enc C.prog fn (OpenSpec.ofChange s) apart w args) (s.post enc C.prog fn apart fresh handsOn again):=
 returnsInHanded_of_calls own started hi witness fun w tape i _ hsh _ hok hp hh=>by
  obtain ⟨_,_,_,fn',h1,_,_,_,_,hv⟩:=hok
  cases Option.some.inj (h1.symm.trans hfn)
  obtain ⟨⟨⟨ds,gs,before,hw,hcd⟩,hx⟩,hz⟩:=hp
  exact (hc (w.forCall tape i) w.heap.size i.args ds gs before hv (DataW.Whole.of_heap (w':=w.forCall tape i) (by rfl) hw) hcd (hz.weights hw) (hX _ _ _ (by rfl) hx) hsh hh).mono fun e W' ⟨v,he,hq⟩=>by
   subst he
   exact ChangeSpec.post_blind hq
end Go.X
namespace Go.X.Dk
open Go Go.X Go.RowKit Go.Lib
theorem on_cell {W w:World} (h:Mem.on (fun b=>W.heap[b]?) w) {a:Addr} {v:Value} (hc:W.cell? a=some v):w.cell? a=some v:=by
 unfold World.cell? at hc ⊢
 cases hb:W.heap[a.block]? with
 | none=>rw [hb] at hc; cases hc
 | some o=>
   rw [hb] at hc
   rw [h a.block o hb]
   exact hc
theorem on_var {P:Program} {W w:World} (h:Mem.on (fun b=>W.heap[b]?) w) {n:String} {cs:Array Value} (hc:W.var? P n=some cs):w.var? P n=some cs:=by
 unfold World.var? at hc ⊢
 cases hg:P.globalNamed n with
 | none=>rw [hg] at hc; cases hc
 | some g=>
   rw [hg] at hc
   simp only [Option.bind_some] at hc ⊢
   cases hb:W.heap[g]? with
   | none=>rw [hb] at hc; cases hc
   | some o=>
     rw [hb] at hc
     rw [h g o hb]
     exact hc
theorem gSyn:Proofs.Tryz.prog.globalNamed "strconv.ErrSyntax" = some 4:=by kernel_rfl
theorem gRan:Proofs.Tryz.prog.globalNamed "strconv.ErrRange" = some 5:=by kernel_rfl
theorem gPow:Proofs.Tryz.prog.globalNamed "internal/strconv.uint64pow10" = some 3:=by kernel_rfl
theorem strE : "*" ++ "errors.errorString" = "*errors.errorString" := by decide
theorem rowE (u:TypeId) (h:Proofs.Tryz.prog.typeName? 3 u=some "*errors.errorString"):u=319:=
 typeName_ptr_named (nm := "errors.errorString") (by rw [strE]; kernel_rfl) (by kernel_rfl) (by decide) u (by rw [strE]; exact h)
theorem cellsE:Proofs.Tryz.prog.cellsOf 321=1:=by kernel_rfl
theorem cellsS:Proofs.Tryz.prog.cellsOf 9=1:=by kernel_rfl
theorem glob_of {W:World} {t1 t2:List UInt8} (h1:laidMet qz [("internal/strconv.uint64pow10",tabData .u64 pow10Tab)] W) (h2:laidMet qz [("strconv.ErrSyntax",.iface "*errors.errorString" (.ptr (.agg [.lit (.string t1)])))] W)
  (h3:laidMet qz [("strconv.ErrRange",.iface "*errors.errorString" (.ptr (.agg [.lit (.string t2)])))] W) (hS:W.ShapedOpen qz):GlobM (fun b=>W.heap[b]?):=by
 obtain ⟨a1,s1,v1,-,-,-⟩:=laid_sentinel h2 gSyn (by kernel_rfl) Proofs.Tryz.underlying54 rowE Proofs.Tryz.underlying319 Proofs.Tryz.underlying321 rfl rfl Proofs.Tryz.underlying9 cellsE cellsS
 obtain ⟨a2,s2,v2,-,-,-⟩:=laid_sentinel h3 gRan (by kernel_rfl) Proofs.Tryz.underlying54 rowE Proofs.Tryz.underlying319 Proofs.Tryz.underlying321 rfl rfl Proofs.Tryz.underlying9 cellsE cellsS
 have hp:=tabIs_of_head gPow (by kernel_rfl) Proofs.Tryz.underlying234 Proofs.Tryz.underlying103 (by kernel_rfl) (by kernel_rfl) h1
 obtain ⟨m,hm⟩:=Proofs.cell_of_shapedOpen_int (P:=qz) (g:=0) (t:=3) (zero:=#[.int .i64 0]) hS (of_decide_eq_true (by kernel_rfl)) (by kernel_rfl) rfl (by kernel_rfl) (by kernel_rfl) Proofs.Tryz.underlying3
 exact ⟨fun w hw=>on_var hw hp,⟨m,fun w hw=>on_cell hw hm⟩,⟨_,.inr ⟨_,_,rfl⟩,fun w hw=>on_cell hw (show W.cell? ⟨4,0,none⟩=some _ by simpa using World.var?_cell gSyn v1 0)⟩,⟨_,.inr ⟨_,_,rfl⟩,fun w hw=>on_cell hw (show W.cell? ⟨5,0,none⟩=some _ by simpa using World.var?_cell gRan v2 0)⟩⟩
end Go.X.Dk

