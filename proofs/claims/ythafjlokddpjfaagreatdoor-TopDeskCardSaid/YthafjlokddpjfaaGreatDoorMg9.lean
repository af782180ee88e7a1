/- Contracts of functions and the logic that they are proved in (6 texts in one). Conditions: none. -/
import Derived.Test.YthafjlokddpjfaaGreatDoorMg8
import Derived.Laws.RangeString
import Derived.Lib.OthersKept
import Derived.Test.YthafjlokddpjfaaGreatDoorMg7
import Derived.Lib.Split
import Derived.Lib.IndexMore
import Derived.Lib.ItoaNum
import Derived.Lib.AtoiAll
import Derived.WalkKit
import Derived.Shelf.Lays
open Int renaming cast_ofNat_Int→zl,natCast_zero→za,natCast_one→ze,toNat_natCast→zo
set_option linter.unusedSimpArgs false
set_option linter.unusedVariables false
set_option maxHeartbeats 4000000
set_option maxRecDepth 20000
namespace Go.X
open Go Go.RowKit

def xCall (E:Env) (d:Option Nat) (K:KP) (Q:QP) (σ:Sig) (H:HS) (M:Mem):Option (Bool×SV)→Option (Bool×List SV)→Prop
 | some (true,.fn f caps),some (true,l)=>match d with
   | some d=>CallX E f (l++caps) d K (fun ch H M=>Q (.panic ch) [] H M) σ H M
   | none=>False
 | _,_=>False
def isIfc:Value→Bool | .iface _ _=>true | _=>false
def xPanic (Q:QP) (σ:Sig) (H:HS) (M:Mem):Option (Bool×SV)→Prop
 | some (true,.v v)=>isIfc v=true∧Q (.panic [{ v:=v,recovered:=false }]) σ H M
 | _=>False
def opX (o:Oper):Bool:=match o.op with
 | .call ⟨.value _,_,_⟩=>true
 | .panic _=>true
 | _=>false
def xOp (E:Env) (K:KP) (Q:QP) (σ:Sig) (H:HS) (M:Mem) (o:Oper):Prop:=match o.op with
 | .call ⟨.value f,xs,_⟩=>xCall E o.dst K Q σ H M (opv σ f) (argsO σ xs.toList)
 | .panic x=>xPanic Q σ H M (opv σ x)
 | _=>False
def RegX (E:Env) (live:List Nat) (all:List Oper) (Q:QP):List Oper→Sig→HS→Mem→Prop
 | [],σ,H,M=>Q .normal (keep live σ) H M
 | o :: rest,σ,H,M=>bif (o.guard.isNone && opX o) then xOp E (RegX E live all Q rest) Q σ H M o else wpRC E (RegX E live all Q rest) σ H M o (gdOf all σ o.guard)
def DrawX (E:Env) (live:List Nat) (id:Nat) (ops:Array Oper) (Q:QP):KP:=CodeK E (.region id ops true) Q
def wpX (E:Env) (live:List Nat):Code→QP→Sig→HS→Mem→Prop
 | .skip,Q,σ,H,M=>Q .normal σ H M
 | .ret,Q,σ,H,M=>Q .ret σ H M
 | .exit i,Q,σ,H,M=>Q (.exit i) σ H M
 | .region id ops draw,Q,σ,H,M=>bif draw then DrawX E live id ops Q σ H M else RegX E live ops.toList Q ops.toList σ H M
 | .seq a b,Q,σ,H,M=>wpX E live a (fun e σ H M=>match e with | .normal=>wpX E live b Q σ H M | e=>Q e σ H M) σ H M
 | .block i b,Q,σ,H,M=>wpX E live b (blkQ i Q) σ H M
 | .cond c t e,Q,σ,H,M=>match opv σ c with
   | some (true,.v (.bool b))=>(b=true→wpX E live t Q σ H M)∧(b=false→wpX E live e Q σ H M)
   | _=>False
 | .loop b,Q,σ,H,M=>LoopK E live b Q σ H M
 | .rangeFunc f p a b,Q,σ,H,M=>CodeK E (.rangeFunc f p a b) Q σ H M
 | .scope b,Q,σ,H,M=>CodeK E (.scope b) Q σ H M
 | .label l,Q,σ,H,M=>CodeK E (.label l) Q σ H M
 | .goto l,Q,σ,H,M=>CodeK E (.goto l) Q σ H M
 | .refuse _,_,_,_,_=>False
section
variable {E:Env} {live:List Nat} {Q:QP} {σ:Sig} {H:HS} {M:Mem}
theorem RegX.sound {all:List Oper} : ∀ (l:List Oper) (σ:Sig) (H:HS) (M:Mem),RegX E live all Q l σ H M→RegK E all.toArray Q l σ H M
 | [],σ,H,M,h=>fun a w hr=>⟨_,_,_,hr.keep,h⟩
 | o :: rest,σ,H,M,h=>by
   unfold RegX at h
   by_cases hb:(o.guard.isNone && opX o)=true
   · rw [hb,cond_true] at h
     simp only [Bool.and_eq_true,Option.isNone_iff_eq_none] at hb
     unfold xOp at h
     split at h
     · rename_i fo xs ts ho
       unfold xCall at h
       split at h
       · rename_i f caps l hf hl
         split at h
         · rename_i d hd
           exact RegK.callX ho hb.1 hd hf hl (fun ν a w hs hh=>⟨(h ν a w hs hh).1,(h ν a w hs hh).2.mono fun e w' hx=>hx.imp (fun ⟨v,he,σ',H',M',hr,hk⟩=>⟨v,he,σ',H',M',hr,RegX.sound rest σ' H' M' hk⟩) id⟩)
         · exact h.elim
       · exact h.elim
     · rename_i x ho
       unfold xPanic at h
       split at h
       · rename_i v hx
         refine RegK.panic ho hb.1 hx (fun w=>?_) h.2
         have:=h.1
         unfold isIfc at this
         split at this
         · rfl
         · cases this
       · exact h.elim
     · exact h.elim
   · rw [Bool.not_eq_true] at hb
     rw [hb,cond_false] at h
     unfold wpRC at h
     split at h
     · rename_i g hg
       rintro a w ⟨ν,hs,hh⟩
       refine wpList_step fun K' hK'=>?_
       have:=gd_spec hs hg o rfl
       rw [this]
       exact stepK_sound (fun σ H M a w hr hk=>hK' _ _ (RegX.sound rest σ H M hk a w hr)) hs hh h
     · exact h.elim
theorem wpX_sound : ∀ (c:Code) (Q:QP) (σ:Sig) (H:HS) (M:Mem),wpX E live c Q σ H M→CodeK E c Q σ H M
 | .skip,Q,σ,H,M,h=>CodeK.skip h
 | .ret,Q,σ,H,M,h=>CodeK.ret h
 | .exit i,Q,σ,H,M,h=>fun a w hr=>wp_exit ⟨σ,H,M,hr,h⟩
 | .region id ops draw,Q,σ,H,M,h=>by
   cases draw with
   | false=>
     have:=RegX.sound (E:=E) (live:=live) (all:=ops.toList) ops.toList σ H M h
     rw [Array.toArray_toList] at this
     exact CodeK.reg this
   | true=>exact h
 | .seq x y,Q,σ,H,M,h=>by
   refine CodeK.seq (CodeK.mono (wpX_sound x _ σ H M h) fun e σ H M hq=>?_)
   cases e <;> first
    | exact wpX_sound y Q σ H M hq
    | exact hq
 | .block i b,Q,σ,H,M,h=>CodeK.block (CodeK.mono (wpX_sound b _ σ H M h) fun e σ H M hq=>hq)
 | .cond c t e,Q,σ,H,M,h=>by
   simp only [wpX] at h
   split at h
   · rename_i b hb
     exact CodeK.cond hb (fun hb=>wpX_sound t Q σ H M (h.1 hb)) (fun hb=>wpX_sound e Q σ H M (h.2 hb))
   · exact h.elim
 | .loop b,Q,σ,H,M,h=>h
 | .rangeFunc f p x y,Q,σ,H,M,h=>h
 | .scope b,Q,σ,H,M,h=>h
 | .label l,Q,σ,H,M,h=>h
 | .goto l,Q,σ,H,M,h=>h
 | .refuse r,Q,σ,H,M,h=>h.elim
/-- a region that draws, where nothing panics -/
theorem DrawX.of {id:Nat} {ops:Array Oper} (h:DrawK E id ops (endK live Q) σ H M):DrawX E live id ops Q σ H M:=fun a w hr=>
 Code.wp_mono (fun e a w ⟨he,σ,H,M,hr,hk⟩=>by subst he; exact ⟨_,_,_,hr.keep,hk⟩) (h a w hr)
/-- .. the first n operations are quiet, the others follow in their order and may panic -/
theorem DrawX.tail {id:Nat} {ops:Array Oper} (n:Nat) (hm:E.P.follows .mixedOrders=true) (hB:Region.lexTailB .any ops n=true)
  (h:wpQ E ops.toList (RegX E live ops.toList Q (ops.toList.drop n)) (ops.toList.take n) σ H M):DrawX E live id ops Q σ H M:=by
 rintro a w ⟨ν,hs,hh⟩
 · refine wp_region_tail (C:=fun w'=>Heap E ν H M w') n hm hB (hh.grow ((Below.refl _ _).drew)) ?_
   have:=wpQ_sound (E:=E) (ops:=ops.toList) (K:=RegX E live ops.toList Q (ops.toList.drop n)) (Nx:=fun a'=>∀ w',Heap E ν H M w'→wpList E.P ops (Lift E Q) (ops.toList.drop n) a' w')
    (fun σ a hs hk w' hw'=>by
      have:=RegX.sound (ops.toList.drop n) σ H M hk a w' ⟨ν,hs,hw'⟩
      simpa using this) (fun w'=>Heap E ν H M w') (fun _ h=>h) (fun w w' h hb=>h.grow hb) w hh (ops.toList.take n) σ a hs h
   simpa using this
theorem LoopX.intro {body:Code} {X:Type} (S:X→Sig×HS×Mem) (I:X→Prop) (m:X→Nat) (x0:X) (h0:I x0) (hent:Ent E σ H M (S x0))
  (hr : ∀ x,I x→CodeK E body (rndQ E S I m x Q) (S x).1 (S x).2.1 (S x).2.2):LoopK E live body Q σ H M:=by
 intro a w hrep b k cs
 have step : ∀ n x,m x=n→I x → ∀ a w,Rep E (S x).1 (S x).2.1 (S x).2.2 a w →
   ∃ e a' w',Lift E Q e a' w'∧Arrives E.P (lone (b.at a (.code body :: .inLoop body :: k)) cs w) b k cs e a' w':=by
  intro n
  induction n using Nat.strongRecOn with
  | _ n ih=>
    intro x hm hI a w hrep
    obtain ⟨e,a₁,w₁,⟨σ',H',M',hrep',hq⟩,harr⟩:=hr x hI a w hrep b (.inLoop body :: k) cs
    cases e with
    | normal=>
      obtain ⟨x',⟨hI',hlt⟩,hent'⟩:=hq
      obtain ⟨e₂,a₂,w₂,hq₂,harr₂⟩:=ih (m x') (hm ▸ hlt) x' rfl hI' a₁ w₁ (hent' _ _ hrep')
      exact ⟨e₂,a₂,w₂,hq₂,.of_steps (Steps.trans harr (.one step_inLoop)) harr₂⟩
    | exit id=>exact ⟨_,a₁,w₁,⟨σ',H',M',hrep',hq⟩,.pass (x:=.inLoop body) rfl (fun _ _=>.inl (by simp)) harr⟩
    | goto l=>exact ⟨_,a₁,w₁,⟨σ',H',M',hrep',hq⟩,.pass (x:=.inLoop body) rfl (fun _ _=>.inl (by simp)) harr⟩
    | ret=>exact ⟨_,a₁,w₁,⟨σ',H',M',hrep',hq⟩,.pass (x:=.inLoop body) rfl (fun _ _=>.inl (by simp)) harr⟩
    | panic ch=>exact ⟨_,a₁,w₁,⟨σ',H',M',hrep',hq⟩,.pass (x:=.inLoop body) rfl (fun _ _=>.inl (by simp)) harr⟩
    | outgrown=>exact ⟨_,a₁,w₁,⟨σ',H',M',hrep',hq⟩,.pass (x:=.inLoop body) rfl (fun _ _=>.inl (by simp)) harr⟩
 obtain ⟨e,a',w',hq,harr⟩:=step _ x0 rfl h0 a w (hent a w hrep)
 exact ⟨e,a',w',hq,.of_steps (.one step_loop) harr⟩
theorem LoopX.go {body:Code} {X:Type} (S:X→Sig×HS×Mem) (I:X→Prop) (m:X→Nat) (x0:X) (h0:I x0) (hent:Ent E σ H M (S x0))
 (hr : ∀ x,I x→wpX E live body (rndQ E S I m x Q) (S x).1 (S x).2.1 (S x).2.2):LoopK E live body Q σ H M:=LoopX.intro S I m x0 h0 hent fun x hx=>wpX_sound _ _ _ _ _ (hr x hx)
end
theorem MeetsX.of_body {P:Program} {f:FuncId} {fn:Func} {c:Code} {args:List SV} {H:HS} {M:Mem} {R:RP} {X:XP} (live:List Nat) (hf:P.funcs[f]? = some fn) (hb:fn.body=some c) (hn:okFn fn args.length=true)
  (h : ∀ w0 M0,wpX ⟨P,fn.ntmps,w0,M0⟩ live c (RetX P fn.results.toList R X) (params fn.ntmps 0 args) H M):MeetsX P f args H M R X:=
 MeetsX.of_code hf hb hn fun w0 M0=>wpX_sound c _ _ _ _ (h w0 M0)

/-! the simp words -/
section
variable (E:Env) (live:List Nat) (Q:QP) (σ:Sig) (H:HS) (M:Mem) (all:List Oper)
def seqX (b:Code) (Q:QP):QP:=fun e σ H M=>match e with | .normal=>wpX E live b Q σ H M | e=>Q e σ H M
def condX (t e:Code):Option (Bool×SV)→Prop
 | some (true,.v (.bool b))=>(b=true→wpX E live t Q σ H M)∧(b=false→wpX E live e Q σ H M)
 | _=>False
def xPan (Q:QP):XP:=fun ch H M=>Q (.panic ch) [] H M
theorem RegX_nil:RegX E live all Q [] σ H M=endK live Q σ H M:=rfl
theorem RegX_call (d:Nat) (f:Operand) (xs:Array Operand) (ts:Array TypeId) (ty:TypeId) (pos) (aft) (rest:List Oper):RegX E live all Q (⟨some d,.call ⟨.value f,xs,ts⟩,ty,pos,aft,none⟩ :: rest) σ H M=xCall E (some d) (RegX E live all Q rest) Q σ H M (opv σ f) (argsO σ xs.toList):=rfl
theorem RegX_panic (x:Operand) (d) (ty:TypeId) (pos) (aft) (rest:List Oper):RegX E live all Q (⟨d,.panic x,ty,pos,aft,none⟩ :: rest) σ H M=xPanic Q σ H M (opv σ x):=rfl
theorem RegX_step (o:Oper) (rest:List Oper) (h:(o.guard.isNone && opX o)=false):RegX E live all Q (o :: rest) σ H M=wpRC E (RegX E live all Q rest) σ H M o (gdOf all σ o.guard):=by
 rw [RegX,h,cond_false]
theorem xCall_ev (d:Nat) (K:KP) (f:FuncId) (caps l:List SV):xCall E (some d) K Q σ H M (some (true,.fn f caps)) (some (true,l))=CallX E f (l++caps) d K (xPan Q) σ H M:=rfl
theorem xPanic_ev (v:Value):xPanic Q σ H M (some (true,.v v))=(isIfc v=true∧Q (.panic [{ v:=v,recovered:=false }]) σ H M):=rfl
theorem wpX_skip:wpX E live .skip Q σ H M=Q .normal σ H M:=rfl
theorem wpX_ret:wpX E live .ret Q σ H M=Q .ret σ H M:=rfl
theorem wpX_exit (i:Nat):wpX E live (.exit i) Q σ H M=Q (.exit i) σ H M:=rfl
theorem wpX_region (id:Nat) (ops:Array Oper):wpX E live (.region id ops false) Q σ H M=RegX E live ops.toList Q ops.toList σ H M:=rfl
theorem wpX_draw (id:Nat) (ops:Array Oper):wpX E live (.region id ops true) Q σ H M=DrawX E live id ops Q σ H M:=rfl
theorem wpX_seq (a b:Code):wpX E live (.seq a b) Q σ H M=wpX E live a (seqX E live b Q) σ H M:=rfl
theorem wpX_block (i:Nat) (b:Code):wpX E live (.block i b) Q σ H M=wpX E live b (blkQ i Q) σ H M:=rfl
theorem wpX_cond (c:Operand) (t e:Code):wpX E live (.cond c t e) Q σ H M=condX E live Q σ H M t e (opv σ c):=rfl
theorem wpX_loop (b:Code):wpX E live (.loop b) Q σ H M=LoopK E live b Q σ H M:=rfl
theorem condX_ev (t e:Code) (b:Bool):condX E live Q σ H M t e (some (true,.v (.bool b)))=((b=true→wpX E live t Q σ H M)∧(b=false→wpX E live e Q σ H M)):=rfl
theorem seqX_normal (b:Code):seqX E live b Q .normal σ H M=wpX E live b Q σ H M:=rfl
theorem seqX_ret (b:Code):seqX E live b Q .ret σ H M=Q .ret σ H M:=rfl
theorem seqX_exit (b:Code) (i:Nat):seqX E live b Q (.exit i) σ H M=Q (.exit i) σ H M:=rfl
theorem seqX_panic (b:Code) (ch:List PanicEntry):seqX E live b Q (.panic ch) σ H M=Q (.panic ch) σ H M:=rfl
theorem blkQ_panic (i:Nat) (ch:List PanicEntry):blkQ i Q (.panic ch) σ H M=Q (.panic ch) σ H M:=rfl
theorem rndQ_panic {X:Type} (S:X→Sig×HS×Mem) (I:X→Prop) (m:X→Nat) (x:X) (ch:List PanicEntry):rndQ E S I m x Q (.panic ch) σ H M=Q (.panic ch) σ H M:=rfl
theorem xPan_ev (ch:List PanicEntry):xPan Q ch H M=Q (.panic ch) [] H M:=rfl
theorem RetX_panic (P:Program) (rs:List ResultVar) (R:RP) (X:XP) (ch:List PanicEntry):RetX P rs R X (.panic ch) σ H M=X ch H M:=rfl
theorem RetX_ret (P:Program) (rs:List ResultVar) (R:RP) (X:XP):RetX P rs R X .ret σ H M=RetK P rs R .ret σ H M:=rfl
theorem RetX_normal (P:Program) (rs:List ResultVar) (R:RP) (X:XP):RetX P rs R X .normal σ H M=RetK P rs R .normal σ H M:=rfl
end
section
variable {E:Env} {live:List Nat} {Q:QP} {σ σ':Sig} {H H':HS} {M:Mem} {all:List Oper} {K:KP}
@[congr] theorem wpX_congr {c:Code} (h:σ=σ') (h':H=H'):wpX E live c Q σ H M=wpX E live c Q σ' H' M:=by rw [h,h']
@[congr] theorem RegX_congr {l:List Oper} (h:σ=σ') (h':H=H'):RegX E live all Q l σ H M=RegX E live all Q l σ' H' M:=by rw [h,h']
@[congr] theorem seqX_congr {b:Code} {e:Exit} (h:σ=σ') (h':H=H'):seqX E live b Q e σ H M=seqX E live b Q e σ' H' M:=by rw [h,h']
@[congr] theorem condX_congr {t e:Code} {r r':Option (Bool×SV)} (h:σ=σ') (h':H=H') (hr:r=r'):condX E live Q σ H M t e r=condX E live Q σ' H' M t e r':=by rw [h,h',hr]
@[congr] theorem xCall_congr {d:Option Nat} {r r':Option (Bool×SV)} {s s':Option (Bool×List SV)} (h:σ=σ') (h':H=H') (hr:r=r') (hs:s=s'):xCall E d K Q σ H M r s=xCall E d K Q σ' H' M r' s':=by rw [h,h',hr,hs]
@[congr] theorem xPanic_congr {r r':Option (Bool×SV)} (h:σ=σ') (h':H=H') (hr:r=r'):xPanic Q σ H M r=xPanic Q σ' H' M r':=by rw [h,h',hr]
@[congr] theorem CallX_congr {f d:Nat} {l l':List SV} {X:XP} (hl:l=l') (h:σ=σ') (h':H=H'):CallX E f l d K X σ H M=CallX E f l' d K X σ' H' M:=by rw [hl,h,h']
@[congr] theorem DrawX_congr {id:Nat} {ops:Array Oper} (h:σ=σ') (h':H=H'):DrawX E live id ops Q σ H M=DrawX E live id ops Q σ' H' M:=by rw [h,h']
@[congr] theorem RetX_congr {P:Program} {rs:List ResultVar} {R:RP} {X:XP} {e:Exit} (h:σ=σ') (h':H=H'):RetX P rs R X e σ H M=RetX P rs R X e σ' H' M:=by rw [h,h']
end
theorem zxj:type_of% (And.intro (And.intro (And.intro (And.intro @RegX_nil (And.intro @RegX_call @RegX_panic)) (And.intro @RegX_step (And.intro @xCall_ev @xPanic_ev))) (And.intro (And.intro @wpX_skip (And.intro @wpX_ret @wpX_exit)) (And.intro (And.intro @wpX_region @wpX_draw) (And.intro @wpX_seq @wpX_block)))) (And.intro (And.intro (And.intro @wpX_cond (And.intro @wpX_loop @condX_ev)) (And.intro @seqX_normal (And.intro @seqX_ret @seqX_exit))) (And.intro (And.intro @seqX_panic (And.intro @blkQ_panic @rndQ_panic)) (And.intro (And.intro @xPan_ev @RetX_panic) (And.intro @RetX_ret @RetX_normal))))):=(And.intro (And.intro (And.intro (And.intro @RegX_nil (And.intro @RegX_call @RegX_panic)) (And.intro @RegX_step (And.intro @xCall_ev @xPanic_ev))) (And.intro (And.intro @wpX_skip (And.intro @wpX_ret @wpX_exit)) (And.intro (And.intro @wpX_region @wpX_draw) (And.intro @wpX_seq @wpX_block)))) (And.intro (And.intro (And.intro @wpX_cond (And.intro @wpX_loop @condX_ev)) (And.intro @seqX_normal (And.intro @seqX_ret @seqX_exit))) (And.intro (And.intro @seqX_panic (And.intro @blkQ_panic @rndQ_panic)) (And.intro (And.intro @xPan_ev @RetX_panic) (And.intro @RetX_ret @RetX_normal)))))
theorem zxk:type_of% (And.intro (And.intro @Option.isNone_none (And.intro @Option.isNone_some @Bool.true_and)) (And.intro @Bool.false_and (And.intro @cond_true @cond_false))):=(And.intro (And.intro @Option.isNone_none (And.intro @Option.isNone_some @Bool.true_and)) (And.intro @Bool.false_and (And.intro @cond_true @cond_false)))
end Go.X

namespace Go.X
open Go Go.RowKit
/-- known memory, block b another one -/
def updM (M:Mem) (b:Nat) (o:Obj):Mem:=fun c=>if c=b then some o else M c
/-- known memory without block b -/
def offM (M:Mem) (b:Nat):Mem:=fun c=>if c=b then none else M c
theorem updM_at (M:Mem) (b:Nat) (o:Obj):updM M b o b=some o:=by simp [updM]
theorem le_updM {M N:Mem} {b:Nat} {o:Obj} (h:N.le M) (hb:N b=none):N.le (updM M b o):=fun c x hc=>by
 unfold updM
 rw [if_neg (fun e=>by rw [e,hb] at hc; cases hc)]
 exact h c x hc
theorem offM_le (M:Mem) (b:Nat):(offM M b).le M:=fun c x hc=>by
 unfold offM at hc
 split at hc
 · cases hc
 · exact hc
theorem le_offM {M N:Mem} {b:Nat} (h:N.le M) (hb:N b=none):N.le (offM M b):=fun c x hc=>by
 unfold offM
 rw [if_neg (fun e=>by rw [e,hb] at hc; cases hc)]
 exact h c x hc
section
variable {E:Env} {σ:Sig} {H:HS} {M:Mem} {a:Act} {w:World} {ν:Nat→Value} {K:KP} {o:Oper}

theorem Heap.off (hh:Heap E ν H M w) {b:Nat} (h0:E.M0 b=none):Heap E ν H (offM M b) w:=by
 refine ⟨hh.holds,hh.nodup,fun c hc=>⟨?_,(hh.apart c hc).2⟩,fun c x hc=>hh.mem c x (offM_le M b c x hc),hh.below,le_offM hh.le0 h0,fun c hc=>hh.fresh c ?_,hh.one⟩
 · unfold offM
   split
   · rfl
   · exact (hh.apart c hc).1
 · intro e
   unfold offM at hc
   split at hc
   · exact hc rfl
   · exact hc e
/-- a known block is another one -/
theorem Heap.turnM (hh:Heap E ν H M w) {b:Nat} {x x':Obj} (hb:M b=some x) (h0:E.M0 b=none) {w':World} (hw : ∀ j,j≠b→w'.heap[j]? = w.heap[j]?) (hz:w'.heap.size=w.heap.size) (ho:w'.os=w.os∧w'.tape=w.tape∧w'.output=w.output) (hn:w'.heap[b]? = some x') :
  Heap E ν H (updM M b x') w':=by
 have hbs:E.w0.heap.size≤b:=(hh.fresh b (by rw [hb]; exact fun e=>by cases e)).resolve_left (fun e=>e h0)
 have hf : ∀ c ∈ fp ν H,c≠b:=fun c hc e=>by
  have:=(hh.apart c hc).1
  rw [e,hb] at this
  cases this
 have h1:=(hh.off h0).moved (w':=w') (fun c hc=>hw c (hf c hc)) (fun c y hc=>by
   have hne:c≠b:=fun e=>by simp [offM,e] at hc
   rw [hw c hne]
   exact hh.mem c y (offM_le M b c y hc))
  (hh.below.trans ⟨ho.1,ho.2.1,ho.2.2,Nat.le_of_eq hz.symm,fun k hk=>hw k (by omega)⟩)
 refine ⟨h1.holds,h1.nodup,fun c hc=>⟨?_,(h1.apart c hc).2⟩,fun c y hc=>?_,h1.below,le_updM hh.le0 h0,fun c hc=>?_,h1.one⟩
 · unfold updM
   rw [if_neg (hf c hc)]
   exact (hh.apart c hc).1
 · unfold updM at hc
   split at hc
   · rename_i e
     cases hc
     rw [e]; exact hn
   · rename_i e
     rw [hw c e]
     exact hh.mem c y hc
 · unfold updM at hc
   split at hc
   · rename_i e
     exact .inr (by omega)
   · exact hh.fresh c hc
/-! ### a range over a string: its iterator -/
variable {g:Bool} {d:Option Nat} {ty:TypeId} {pos:String} {aft:Array Edge} {gd:Option (Nat×Bool)}
end
end Go.X
namespace Go.X
open Go Go.RowKit
theorem Meets.nilOr {P:Program} {f:FuncId} {args:List SV} {sz:Nat} {M:Mem} {T:SV→SV} {es:List (List Value)} (hT:Ctx T) (h:Meets P f args M (fun r H M'=>(r=T (.v (.slice none 0 0))∧es=[])∨OwnR T sz es r H M')):Meets P f args M (OwnR T sz es):=by
 refine ⟨h.1,fun w hw=>(h.2 w hw).mono ?_⟩
 rintro e w' ⟨s,H',M',ν,h1,hh,h2⟩
 rcases h2 with ⟨rfl,rfl⟩ | h2
 · refine ⟨T (.own 0),[(0,.row sz [])],M',fun _=>.slice none 0 0,?_,⟨fun p hp=>?_,by simp [fp,blk?],by simp [fp,blk?],hh.mem,hh.below,hh.le0,hh.fresh,fun _=>rfl⟩,0,rfl,rfl⟩
   · rw [h1,hT (.v (.slice none 0 0)) (.own 0) ν (fun _=>.slice none 0 0) rfl]
   · simp only [List.mem_singleton] at hp
     subst hp
     exact ⟨fun e he=>by simp at he,.inl ⟨rfl,rfl⟩⟩
 · exact ⟨s,H',M',ν,h1,hh,h2⟩
theorem Meets.rows {T:SV→SV} {sz:Nat} {es:List (List Value)} {P:Program} {f:FuncId} {args:List SV} {M:Mem} (h:Meets P f args M (OwnR T sz es)):Meets P f args M (RowR T sz es):=
 h.mono fun _ _ _ _ ⟨k,h1,h2⟩=>⟨.own k,h1,h2⟩
theorem fidx_sp {α:Type} (p:α→Bool) : ∀ (l:List α) (i:Nat),(fidx p l i = -1 ∧ ∀ x ∈ l,p x=false) ∨ ∃ j x,fidx p l i=((i+j:Nat):Int)∧l[j]? = some x∧p x=true ∧ ∀ q y,q < j→l[q]? = some y→p y=false
 | [],i=>.inl ⟨rfl,fun x hx=>by cases hx⟩
 | a :: l,i=>by
   cases ha:p a with
   | true=>exact .inr ⟨0,a,by simp [fidx,ha],rfl,ha,fun q y hq=>by omega⟩
   | false=>
     rcases fidx_sp p l (i+1) with ⟨h1,h2⟩ | ⟨j,x,h1,h2,h3,h4⟩
     · refine .inl ⟨by simp [fidx,ha,h1],fun x hx=>?_⟩
       rcases List.mem_cons.1 hx with rfl | hx
       · exact ha
       · exact h2 x hx
     · refine .inr ⟨j+1,x,by simp only [fidx,ha]; simp; rw [h1]; omega,h2,h3,fun q y hq hy=>?_⟩
       cases q with
       | zero=>simp at hy; subst hy; exact ha
       | succ q=>exact h4 q y (by omega) hy
theorem fidx_map {α β:Type} (g:α→β) (p:β→Bool) : ∀ (l:List α) (i:Nat),fidx p (l.map g) i=fidx (fun x=>p (g x)) l i
 | [],_=>rfl
 | a :: l,i=>by
   simp only [List.map_cons,fidx]
   split
   · rfl
   · exact fidx_map g p l (i+1)
end Go.X

namespace Go.X.Dk
abbrev Tx:=List UInt8

/-! pieces -/
def splitC (c:UInt8):Tx→List Tx
 | []=>[[]]
 | b :: l=>if b=c then [] :: splitC c l else match splitC c l with
   | []=>[[b]]
   | h :: t=>(b :: h) :: t
theorem splitC_ne (c:UInt8) : ∀ l,splitC c l≠[]
 | []=>by simp [splitC]
 | b :: l=>by
   unfold splitC
   split
   · simp
   · split <;> simp
theorem index_mem {c:UInt8} : ∀ {l:Tx},c ∉ l→Lib.index l [c] = -1
 | [],_=>rfl
 | b :: l,h=>by
   have h1:b≠c:=fun e=>h (by simp [e])
   have h2:c ∉ l:=fun e=>h (by simp [e])
   have h3:(c == b)=false:=by simpa using fun e=>h1 e.symm
   unfold Lib.index
   rw [if_neg (by simp [List.isPrefixOf,h3]),index_mem h2]
   rfl
theorem index_at {c:UInt8} : ∀ {p r:Tx},c ∉ p→Lib.index (p++c :: r) [c]=p.length
 | [],r,_=>by
   show Lib.index (c :: r) [c]=0
   unfold Lib.index
   rw [if_pos (by simp [List.isPrefixOf])]
 | b :: p,r,h=>by
   have h1:b≠c:=fun e=>h (by simp [e])
   have h2:c ∉ p:=fun e=>h (by simp [e])
   have h3:(c == b)=false:=by simpa using fun e=>h1 e.symm
   have h4:=index_at (c:=c) (p:=p) (r:=r) h2
   show Lib.index (b :: (p++c :: r)) [c]=_
   unfold Lib.index
   rw [if_neg (by simp [List.isPrefixOf,h3]),h4,if_neg (by simp)]
   simp
theorem mem_cut {c:UInt8} : ∀ {l:Tx},c ∈ l → ∃ p r,l=p++c :: r∧c ∉ p
 | [],h=>by cases h
 | b :: l,h=>by
   by_cases hb:b=c
   · exact ⟨[],l,by rw [hb]; rfl,by simp⟩
   · have:c ∈ l:=by
      rcases List.mem_cons.1 h with e | e
      · exact absurd e.symm hb
      · exact e
     obtain ⟨p,r,h1,h2⟩:=mem_cut this
     exact ⟨b :: p,r,by rw [h1]; rfl,fun e=>(List.mem_cons.1 e).elim (fun e=>hb e.symm) h2⟩
theorem splitC_no {c:UInt8} : ∀ {l:Tx},c ∉ l→splitC c l=[l]
 | [],_=>rfl
 | b :: l,h=>by
   have h1:b≠c:=fun e=>h (by simp [e])
   have h2:c ∉ l:=fun e=>h (by simp [e])
   unfold splitC
   rw [if_neg h1,splitC_no h2]
theorem splitC_at {c:UInt8} : ∀ {p r:Tx},c ∉ p→splitC c (p++c :: r)=p :: splitC c r
 | [],r,_=>by
   show splitC c (c :: r)=_
   rw [splitC,if_pos rfl]
 | b :: p,r,h=>by
   have h1:b≠c:=fun e=>h (by simp [e])
   have h2:c ∉ p:=fun e=>h (by simp [e])
   show splitC c (b :: (p++c :: r))=_
   rw [splitC,if_neg h1,splitC_at h2]
theorem splitK_C {c:UInt8} : ∀ (k:Nat) (l:Tx),l.count c≤k→Lib.splitK [c] 0 k l=splitC c l
 | 0,l,h=>by
   have:c ∉ l:=fun hm=>by have:=List.count_pos_iff.2 hm; omega
   rw [splitC_no this]
   rfl
 | k+1,l,h=>by
   by_cases hm:c ∈ l
   · obtain ⟨p,r,rfl,hp⟩:=mem_cut hm
     have hi:=index_at (r:=r) hp
     unfold Lib.splitK
     rw [hi,if_neg (by simp),splitC_at hp,zo,Nat.add_zero,List.take_left' rfl]
     have hd:(p++c :: r).drop (p.length+[c].length)=r:=by
      rw [List.drop_append]
      simp
     rw [hd,splitK_C k r (by rw [List.count_append,List.count_cons_self] at h; omega)]
   · have hi:=index_mem hm
     unfold Lib.splitK
     rw [hi,splitC_no hm]
     rfl
/-! the lines of a script, the words of a line -/
def isW (w:Tx):Bool:=!w.isEmpty
def wordsS (l:Tx):List Tx:=(splitC 32 l).filter isW
def dropE:List Tx→List Tx
 | []=>[]
 | [x]=>if x=[] then [] else [x]
 | x :: r=>x :: dropE r
/-- the lines, as they are looked at -/
def linesS (s:Tx):List Tx:=dropE (splitC 10 s)
def goodL (ws:List Tx):Bool:=match ws with | []=>false | w :: _=>decide (w≠[35])
def saidS (s:Tx):List (List Tx):=((linesS s).map wordsS).filter goodL
theorem linesS_nil:linesS []=[]:=rfl
theorem dropE_cons (x:Tx) {l:List Tx} (h:l≠[]):dropE (x :: l)=x :: dropE l:=by
 cases l with
 | nil=>exact absurd rfl h
 | cons a t=>rfl
theorem linesS_at {p r:Tx} (h:10 ∉ p):linesS (p++10 :: r)=p :: linesS r:=by
 unfold linesS
 rw [splitC_at h,dropE_cons _ (splitC_ne _ _)]

/-! numerals -/
def valS (s:Tx):Nat:=s.foldl (fun n b=>10 * n+(b.toNat - 48)) 0
def isD (b:UInt8):Bool:=decide (48≤b.toNat∧b.toNat≤57)
def numS (s:Tx):Option Nat:=if s.all isD=true∧s.length≤10∧Lib.decDigits (valS s)=s then some (valS s) else none
/-! words for texts -/
def unhexS (b:UInt8):Option Nat:=if 48≤b.toNat∧b.toNat≤57 then some (b.toNat - 48) else if 97≤b.toNat∧b.toNat≤102 then some (b.toNat - 87) else none
def hexS (n:Nat):UInt8:=if n < 10 then UInt8.ofNat (48+n) else UInt8.ofNat (87+n)
def plainB (b:UInt8):Bool:=decide (33≤b.toNat∧b.toNat≤126∧b.toNat≠95)
def txS:Nat→Tx→Option Tx
 | _,[]=>some []
 | 0,_=>none
 | k+1,c :: r=>if plainB c=false then none else if c.toNat≠37 then (txS k r).map (c :: ·) else match r with
   | a :: b :: r'=>match unhexS a,unhexS b with
     | some x,some y=>(txS k r').map (UInt8.ofNat (16 * x+y) :: ·)
     | _,_=>none
   | _=>none
def textS (w:Tx):Option Tx:=if w=[95] then some [] else txS w.length w
def show1 (b:UInt8):Tx:=if plainB b=true∧b.toNat≠37 then [b] else [37,hexS (b.toNat / 16),hexS (b.toNat % 16)]
def showS (s:Tx):Tx:=if s=[] then [95] else s.flatMap show1
def okS:Tx:=[111,107]
def numbersS (l:List Nat):Tx:=okS++l.flatMap fun n=>32 :: Lib.decDigits n
def faultS (e:Nat):Tx:=[101,114,114,111,114,32]++Lib.decDigits e
end Go.X.Dk

namespace Go.X.Dk
/-! words -/
def flushW (w:Tx):List Tx:=if w=[] then [] else [w]
def wl:Tx→Tx→List Tx
 | w,[]=>flushW w
 | w,b :: l=>if b=32 then flushW w++wl [] l else wl (w++[b]) l
/-! numerals -/
theorem val_app (l:Tx) (b:UInt8):valS (l++[b])=10 * valS l+(b.toNat - 48):=by
 unfold valS
 rw [List.foldl_append]
 rfl
theorem dig_nat {d:Nat} (h:d < 10):(UInt8.ofNat (48+d)).toNat=48+d:=by
 have:(UInt8.ofNat (48+d)).toNat=(48+d) % 256:=rfl
 omega
theorem val_dec (n:Nat):valS (Lib.decDigits n)=n:=by
 induction n using Nat.strongRecOn with
 | _ n ih=>
   rw [Lib.decDigits]
   by_cases h:n < 10
   · rw [dif_pos h]
     show 10 * 0+((UInt8.ofNat (48+n)).toNat - 48)=n
     rw [dig_nat h]
     omega
   · rw [dif_neg h,val_app,ih (n / 10) (by omega),dig_nat (Nat.mod_lt _ (by decide))]
     omega
theorem isD_dec (n:Nat):(Lib.decDigits n).all isD=true:=by
 induction n using Nat.strongRecOn with
 | _ n ih=>
   rw [Lib.decDigits]
   by_cases h:n < 10
   · rw [dif_pos h]
     simp only [List.all_cons,List.all_nil,Bool.and_true,isD,dig_nat h,decide_eq_true_eq]
     omega
   · rw [dif_neg h,List.all_append,ih (n / 10) (by omega)]
     have:=Nat.mod_lt n (show 0 < 10 by decide)
     simp only [List.all_cons,List.all_nil,Bool.and_true,Bool.true_and,isD,dig_nat this,decide_eq_true_eq]
     omega
theorem numS_iff {s:Tx} {n:Nat}:numS s=some n↔s=Lib.decDigits n∧s.length≤10:=by
 unfold numS
 constructor
 · intro h
   split at h
   · rename_i h1
     cases h
     exact ⟨h1.2.2.symm,h1.2.1⟩
   · cases h
 · rintro ⟨rfl,h⟩
   rw [if_pos ⟨isD_dec n,h,by rw [val_dec]⟩,val_dec]
theorem dec_len_lt (n:Nat):n < 10 ^ (Lib.decDigits n).length:=by
 induction n using Nat.strongRecOn with
 | _ n ih=>
   rw [Lib.decDigits]
   by_cases h:n < 10
   · rw [dif_pos h]
     simpa using h
   · rw [dif_neg h,List.length_append,List.length_singleton,Nat.pow_succ]
     have:=ih (n / 10) (by omega)
     omega
theorem numS_lt {s:Tx} {n:Nat} (h:numS s=some n):n < 10000000000:=by
 obtain ⟨rfl,hl⟩:=numS_iff.1 h
 have h1:=dec_len_lt n
 have h2:10 ^ (Lib.decDigits n).length≤10 ^ 10:=Nat.pow_le_pow_right (by decide) hl
 have h3:(10:Nat) ^ 10=10000000000:=by decide
 omega
theorem parse_all : ∀ (l:Tx) (a k:Nat),(∀ c ∈ l,isD c=true)→a < 10 ^ k→l.length+k≤18→Lib.parseUint10 a l = .ok (l.foldl (fun n c=>10 * n+(c.toNat - 48)) a)
 | [],a,k,_,_,_=>rfl
 | c :: r,a,k,h,ha,hk=>by
   have hc:48≤c.toNat∧c.toNat≤57:=of_decide_eq_true (h c (by simp))
   simp only [List.length_cons] at hk
   have h1:10 ^ k≤10 ^ 17:=Nat.pow_le_pow_right (by decide) (by omega)
   have h2:(10:Nat) ^ 17=100000000000000000:=by decide
   have h3:10 ^ (k+1)=10 * 10 ^ k:=by rw [Nat.pow_succ]; omega
   have ih:=parse_all r (10 * a+(c.toNat - 48)) (k+1) (fun x hx=>h x (by simp [hx])) (by omega) (by omega)
   rw [Lib.parseUint10,if_pos hc,if_neg (by omega),if_neg (by omega),Nat.mul_comm a 10,ih]
   rfl
theorem atoi_num {s:Tx} {n:Nat} (h:numS s=some n):Lib.atoiAll s = .ok n:=by
 have hn:=numS_lt h
 obtain ⟨rfl,hl⟩:=numS_iff.1 h
 have hd : ∀ c ∈ Lib.decDigits n,isD c=true:=List.all_eq_true.1 (isD_dec n)
 have hp:=parse_all (Lib.decDigits n) 0 0 hd (by decide) (by omega)
 have hv:(Lib.decDigits n).foldl (fun n c=>10 * n+(c.toNat - 48)) 0=n:=val_dec n
 rw [hv] at hp
 cases hs:Lib.decDigits n with
 | nil=>
   have:=dec_len_lt n
   rw [hs] at this
   simp at this
   subst this
   rw [Lib.decDigits_one (by decide)] at hs
   cases hs
 | cons c r=>
   rw [hs] at hd hp
   have hc:48≤c.toNat∧c.toNat≤57:=of_decide_eq_true (hd c (by simp))
   have h43 : ¬ (c.toNat=43∨c.toNat=45):=by omega
   have h45 : ¬ c.toNat=45:=by omega
   have hp2:Lib.parseMag (c :: r) = .ok n:=by unfold Lib.parseMag; rw [if_neg (by simp)]; exact hp
   unfold Lib.atoiAll
   simp only
   rw [if_neg h43,hp2]
   simp only
   rw [if_neg (by omega),if_neg (by omega),if_neg h45]
/-- what the desk's num asks -/
theorem num_ask {s:Tx} {v:Int} (h:Lib.atoiAll s = .ok v):(0≤v∧s.length≤10∧s=Lib.itoa v)↔numS s=some v.toNat:=by
 constructor
 · rintro ⟨h1,h2,h3⟩
   refine numS_iff.2 ⟨?_,h2⟩
   rw [h3]
   unfold Lib.itoa
   rw [if_neg (by omega)]
 · intro h1
   have h2:=atoi_num h1
   rw [h] at h2
   injection h2 with h2
   obtain ⟨h3,h4⟩:=numS_iff.1 h1
   refine ⟨by omega,h4,?_⟩
   unfold Lib.itoa
   rw [if_neg (by omega)]
   exact h3
theorem num_none {s:Tx} (h : ∀ v,Lib.atoiAll s ≠ .ok v):numS s=none:=by
 cases hn:numS s with
 | none=>rfl
 | some n=>exact absurd (atoi_num hn) (h _)
end Go.X.Dk

namespace Go.X.Dk
open Go Go.X Go.RowKit

section
variable {E:Env} {σ:Sig} {H:HS} {M:Mem} {a:Act} {w:World} {ν:Nat→Value} {K:KP} {o:Oper}
/-- an interface that holds a known struct -/
theorem mkIfaceS {t:TypeId} {x:Operand} {d:Nat} {s:SV} {y:Value} (ho:o.op = .makeInterface t x) (hd:o.dst=some d) (hx:opv σ x=some (true,s)) (hy : ∀ ν,s.val ν=y) (hN:decide (d < E.N)=true)
  (hu : ∃ e,E.P.underlying t=some (.struct e))
  (hK:K ((d,true,.v (.iface t y)) :: σ) H M):OpK E o K σ H M:=by
 refine opK_of fun ν a w hs hh=>?_
 have ex:=hs.opv hx rfl
 rw [hy ν] at ex
 obtain ⟨e,hu⟩:=hu
 refine ⟨.iface t y,w,?_,_,_,_,⟨ν,?_,hh⟩,hK⟩
 · simp [execOp,ho,ex,Instr.makeInterface,run_underlying hu]
 · rw [hd]
   exact hs.put (of_decide_eq_true hN) rfl
end
def faultV (e:Int):Value:=.iface 78 (.agg #[.int .i64 e])
def faultC (e:Int):List PanicEntry:=[{ v:=faultV e,recovered:=false }]
theorem bad_x (e:Int) (M:Mem):MeetsX Proofs.Tryz.prog 74 [.v (.int .i64 e)] [] M (fun _ _ _=>False) (fun c _ _=>c=faultC e):=by
 refine MeetsX.of_body [0] Proofs.Tryz.func74 rfl (by kernel_rfl) fun w0 M0=>?_
 simp only [Proofs.Tryz.f74,zxj,zxk,opX,isIfc,zz,zq,seval,zl,za,ze,zo]
 refine ⟨rfl,mkIfaceS (y:=.agg #[.int .i64 e]) rfl rfl rfl (fun ν=>rfl) rfl ⟨_,Proofs.Tryz.underlying78⟩ ?_⟩
 simp only [zxj,zxk,opX,isIfc,zq,seval,zl,za,ze,zo]
 rfl
theorem in64 {n:Int} (h0 : -9223372036854775808≤n) (h1:n≤9223372036854775807):inK .i64 n:=⟨h0,h1⟩
theorem must_x (e:Int) (M:Mem):MeetsX Proofs.Tryz.prog 62 [.v (.int .i64 e)] [] M (fun s _ _=>e=0∧s = .tup []) (fun c _ _=>e≠0∧c=faultC e):=by
 refine MeetsX.of_body [0,3] Proofs.Tryz.func62 rfl (by kernel_rfl) fun w0 M0=>?_
 by_cases h:e=0
 · simp only [Proofs.Tryz.f62,zxj,zxk,opX,isIfc,zz,zq,seval,zl,za,ze,zo,h,decide_true,Bool.not_true,Bool.false_eq_true,false_implies,true_and,true_implies]
 · simp only [Proofs.Tryz.f62,zxj,zxk,opX,isIfc,zz,zq,seval,zl,za,ze,zo,h,decide_false,Bool.not_false,Bool.true_eq_false,false_implies,and_true,true_implies]
   exact CallX.panic rfl (bad_x e M) ⟨h,rfl⟩
/-- a line: its words, and which comes next -/
def lineC (v:Value) (i:Nat):List SV:=[.v v,.v (.int .i64 i)]
def wordV (s:Tx):List Value:=[.string ⟨s.toArray⟩]
theorem word_x {ws:List Tx} {v:Value} {i:Nat} {q:Option Value} {M:Mem} (hM:RowM M v 1 (ws.map wordV)) (hi:i≤ws.length) :
  MeetsX Proofs.Tryz.prog 110 [.ptr 8000 0 0 0] [(8000,.box (lineC v i) q)] M
   (fun s H' _=>∃ cs',(s.conc=true∧SV.concs cs'=true)∧hget H' 8000=some (.box cs' q) ∧ ∃ w,ws[i]? = some w∧s = .v (.string ⟨w.toArray⟩)∧cs'=lineC v (i+1))
   (fun ch H' _=>∃ cs',SV.concs cs'=true∧hget H' 8000=some (.box cs' q)∧ws[i]? = none∧ch=faultC 12∧cs'=lineC v i):=by
 refine MeetsX.of_body [0,2,12] Proofs.Tryz.func110 rfl (by kernel_rfl) fun w0 M0=>?_
 have hlen:(ws.map wordV).length=ws.length:=List.length_map ..
 have hsl:isSl v=true:=hM.1.1
 by_cases h:i=ws.length
 · have h0:ws[i]? = none:=List.getElem?_eq_none (by omega)
   have e1:((i:Int)=(lenV v:Int))=True:=by rw [hM.1.2.1,hlen,h]; simp
   simp only [Proofs.Tryz.f110,lineC,zxj,zxk,opX,isIfc,zz,zq,seval,zl,za,ze,zo]
   refine DrawX.of (DrawK.quiet rfl (by kernel_rfl) ?_)
   simp only [zxj,zxk,opX,isIfc,zz,zq,seval,zl,za,ze,zo,nzs,e1,hsl,decide_true,true_and,true_implies,Bool.true_eq_false,false_implies,and_true]
   exact CallX.panic rfl (bad_x 12 M) ⟨_,rfl,rfl,h0,rfl,rfl⟩
 · obtain ⟨w,hw⟩ : ∃ w,ws[i]? = some w:=⟨_,List.getElem?_eq_getElem (by omega)⟩
   have e1:((i:Int)=(lenV v:Int))=False:=by rw [hM.1.2.1,hlen]; simp; omega
   have hlt:i < ws.length:=by omega
   have hmax:=hM.len_le
   have he:(ws.map wordV)[i]? = some (wordV w):=by rw [List.getElem?_map,hw]; rfl
   have hc:=hM.cell he (off:=0) (by omega)
   have hx:=hM.ix (i:=(i:Int)) (by omega) (by omega)
   have e2:(i:Int)+1 - 1=i:=by omega
   simp only [Proofs.Tryz.f110,lineC,zxj,zxk,opX,isIfc,zz,zq,seval,zl,za,ze,zo]
   refine DrawX.of (DrawK.quiet rfl (by kernel_rfl) ?_)
   simp only [zxj,zxk,opX,isIfc,zz,zq,seval,zl,za,ze,zo,nzs,e1,hsl,decide_false,true_and,true_implies,Bool.false_eq_true,false_implies,and_true]
   refine ⟨?_,DrawX.of (DrawK.quiet rfl (by kernel_rfl) ?_)⟩
   · exact in64 (by omega) (by omega)
   simp only [zxj,zxk,opX,isIfc,zz,zq,seval,zl,za,ze,zo,nzs,hsl,e2,true_and]
   exact ⟨in64 (by omega) (by omega),hx,hc.2.1,_,rfl,rfl,w,hw,by rw [hc.1]; rfl,by rw [Int.natCast_add]; rfl⟩
theorem end_x {ws:List Tx} {v:Value} {i:Nat} {q:Option Value} {M:Mem} (hM:RowM M v 1 (ws.map wordV)) :
  MeetsX Proofs.Tryz.prog 31 [.ptr 8000 0 0 0] [(8000,.box (lineC v i) q)] M
   (fun s H' _=>∃ cs',(s.conc=true∧SV.concs cs'=true)∧hget H' 8000=some (.box cs' q)∧i=ws.length∧cs'=lineC v i)
   (fun ch H' _=>∃ cs',SV.concs cs'=true∧hget H' 8000=some (.box cs' q)∧i≠ws.length∧ch=faultC 12∧cs'=lineC v i):=by
 refine MeetsX.of_body [0,11] Proofs.Tryz.func31 rfl (by kernel_rfl) fun w0 M0=>?_
 have hlen:(ws.map wordV).length=ws.length:=List.length_map ..
 have hsl:isSl v=true:=hM.1.1
 by_cases h:i=ws.length
 · have e1:((i:Int)=(lenV v:Int))=True:=by rw [hM.1.2.1,hlen,h]; simp
   simp only [Proofs.Tryz.f31,lineC,zxj,zxk,opX,isIfc,zz,zq,seval,zl,za,ze,zo]
   refine DrawX.of (DrawK.quiet rfl (by kernel_rfl) ?_)
   simp only [zxj,zxk,opX,isIfc,zz,zq,seval,zl,za,ze,zo,nzs,e1,hsl,decide_true,Bool.not_true,true_and,true_implies,Bool.false_eq_true,false_implies,and_true]
   exact ⟨_,rfl,rfl,h,rfl⟩
 · have e1:((i:Int)=(lenV v:Int))=False:=by rw [hM.1.2.1,hlen]; simp; omega
   simp only [Proofs.Tryz.f31,lineC,zxj,zxk,opX,isIfc,zz,zq,seval,zl,za,ze,zo]
   refine DrawX.of (DrawK.quiet rfl (by kernel_rfl) ?_)
   simp only [zxj,zxk,opX,isIfc,zz,zq,seval,zl,za,ze,zo,nzs,e1,hsl,decide_false,Bool.not_false,true_and,true_implies,Bool.true_eq_false,false_implies,and_true]
   exact CallX.panic rfl (bad_x 12 M) ⟨_,rfl,rfl,h,rfl,rfl⟩
end Go.X.Dk

namespace Go.X.St
open Go Go.X Go.RowKit

theorem Meets.ofCalls {P:Program} {f:FuncId} {args:List SV} {M:Mem} {v:Value} (hc:callable P f)
  (h : ∀ w,Calls P f (SV.vals ν0 args).toArray w fun e w'=>e = .returned v∧Below w.heap.size w w'):Meets P f args M fun r _ _=>r = .v v:=
 ⟨hc,fun w hw=>(h w).mono fun e w' ⟨he,hb⟩=>⟨.v v,[],M,ν0,he,
  Heap.grow (E:=⟨P,0,w,M⟩) (ν:=ν0) (H:=[]) (M:=M) (w:=w) ⟨by simp,List.nodup_nil,by simp [fp],hw,Below.refl _ _,Mem.le.refl _,fun b hb=>.inl hb,fun k=>rfl⟩ hb,rfl⟩⟩
end Go.X.St

