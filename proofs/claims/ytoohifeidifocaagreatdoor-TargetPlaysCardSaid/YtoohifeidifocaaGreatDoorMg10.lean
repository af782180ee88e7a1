/- Contracts of functions and the logic that they are proved in (7 texts in one). Conditions: none. -/
import Derived.Test.YtoohifeidifocaaGreatDoorMg8
import Derived.Laws.IdiomStrings
import Derived.Laws.RangeString
import Derived.Lib.OthersKept
import Derived.WalkKit
import Derived.Shelf.Lays
import Derived.Shelf.Strings.SlTrimAscii
import Derived.Test.YtoohifeidifocaaGreatDoorMg5
import Derived.Test.YtoohifeidifocaaGreatDoorMg7
open Nat renaming reduceAdd→zx,reduceMul→zj,reduceDiv→zy,reduceEqDiff→zk,reduceLT→zw,reduceLeDiff→zb,reduceBEq→zg
open Int renaming reduceEq→zd,reduceNe→zf,reduceLT→zp,reduceLE→zm,reduceAdd→zh,reduceSub→zu,reduceMul→zt,reduceNeg→zn,reduceToNat→zc,cast_ofNat_Int→zl,natCast_zero→za,natCast_one→ze,toNat_natCast→zo
namespace Go.X.Pl
end Go.X.Pl
namespace Go.X.St
end Go.X.St
set_option linter.unusedSimpArgs false
set_option linter.unusedVariables false
set_option maxHeartbeats 4000000
set_option maxRecDepth 20000
namespace Go.X
open Go Go.RowKit
section
variable {E:Env} {σ:Sig} {H:HS} {M:Mem} {a:Act} {w:World} {ν:Nat→Value} {K:KP} {o:Oper}
theorem Heap.boxSet (hh:Heap E ν H M w) {k j:Nat} {cs:List SV} {t:Option Value} {s s0:SV} (hk:hget H k=some (.box cs t)) (hj:cs[j]? = some s0) (hv:s.val ν=s0.val ν):Heap E ν (hset k (.box (cs.set j s) t) H) M w:=by
  refine hh.setPO (p:=.box cs t) hk (fun hx=>?_)
  obtain ⟨⟨b,T,e1,e2⟩,e3⟩:=hx
  refine ⟨⟨b,T,e1,?_⟩,e3⟩
  rw [e2]
  congr 3
  rw [SV.vals_map,SV.vals_map,List.map_set]
  apply List.ext_getElem?
  intro i
  rw [List.getElem?_set]
  split
  · rename_i ei
    subst ei
    have hjl:j < cs.length:=(List.getElem?_eq_some_iff.1 hj).1
    rw [List.length_map,if_pos hjl,List.getElem?_map,hj]
    simp only [Option.map_some,hv]
  · rfl
theorem Rep.nilBox (k j e sz:Nat) {cs:List SV} {t:Option Value} (hk:hget H k=some (.box cs t)) (hj:cs[j]? = some (.v (.slice none 0 0))) (hke:(k / 8 == e)=false) (hn:hNoKey e H=true) (hs':sigNoKey e σ=true) (hr:Rep E σ H M a w) :
    Rep E σ ((8 * e,.row sz []) :: hset k (.box (cs.set j (.own (8 * e))) t) H) M a w:=by
  obtain ⟨ν,hs,hh⟩:=hr
  let ν2:Nat→Value:=fun i=>if i / 8=e then .slice none 0 0 else ν i
  have hν : ∀ i,i / 8≠e→ν2 i=ν i:=fun i hi=>by simp [ν2,hi]
  have hν8:ν2 (8 * e) = .slice none 0 0:=by simp [ν2,show (8 * e) / 8=e by omega]
  have hke':k / 8≠e:=by simpa using hke
  have h1:Heap E ν2 ((8 * e,.row sz []) :: H) M w:=by
    refine hh.add hn hν (fun i=>?_) ?_ (fun b hb=>by rw [hν8] at hb; simp [blk?] at hb)
    · by_cases hi:i / 8=e
      · simp [ν2,hi,Value.oneCell']
      · simp only [ν2,hi,if_false]; exact hh.one i
    · rw [hν8]
      exact ⟨fun e he=>by simp at he,.inl ⟨rfl,rfl⟩⟩
  have hne : ¬ 8 * e=k:=fun he=>hke' (by omega)
  have h3:=h1.boxSet (k:=k) (j:=j) (s:=.own (8 * e)) (by simp only [hget]; rw [if_neg (fun e'=>hne e'.symm)]; exact hk) hj (by simp only [SV.val,hν8])
  simp only [hset,if_neg hne] at h3
  exact ⟨ν2,⟨hs.1,hs.2.1,fun i g s hi=>by rw [hs.2.2 i g s hi,SV.val_congr hν s (sigNoKey_lk hs' hi)]⟩,h3⟩
theorem LoopK.nilBox {live:List Nat} {body:Code} {Q:QP} (k j e sz:Nat) {cs:List SV} {t:Option Value} (hk:hget H k=some (.box cs t)) (hj:cs[j]? = some (.v (.slice none 0 0))) (hke:(k / 8 == e)=false) (hn:hNoKey e H=true) (hs':sigNoKey e σ=true)
    (h:LoopK E live body Q σ ((8 * e,.row sz []) :: hset k (.box (cs.set j (.own (8 * e))) t) H) M):LoopK E live body Q σ H M:=
  fun a w hr=>h a w (hr.nilBox k j e sz hk hj hke hn hs')
/-- a row in a box gets another key -/
theorem Ent.rekeyB {S:Sig×HS×Mem} (kb j k1 e sz:Nat) (es:List (List Value)) {cs:List SV} {t:Option Value} (hk1:hget H k1=some (.row sz es)) (hkb:hget ((8 * e,.row sz es) :: hdelk k1 (hdel e H)) kb=some (.box cs t)) (hj:cs[j]? = some (.own k1)) (hke:(k1 / 8 == e)=false) (hn:hNoKey e (hdelk k1 (hdel e H))=true)
    (h:Ent E (sigDrop e σ) (hset kb (.box (cs.set j (.own (8 * e))) t) ((8 * e,.row sz es) :: hdelk k1 (hdel e H))) M S):Ent E σ H M S:=by
  rintro a w ⟨ν,hs,hh⟩
  refine h a w ?_
  have hke':k1 / 8≠e:=by simpa using hke
  let ν2:Nat→Value:=fun i=>if i / 8=e then ν k1 else ν i
  have hν : ∀ i,i / 8≠e→ν2 i=ν i:=fun i hi=>by simp [ν2,hi]
  have hν8:ν2 (8 * e)=ν k1:=by simp [ν2,show (8 * e) / 8=e by omega]
  have hsub:(hdelk k1 (hdel e H)).Sublist H:=(hdelk_sub k1 _).trans (hdel_sub e H)
  have h1:Heap E ν2 ((8 * e,.row sz es) :: hdelk k1 (hdel e H)) M w:=by
    refine (hh.sublist hsub).add hn hν (fun i=>?_) ?_ (fun b hb=>?_)
    · by_cases hi:i / 8=e
      · simp only [ν2,hi,if_true]; exact hh.one k1
      · simp only [ν2,hi,if_false]; exact hh.one i
    · rw [hν8]
      exact hh.holds _ (hget_mem hk1)
    · rw [hν8] at hb
      obtain ⟨g1,g2⟩:=hh.apart b (List.mem_filterMap.2 ⟨(k1,_),hget_mem hk1,hb⟩)
      exact ⟨fp_hdelk hh hk1 hb e _ hsub (hdelk_ne k1 _),g1,g2⟩
  exact ⟨ν2,hs.drop hν,h1.boxSet hkb hj (by simp only [SV.val,hν8,hν k1 hke'])⟩
end
end Go.X

namespace Go.X
open Go Go.RowKit

section
variable {E:Env} {σ:Sig} {H:HS} {M:Mem} {a:Act} {w:World} {ν:Nat→Value} {K:KP} {o:Oper}

/-- a new object becomes known -/
theorem Heap.known (hh:Heap E ν H M w) {w':World} {ob:Obj} (hb:Below w.heap.size w w') (hn:w'.heap[w.heap.size]? = some ob) :
    ∃ M',M.le M'∧M' w.heap.size=some ob∧Heap E ν H M' w':=by
  have hw:=hh.grow hb
  have hMn:M w.heap.size=none:=by
    cases hM:M w.heap.size with
    | none=>rfl
    | some o=>have:=hh.mem.lt hM; omega
  let M':Mem:=fun c=>if c=w.heap.size then some ob else M c
  have hle:M.le M':=fun c o hc=>by
    simp only [M']
    rw [if_neg (fun e=>by rw [e,hMn] at hc; cases hc)]
    exact hc
  refine ⟨M',hle,by simp [M'],hw.holds,hw.nodup,fun b hb'=>?_,fun c o' hc=>?_,hw.below,hw.le0.trans hle,fun c hc=>?_,hw.one⟩
  · have:=hh.fp_lt hb'
    simp only [M',if_neg (show b≠w.heap.size by omega)]
    exact hw.apart b hb'
  · simp only [M'] at hc
    split at hc
    · rename_i e
      simp only [Option.some.injEq] at hc
      subst hc e
      exact hn
    · exact hw.mem c o' hc
  · simp only [M'] at hc
    split at hc
    · rename_i e; subst e; exact .inr hh.below.size
    · exact hw.fresh c hc

end
end Go.X

namespace Go.X
open Go Go.RowKit
/-- known memory, block b another one -/
def updM (M:Mem) (b:Nat) (o:Obj):Mem:=fun c=>if c=b then some o else M c
/-- known memory without block b -/
def offM (M:Mem) (b:Nat):Mem:=fun c=>if c=b then none else M c
theorem updM_at (M:Mem) (b:Nat) (o:Obj):updM M b o b=some o:=by simp [updM]
theorem updM_upd (M:Mem) (b:Nat) (o o':Obj):updM (updM M b o) b o'=updM M b o':=by
  funext c
  unfold updM
  split <;> rfl
theorem le_updM {M N:Mem} {b:Nat} {o:Obj} (h:N.le M) (hb:N b=none):N.le (updM M b o):=fun c x hc=>by
  unfold updM
  rw [if_neg (fun e=>by rw [e,hb] at hc; cases hc)]
  exact h c x hc
theorem offM_le (M:Mem) (b:Nat):(offM M b).le M:=fun c x hc=>by
  unfold offM at hc
  split at hc
  · cases hc
  · exact hc
theorem le_offM {M N:Mem} {b:Nat} (h:N.le M) (hb:N b=none):N.le (offM M b):=fun c x hc=>by
  unfold offM
  rw [if_neg (fun e=>by rw [e,hb] at hc; cases hc)]
  exact h c x hc
section
variable {E:Env} {σ:Sig} {H:HS} {M:Mem} {a:Act} {w:World} {ν:Nat→Value} {K:KP} {o:Oper}

theorem Heap.off (hh:Heap E ν H M w) {b:Nat} (h0:E.M0 b=none):Heap E ν H (offM M b) w:=by
  refine ⟨hh.holds,hh.nodup,fun c hc=>⟨?_,(hh.apart c hc).2⟩,fun c x hc=>hh.mem c x (offM_le M b c x hc),hh.below,le_offM hh.le0 h0,fun c hc=>hh.fresh c ?_,hh.one⟩
  · unfold offM
    split
    · rfl
    · exact (hh.apart c hc).1
  · intro e
    unfold offM at hc
    split at hc
    · exact hc rfl
    · exact hc e
/-- a known block is another one -/
theorem Heap.turnM (hh:Heap E ν H M w) {b:Nat} {x x':Obj} (hb:M b=some x) (h0:E.M0 b=none) {w':World} (hw : ∀ j,j≠b→w'.heap[j]? = w.heap[j]?) (hz:w'.heap.size=w.heap.size) (ho:w'.os=w.os∧w'.tape=w.tape∧w'.output=w.output) (hn:w'.heap[b]? = some x') :
    Heap E ν H (updM M b x') w':=by
  have hbs:E.w0.heap.size≤b:=(hh.fresh b (by rw [hb]; exact fun e=>by cases e)).resolve_left (fun e=>e h0)
  have hf : ∀ c ∈ fp ν H,c≠b:=fun c hc e=>by
    have:=(hh.apart c hc).1
    rw [e,hb] at this
    cases this
  have h1:=(hh.off h0).moved (w':=w') (fun c hc=>hw c (hf c hc)) (fun c y hc=>by
      have hne:c≠b:=fun e=>by simp [offM,e] at hc
      rw [hw c hne]
      exact hh.mem c y (offM_le M b c y hc))
    (hh.below.trans ⟨ho.1,ho.2.1,ho.2.2,Nat.le_of_eq hz.symm,fun k hk=>hw k (by omega)⟩)
  refine ⟨h1.holds,h1.nodup,fun c hc=>⟨?_,(h1.apart c hc).2⟩,fun c y hc=>?_,h1.below,le_updM hh.le0 h0,fun c hc=>?_,h1.one⟩
  · unfold updM
    rw [if_neg (hf c hc)]
    exact (hh.apart c hc).1
  · unfold updM at hc
    split at hc
    · rename_i e
      cases hc
      rw [e]; exact hn
    · rename_i e
      rw [hw c e]
      exact hh.mem c y hc
  · unfold updM at hc
    split at hc
    · rename_i e
      exact .inr (by omega)
    · exact hh.fresh c hc
/-! ### a range over a string: its iterator -/
theorem OpK.rangeStr {t d:Nat} {x:Operand} {s:ByteArray} (ho:o.op = .range t x) (hd:o.dst=some d) (hN:decide (d < E.N)=true) (ht:E.P.underlying t=some .string) (hx:opv σ x=some (true,.v (.string s)))
    (hK : ∀ b,M b=none→E.M0 b=none→K ((d,true,.v (ptrV b)) :: σ) H (updM M b (.stringIter s 0))):OpK E o K σ H M:=by
  refine opK_of fun ν a w hs hh=>?_
  have ex:=hs.opv hx rfl
  have hMn:M w.heap.size=none:=by
    cases hM:M w.heap.size with
    | none=>rfl
    | some o=>have:=hh.mem.lt hM; omega
  have h0:E.M0 w.heap.size=none:=by
    cases hM:E.M0 w.heap.size with
    | none=>rfl
    | some y=>rw [hh.le0 _ _ hM] at hMn; cases hMn
  obtain ⟨M',h1,h2,h3⟩:=hh.known (w':=w.iter s 0) (below_alloc w _) (World.iter_heap w s 0)
  refine ⟨.pointer (some ⟨w.heap.size,0,none⟩),w.iter s 0,?_,(d,true,.v (ptrV w.heap.size)) :: σ,H,updM M w.heap.size (.stringIter s 0),?_,hK _ hMn h0⟩
  · simp only [execOp,ho,ex,SV.val,Sem.run_bind,run_range_string w t s ht,Result.andThen_ok,Sem.run_pure]
  · rw [hd]
    refine ⟨ν,hs.put (of_decide_eq_true hN) rfl,?_⟩
    have h4:=hh.grow (below_alloc w (.stringIter s 0))
    refine ⟨h4.holds,h4.nodup,fun c hc=>⟨?_,(h4.apart c hc).2⟩,fun c y hc=>?_,h4.below,le_updM h4.le0 h0,fun c hc=>?_,h4.one⟩
    · unfold updM
      rw [if_neg (by have:=hh.fp_lt hc; omega)]
      exact (h4.apart c hc).1
    · unfold updM at hc
      split at hc
      · rename_i e
        cases hc
        rw [e]; exact World.iter_heap w s 0
      · exact h4.mem c y hc
    · unfold updM at hc
      split at hc
      · rename_i e
        exact .inr (by rw [e]; exact hh.below.size)
      · exact h4.fresh c hc
theorem OpK.nextAscii {d b i:Nat} {x:Operand} {s:List UInt8} {c:UInt8} (ho:o.op = .next x true) (hd:o.dst=some d) (hN:decide (d < E.N)=true) (hx:opv σ x=some (true,.v (ptrV b))) (hb:M b=some (.stringIter ⟨s.toArray⟩ i)) (h0:E.M0 b=none) (hc:s[i]? = some c) (ha:c.toNat < 128)
    (hK:K ((d,true,.tup [.v (.bool true),.v (.int .i64 (i:Int)),.v (.int .i32 (c.toNat:Int))]) :: σ) H (updM M b (.stringIter ⟨s.toArray⟩ (i+1)))):OpK E o K σ H M:=by
  refine opK_of fun ν a w hs hh=>?_
  have ex:=hs.opv hx rfl
  have hw:=hh.mem b _ hb
  have hi:i < s.length:=(List.getElem?_eq_some_iff.1 hc).1
  have hlt:i < (ByteArray.mk s.toArray).size:=by simpa [ByteArray.size] using hi
  have hg:(ByteArray.mk s.toArray)[i]'hlt=c:=by
    have:=(List.getElem?_eq_some_iff.1 hc).2
    show s.toArray[i]'hlt=c
    simpa using this
  have hr:=Lib.run_next_ascii_at (P:=E.P) w b ⟨s.toArray⟩ i o.type hw hlt (by rw [hg]; exact ha)
  rw [hg] at hr
  refine ⟨.tuple #[.bool true,.int .i64 (i:Int),.int .i32 (c.toNat:Int)],w.iterAt b ⟨s.toArray⟩ (i+1),?_,(d,true,.tup [.v (.bool true),.v (.int .i64 (i:Int)),.v (.int .i32 (c.toNat:Int))]) :: σ,H,_,?_,hK⟩
  · simp only [execOp,ho,ex,SV.val,Sem.run_bind,ptrV,hr,Result.andThen_ok,Sem.run_pure]
  · rw [hd]
    exact ⟨ν,hs.put (of_decide_eq_true hN) rfl,hh.turnM hb h0 (fun j hj=>Lib.iterAt_other w b j _ _ hj) (Lib.iterAt_size w b _ _) ⟨rfl,rfl,rfl⟩ (Lib.iterAt_heap w b _ _ _ hw)⟩
theorem OpK.nextEnd {d b i:Nat} {x:Operand} {s:List UInt8} (ho:o.op = .next x true) (hd:o.dst=some d) (hN:decide (d < E.N)=true) (hx:opv σ x=some (true,.v (ptrV b))) (hb:M b=some (.stringIter ⟨s.toArray⟩ i)) (hc:s.length≤i)
    (hK:K ((d,true,.tup [.v (.bool false)]) :: σ) H M):OpK E o K σ H M:=by
  refine opK_of fun ν a w hs hh=>?_
  have ex:=hs.opv hx rfl
  have hw:=hh.mem b _ hb
  have hlt : ¬ i < (ByteArray.mk s.toArray).size:=by simpa [ByteArray.size] using hc
  have hr:=Lib.run_next_end_at (P:=E.P) w b ⟨s.toArray⟩ i o.type hw hlt
  refine ⟨.tuple #[.bool false],w,?_,(d,true,.tup [.v (.bool false)]) :: σ,H,M,?_,hK⟩
  · simp only [execOp,ho,ex,SV.val,Sem.run_bind,ptrV,hr,Result.andThen_ok,Sem.run_pure]
  · rw [hd]
    exact ⟨ν,hs.put (of_decide_eq_true hN) rfl,hh⟩
variable {g:Bool} {d:Option Nat} {ty:TypeId} {pos:String} {aft:Array Edge} {gd:Option (Nat×Bool)}
theorem stepK_range (t:TypeId) (x:Operand):stepK E ⟨d,.range t x,ty,pos,aft,gd⟩ g K σ H M=(g=true∧OpK E ⟨d,.range t x,ty,pos,aft,gd⟩ K σ H M):=rfl
theorem stepK_next (x:Operand) (s:Bool):stepK E ⟨d,.next x s,ty,pos,aft,gd⟩ g K σ H M=(g=true∧OpK E ⟨d,.next x s,ty,pos,aft,gd⟩ K σ H M):=rfl
end
theorem sT:type_of% (And.intro @stepK_range @stepK_next):=⟨@stepK_range,@stepK_next⟩
end Go.X
namespace Go.X
open Go Go.RowKit
theorem Meets.nilOr {P:Program} {f:FuncId} {args:List SV} {sz:Nat} {M:Mem} {T:SV→SV} {es:List (List Value)} (hT:Ctx T) (h:Meets P f args M (fun r H M'=>(r=T (.v (.slice none 0 0))∧es=[])∨OwnR T sz es r H M')):Meets P f args M (OwnR T sz es):=by
  refine ⟨h.1,fun w hw=>(h.2 w hw).mono ?_⟩
  rintro e w' ⟨s,H',M',ν,h1,hh,h2⟩
  rcases h2 with ⟨rfl,rfl⟩ | h2
  · refine ⟨T (.own 0),[(0,.row sz [])],M',fun _=>.slice none 0 0,?_,⟨fun p hp=>?_,by simp [fp,blk?],by simp [fp,blk?],hh.mem,hh.below,hh.le0,hh.fresh,fun _=>rfl⟩,0,rfl,rfl⟩
    · rw [h1,hT (.v (.slice none 0 0)) (.own 0) ν (fun _=>.slice none 0 0) rfl]
    · simp only [List.mem_singleton] at hp
      subst hp
      exact ⟨fun e he=>by simp at he,.inl ⟨rfl,rfl⟩⟩
  · exact ⟨s,H',M',ν,h1,hh,h2⟩
theorem Meets.rows {T:SV→SV} {sz:Nat} {es:List (List Value)} {P:Program} {f:FuncId} {args:List SV} {M:Mem} (h:Meets P f args M (OwnR T sz es)):Meets P f args M (RowR T sz es):=
  h.mono fun _ _ _ _ ⟨k,h1,h2⟩=>⟨.own k,h1,h2⟩
theorem fidx_sp {α:Type} (p:α→Bool) : ∀ (l:List α) (i:Nat),(fidx p l i = -1 ∧ ∀ x ∈ l,p x=false) ∨ ∃ j x,fidx p l i=((i+j:Nat):Int)∧l[j]? = some x∧p x=true ∧ ∀ q y,q < j→l[q]? = some y→p y=false
  | [],i=>.inl ⟨rfl,fun x hx=>by cases hx⟩
  | a :: l,i=>by
    cases ha:p a with
    | true=>exact .inr ⟨0,a,by simp [fidx,ha],rfl,ha,fun q y hq=>by omega⟩
    | false=>
      rcases fidx_sp p l (i+1) with ⟨h1,h2⟩ | ⟨j,x,h1,h2,h3,h4⟩
      · refine .inl ⟨by simp [fidx,ha,h1],fun x hx=>?_⟩
        rcases List.mem_cons.1 hx with rfl | hx
        · exact ha
        · exact h2 x hx
      · refine .inr ⟨j+1,x,by simp only [fidx,ha]; simp; rw [h1]; omega,h2,h3,fun q y hq hy=>?_⟩
        cases q with
        | zero=>simp at hy; subst hy; exact ha
        | succ q=>exact h4 q y (by omega) hy
theorem fidx_map {α β:Type} (g:α→β) (p:β→Bool) : ∀ (l:List α) (i:Nat),fidx p (l.map g) i=fidx (fun x=>p (g x)) l i
  | [],_=>rfl
  | a :: l,i=>by
    simp only [List.map_cons,fidx]
    split
    · rfl
    · exact fidx_map g p l (i+1)
end Go.X

namespace Go.X.St
open Go Go.X Go.RowKit

theorem Meets.ofCalls {P:Program} {f:FuncId} {args:List SV} {M:Mem} {v:Value} (hc:callable P f)
    (h : ∀ w,Calls P f (SV.vals ν0 args).toArray w fun e w'=>e = .returned v∧Below w.heap.size w w'):Meets P f args M fun r _ _=>r = .v v:=
  ⟨hc,fun w hw=>(h w).mono fun e w' ⟨he,hb⟩=>⟨.v v,[],M,ν0,he,
    Heap.grow (E:=⟨P,0,w,M⟩) (ν:=ν0) (H:=[]) (M:=M) (w:=w) ⟨by simp,List.nodup_nil,by simp [fp],hw,Below.refl _ _,Mem.le.refl _,fun b hb=>.inl hb,fun k=>rfl⟩ hb,rfl⟩⟩
end Go.X.St

namespace Go.Proofs
open Go.Shelf
def Tryz.lays160_ren:Go.Shelf.Ren:=⟨fun | 160=>112 | 232=>148 | 231=>147 | 227=>149 | 234=>151 | 233=>150 | 236=>153 | 235=>152 | 228=>173 | 271=>176 | 151=>175 | 197=>174 | 120=>203 | 152=>202 | 260=>201 | 137=>211 | 119=>212 | 224=>213 | 225=>214 | 217=>216 | 266=>217 | n=>n,fun | 9=>9 | 4=>4 | 3=>3 | 5=>5 | 117=>185 | 116=>184 | 0=>0 | 124=>188 | 21=>21 | 105=>210 | 46=>111 | 119=>236 | 139=>239 | 138=>238 | n=>n,fun | 3=>1 | 4=>2 | n=>n⟩
theorem Tryz.lays160:Go.Proofs.Lays.n160 Tryz.prog Tryz.lays160_ren:={
  mixed:=by kernel_rfl,
  f119:=Tryz.func212.trans (congrArg some (by kernel_rfl)),
  f120:=Tryz.func203.trans (congrArg some (by kernel_rfl)),
  f137:=Tryz.func211.trans (congrArg some (by kernel_rfl)),
  f151:=Tryz.func175.trans (congrArg some (by kernel_rfl)),
  f152:=Tryz.func202.trans (congrArg some (by kernel_rfl)),
  f160:=Tryz.func112.trans (congrArg some (by kernel_rfl)),
  f197:=Tryz.func174.trans (congrArg some (by kernel_rfl)),
  f217:=Tryz.func216.trans (congrArg some (by kernel_rfl)),
  f224:=Tryz.func213.trans (congrArg some (by kernel_rfl)),
  f225:=Tryz.func214.trans (congrArg some (by kernel_rfl)),
  f227:=Tryz.func149.trans (congrArg some (by kernel_rfl)),
  f228:=Tryz.func173.trans (congrArg some (by kernel_rfl)),
  f231:=Tryz.func147.trans (congrArg some (by kernel_rfl)),
  f232:=Tryz.func148.trans (congrArg some (by kernel_rfl)),
  f233:=Tryz.func150.trans (congrArg some (by kernel_rfl)),
  f234:=Tryz.func151.trans (congrArg some (by kernel_rfl)),
  f235:=Tryz.func152.trans (congrArg some (by kernel_rfl)),
  f236:=Tryz.func153.trans (congrArg some (by kernel_rfl)),
  f260:=Tryz.func201.trans (congrArg some (by kernel_rfl)),
  f266:=Tryz.func217.trans (congrArg some (by kernel_rfl)),
  f271:=Tryz.func176.trans (congrArg some (by kernel_rfl)),
  t0:=Tryz.underlying0,
  a0:=Tryz.isAgg0,
  z0:=Tryz.sizeOf0,
  v0:=Tryz.zeroValue0,
  t3:=Tryz.underlying3,
  a3:=Tryz.isAgg3,
  z3:=Tryz.sizeOf3,
  v3:=Tryz.zeroValue3,
  t4:=Tryz.underlying4,
  a4:=Tryz.isAgg4,
  z4:=Tryz.sizeOf4,
  v4:=Tryz.zeroValue4,
  t5:=Tryz.underlying5,
  a5:=Tryz.isAgg5,
  z5:=Tryz.sizeOf5,
  v5:=Tryz.zeroValue5,
  t9:=Tryz.underlying9,
  a9:=Tryz.isAgg9,
  z9:=Tryz.sizeOf9,
  v9:=Tryz.zeroValue9,
  t21:=Tryz.underlying21,
  a21:=Tryz.isAgg21,
  z21:=Tryz.sizeOf21,
  v21:=Tryz.zeroValue21,
  t46:=Tryz.underlying111,
  a46:=Tryz.isAgg111,
  z46:=Tryz.sizeOf111,
  v46:=Tryz.zeroValue111,
  t105:=Tryz.underlying210,
  a105:=Tryz.isAgg210,
  z105:=Tryz.sizeOf210,
  v105:=Tryz.zeroValue210,
  t116:=Tryz.underlying184,
  a116:=Tryz.isAgg184,
  z116:=Tryz.sizeOf184,
  t117:=Tryz.underlying185,
  a117:=Tryz.isAgg185,
  z117:=Tryz.sizeOf185,
  v117:=Tryz.zeroValue185,
  t119:=Tryz.underlying236,
  a119:=Tryz.isAgg236,
  z119:=Tryz.sizeOf236,
  t124:=Tryz.underlying188,
  a124:=Tryz.isAgg188,
  z124:=Tryz.sizeOf188,
  v124:=Tryz.zeroValue188,
  t138:=Tryz.underlying238,
  a138:=Tryz.isAgg238,
  z138:=Tryz.sizeOf238,
  v138:=Tryz.zeroValue238,
  t139:=Tryz.underlying239,
  a139:=Tryz.isAgg239,
  z139:=Tryz.sizeOf239,
  v139:=Tryz.zeroValue239,
  g3:=by kernel_rfl,
  g4:=by kernel_rfl }

end Go.Proofs
namespace Go.X.St
open Go Go.X Go.RowKit

end Go.X.St

namespace Go.X.Nm
open Go Go.X Go.RowKit Go.X.Pl Go.X.St

def okC (b:UInt8):Bool:=decide (97≤b.toNat∧b.toNat≤122) || decide (48≤b.toNat∧b.toNat≤57)
def nmB (s:List UInt8):Bool:=decide (0 < s.length∧s.length≤12) && s.all okC
theorem strIx_at {s:List UInt8} {i:Nat} {b:UInt8} (h:s[i]? = some b):strIx s (i:Int)=((b.toNat:Nat):Int):=by
  unfold strIx
  rw [zo,List.getD_eq_getElem?_getD,h]
  rfl
theorem nameW (s:List UInt8) (M:Mem) :
    Meets Proofs.Tryz.prog 102 [.v (.string ⟨s.toArray⟩)] M fun r _ _=>r = .v (.bool (nmB s)):=by
  refine Meets.of_body [0,2,3,10,12,13,14,38] Proofs.Tryz.func102 rfl (by kernel_rfl) rfl fun w=>?_
  generalize hc:nmB s=c
  unfold nmB at hc
  by_cases h0:s=[]
  · subst h0
    rw [show c=false by rw [← hc]; rfl]
    simp only [Proofs.Tryz.f102,zz,zq,↓reduceIte,zx,zj,zy,zk,zw,zb,reduceCtorEq,zd,zf,zp,zm,zh,zu,zt,zn,zc,zl,za,ze,zo,zg,nzs]
  have d0:=eq_false h0
  have hl:=List.length_pos_iff.2 h0
  by_cases h1:12 < s.length
  · have d1:((12:Int) < (s.length:Int))=True:=eq_true (by omega)
    rw [show c=false by rw [← hc,decide_eq_false (by omega)]; rfl]
    simp only [Proofs.Tryz.f102,zz,zq,↓reduceIte,zx,zj,zy,zk,zw,zb,reduceCtorEq,zd,zf,zp,zm,zh,zu,zt,zn,zc,zl,za,ze,zo,zg,nzs,d0,d1]
  have d1:((12:Int) < (s.length:Int))=False:=eq_false (by omega)
  rw [decide_eq_true (by omega),Bool.true_and] at hc
  simp only [Proofs.Tryz.f102,zz,zq,↓reduceIte,zx,zj,zy,zk,zw,zb,reduceCtorEq,zd,zf,zp,zm,zh,zu,zt,zn,zc,zl,za,ze,zo,zg,nzs,d0,d1]
  refine LoopK.go (X:=Nat×Nat) (fun x=>([(0,true,.v (.string ⟨s.toArray⟩)),(12,true,.v (.int .i64 s.length)),(13,true,.v (.int .i64 (x.2:Int)))],[],M))
    (fun x=>x.1+x.2=s.length∧(s.drop x.2).all okC=c) (fun x=>x.1) (s.length,0) ⟨rfl,hc⟩ (Ent.of ?_) ?_
  · simp only [zq,↓reduceIte,zx,zj,zy,zk,zw,zb,reduceCtorEq,zd,zf,zp,zm,zh,zu,zt,zn,zc,zl,za,ze,zo,zg]
  rintro ⟨f,i⟩ ⟨g1,g3⟩
  simp only at g1 g3
  by_cases hil:i < s.length
  · have c1:((i:Int) < (s.length:Int))=True:=eq_true (by omega)
    obtain ⟨b,hb1,hd⟩:=l_drop_at (l:=s) (i:=i) hil
    have e1:=strIx_at hb1
    rw [hd,List.all_cons] at g3
    have hgo:okC b=true→(s.drop (i+1)).all okC=c:=fun h=>by rw [h,Bool.true_and] at g3; exact g3
    have hno:okC b=false→c=false:=fun h=>by rw [h,Bool.false_and] at g3; exact g3.symm
    by_cases a1:97≤b.toNat
    · have k1:((97:Int)≤((b.toNat:Nat):Int))=True:=eq_true (by omega)
      by_cases a2:b.toNat≤122
      · have k2:(((b.toNat:Nat):Int)≤122)=True:=eq_true (by omega)
        have ho:okC b=true:=by unfold okC; rw [decide_eq_true ⟨a1,a2⟩]; rfl
        simp only [zz,zq,↓reduceIte,zx,zj,zy,zk,zw,zb,reduceCtorEq,zd,zf,zp,zm,zh,zu,zt,zn,zc,zl,za,ze,zo,zg,nzs,c1,e1,k1,k2,inK,lo,hi]
        refine ⟨by omega,by omega,by omega,(f - 1,i+1),⟨⟨by simp only; omega,hgo ho⟩,by simp only; omega⟩,Ent.of ?_⟩
        simp only [zq,↓reduceIte,zx,zj,zy,zk,zw,zb,reduceCtorEq,zd,zf,zp,zm,zh,zu,zt,zn,zc,zl,za,ze,zo,zg,Int.natCast_add]
      · have k2:(((b.toNat:Nat):Int)≤122)=False:=eq_false (by omega)
        have k3:((48:Int)≤((b.toNat:Nat):Int))=True:=eq_true (by omega)
        have k4:(((b.toNat:Nat):Int)≤57)=False:=eq_false (by omega)
        have ho:okC b=false:=by unfold okC; rw [decide_eq_false (by omega),decide_eq_false (by omega)]; rfl
        simp only [zz,zq,↓reduceIte,zx,zj,zy,zk,zw,zb,reduceCtorEq,zd,zf,zp,zm,zh,zu,zt,zn,zc,zl,za,ze,zo,zg,nzs,c1,e1,k1,k2,k3,k4,hno ho,inK,lo,hi]
        omega
    · have k1:((97:Int)≤((b.toNat:Nat):Int))=False:=eq_false (by omega)
      by_cases a3:48≤b.toNat
      · have k3:((48:Int)≤((b.toNat:Nat):Int))=True:=eq_true (by omega)
        by_cases a4:b.toNat≤57
        · have k4:(((b.toNat:Nat):Int)≤57)=True:=eq_true (by omega)
          have ho:okC b=true:=by unfold okC; rw [decide_eq_false (by omega),decide_eq_true ⟨a3,a4⟩]; rfl
          simp only [zz,zq,↓reduceIte,zx,zj,zy,zk,zw,zb,reduceCtorEq,zd,zf,zp,zm,zh,zu,zt,zn,zc,zl,za,ze,zo,zg,nzs,c1,e1,k1,k3,k4,inK,lo,hi]
          refine ⟨by omega,by omega,by omega,by omega,(f - 1,i+1),⟨⟨by simp only; omega,hgo ho⟩,by simp only; omega⟩,Ent.of ?_⟩
          simp only [zq,↓reduceIte,zx,zj,zy,zk,zw,zb,reduceCtorEq,zd,zf,zp,zm,zh,zu,zt,zn,zc,zl,za,ze,zo,zg,Int.natCast_add]
        · have k4:(((b.toNat:Nat):Int)≤57)=False:=eq_false (by omega)
          have ho:okC b=false:=by unfold okC; rw [decide_eq_false (by omega),decide_eq_false (by omega)]; rfl
          simp only [zz,zq,↓reduceIte,zx,zj,zy,zk,zw,zb,reduceCtorEq,zd,zf,zp,zm,zh,zu,zt,zn,zc,zl,za,ze,zo,zg,nzs,c1,e1,k1,k3,k4,hno ho,inK,lo,hi]
          omega
      · have k3:((48:Int)≤((b.toNat:Nat):Int))=False:=eq_false (by omega)
        have ho:okC b=false:=by unfold okC; rw [decide_eq_false (by omega),decide_eq_false (by omega)]; rfl
        simp only [zz,zq,↓reduceIte,zx,zj,zy,zk,zw,zb,reduceCtorEq,zd,zf,zp,zm,zh,zu,zt,zn,zc,zl,za,ze,zo,zg,nzs,c1,e1,k1,k3,hno ho,inK,lo,hi]
        omega
  · have c1:((i:Int) < (s.length:Int))=False:=eq_false (by omega)
    rw [List.drop_eq_nil_of_le (by omega)] at g3
    rw [show c=true from g3.symm]
    simp only [zz,zq,↓reduceIte,zx,zj,zy,zk,zw,zb,reduceCtorEq,zd,zf,zp,zm,zh,zu,zt,zn,zc,zl,za,ze,zo,zg,nzs,c1]
/-! the reference's -/
def cs36:List UInt8:=[97,98,99,100,101,102,103,104,105,106,107,108,109,110,111,112,113,114,115,116,117,118,119,120,121,122,48,49,50,51,52,53,54,55,56,57]
theorem cs_ok (b:UInt8):cs36.contains b=okC b:=by
  have h : ∀ n,n < 256→cs36.contains (UInt8.ofNat n)=okC (UInt8.ofNat n):=by decide +kernel
  have:=h b.toNat (UInt8.toNat_lt b)
  rwa [UInt8.ofNat_toNat] at this
theorem dw_nil (p:UInt8→Bool) : ∀ l:List UInt8,l.dropWhile p=[]↔l.all p=true
  | []=>by simp
  | x :: l=>by
    rw [List.dropWhile_cons,List.all_cons]
    cases hp:p x with
    | true=>simpa using dw_nil p l
    | false=>simp
theorem trim_nil (s:List UInt8):decide (Lib.trimS s cs36=[])=s.all okC:=by
  unfold Lib.trimS Lib.trimRightS Lib.trimLeftS
  rw [show ((cs36:List UInt8).contains ·)=okC from funext cs_ok]
  rw [← List.all_reverse (l:=s)]
  have h1:=dw_nil okC s.reverse
  generalize s.reverse.all okC=c at *
  cases c with
  | true=>
    rw [h1.2 rfl]
    rfl
  | false=>
    refine decide_eq_false fun h=>?_
    rw [dw_nil,List.all_reverse] at h
    have h2:s.reverse.dropWhile okC≠[]:=fun e=>by cases h1.1 e
    obtain ⟨x,t,hx⟩:=List.exists_cons_of_ne_nil h2
    have h3:okC x=false:=by
      have:=List.head_dropWhile_not okC h2
      simpa [hx] using this
    rw [hx,List.all_cons,h3] at h
    cases h
theorem trim36 (s:List UInt8) (M:Mem) (hs:s.length≤9223372036854775807) :
    Meets Proofs.Tryz.prog 112 [.v (.string ⟨s.toArray⟩),.v (.string ⟨#[97,98,99,100,101,102,103,104,105,106,107,108,109,110,111,112,113,114,115,116,117,118,119,120,121,122,48,49,50,51,52,53,54,55,56,57]⟩)] M fun r _ _=>r = .v (.string ⟨(Lib.trimS s cs36).toArray⟩):=by
  refine Meets.ofCalls ⟨_,Proofs.Tryz.func112,by kernel_rfl,by kernel_rfl⟩ fun w=>?_
  exact Proofs.Any.strings_Trim_laid Proofs.Tryz.lays160 (by kernel_rfl) ⟨s.toArray⟩ ⟨#[97,98,99,100,101,102,103,104,105,106,107,108,109,110,111,112,113,114,115,116,117,118,119,120,121,122,48,49,50,51,52,53,54,55,56,57]⟩ w (by simpa [ByteArray.size] using hs) (by decide) (Proofs.ascii_of_all (by decide))
theorem ok_cases {b:UInt8} (h:okC b=true):(97≤b.toNat∧b.toNat≤122)∨(48≤b.toNat∧b.toNat≤57):=by
  unfold okC at h
  rw [Bool.or_eq_true,decide_eq_true_eq,decide_eq_true_eq] at h
  exact h
theorem name1 (b:UInt8) (M:Mem) (h:okC b=true) :
    Meets Proofs.Tryz.prog 114 [.v (.int .i32 (b.toNat:Int))] M fun r _ _=>r = .v (.bool false):=by
  refine Meets.of_body [0,2] Proofs.Tryz.func114 rfl (by kernel_rfl) rfl fun w=>?_
  have h':=ok_cases h
  have k0:(((b.toNat:Nat):Int) < 48)=False:=eq_false (by omega)
  have k2:((122:Int) < ((b.toNat:Nat):Int))=False:=eq_false (by omega)
  by_cases a:57 < b.toNat
  · have k1:((57:Int) < ((b.toNat:Nat):Int))=True:=eq_true (by omega)
    have k3:(((b.toNat:Nat):Int) < 97)=False:=eq_false (by omega)
    simp only [Proofs.Tryz.f114,zz,zq,↓reduceIte,zx,zj,zy,zk,zw,zb,reduceCtorEq,zd,zf,zp,zm,zh,zu,zt,zn,zc,zl,za,ze,zo,zg,nzs,k0,k1,k2,k3]
  · have k1:((57:Int) < ((b.toNat:Nat):Int))=False:=eq_false (by omega)
    simp only [Proofs.Tryz.f114,zz,zq,↓reduceIte,zx,zj,zy,zk,zw,zb,reduceCtorEq,zd,zf,zp,zm,zh,zu,zt,zn,zc,zl,za,ze,zo,zg,nzs,k0,k1,k2]
theorem idxF (s:List UInt8) (M:Mem) (h:s.all okC=true) (hs:s.length≤9223372036854775807) :
    Meets Proofs.Tryz.prog 177 [.v (.string ⟨s.toArray⟩),.fn 114 [],.v (.bool true)] M fun r _ _=>r = .v (.int .i64 (-1)):=by
  refine Meets.of_body [0,1,2,6,7,8,10,11,12,19] Proofs.Tryz.func177 rfl (by kernel_rfl) rfl fun w=>?_
  simp only [Proofs.Tryz.f177,zz,zq,↓reduceIte,zx,zj,zy,zk,zw,zb,reduceCtorEq,zd,zf,zp,zm,zh,zu,zt,zn,zc,zl,za,ze,zo,zg,nzs,sT]
  refine OpK.rangeStr (s:=⟨s.toArray⟩) rfl rfl rfl (by kernel_rfl) rfl fun b hb h0=>?_
  simp only [zz,zq,↓reduceIte,zx,zj,zy,zk,zw,zb,reduceCtorEq,zd,zf,zp,zm,zh,zu,zt,zn,zc,zl,za,ze,zo,zg,nzs,sT]
  refine LoopK.go (X:=Nat) (fun i=>([(1,true,.fn 114 []),(2,true,.v (.bool true)),(10,true,.v (ptrV b))],[],updM M b (.stringIter ⟨s.toArray⟩ i)))
    (fun i=>i≤s.length) (fun i=>s.length - i) 0 (Nat.zero_le _) (Ent.of ?_) ?_
  · simp only [zq,↓reduceIte,zx,zj,zy,zk,zw,zb,reduceCtorEq,zd,zf,zp,zm,zh,zu,zt,zn,zc,zl,za,ze,zo,zg]
  rintro i hi
  simp only [zz,zq,↓reduceIte,zx,zj,zy,zk,zw,zb,reduceCtorEq,zd,zf,zp,zm,zh,zu,zt,zn,zc,zl,za,ze,zo,zg,nzs,sT]
  by_cases hil:i < s.length
  · obtain ⟨c,hc,hd⟩:=l_drop_at (l:=s) (i:=i) hil
    have hok:=List.all_eq_true.1 h c (List.mem_of_getElem? hc)
    have hok':=ok_cases hok
    refine OpK.nextAscii (b:=b) (i:=i) (s:=s) rfl rfl rfl rfl (updM_at _ _ _) h0 hc (by omega) ?_
    simp only [zz,zq,↓reduceIte,zx,zj,zy,zk,zw,zb,reduceCtorEq,zd,zf,zp,zm,zh,zu,zt,zn,zc,zl,za,ze,zo,zg,nzs,sT,updM_upd]
    refine CallK.pure ⟨rfl,rfl⟩ rfl (name1 c _ hok) ?_
    simp only [zz,zq,↓reduceIte,zx,zj,zy,zk,zw,zb,reduceCtorEq,zd,zf,zp,zm,zh,zu,zt,zn,zc,zl,za,ze,zo,zg,nzs,sT]
    refine ⟨i+1,⟨by omega,by omega⟩,Ent.of ?_⟩
    simp only [zq,↓reduceIte,zx,zj,zy,zk,zw,zb,reduceCtorEq,zd,zf,zp,zm,zh,zu,zt,zn,zc,zl,za,ze,zo,zg]
  · refine OpK.nextEnd (b:=b) (i:=i) (s:=s) rfl rfl rfl rfl (updM_at _ _ _) (by omega) ?_
    simp only [zz,zq,↓reduceIte,zx,zj,zy,zk,zw,zb,reduceCtorEq,zd,zf,zp,zm,zh,zu,zt,zn,zc,zl,za,ze,zo,zg,nzs,sT]
theorem contF (s:List UInt8) (M:Mem) (h:s.all okC=true) (hs:s.length≤9223372036854775807) :
    Meets Proofs.Tryz.prog 113 [.v (.string ⟨s.toArray⟩),.fn 114 []] M fun r _ _=>r = .v (.bool false):=by
  refine Meets.of_body [0,1,4] Proofs.Tryz.func113 rfl (by kernel_rfl) rfl fun w=>?_
  simp only [Proofs.Tryz.f113,zz,zq,↓reduceIte,zx,zj,zy,zk,zw,zb,reduceCtorEq,zd,zf,zp,zm,zh,zu,zt,zn,zc,zl,za,ze,zo,zg,nzs]
  refine CallK.pure (s:=.v (.int .i64 (-1))) ⟨rfl,rfl⟩ rfl ?_ ?_
  · refine Meets.of_body [0,1,4] Proofs.Tryz.func154 rfl (by kernel_rfl) rfl fun w=>?_
    simp only [Proofs.Tryz.f154,zz,zq,↓reduceIte,zx,zj,zy,zk,zw,zb,reduceCtorEq,zd,zf,zp,zm,zh,zu,zt,zn,zc,zl,za,ze,zo,zg,nzs]
    refine CallK.pure ⟨rfl,rfl⟩ rfl (idxF s M h hs) ?_
    simp only [zz,zq,↓reduceIte,zx,zj,zy,zk,zw,zb,reduceCtorEq,zd,zf,zp,zm,zh,zu,zt,zn,zc,zl,za,ze,zo,zg,nzs]
  simp only [zz,zq,↓reduceIte,zx,zj,zy,zk,zw,zb,reduceCtorEq,zd,zf,zp,zm,zh,zu,zt,zn,zc,zl,za,ze,zo,zg,nzs]
theorem rnameW (s:List UInt8) (M:Mem) :
    Meets Proofs.Tryz.prog 72 [.v (.string ⟨s.toArray⟩)] M fun r _ _=>r = .v (.bool (nmB s)):=by
  refine Meets.of_body [0,2] Proofs.Tryz.func72 rfl (by kernel_rfl) rfl fun w=>?_
  generalize hc:nmB s=c
  unfold nmB at hc
  by_cases h0:0 < s.length
  rotate_left
  · have d0:((0:Int) < (s.length:Int))=False:=eq_false (by omega)
    rw [show c=false by rw [← hc,decide_eq_false (by omega)]; rfl]
    simp only [Proofs.Tryz.f72,zz,zq,↓reduceIte,zx,zj,zy,zk,zw,zb,reduceCtorEq,zd,zf,zp,zm,zh,zu,zt,zn,zc,zl,za,ze,zo,zg,nzs,d0]
  have d0:((0:Int) < (s.length:Int))=True:=eq_true (by omega)
  by_cases h1:12 < s.length
  · have d1:((s.length:Int) < 13)=False:=eq_false (by omega)
    rw [show c=false by rw [← hc,decide_eq_false (by omega)]; rfl]
    simp only [Proofs.Tryz.f72,zz,zq,↓reduceIte,zx,zj,zy,zk,zw,zb,reduceCtorEq,zd,zf,zp,zm,zh,zu,zt,zn,zc,zl,za,ze,zo,zg,nzs,d0,d1]
  have d1:((s.length:Int) < 13)=True:=eq_true (by omega)
  rw [decide_eq_true (by omega),Bool.true_and] at hc
  simp only [Proofs.Tryz.f72,zz,zq,↓reduceIte,zx,zj,zy,zk,zw,zb,reduceCtorEq,zd,zf,zp,zm,zh,zu,zt,zn,zc,zl,za,ze,zo,zg,nzs,d0,d1]
  refine CallK.pure ⟨rfl,rfl⟩ rfl (trim36 s M (by omega)) ?_
  have ht:=trim_nil s
  rw [hc] at ht
  cases c with
  | false=>
    have d2:(Lib.trimS s cs36=[])=False:=eq_false (of_decide_eq_false ht)
    simp only [zz,zq,↓reduceIte,zx,zj,zy,zk,zw,zb,reduceCtorEq,zd,zf,zp,zm,zh,zu,zt,zn,zc,zl,za,ze,zo,zg,nzs,d2]
  | true=>
    have d2:(Lib.trimS s cs36=[])=True:=eq_true (of_decide_eq_true ht)
    simp only [zz,zq,↓reduceIte,zx,zj,zy,zk,zw,zb,reduceCtorEq,zd,zf,zp,zm,zh,zu,zt,zn,zc,zl,za,ze,zo,zg,nzs,d2]
    refine CallK.pure ⟨rfl,rfl⟩ rfl (contF s M hc (by omega)) ?_
    simp only [zz,zq,↓reduceIte,zx,zj,zy,zk,zw,zb,reduceCtorEq,zd,zf,zp,zm,zh,zu,zt,zn,zc,zl,za,ze,zo,zg,nzs]
end Go.X.Nm

namespace Go.X
open Go Go.RowKit

theorem beqB (a b:List UInt8):((⟨a.toArray⟩:ByteArray) == ⟨b.toArray⟩)=decide (a=b):=by
  show (a.toArray == b.toArray)=_
  by_cases hab:a=b
  · subst hab; simp
  · rw [decide_eq_false hab,beq_eq_false_iff_ne]
    intro e
    exact hab (by simpa using congrArg Array.toList e)
theorem KeyT.string {P:Program} {kt:TypeId} (hd:P.underlying kt=some .string):KeyT P kt (fun s:List UInt8=>Value.string ⟨s.toArray⟩) where
  known:=⟨_,hd⟩
  check:=fun e w a=>MapKept.run_checkKey hd (by simp [MapKept.IsKey]) e 9999
  eq:=fun w a b=>by
    have h:=flat_run (P:=P) (w:=w) 1 9999 kt [.str] (by simp [flatT,hd]) [.string ⟨a.toArray⟩] [.string ⟨b.toArray⟩] ⟨trivial,trivial⟩
    have hg:aggT P kt=false:=by simp [aggT,hd]
    simp only [packV,hg,eqLv,eqV,bl,Bool.and_true] at h
    exact h
  now:=fun d a b h=>by
    rw [hd] at h
    cases h
    left
    show some ((⟨a.toArray⟩:ByteArray) == ⟨b.toArray⟩)=_
    congr 1
    exact beqB a b
  same:=fun a=>by
    have:=beqB a a
    rw [decide_eq_true rfl] at this
    exact this
abbrev Id3:=Bool×Int×Int
def encId (i:Id3):Value:=.agg #[.bool i.1,.int .i64 i.2.1,.int .i64 i.2.2]
theorem ck3 (e:Bool) (n:Nat) (w:World) (a:Id3):(Instr.checkKey e (n+2) 101 (encId a)).run Proofs.Tryz.prog w = .ok () w:=by
  have hu:=Proofs.Tryz.underlying101
  have hb:=Proofs.Tryz.underlying4
  have hi:=Proofs.Tryz.underlying3
  have c0 : ∀ x:Bool,(Instr.checkKey e (n+1) 4 (.bool x)).run Proofs.Tryz.prog w = .ok () w:=fun x=>by simp only [Instr.checkKey,Sem.run_bind,run_underlying hb,Result.andThen_ok,Sem.run_pure]
  have c1 : ∀ x:Int,(Instr.checkKey e (n+1) 3 (.int .i64 x)).run Proofs.Tryz.prog w = .ok () w:=fun x=>by simp only [Instr.checkKey,Sem.run_bind,run_underlying hi,Result.andThen_ok,Sem.run_pure]
  rw [Instr.checkKey]
  simp only [encId,Sem.run_bind,run_underlying hu,Result.andThen_ok]
  have pb : ∀ off,off < 3→(part 4 #[.bool a.1,.int .i64 a.2.1,.int .i64 a.2.2] off).run Proofs.Tryz.prog w = .ok ([.bool a.1,.int .i64 a.2.1,.int .i64 a.2.2].getD off undef) w:=fun off ho=>
    run_part_list (n:=1) (g:=false) (l:=[.bool a.1,.int .i64 a.2.1,.int .i64 a.2.2]) (Option.isSome_iff_exists.1 (by kernel_rfl)) ⟨_,hb⟩ (by kernel_rfl) (by kernel_rfl) (by simpa using ho)
  have pi : ∀ off,off < 3→(part 3 #[.bool a.1,.int .i64 a.2.1,.int .i64 a.2.2] off).run Proofs.Tryz.prog w = .ok ([.bool a.1,.int .i64 a.2.1,.int .i64 a.2.2].getD off undef) w:=fun off ho=>
    run_part_list (n:=1) (g:=false) (l:=[.bool a.1,.int .i64 a.2.1,.int .i64 a.2.2]) (Option.isSome_iff_exists.1 (by kernel_rfl)) ⟨_,hi⟩ (by kernel_rfl) (by kernel_rfl) (by simpa using ho)
  simp [pb,pi,c0,c1,Result.andThen]
theorem KeyT.id:KeyT Proofs.Tryz.prog 101 encId where
  known:=⟨_,Proofs.Tryz.underlying101⟩
  check:=fun e w a=>ck3 e 9998 w a
  eq:=fun w a b=>by
    obtain ⟨a0,a1,a2⟩:=a
    obtain ⟨b0,b1,b2⟩:=b
    have h:=flat_run (P:=Proofs.Tryz.prog) (w:=w) 8 9992 101 [.bool,.int .i64,.int .i64] (by kernel_rfl) [.bool a0,.int .i64 a1,.int .i64 a2] [.bool b0,.int .i64 b1,.int .i64 b2] ⟨trivial,⟨rfl,rfl⟩,⟨rfl,rfl⟩,trivial⟩
    have hg:aggT Proofs.Tryz.prog 101=true:=by kernel_rfl
    simp only [packV,hg,if_true] at h
    refine Eq.trans h ?_
    congr 1
    simp only [eqLv,eqV,Bool.and_true,Prod.mk.injEq,Bool.decide_and,Bool.beq_eq_decide_eq]
  now:=fun d a b h=>by
    rw [Proofs.Tryz.underlying101] at h
    cases h
    right
    rfl
  same:=fun a=>by
    show (Instr.sameBits (9999+1) _ _)=true
    rw [encId,Instr.sameBits]
    simp [Instr.sameBits]
end Go.X

