/- Contracts of functions and the logic that they are proved in (4 texts in one). Conditions: none. -/
import Derived.Shelf.Lays
import Derived.Lib.Builder
import Derived.Shelf.Strings.Builder1
import Derived.Test.YthafjlokddpjfaaGreatDoorMg7
set_option linter.unusedSimpArgs false
set_option linter.unusedVariables false
set_option maxHeartbeats 4000000
set_option maxRecDepth 20000
namespace Go.Proofs
open Go.Shelf
def Tryz.lays166_ren:Go.Shelf.Ren:=⟨fun | 166=>13 | 240=>27 | 276=>52 | n=>n,fun | 70=>49 | 9=>9 | 3=>3 | 75=>54 | 0=>0 | 72=>52 | 37=>50 | 4=>4 | 164=>106 | 80=>58 | 5=>5 | 20=>20 | n=>n,fun | n=>n⟩
theorem Tryz.lays166:Go.Proofs.Lays.n166 Tryz.prog Tryz.lays166_ren:={
 mixed:=by kernel_rfl,
 f166:=Tryz.func13.trans (congrArg some (by kernel_rfl)),
 f240:=Tryz.func27.trans (congrArg some (by kernel_rfl)),
 f276:=Tryz.func52.trans (congrArg some (by kernel_rfl)),
 t0:=Tryz.underlying0,
 a0:=Tryz.isAgg0,
 z0:=Tryz.sizeOf0,
 v0:=Tryz.zeroValue0,
 t3:=Tryz.underlying3,
 a3:=Tryz.isAgg3,
 z3:=Tryz.sizeOf3,
 v3:=Tryz.zeroValue3,
 t4:=Tryz.underlying4,
 a4:=Tryz.isAgg4,
 z4:=Tryz.sizeOf4,
 v4:=Tryz.zeroValue4,
 t9:=Tryz.underlying9,
 a9:=Tryz.isAgg9,
 z9:=Tryz.sizeOf9,
 v9:=Tryz.zeroValue9,
 t20:=Tryz.underlying20,
 a20:=Tryz.isAgg20,
 z20:=Tryz.sizeOf20,
 v20:=Tryz.zeroValue20,
 t37:=Tryz.underlying50,
 a37:=Tryz.isAgg50,
 z37:=Tryz.sizeOf50,
 v37:=Tryz.zeroValue50,
 t70:=Tryz.underlying49,
 a70:=Tryz.isAgg49,
 z70:=Tryz.sizeOf49,
 v70:=Tryz.zeroValue49,
 t72:=Tryz.underlying52,
 a72:=Tryz.isAgg52,
 z72:=Tryz.sizeOf52,
 v72:=Tryz.zeroValue52,
 t75:=Tryz.underlying54,
 a75:=Tryz.isAgg54,
 z75:=Tryz.sizeOf54,
 v75:=Tryz.zeroValue54,
 t164:=Tryz.underlying106,
 a164:=Tryz.isAgg106,
 z164:=Tryz.sizeOf106,
 v164:=Tryz.zeroValue106 }

def Tryz.lays169_ren:Go.Shelf.Ren:=⟨fun | 169=>16 | n=>n,fun | 70=>49 | 9=>9 | 0=>0 | 72=>52 | 37=>50 | 127=>84 | 3=>3 | 5=>5 | n=>n,fun | n=>n⟩
theorem Tryz.lays169:Go.Proofs.Lays.n169 Tryz.prog Tryz.lays169_ren:={
 mixed:=by kernel_rfl,
 f169:=Tryz.func16.trans (congrArg some (by kernel_rfl)),
 t0:=Tryz.underlying0,
 a0:=Tryz.isAgg0,
 z0:=Tryz.sizeOf0,
 v0:=Tryz.zeroValue0,
 t3:=Tryz.underlying3,
 a3:=Tryz.isAgg3,
 z3:=Tryz.sizeOf3,
 v3:=Tryz.zeroValue3,
 t9:=Tryz.underlying9,
 a9:=Tryz.isAgg9,
 z9:=Tryz.sizeOf9,
 v9:=Tryz.zeroValue9,
 t37:=Tryz.underlying50,
 a37:=Tryz.isAgg50,
 z37:=Tryz.sizeOf50,
 v37:=Tryz.zeroValue50,
 t70:=Tryz.underlying49,
 a70:=Tryz.isAgg49,
 z70:=Tryz.sizeOf49,
 v70:=Tryz.zeroValue49,
 t72:=Tryz.underlying52,
 a72:=Tryz.isAgg52,
 z72:=Tryz.sizeOf52,
 v72:=Tryz.zeroValue52,
 t127:=Tryz.underlying84,
 a127:=Tryz.isAgg84,
 z127:=Tryz.sizeOf84,
 v127:=Tryz.zeroValue84 }

theorem Tryz.extra166:Builder.Extra Tryz.prog Tryz.lays166_ren:={ sizeBuilder:=by kernel_rfl,liesBuilder:=by kernel_rfl,t5:=Tryz.underlying5,a5:=Tryz.isAgg5,z5:=Tryz.sizeOf5,v5:=Tryz.zeroValue5,infoByte:=by kernel_rfl,cellsByte:=by kernel_rfl,sizeByte:=by kernel_rfl,neB5:=by decide }
theorem Tryz.extra169:Builder.Extra Tryz.prog Tryz.lays169_ren:={ sizeBuilder:=by kernel_rfl,liesBuilder:=by kernel_rfl,t5:=Tryz.underlying5,a5:=Tryz.isAgg5,z5:=Tryz.sizeOf5,v5:=Tryz.zeroValue5,infoByte:=by kernel_rfl,cellsByte:=by kernel_rfl,sizeByte:=by kernel_rfl,neB5:=by decide }
end Go.Proofs
namespace Go.X
open Go Go.RowKit Go.Shelf

/-- a builder lies at block b and holds the bytes l -/
structure Bld (E:Env) (T e:TypeId) (b:Nat) (l:List UInt8) (M:Mem):Prop where
 base:E.w0.heap.size≤b
 old : ∀ c,E.M0 c≠none→c < b
 le:E.M0.le M
 is : ∀ w,M.on w→Lib.IsBuilder T e b b (Lib.byteCells l) w

section
variable {E:Env} {σ:Sig} {H:HS} {M:Mem} {a:Act} {w:World} {ν:Nat→Value} {K:KP} {o:Oper}

/-- the call's own memory is let go -/
theorem Heap.drop (hh:Heap E ν H M w):Heap E ν [] M w:=
 { holds:=(fun p hp=>by cases hp),nodup:=List.nodup_nil,apart:=(fun b hb=>by cases hb),mem:=hh.mem,below:=hh.below,le0:=hh.le0,fresh:=hh.fresh,one:=hh.one }
variable {ρ:Ren}
end
end Go.X

namespace Go.X
open Go Go.RowKit Go.Shelf

def isU8:Value→Bool | .int .u8 _=>true | _=>false
theorem u8_str (s:ByteArray) : ∀ x ∈ Lib.strCells s,isU8 x=true:=fun x hx=>by
 unfold Lib.strCells at hx
 obtain ⟨b,_,rfl⟩:=List.mem_map.1 hx
 rfl
theorem u8_zero (n:Nat) : ∀ x ∈ (Builtin.zeroCells (Value.int .u8 0).cells n).toList,isU8 x=true:=fun x hx=>by
 unfold Builtin.zeroCells at hx
 rw [Array.toList_map] at hx
 obtain ⟨i,_,rfl⟩:=List.mem_map.1 hx
 have:(Value.int .u8 0).cells = #[.int .u8 0]:=rfl
 rw [this]
 have:i % (#[Value.int .u8 0]:Array Value).size=0:=Nat.mod_one i
 rw [this]
 rfl
/-- all cells of the row are bytes -/
def u8At (w:World) (e:TypeId) (v:Value):Prop:=∀ g,v.ownBlock=some g → ∃ cur,w.heap[g]? = some (.cells cur e (0,0)) ∧ ∀ x ∈ cur.toList,isU8 x=true
/-- the row is the old one, or new -/
def Fr8 (w:World) (v v':Value):Prop:=∀ g,v'.ownBlock=some g→v.ownBlock=some g∨w.heap.size≤g
theorem u8_three {xs ys:List Value} {n:Nat} (hx : ∀ x ∈ xs,isU8 x=true) (hy : ∀ x ∈ ys,isU8 x=true) : ∀ x ∈ (xs.toArray++ys.toArray++Builtin.zeroCells (Value.int .u8 0).cells n).toList,isU8 x=true:=fun x h=>by
 simp only [Array.toList_append,List.mem_append] at h
 rcases h with (h | h) | h
 · exact hx x h
 · exact hy x h
 · exact u8_zero n x h
theorem u8_xs {w:World} {base n:Nat} {e:TypeId} {v:Value} {xs:List Value} (ho:w.ownsRow base e 1 v n xs) (hu:u8At w e v) : ∀ x ∈ xs,isU8 x=true:=by
 rcases ho.2 with ⟨rfl,rfl⟩ | ⟨g,cap,cur,rfl,hbg,hgg,hnc,hcm,hcs,htake⟩
 · have:xs=[]:=List.eq_nil_of_length_eq_zero (by simpa using ho.1)
   subst this
   exact fun x hx=>(by cases hx)
 · obtain ⟨cur',h1,h2⟩:=hu g rfl
   rw [hgg] at h1
   cases h1
   intro x hx
   rw [← htake] at hx
   exact h2 x (List.mem_of_mem_take hx)
section
variable {P:Program} {ρ:Ren}
theorem app_str8 (w:World) (base:Nat) (t u ty e:TypeId) (i:TypeInfo) (ht:P.underlying t=some (.slice e)) (hu:P.underlying u=some .string) (hi:P.info? e=some i) (hz:i.zero=some (.int .u8 0))
  (hsize:i.size=1) (hby:i.bytes=1) (v:Value) (n:Nat) (xs:List Value) (hown:w.ownsRow base e 1 v n xs) (hu8:u8At w e v) (s:ByteArray)
  (h63:n+s.size≤maxLen) (hbytes:n+s.size≤140737488355328) (hbase:base≤w.heap.size) :
  ∃ v' w',(Builtin.append_ #[t,u] ty #[v,.string s]).run P w = .ok v' w'∧w'.ownsRow base e 1 v' (n+s.size) (xs++Lib.strCells s)∧w.grownBy w' v.ownBlock∧u8At w' e v'∧Fr8 w v v':=by
 obtain ⟨v',w',hr,ho,hg,hn⟩:=Lib.run_append_own_string (P:=P) w base t u ty e i ht hu hi hz hsize hby v n xs hown s h63 hbytes hbase
 refine ⟨v',w',hr,ho,hg,?_⟩
 have hx8:=u8_xs hown hu8
 have hsmall:n+s.size≤9223372036854775807:=by simp only [maxLen] at h63; omega
 have hxl:xs.length=n:=by simpa using hown.1
 rcases hown.2 with ⟨rfl,rfl⟩ | ⟨g,cap,cur,rfl,hbg,hgg,hnc,hcm,hcs,htake⟩
 · have hx:xs=[]:=List.eq_nil_of_length_eq_zero hxl
   subst hx
   by_cases hm:s.size=0
   · rw [hn.2 ⟨rfl,hm⟩]
     exact ⟨fun g h=>by simp [Value.ownBlock] at h,fun g h=>by simp [Value.ownBlock] at h⟩
   · have hr2:=run_append_nil_string (P:=P) w t u ty e i (.int .u8 0) ht hu hi hz s (by omega) (by omega) (by rw [hby]; omega)
     rw [hr] at hr2
     cases hr2
     refine ⟨fun g h=>?_,fun g h=>.inr (by simp only [Value.ownBlock,Option.some.injEq] at h; omega)⟩
     simp only [Value.ownBlock,Option.some.injEq] at h
     subst h
     refine ⟨_,heap_alloc_new w.drew _,fun x hx=>?_⟩
     rw [Array.toList_append,List.mem_append] at hx
     rcases hx with hx | hx
     · rw [Array.toList_map] at hx
       obtain ⟨b,_,rfl⟩:=List.mem_map.1 hx
       rfl
     · exact u8_zero _ x hx
 · obtain ⟨cur',h1,h2⟩:=hu8 g rfl
   rw [hgg] at h1
   cases h1
   by_cases hroom:n+s.size≤cap
   · have hcs':cur.size=cap:=by simpa using hcs
     have hr2:=Lib.run_append_room_string (P:=P) w t u ty e i ht hu hi hsize g n cap cur hgg s hroom (by omega)
     rw [hr] at hr2
     cases hr2
     refine ⟨fun g' h=>?_,fun g' h=>.inl h⟩
     simp only [Value.ownBlock,Option.some.injEq] at h
     subst h
     refine ⟨_,setRow_heap w g cur _ e _ hgg,fun x hx=>?_⟩
     simp only [List.mem_append] at hx
     rcases hx with (hx | hx) | hx
     · exact h2 x (List.mem_of_mem_take hx)
     · exact u8_str s x hx
     · exact h2 x (List.mem_of_mem_drop hx)
   · have holds : ∀ j u,xs[j]? = some u→w.cell? ((⟨g,0,none⟩:Addr).add j)=some u:=hown.cells (g:=g) rfl
     have hr2:=Lib.run_append_grow_string (P:=P) w t u ty e i (.int .u8 0) ht hu hi hz ⟨g,0,none⟩ n cap xs (by rw [hsize]; simpa using hxl) holds s (by omega) (by omega) (by rw [hby]; exact growslice_fits (by omega) (by omega))
     rw [hr] at hr2
     cases hr2
     refine ⟨fun g' h=>?_,fun g' h=>.inr (by simp only [Value.ownBlock,Option.some.injEq] at h; omega)⟩
     simp only [Value.ownBlock,Option.some.injEq] at h
     subst h
     exact ⟨_,heap_alloc_new w.drew _,u8_three hx8 (u8_str s)⟩
theorem app_row8 (w:World) (base:Nat) (t ty e:TypeId) (i:TypeInfo) (ht:P.underlying t=some (.slice e)) (hi:P.info? e=some i) (hz:i.zero=some (.int .u8 0))
  (hsize:i.size=1) (hby:i.bytes=1) (v:Value) (n:Nat) (xs:List Value) (hown:w.ownsRow base e 1 v n xs) (hu8:u8At w e v)
  (a:Addr) (c:Nat) (x:Int) (hnews:w.cell? a=some (.int .u8 x))
  (h63:n+1≤maxLen) (hbytes:n+1≤140737488355328) (hbase:base≤w.heap.size) :
  ∃ v' w',(Builtin.append_ #[t,t] ty #[v,.slice (some a) 1 c]).run P w = .ok v' w'∧w'.ownsRow base e 1 v' (n+1) (xs++[.int .u8 x])∧w.grownBy w' v.ownBlock∧u8At w' e v'∧Fr8 w v v':=by
 have hne : ∀ j u,[Value.int .u8 x][j]? = some u→w.cell? (a.add j)=some u:=fun j u hj=>by
  match j,hj with
  | 0,hj=>
    simp at hj
    subst hj
    have:a.add 0=a:=by unfold Addr.add; split <;> simp_all
    rw [this]
    exact hnews
 have hn8 : ∀ y ∈ [Value.int .u8 x],isU8 y=true:=fun y hy=>by
  simp only [List.mem_singleton] at hy
  subst hy
  rfl
 have hl:[Value.int .u8 x].length=1 * i.size:=by rw [hsize]; rfl
 have h1c : ∀ u ∈ [Value.int .u8 x],u.oneCell'=true:=fun y hy=>by
  simp only [List.mem_singleton] at hy
  subst hy
  rfl
 obtain ⟨v',w',hr,ho,hg,hn⟩:=run_append_own (P:=P) w base t ty e i (.int .u8 0) 1 1 ht hi hz hsize hby rfl (by decide) v n xs hown a 1 c [.int .u8 x] rfl hne h1c h63 (by omega) hbase
 refine ⟨v',w',hr,ho,hg,?_⟩
 have hx8:=u8_xs hown hu8
 have hsmall:n+1≤9223372036854775807:=by simp only [maxLen] at h63; omega
 have hxl:xs.length=n:=by simpa using hown.1
 rcases hown.2 with ⟨rfl,rfl⟩ | ⟨g,cap,cur,rfl,hbg,hgg,hnc,hcm,hcs,htake⟩
 · have hx:xs=[]:=List.eq_nil_of_length_eq_zero hxl
   subst hx
   have hr2:=run_append_nil (P:=P) w t ty e i (.int .u8 0) ht hi hz a 1 c [.int .u8 x] hl hne (by omega) (by omega) (by rw [hby]; omega)
   rw [hr] at hr2
   cases hr2
   refine ⟨fun g h=>?_,fun g h=>.inr (by simp only [Value.ownBlock,Option.some.injEq] at h; omega)⟩
   simp only [Value.ownBlock,Option.some.injEq] at h
   subst h
   refine ⟨_,heap_alloc_new w.drew _,fun y hy=>?_⟩
   rw [Array.toList_append,List.mem_append] at hy
   rcases hy with hy | hy
   · exact hn8 y hy
   · exact u8_zero _ y hy
 · obtain ⟨cur',h1,h2⟩:=hu8 g rfl
   rw [hgg] at h1
   cases h1
   by_cases hroom:n+1≤cap
   · have hcs':cur.size=cap:=by simpa using hcs
     have hr2:=run_append_room (P:=P) w t ty e i ht hi g n cap cur hgg a 1 c [.int .u8 x] hl hne h1c hroom (by rw [hsize]; simp; omega)
     rw [hr] at hr2
     cases hr2
     refine ⟨fun g' h=>?_,fun g' h=>.inl h⟩
     simp only [Value.ownBlock,Option.some.injEq] at h
     subst h
     refine ⟨_,setRow_heap w g cur _ e _ hgg,fun y hy=>?_⟩
     simp only [List.mem_append] at hy
     rcases hy with (hy | hy) | hy
     · exact h2 y (List.mem_of_mem_take hy)
     · exact hn8 y hy
     · exact h2 y (List.mem_of_mem_drop hy)
   · have holds : ∀ j u,xs[j]? = some u→w.cell? ((⟨g,0,none⟩:Addr).add j)=some u:=hown.cells (g:=g) rfl
     have hr2:=run_append_grow (P:=P) w t ty e i (.int .u8 0) ht hi hz ⟨g,0,none⟩ n cap xs (by rw [hsize]; simpa using hxl) holds a 1 c [.int .u8 x] hl hne (by omega) (by omega) (growslice_fits (by omega) (by rw [hby]; omega))
     rw [hr] at hr2
     cases hr2
     refine ⟨fun g' h=>?_,fun g' h=>.inr (by simp only [Value.ownBlock,Option.some.injEq] at h; omega)⟩
     simp only [Value.ownBlock,Option.some.injEq] at h
     subst h
     exact ⟨_,heap_alloc_new w.drew _,u8_three hx8 hn8⟩

/-- a builder at b: its two cells; its row, whose cells are bytes -/
structure B8 (T e:TypeId) (B b:Nat) (p v:Value) (bs:List Value) (w:World):Prop where
 lo:B≤b
 here:w.heap[b]? = some (.cells #[p,v] T (0,0))
 own:w.ownsRow B e 1 v bs.length bs
 u8:u8At w e v
 ne:v.ownBlock≠some b
theorem B8.at_ {T e B b p v bs} {w:World} (h:B8 T e B b p v bs w):Lib.BuilderAt T e B b p bs w:=⟨h.lo,v,h.here,h.own,h.ne⟩
/-- all that is neither of the two blocks stands -/
def Else (b:Nat) (v:Value) (w w':World):Prop:=∀ k,k < w.heap.size→k≠b→v.ownBlock≠some k→w'.heap[k]? = w.heap[k]?

theorem copy8 (L:Proofs.Lays.n240 P ρ) (X:Proofs.Builder.X72 P ρ) {B b:Nat} {p v:Value} {bs:List Value} {w:World} (h:B8 (ρ.t 72) (ρ.t 5) B b p v bs w) (hp:p = .pointer none∨p = .pointer (some ⟨b,0,none⟩)) :
  Calls P (ρ.f 240) #[.pointer (some ⟨b,0,none⟩)] w fun e w'=>e = .returned (.tuple #[])∧B8 (ρ.t 72) (ρ.t 5) B b (.pointer (some ⟨b,0,none⟩)) v bs w'∧Below B w w'∧w.heap.size≤w'.heap.size∧Else b v w w':=by
 rcases hp with rfl | rfl
 · refine (Proofs.Any.Builder_copyCheck_fresh L X b w h.at_.cell0 h.at_.shape h.at_.frozen0).mono ?_
   rintro e w' ⟨rfl,rfl⟩
   have hk : ∀ k,k≠b→(w.setCell ⟨b,0,none⟩ (.pointer (some ⟨b,0,none⟩))).heap[k]? = w.heap[k]?:=fun k hk=>Below.heap_setCell _ _ _ _ (by simpa using hk)
   have hgr:w.grownBy (w.setCell ⟨b,0,none⟩ (.pointer (some ⟨b,0,none⟩))) (some b):=⟨rfl,rfl,rfl,by simp [World.setCell],fun k _ h2=>hk k (fun e=>h2 (by simp [e]))⟩
   refine ⟨rfl,⟨h.lo,?_,h.own.kept hgr (.inr h.ne),fun g hg=>?_,h.ne⟩,(Below.refl B w).setCell (p:=⟨b,0,none⟩) h.lo _,by simp [World.setCell],fun k _ h2 _=>hk k h2⟩
   · have:=h.here
     simp [World.setCell,Array.getElem?_modify,this]
   · obtain ⟨cur,h1,h2⟩:=h.u8 g hg
     exact ⟨cur,by rw [hk g (fun e=>h.ne (by rw [hg,e]))]; exact h1,h2⟩
 · refine (Proofs.Any.Builder_copyCheck_used L X b w h.at_.cell0).mono ?_
   rintro e w' ⟨rfl,rfl⟩
   exact ⟨rfl,h,Below.refl B _,Nat.le_refl _,fun _ _ _ _=>rfl⟩
end
end Go.X
namespace Go.Proofs
open Go.Shelf Go.RowKit Go.X
variable {P:Program} {ρ:Ren}
theorem B8.put {T e:TypeId} {B b:Nat} {p v v':Value} {bs':List Value} {w:World} (hB:B≤b) (hb:w.heap[b]? = some (.cells #[p,v] T (0,0))) (hown:w.ownsRow B e 1 v' bs'.length bs') (hu:u8At w e v') (hTe:T≠e) :
  B8 T e B b p v' bs' (w.setCell ⟨b,1,none⟩ v'):=by
 have hne:v'.ownBlock≠some b:=Lib.ownBlock_ne hown hb hTe
 have hk : ∀ k,k≠b→(w.setCell ⟨b,1,none⟩ v').heap[k]? = w.heap[k]?:=fun k hk=>Below.heap_setCell _ _ _ _ (by simpa using hk)
 refine ⟨hB,by simp [World.setCell,Array.getElem?_modify,hb],hown.kept (row:=some b) ⟨rfl,rfl,rfl,by simp [World.setCell],fun k _ h=>hk k (fun e=>h (by simp [e]))⟩ (Or.inr hne),fun g hg=>?_,hne⟩
 obtain ⟨cur,h1,h2⟩:=hu g hg
 exact ⟨cur,by rw [hk g (fun e=>hne (by rw [hg,e]))]; exact h1,h2⟩
theorem wpList_app_str8 {ops:Array Oper} {rest:List Oper} {o:Oper} {a:Act} {Q:Exit→Act→World→Prop} {w:World} (hgd:o.guard=none) (sl x:Operand) (t u:TypeId)
  (ho:o.op = .call { callee:=.builtin .append,args:=#[sl,x],argTypes:=#[t,u] })
  (base:Nat) (e:TypeId) (i:TypeInfo) (ht:P.underlying t=some (.slice e)) (hu:P.underlying u=some .string) (hi:P.info? e=some i) (hz:i.zero=some (.int .u8 0))
  (hsize:i.size=1) (hby:i.bytes=1) (v:Value) (n:Nat) (xs:List Value) (hs:a.eval sl=v) (hown:w.ownsRow base e 1 v n xs) (hu8:u8At w e v) (s:ByteArray) (hx:a.eval x = .string s)
  (h63:n+s.size≤maxLen) (hbytes:n+s.size≤140737488355328) (hbase:base≤w.heap.size)
  (h : ∀ v' w',w'.ownsRow base e 1 v' (n+s.size) (xs++Lib.strCells s)→w.grownBy w' v.ownBlock→u8At w' e v'→Fr8 w v v'→wpList P ops Q rest (a.put o.dst v') w'):wpList P ops Q (o :: rest) a w:=by
 refine wpList_plain hgd fun K hK=>?_
 obtain ⟨v',w',hr,h2,h3,h4,h5⟩:=app_str8 (P:=P) w base t u o.type e i ht hu hi hz hsize hby v n xs hown hu8 s h63 hbytes hbase
 unfold Oper.wp execOp
 simp only [ho,resolve,invoke,builtin,Sem.run_bind,Sem.run_pure,Result.andThen_ok,List.map_toArray,List.map_cons,List.map_nil,hs,hx,hr]
 exact hK _ _ (h v' w' h2 h3 h4 h5)
theorem wpList_app_row8 {ops:Array Oper} {rest:List Oper} {o:Oper} {a:Act} {Q:Exit→Act→World→Prop} {w:World} (hgd:o.guard=none) (sl x:Operand) (t:TypeId)
  (ho:o.op = .call { callee:=.builtin .append,args:=#[sl,x],argTypes:=#[t,t] })
  (base:Nat) (e:TypeId) (i:TypeInfo) (ht:P.underlying t=some (.slice e)) (hi:P.info? e=some i) (hz:i.zero=some (.int .u8 0))
  (hsize:i.size=1) (hby:i.bytes=1) (v:Value) (n:Nat) (xs:List Value) (hs:a.eval sl=v) (hown:w.ownsRow base e 1 v n xs) (hu8:u8At w e v) (ad:Addr) (c:Nat) (y:Int) (hx:a.eval x = .slice (some ad) 1 c) (hnews:w.cell? ad=some (.int .u8 y))
  (h63:n+1≤maxLen) (hbytes:n+1≤140737488355328) (hbase:base≤w.heap.size)
  (h : ∀ v' w',w'.ownsRow base e 1 v' (n+1) (xs++[.int .u8 y])→w.grownBy w' v.ownBlock→u8At w' e v'→Fr8 w v v'→wpList P ops Q rest (a.put o.dst v') w'):wpList P ops Q (o :: rest) a w:=by
 refine wpList_plain hgd fun K hK=>?_
 obtain ⟨v',w',hr,h2,h3,h4,h5⟩:=app_row8 (P:=P) w base t o.type e i ht hi hz hsize hby v n xs hown hu8 ad c y hnews h63 hbytes hbase
 unfold Oper.wp execOp
 simp only [ho,resolve,invoke,builtin,Sem.run_bind,Sem.run_pure,Result.andThen_ok,List.map_toArray,List.map_cons,List.map_nil,hs,hx,hr]
 exact hK _ _ (h v' w' h2 h3 h4 h5)

set_option maxHeartbeats 2000000 in
set_option maxRecDepth 100000 in
theorem bldStr8 (L:Lays.n166 P ρ) (X:Builder.Extra P ρ) {B b:Nat} {p v:Value} {bs:List Value} (s:ByteArray) {w:World} (h:B8 (ρ.t 72) (ρ.t 5) B b p v bs w) (hp:p = .pointer none∨p = .pointer (some ⟨b,0,none⟩)) (hlen:bs.length+s.size≤140737488355328) (hBw:B≤w.heap.size) :
  Calls P (ρ.f 166) #[.pointer (some ⟨b,0,none⟩),.string s] w fun e w'=>e = .returned (.tuple #[.int .i64 s.size,.nilIface]) ∧ ∃ v',B8 (ρ.t 72) (ρ.t 5) B b (.pointer (some ⟨b,0,none⟩)) v' (bs++Lib.strCells s) w'∧Below B w w'∧Else b v w w'∧Fr8 w v v':=by
 obtain ⟨i0,hi,hz0,hz1,hz2⟩:=info_parts X.infoByte
 have mixed:=L.mixed
 have t72:=L.t72; have a72:=L.a72; have z72:=L.z72; have v72:=L.v72; have u72:=run_underlying L.t72
 have t70:=L.t70; have a70:=L.a70; have z70:=L.z70; have v70:=L.v70; have u70:=run_underlying L.t70
 have t37:=L.t37; have a37:=L.a37; have z37:=L.z37; have v37:=L.v37; have u37:=run_underlying L.t37
 have t3:=L.t3; have a3:=L.a3; have z3:=L.z3; have v3:=L.v3; have u3:=run_underlying L.t3
 have t9:=L.t9; have a9:=L.a9; have z9:=L.z9; have v9:=L.v9; have u9:=run_underlying L.t9
 have t4:=L.t4; have a4:=L.a4; have z4:=L.z4; have v4:=L.v4; have u4:=run_underlying L.t4
 have t164:=L.t164; have a164:=L.a164; have z164:=L.z164; have v164:=L.v164; have u164:=run_underlying L.t164
 have t5:=X.t5; have a5:=X.a5; have z5:=X.z5; have v5:=X.v5; have u5:=run_underlying X.t5
 have e240 : ∀ args w,(callFunc (ρ.f 240) args).run P w = .ok (.enter (ρ.f 240) args) w:=enters_of L.f240 (by kernel_rfl) rfl
 go_enter L.f166,Body.n166_ntmps ρ
 go_wp2_with (go_at_fn (ρ.f 240); refine (copy8 { L with } X.toX72 h hp).mono ?_)
 rintro e w1 ⟨rfl,h1,hb1,hsz1,hel1⟩
 have hbk:=h1.here
 have c0:w1.cell? ⟨b,0,none⟩=some (.pointer (some ⟨b,0,none⟩)):=by rw [Lib.cell_of_heap hbk]; rfl
 have c1:w1.cell? ⟨b,1,none⟩=some v:=by rw [Lib.cell_of_heap hbk]; rfl
 go_wp2_with (at_builtin; refine wpList_app_str8 rfl _ _ (ρ.t 37) (ρ.t 9) rfl B (ρ.t 5) i0 L.t37 L.t9 hi hz0 hz1 hz2 _ _ _ rfl h1.own h1.u8 s rfl ?c3 ?c4 ?c5 ?_)
 case c3=>unfold maxLen; omega
 case c4=>omega
 case c5=>omega
 intro v' w2 hown' hgrow hu' hfr'
 have hlt:b < w1.heap.size:=h1.at_.lt
 have hb2:w2.heap[b]? = some (.cells #[.pointer (some ⟨b,0,none⟩),v] (ρ.t 72) (0,0)):=by
  rw [hgrow.block b hlt (fun e=>h1.ne e.symm)]
  exact hbk
 have d0:w2.cell? ⟨b,0,none⟩=some (.pointer (some ⟨b,0,none⟩)):=by rw [Lib.cell_of_heap hb2]; rfl
 have d1:w2.cell? ⟨b,1,none⟩=some v:=by rw [Lib.cell_of_heap hb2]; rfl
 have f1:w2.frozen? ⟨b,1,none⟩=false:=Lib.frozen_of_heap hb2 1
 obtain ⟨ao,n',cap,rfl⟩ : ∃ ao n' cap,v' = .slice ao n' cap:=by
  rcases hown'.2 with ⟨hv,_⟩ | ⟨g,cap,cur,hv,_⟩
  · exact ⟨_,_,_,hv⟩
  · exact ⟨_,_,_,hv⟩
 go_wp2
 go_ret2
 refine ⟨rfl,_,B8.put (T:=(ρ.t 72)) (e:=(ρ.t 5)) h1.lo hb2 (bs':=bs++Lib.strCells s) (by simpa [Lib.strCells_length] using hown') hu' X.neB5,?_,fun k hk h2 h3=>?_,fun g hg=>(hfr' g hg).imp id (fun h=>by omega)⟩
 · exact (hb1.grown hgrow (by omega) (fun k hk=>(h1.own.lt k hk).1)).setCell (p:=⟨b,1,none⟩) h1.lo _
 · rw [Below.heap_setCell _ _ _ _ (by simpa using h2),hgrow.block k (by omega) (fun e=>h3 e.symm)]
   exact hel1 k hk h2 h3
set_option maxHeartbeats 2000000 in
set_option maxRecDepth 100000 in
theorem bldByte8 (L:Lays.n167 P ρ) (X:Builder.Extra P ρ) {B b:Nat} {p v:Value} {bs:List Value} (c:Int) {w:World} (h:B8 (ρ.t 72) (ρ.t 5) B b p v bs w) (hp:p = .pointer none∨p = .pointer (some ⟨b,0,none⟩)) (hlen:bs.length+1≤140737488355328) (hBw:B≤w.heap.size) :
  Calls P (ρ.f 167) #[.pointer (some ⟨b,0,none⟩),.int .u8 c] w fun e w'=>e = .returned .nilIface ∧ ∃ v',B8 (ρ.t 72) (ρ.t 5) B b (.pointer (some ⟨b,0,none⟩)) v' (bs++[.int .u8 c]) w'∧Below B w w'∧Else b v w w'∧Fr8 w v v':=by
 obtain ⟨i0,hi,hz0,hz1,hz2⟩:=info_parts X.infoByte
 have mixed:=L.mixed
 have t72:=L.t72; have a72:=L.a72; have z72:=L.z72; have v72:=L.v72; have u72:=run_underlying L.t72
 have t70:=L.t70; have a70:=L.a70; have z70:=L.z70; have v70:=L.v70; have u70:=run_underlying L.t70
 have t5:=L.t5; have a5:=L.a5; have z5:=L.z5; have v5:=L.v5; have u5:=run_underlying L.t5
 have t37:=L.t37; have a37:=L.a37; have z37:=L.z37; have v37:=L.v37; have u37:=run_underlying L.t37
 have t9:=L.t9; have a9:=L.a9; have z9:=L.z9; have v9:=L.v9; have u9:=run_underlying L.t9
 have t4:=L.t4; have a4:=L.a4; have z4:=L.z4; have v4:=L.v4; have u4:=run_underlying L.t4
 have t164:=L.t164; have a164:=L.a164; have z164:=L.z164; have v164:=L.v164; have u164:=run_underlying L.t164
 have e240 : ∀ args w,(callFunc (ρ.f 240) args).run P w = .ok (.enter (ρ.f 240) args) w:=enters_of L.f240 (by kernel_rfl) rfl
 go_enter L.f167,Body.n167_ntmps ρ
 go_wp2_with (go_at_fn (ρ.f 240); refine (copy8 { L with } X.toX72 h hp).mono ?_)
 rintro e w1 ⟨rfl,h1,hb1,hsz1,hel1⟩
 have hbk:=h1.here
 have hlt:b < w1.heap.size:=h1.at_.lt
 have c0:w1.cell? ⟨b,0,none⟩=some (.pointer (some ⟨b,0,none⟩)):=by rw [Lib.cell_of_heap hbk]; rfl
 have c1:w1.cell? ⟨b,1,none⟩=some v:=by rw [Lib.cell_of_heap hbk]; rfl
 have hu1 : ∀ o,u8At (w1.alloc o) (ρ.t 5) v:=fun o g hg=>by
  obtain ⟨cur,k1,k2⟩:=h1.u8 g hg
  exact ⟨cur,by rw [Lib.alloc_old w1 _ g (Array.getElem?_eq_some_iff.1 k1).1]; exact k1,k2⟩
 go_wp2_with (at_builtin; refine wpList_app_row8 rfl _ _ (ρ.t 37) rfl B (ρ.t 5) i0 L.t37 hi hz0 hz1 hz2 _ _ _ rfl (h1.own.alloc _) (hu1 _) ⟨w1.heap.size,0,none⟩ 1 c rfl ?c1 ?c3 ?c4 ?c5 ?_)
 case c1=>simp
 case c3=>unfold maxLen; omega
 case c4=>omega
 case c5=>simp; omega
 intro v' w2 hown' hgrow hu' hfr'
 have hb2:w2.heap[b]? = some (.cells #[.pointer (some ⟨b,0,none⟩),v] (ρ.t 72) (0,0)):=by
  rw [hgrow.block b (by simp; omega) (fun e=>h1.ne e.symm),Lib.alloc_old w1 _ b hlt]
  exact hbk
 have d0:w2.cell? ⟨b,0,none⟩=some (.pointer (some ⟨b,0,none⟩)):=by rw [Lib.cell_of_heap hb2]; rfl
 have d1:w2.cell? ⟨b,1,none⟩=some v:=by rw [Lib.cell_of_heap hb2]; rfl
 have f1:w2.frozen? ⟨b,1,none⟩=false:=Lib.frozen_of_heap hb2 1
 obtain ⟨g,cap,rfl⟩ : ∃ g cap,v' = .slice (some ⟨g,0,none⟩) (bs.length+1) cap:=by
  rcases hown'.2 with ⟨_,h0⟩ | ⟨g,cap,cur,hv,_⟩
  · omega
  · exact ⟨g,cap,hv⟩
 go_wp2
 go_ret
 refine ⟨rfl,_,B8.put (T:=(ρ.t 72)) (e:=(ρ.t 5)) h1.lo hb2 (bs':=bs++[.int .u8 c]) (by simpa using hown') hu' X.neB5,?_,fun k hk h2 h3=>?_,fun g hg=>(hfr' g hg).imp id (fun h=>by simp at h; omega)⟩
 · exact ((hb1.alloc (by omega) _).grown hgrow (by simp; omega) (fun k hk=>(h1.own.lt k hk).1)).setCell (p:=⟨b,1,none⟩) h1.lo _
 · rw [Below.heap_setCell _ _ _ _ (by simpa using h2),hgrow.block k (by simp; omega) (fun e=>h3 e.symm),Lib.alloc_old w1 _ k (by omega)]
   exact hel1 k hk h2 h3
end Go.Proofs
namespace Go.X
open Go Go.RowKit Go.Shelf
def allU8:Obj→Prop | .cells cur _ _=>∀ x ∈ cur.toList,isU8 x=true | _=>False
/-- what a builder's writing leaves of known memory -/
def Keep (b:Nat) (M M':Mem):Prop:=∀ c o,M c=some o→c≠b → ¬ allU8 o→M' c=some o
theorem Keep.trans {b:Nat} {M M' M'':Mem} (h:Keep b M M') (h':Keep b M' M''):Keep b M M'':=fun c o hc hb hn=>h' c o (h c o hc hb hn) hb hn
/-- a builder in known memory, at block b, holding l; its row holds bytes alone -/
structure BldC (E:Env) (T e:TypeId) (b:Nat) (l:List UInt8) (M:Mem):Prop where
 base:E.w0.heap.size≤b
 old : ∀ c,E.M0 c≠none→c < b
 le:E.M0.le M
 is : ∃ p v,(p = .pointer none∨p = .pointer (some ⟨b,0,none⟩))∧M b=some (.cells #[p,v] T (0,0))∧v.ownBlock≠some b ∧
  ((v = .slice none 0 0∧l=[]) ∨ ∃ g cap cur,v = .slice (some ⟨g,0,none⟩) l.length cap∧b≤g∧M g=some (.cells cur e (0,0))∧l.length≤cap∧cap≤maxLen∧cur.size=cap∧cur.toList.take l.length=Lib.byteCells l ∧ ∀ x ∈ cur.toList,isU8 x=true)
theorem BldC.mono {E:Env} {T e b l} {M M':Mem} (h:BldC E T e b l M) (hl:M.le M'):BldC E T e b l M':=by
 refine ⟨h.base,h.old,h.le.trans hl,?_⟩
 obtain ⟨p,v,hp,hb,hn,h⟩:=h.is
 refine ⟨p,v,hp,hl _ _ hb,hn,h.imp id fun ⟨g,cap,cur,h1,h2,h3,h4⟩=>⟨g,cap,cur,h1,h2,hl _ _ h3,h4⟩⟩
section
variable {E:Env} {σ:Sig} {H:HS} {M:Mem} {a:Act} {w:World} {ν:Nat→Value} {K:KP} {o:Oper}
theorem BldC.b8 {T e b l} (h:BldC E T e b l M) (hM:M.on w) : ∃ p v,(p = .pointer none∨p = .pointer (some ⟨b,0,none⟩))∧B8 T e b b p v (Lib.byteCells l) w∧(∀ g,v.ownBlock=some g→M g≠none∧b≤g ∧ ∀ o,M g=some o→allU8 o):=by
 obtain ⟨p,v,hp,hb,hn,h2⟩:=h.is
 refine ⟨p,v,hp,⟨Nat.le_refl _,hM _ _ hb,?_,?_,hn⟩,?_⟩
 · refine ⟨by simp,?_⟩
   rcases h2 with ⟨rfl,rfl⟩ | ⟨g,cap,cur,rfl,hbg,hg,hl,hc,hs,ht,hu⟩
   · exact .inl ⟨rfl,rfl⟩
   · refine .inr ⟨g,cap,cur,by rw [Lib.byteCells_length],hbg,hM _ _ hg,by rw [Lib.byteCells_length]; exact hl,hc,by omega,?_⟩
     rw [Lib.byteCells_length,Nat.mul_one]
     exact ht
 · rcases h2 with ⟨rfl,rfl⟩ | ⟨g,cap,cur,rfl,hbg,hg,hl,hc,hs,ht,hu⟩
   · exact fun g hg=>by simp [Value.ownBlock] at hg
   · intro g' hg'
     simp only [Value.ownBlock,Option.some.injEq] at hg'
     subst hg'
     exact ⟨cur,hM _ _ hg,hu⟩
 · rcases h2 with ⟨rfl,rfl⟩ | ⟨g,cap,cur,rfl,hbg,hg,hl,hc,hs,ht,hu⟩
   · exact fun g hg=>by simp [Value.ownBlock] at hg
   · intro g' hg'
     simp only [Value.ownBlock,Option.some.injEq] at hg'
     subst hg'
     exact ⟨by rw [hg]; exact fun h=>(by cases h),hbg,fun o ho=>by rw [hg] at ho; cases ho; exact hu⟩
theorem bldC_step {T e:TypeId} {b:Nat} {l l':List UInt8} (hh:Heap E ν H M w) (hB:BldC E T e b l M) {p v v':Value} (h8:B8 T e b b p v (Lib.byteCells l) w) (hv : ∀ g,v.ownBlock=some g→M g≠none∧b≤g ∧ ∀ o,M g=some o→allU8 o)
  {w':World} (h8':B8 T e b b (.pointer (some ⟨b,0,none⟩)) v' (Lib.byteCells l') w') (hbel:Below b w w') (hel:Else b v w w') (hfr:Fr8 w v v') :
  ∃ M',BldC E T e b l' M'∧Heap E ν H M' w'∧Keep b M M':=by
 classical
 let M':Mem:=fun c=>if c=b∨v'.ownBlock=some c then w'.heap[c]? else if v.ownBlock=some c then none else M c
 have hM'b : ∀ c,c=b∨v'.ownBlock=some c→M' c=w'.heap[c]?:=fun c h=>if_pos h
 have hM'o : ∀ c,¬ (c=b∨v'.ownBlock=some c)→v.ownBlock≠some c→M' c=M c:=fun c h h2=>(if_neg h).trans (if_neg h2)
 have hM'n : ∀ c,¬ (c=b∨v'.ownBlock=some c)→v.ownBlock=some c→M' c=none:=fun c h h2=>(if_neg h).trans (if_pos h2)
 have hMb:M b≠none:=by
  obtain ⟨p,v,_,hb,_⟩:=hB.is
  rw [hb]
  exact fun h=>by cases h
 have hfpb:b ∉ fp ν H:=fun h=>hMb (hh.apart b h).1
 have hfpv : ∀ g,v.ownBlock=some g→g ∉ fp ν H:=fun g hg h=>(hv g hg).1 (hh.apart g h).1
 have hfpv' : ∀ g,v'.ownBlock=some g→g ∉ fp ν H:=fun g hg h=>by
  rcases hfr g hg with h1 | h1
  · exact hfpv g h1 h
  · exact absurd (hh.fp_lt h) (by omega)
 have hold : ∀ c,E.M0 c≠none→c≠b∧v.ownBlock≠some c∧v'.ownBlock≠some c:=fun c hc=>by
  have h1:=hB.old c hc
  refine ⟨by omega,fun h=>?_,fun h=>?_⟩
  · have:=(hv c h).2.1
    omega
  · have:=(h8'.own.lt c h).1
    omega
 have hle:E.M0.le M':=fun c o hc=>by
  obtain ⟨h1,h2,h3⟩:=hold c (by rw [hc]; exact fun h=>by cases h)
  rw [hM'o c (fun h=>h.elim h1 h3) h2]
  exact hh.le0 c o hc
 have hon:M'.on w':=fun c o hc=>by
  by_cases h1:c=b∨v'.ownBlock=some c
  · rw [hM'b c h1] at hc
    exact hc
  · by_cases h2:v.ownBlock=some c
    · rw [hM'n c h1 h2] at hc
      cases hc
    · rw [hM'o c h1 h2] at hc
      have h3:=hh.mem c o hc
      rw [hel c (Array.getElem?_eq_some_iff.1 h3).1 (fun h=>h1 (.inl h)) h2]
      exact h3
 refine ⟨M',⟨hB.base,hB.old,hle,?_⟩,?_,fun c o hc hb hn=>?_⟩
 · refine ⟨_,v',.inr rfl,(hM'b b (.inl rfl)).trans h8'.here,h8'.ne,?_⟩
   rcases h8'.own.2 with ⟨h1,h2⟩ | ⟨g,cap,cur,h1,h2,h3,h4,h5,h6,h7⟩
   · refine .inl ⟨h1,?_⟩
     rw [Lib.byteCells_length] at h2
     exact List.eq_nil_of_length_eq_zero h2
   · rw [Lib.byteCells_length] at h1 h4 h7
     rw [Nat.mul_one] at h6 h7
     have hg:v'.ownBlock=some g:=by rw [h1]; rfl
     obtain ⟨cur',k1,k2⟩:=h8'.u8 g hg
     rw [h3] at k1
     cases k1
     exact .inr ⟨g,cap,cur,h1,h2,(hM'b g (.inr hg)).trans h3,h4,h5,h6,h7,k2⟩
 · have hfpk : ∀ j ∈ fp ν H,w'.heap[j]? = w.heap[j]?:=fun j hj=>hel j (hh.fp_lt hj) (fun h=>hfpb (h ▸ hj)) (fun h=>hfpv j h hj)
   let Mr:Mem:=fun c=>if c=b∨v.ownBlock=some c then none else M c
   have hMr : ∀ c o,Mr c=some o→M c=some o∧c≠b∧v.ownBlock≠some c:=fun c o hc=>by
    have hc':(if c=b∨v.ownBlock=some c then none else M c)=some o:=hc
    split at hc'
    · cases hc'
    · rename_i h
      exact ⟨hc',fun h1=>h (.inl h1),fun h1=>h (.inr h1)⟩
   have h1:Heap E ν H Mr w:={ holds:=hh.holds,nodup:=hh.nodup,apart:=fun j hj=>⟨?_,(hh.apart j hj).2⟩,mem:=fun c o hc=>hh.mem c o (hMr c o hc).1,below:=hh.below,le0:=fun c o hc=>?_,fresh:=fun c hc=>?_,one:=hh.one }
   · have h2:Heap E ν H Mr w':=h1.moved hfpk (fun c o hc=>by
      obtain ⟨k1,k2,k3⟩:=hMr c o hc
      have h3:=hh.mem c o k1
      rw [hel c (Array.getElem?_eq_some_iff.1 h3).1 k2 k3]
      exact h3) (hh.below.trans (hbel.mono hB.base))
     refine { holds:=h2.holds,nodup:=h2.nodup,apart:=fun j hj=>⟨?_,(h2.apart j hj).2⟩,mem:=hon,below:=h2.below,le0:=hle,fresh:=fun c hc=>?_,one:=h2.one }
     · rw [hM'o j (fun h=>h.elim (fun h=>hfpb (h ▸ hj)) (fun h=>hfpv' j h hj)) (fun h=>hfpv j h hj)]
       exact (hh.apart j hj).1
     · by_cases k1:c=b∨v'.ownBlock=some c
       · rcases k1 with k1 | k1
         · exact .inr (by have:=hB.base; omega)
         · exact .inr (Nat.le_trans hB.base (h8'.own.lt c k1).1)
       · by_cases k2:v.ownBlock=some c
         · rw [hM'n c k1 k2] at hc
           exact absurd rfl hc
         · rw [hM'o c k1 k2] at hc
           exact hh.fresh c hc
   · show (if j=b∨v.ownBlock=some j then none else M j)=none
     split
     · rfl
     · exact (hh.apart j hj).1
   · obtain ⟨k1,k2,_⟩:=hold c (by rw [hc]; exact fun h=>by cases h)
     show (if c=b∨v.ownBlock=some c then none else M c)=some o
     rw [if_neg (fun h=>h.elim k1 k2)]
     exact hh.le0 c o hc
   · cases hm:Mr c with
     | none=>exact absurd hm hc
     | some o=>exact hh.fresh c (by rw [(hMr c o hm).1]; exact fun h=>by cases h)
 · by_cases h1:v.ownBlock=some c
   · exact absurd ((hv c h1).2.2 o hc) hn
   · by_cases h2:c=b∨v'.ownBlock=some c
     · rcases h2 with h2 | h2
       · exact absurd h2 hb
       · rcases hfr c h2 with h3 | h3
         · exact absurd h3 h1
         · have:=(Array.getElem?_eq_some_iff.1 (hh.mem c o hc)).1
           omega
     · rw [hM'o c h2 h1]
       exact hc
theorem OpK.bldNewC {T e d:Nat} (ho:o.op = .alloc T) (hd:o.dst=some d) (hN:decide (d < E.N)=true) (hz : ∃ i z,E.P.info? T=some i∧i.zero=some z∧z.cells = #[.pointer none,.slice none 0 0])
  (hK : ∀ b M',M.le M'→M b=none→BldC E T e b [] M'→K ((d,true,.v (ptrV b)) :: σ) H M'):OpK E o K σ H M:=by
 obtain ⟨i,z,hi,hz,hzc⟩:=hz
 refine opK_of fun ν a w hs hh=>?_
 have hal:=heap_alloc_at w (.cells z.cells T)
 obtain ⟨M',h1,h2,h3⟩:=hh.known (w':=w.alloc (.cells z.cells T)) (below_alloc w _) hal
 refine ⟨.pointer (some ⟨w.heap.size,0,none⟩),w.alloc (.cells z.cells T),?_,(d,true,.v (ptrV w.heap.size)) :: σ,H,M',?_,hK w.heap.size M' h1 ?_ ⟨hh.below.size,fun c hc=>?_,hh.le0.trans h1,?_⟩⟩
 · simp [execOp,ho,Instr.alloc,zeroValue,typeInfo,hi,hz,newVar,newRow]
 · rw [hd]
   exact ⟨ν,hs.put (of_decide_eq_true hN) rfl,h3⟩
 · cases hm:M w.heap.size with
   | none=>rfl
   | some ob=>
     have:=(Array.getElem?_eq_some_iff.1 (hh.mem _ ob hm)).1
     omega
 · cases hc0:E.M0 c with
   | none=>exact absurd hc0 hc
   | some ob=>exact (Array.getElem?_eq_some_iff.1 (hh.mem c ob (hh.le0 c ob hc0))).1
 · rw [hzc] at h2
   exact ⟨_,_,.inl rfl,h2,by simp [Value.ownBlock],.inl ⟨rfl,rfl⟩⟩
variable {ρ:Ren}
theorem cat8 (l:List UInt8) (s:ByteArray):Lib.byteCells l++Lib.strCells s=Lib.byteCells (l++bl s):=by
 unfold Lib.byteCells Lib.strCells bl
 rw [List.map_append]
theorem CallK.bldStrC {f d b:Nat} {T e:TypeId} {l:List UInt8} {s:ByteArray} (L:Proofs.Lays.n166 E.P ρ) (X:Proofs.Builder.Extra E.P ρ) (hf:f=ρ.f 166) (hT:T=ρ.t 72) (he:e=ρ.t 5) (hd:decide (d < E.N)=true) (hc:callable E.P f)
  (hB:BldC E T e b l M) (hlen:l.length+s.size≤140737488355328) (hK : ∀ M',BldC E T e b (l++bl s) M'→Keep b M M'→K ((d,true,.tup [.v (.int .i64 s.size),.v .nilIface]) :: σ) H M') :
  CallK E f [.v (ptrV b),.v (.string s)] d K σ H M:=by
 subst hf hT he
 intro ν a w hs hh
 refine .inl ⟨hc,?_⟩
 obtain ⟨p,v,hp,h8,hv⟩:=hB.b8 hh.mem
 refine (Proofs.bldStr8 L X s h8 hp (by rw [Lib.byteCells_length]; exact hlen) (Nat.le_of_lt h8.at_.lt)).mono fun en w' ⟨he,v',h8',hbel,hel,hfr⟩=>?_
 rw [cat8] at h8'
 obtain ⟨M',h1,h2,h3⟩:=bldC_step hh hB h8 hv h8' hbel hel hfr
 exact ⟨_,he,_,_,M',⟨ν,hs.put (of_decide_eq_true hd) rfl,h2⟩,hK M' h1 h3⟩
theorem CallK.bldByteC {f d b:Nat} {T e:TypeId} {l:List UInt8} {c:UInt8} (L:Proofs.Lays.n167 E.P ρ) (X:Proofs.Builder.Extra E.P ρ) (hf:f=ρ.f 167) (hT:T=ρ.t 72) (he:e=ρ.t 5) (hd:decide (d < E.N)=true) (hc:callable E.P f)
  (hB:BldC E T e b l M) (hlen:l.length+1≤140737488355328) (hK : ∀ M',BldC E T e b (l++[c]) M'→Keep b M M'→K ((d,true,.v .nilIface) :: σ) H M') :
  CallK E f [.v (ptrV b),.v (.int .u8 (c.toNat:Int))] d K σ H M:=by
 subst hf hT he
 intro ν a w hs hh
 refine .inl ⟨hc,?_⟩
 obtain ⟨p,v,hp,h8,hv⟩:=hB.b8 hh.mem
 refine (Proofs.bldByte8 L X (c.toNat:Int) h8 hp (by rw [Lib.byteCells_length]; exact hlen) (Nat.le_of_lt h8.at_.lt)).mono fun en w' ⟨he,v',h8',hbel,hel,hfr⟩=>?_
 have hcat:Lib.byteCells l++[.int .u8 (c.toNat:Int)]=Lib.byteCells (l++[c]):=by
  unfold Lib.byteCells
  rw [List.map_append]
  rfl
 rw [hcat] at h8'
 obtain ⟨M',h1,h2,h3⟩:=bldC_step hh hB h8 hv h8' hbel hel hfr
 exact ⟨_,he,_,_,M',⟨ν,hs.put (of_decide_eq_true hd) rfl,h2⟩,hK M' h1 h3⟩
/-- the text; nothing else is looked at any more -/
theorem CallK.bldStringC {f d b:Nat} {T e:TypeId} {l:List UInt8} (L:Proofs.Lays.n169 E.P ρ) (X:Proofs.Builder.Extra E.P ρ) (hf:f=ρ.f 169) (hT:T=ρ.t 72) (he:e=ρ.t 5) (hd:decide (d < E.N)=true) (hc:callable E.P f)
  (hB:BldC E T e b l M) (hK:K ((d,true,.v (.string ⟨l.toArray⟩)) :: σ) [] E.M0) :
  CallK E f [.v (ptrV b)] d K σ H M:=by
 subst hf hT he
 intro ν a w hs hh
 refine .inl ⟨hc,?_⟩
 obtain ⟨p,v,hp,h8,hv⟩:=hB.b8 hh.mem
 have hi:Lib.IsBuilder (ρ.t 72) (ρ.t 5) b b (Lib.byteCells l) w:=by
  rcases hp with rfl | rfl
  · exact .inl h8.at_
  · exact .inr h8.at_
 refine (Proofs.Any.Builder_String_any L X b b l w hi (Nat.le_of_lt h8.at_.lt)).mono fun en w' ⟨he,hbel⟩=>?_
 refine ⟨_,he,_,_,E.M0,⟨ν,hs.put (of_decide_eq_true hd) rfl,?_⟩,hK⟩
 exact { holds:=(fun p hp=>by cases hp),nodup:=List.nodup_nil,apart:=(fun b hb=>by cases hb),mem:=(fun c o hc=>by
  rw [hbel.block c (hB.old c (by rw [hc]; exact fun h=>(by cases h)))]
  exact hh.mem c o (hB.le c o hc)),below:=hh.below.trans (hbel.mono hB.base),le0:=Mem.le.refl _,fresh:=fun c hc=>.inl hc,one:=hh.one }
end
end Go.X

namespace Go.X
open Go Go.RowKit
section
variable {E:Env} {σ:Sig} {H:HS} {M:Mem} {a:Act} {w:World} {ν:Nat→Value} {K:KP} {o:Oper}
theorem CodeK.pub {c:Code} {Q:QP} {k sz:Nat} {es:List (List Value)} (hk:hget H k=some (.row sz es))
  (h : ∀ v M',M.le M'→RowM M' v sz es→CodeK E c Q (sigPub k v σ) (hpub k v H) M'):CodeK E c Q σ H M:=by
 rintro a w ⟨ν,hs,hh⟩
 obtain ⟨M',h1,h2,h3⟩:=pub_heap hh hk
 exact h _ M' h1 h2 a w ⟨ν,pub_slots hs,h3⟩
theorem CodeK.heap {c:Code} {Q:QP} {H':HS} (h:HEnt E H M H') (hk:CodeK E c Q σ H' M):CodeK E c Q σ H M:=by
 rintro a w ⟨ν,hs,hh⟩
 exact hk a w ⟨ν,hs,h ν w hh⟩
end
end Go.X

namespace Go.X
open Go Go.RowKit

abbrev XP:=List PanicEntry→HS→Mem→Prop
/-- a call that hands back, or panics -/
def CallX (E:Env) (f:FuncId) (args:List SV) (d:Nat) (K:KP) (X:XP) (σ:Sig) (H:HS) (M:Mem):Prop:=
 ∀ ν a w,Slots E.N ν σ a→Heap E ν H M w →
   callable E.P f∧Calls E.P f (SV.vals ν args).toArray w (fun e w'=>(∃ v,e = .returned v ∧ ∃ σ' H' M',Rep E σ' H' M' (a.put (some d) v) w'∧K σ' H' M')∨(∃ ch,e = .panicked ch ∧ ∃ ν' H' M',Heap E ν' H' M' w'∧X ch H' M'))
/-- what is left of a region, told by its meaning -/
def RegK (E:Env) (ops:Array Oper) (Q:QP) (rest:List Oper):KP:=fun σ H M=>∀ a w,Rep E σ H M a w→wpList E.P ops (Lift E Q) rest a w
/-- THE CONTRACT of a function that is lent private memory and may panic -/
def MeetsX (P:Program) (f:FuncId) (args:List SV) (H:HS) (M:Mem) (R:RP) (X:XP):Prop:=
 callable P f ∧ ∀ w0 M0 ν w,Heap ⟨P,0,w0,M0⟩ ν H M w→Calls P f (SV.vals ν args).toArray w fun e w'=>
  (∃ s H' M' ν',e = .returned (s.val ν')∧Heap ⟨P,0,w0,M0⟩ ν' H' M' w'∧R s H' M')∨(∃ ch ν' H' M',e = .panicked ch∧Heap ⟨P,0,w0,M0⟩ ν' H' M' w'∧X ch H' M')

section
variable {E:Env} {σ:Sig} {H:HS} {M:Mem} {a:Act} {w:World} {ν:Nat→Value} {K:KP} {Q Q':QP}
theorem CodeK.mono {c:Code} (h:CodeK E c Q σ H M) (hQ : ∀ e σ H M,Q e σ H M→Q' e σ H M):CodeK E c Q' σ H M:=fun a w hr=>Code.wp_mono (fun _ _ _ ⟨σ',H',M',hr',hq⟩=>⟨σ',H',M',hr',hQ _ _ _ _ hq⟩) (h a w hr)
theorem CodeK.seq {c c':Code} (h:CodeK E c (fun e σ H M=>match e with | .normal=>CodeK E c' Q σ H M | e=>Q e σ H M) σ H M):CodeK E (.seq c c') Q σ H M:=by
 intro a w hr
 refine wp_seq (Code.wp_mono ?_ (h a w hr))
 rintro e a w ⟨σ,H,M,hr,hq⟩
 cases e <;> first
  | exact hq a w hr
  | exact ⟨σ,H,M,hr,hq⟩
theorem CodeK.block {i:Nat} {b:Code} (h:CodeK E b (fun e σ H M=>match e with | .exit j=>if j=i then Q .normal σ H M else Q (.exit j) σ H M | e=>Q e σ H M) σ H M):CodeK E (.block i b) Q σ H M:=by
 intro a w hr
 refine wp_block (Code.wp_mono ?_ (h a w hr))
 rintro e a w ⟨σ,H,M,hr,hq⟩
 cases e with
 | exit j=>
   simp only [Exit.inBlock]
   simp only at hq
   split
   · rename_i e; rw [if_pos e] at hq; exact ⟨σ,H,M,hr,hq⟩
   · rename_i e; rw [if_neg e] at hq; exact ⟨σ,H,M,hr,hq⟩
 | _=>exact ⟨σ,H,M,hr,hq⟩
theorem CodeK.cond {c:Operand} {t e:Code} {b:Bool} (hc:opv σ c=some (true,.v (.bool b))) (h1:b=true→CodeK E t Q σ H M) (h2:b=false→CodeK E e Q σ H M):CodeK E (.cond c t e) Q σ H M:=
 fun a w hr=>wp_cond_split (opv_bool hr hc) (fun hb=>h1 hb a w hr) (fun hb=>h2 hb a w hr)
theorem CodeK.loop {live:List Nat} {b:Code} (h:LoopK E live b Q σ H M):CodeK E (.loop b) Q σ H M:=h
theorem CodeK.skip (h:Q .normal σ H M):CodeK E .skip Q σ H M:=fun a w hr=>wp_skip ⟨σ,H,M,hr,h⟩
theorem CodeK.ret (h:Q .ret σ H M):CodeK E .ret Q σ H M:=fun a w hr=>wp_ret ⟨σ,H,M,hr,h⟩
theorem CodeK.reg {id:Nat} {ops:Array Oper} (h:RegK E ops Q ops.toList σ H M):CodeK E (.region id ops false) Q σ H M:=fun a w hr=>wp_region_list (h a w hr)
theorem RegK.nil {ops:Array Oper} (h:Q .normal σ H M):RegK E ops Q [] σ H M:=fun a w hr=>⟨σ,H,M,hr,h⟩
/-- the operations that come first, as they are reckoned -/
theorem RegK.pre {ops:Array Oper} (post:List Oper) : ∀ (pre:List Oper) (σ:Sig) (H:HS) (M:Mem),wpR E ops.toList (RegK E ops Q post) pre σ H M→RegK E ops Q (pre++post) σ H M
 | [],σ,H,M,h=>h
 | o :: rest,σ,H,M,h=>fun a w hr=>by
   unfold wpR at h
   split at h
   · exact h.elim
   · rename_i g hg
     obtain ⟨ν,hs,hh⟩:=hr
     refine wpList_step fun K' hK'=>?_
     have:=gd_spec hs hg o rfl
     simp only [Array.toArray_toList] at this
     rw [this]
     exact stepK_sound (fun σ H M a w hr hk=>hK' _ _ (RegK.pre post rest σ H M hk a w hr)) hs hh h
theorem RegK.at {ops:Array Oper} (n:Nat) (h:wpR E ops.toList (RegK E ops Q (ops.toList.drop n)) (ops.toList.take n) σ H M):RegK E ops Q ops.toList σ H M:=by
 have:=RegK.pre (E:=E) (Q:=Q) (ops:=ops) (ops.toList.drop n) (ops.toList.take n) σ H M h
 rwa [List.take_append_drop] at this
/-- the text's own panic -/
theorem RegK.panic {ops:Array Oper} {o:Oper} {rest:List Oper} {x:Operand} {v:Value} (ho:o.op = .panic x) (hg:o.guard=none) (hx:opv σ x=some (true,.v v))
  (hv : ∀ w,(Instr.panic v).run E.P w = .halt (.panic v) w) (h:Q (.panic [{ v:=v,recovered:=false }]) σ H M):RegK E ops Q (o :: rest) σ H M:=by
 rintro a w ⟨ν,hs,hh⟩
 refine wpList_plain hg fun K' _=>?_
 have ex:a.eval x=v:=hs.opv hx rfl
 unfold Oper.wp
 have:(execOp a.eval o).run E.P w = .halt (.panic v) w:=by
  simp only [execOp,ho,ex,Sem.run_bind,hv w]
  rfl
 rw [this]
 exact ⟨σ,H,M,⟨ν,hs,hh⟩,h⟩
/-- a call that may panic -/
theorem RegK.callX {ops:Array Oper} {o:Oper} {rest:List Oper} {fo:Operand} {xs:Array Operand} {ts:Array TypeId} {f d:Nat} {caps l:List SV} (ho:o.op = .call ⟨.value fo,xs,ts⟩) (hg:o.guard=none) (hd:o.dst=some d)
  (hf:opv σ fo=some (true,.fn f caps)) (hl:argsO σ xs.toList=some (true,l))
  (h:CallX E f (l++caps) d (RegK E ops Q rest) (fun ch H M=>Q (.panic ch) [] H M) σ H M):RegK E ops Q (o :: rest) σ H M:=by
 rintro a w ⟨ν,hs,hh⟩
 obtain ⟨⟨fn,hfn,hnm,hbd⟩,hc⟩:=h ν a w hs hh
 refine wpList_plain hg fun K' hK'=>?_
 have e1:=hs.opv hf rfl
 have e2:=argsO_spec hs hl rfl
 have e3:xs.map a.eval=(SV.vals ν l).toArray:=by apply Array.ext'; simp [← e2]
 have e4:SV.vals ν (l++caps)=SV.vals ν l++SV.vals ν caps:=by simp [SV.vals_map]
 have e5:(execOp a.eval o).run E.P w = .ok (.enter f (SV.vals ν (l++caps)).toArray) w:=by
  simp only [execOp,ho,resolve,e1,SV.val,Deferred.ofValue,Sem.run_bind,Sem.run_pure,Result.andThen_ok,invoke,callFunc,run_program,hfn,hnm,hbd,e3,Bool.false_eq_true,if_false]
  rw [e4]
  simp
 unfold Oper.wp
 rw [e5]
 simp only [Oper.upon]
 refine hc.mono fun e w' hx=>?_
 rcases hx with ⟨v,he,σ',H',M',hr,hk⟩ | ⟨ch,he,ν',H',M',hh',hx⟩
 · subst he
   simp only [hd]
   exact hK' _ _ (hk _ _ hr)
 · subst he
   exact ⟨[],H',M',⟨ν',⟨hs.1,hs.2.1,fun k g s hk=>by simp [lk] at hk⟩,hh'⟩,hx⟩
/-- a call that does not panic is one that may -/
theorem CallX.ofM {f d:Nat} {l:List SV} {R:RP} {X:XP} (hd:decide (d < E.N)=true) (hl:SV.concs l=true) (h:Meets E.P f l M R)
  (hk : ∀ s H' M',M.le M'→R s H' M'→s.conc=true∧K ((d,true,s) :: σ) H M'):CallX E f l d K X σ H M:=by
 intro ν a w hs hh
 refine ⟨h.1,?_⟩
 rw [SV.concs_vals (ν:=ν0) (ν':=ν) l hl]
 refine (h.2 w hh.mem).mono ?_
 rintro e w' ⟨s,H',M',ν',rfl,hh',hR⟩
 obtain ⟨hc,hk⟩:=hk s H' M' hh'.le0 hR
 exact .inl ⟨_,rfl,_,_,_,⟨ν,hs.put (of_decide_eq_true hd) (by rw [cond_true]; exact SV.conc_val s hc),hh.call hh'⟩,hk⟩
/-- a function that surely panics, of known arguments -/
theorem CallX.panic {f d:Nat} {l:List SV} {X:XP} {ch:List PanicEntry} (hl:SV.concs l=true) (h:MeetsX E.P f l [] M (fun _ _ _=>False) (fun c _ _=>c=ch)) (hX:X ch H M):CallX E f l d K X σ H M:=by
 intro ν a w hs hh
 refine ⟨h.1,?_⟩
 refine (h.2 w M ν w ⟨fun p hp=>(by cases hp),List.nodup_nil,fun b hb=>by simp [fp] at hb,hh.mem,Below.refl _ _,Mem.le.refl _,fun b hb=>.inl hb,hh.one⟩).mono ?_
 rintro e w' (⟨_,_,_,_,_,_,hf⟩ | ⟨c,ν',H',M',rfl,hh',rfl⟩)
 · exact hf.elim
 · exact .inr ⟨_,rfl,ν,H,M,hh.grow hh'.below,hX⟩
end

/-- what a function's end must hold -/
def RetX (P:Program) (rs:List ResultVar) (R:RP) (X:XP):QP:=fun e σ H M=>
 match e with
 | .panic ch=>X ch H M
 | e=>RetK P rs R e σ H M
/-- **A FUNCTION MEETS ITS CONTRACT IF ITS BODY DOES.** -/
theorem MeetsX.of_code {P:Program} {f:FuncId} {fn:Func} {c:Code} {args:List SV} {H:HS} {M:Mem} {R:RP} {X:XP} (hf:P.funcs[f]? = some fn) (hb:fn.body=some c) (hn:okFn fn args.length=true)
  (h : ∀ w0 M0,CodeK ⟨P,fn.ntmps,w0,M0⟩ c (RetX P fn.results.toList R X) (params fn.ntmps 0 args) H M):MeetsX P f args H M R X:=by
 simp only [okFn,Bool.and_eq_true,Bool.not_eq_true',decide_eq_true_eq] at hn
 refine ⟨⟨fn,hf,hn.1.1,hn.1.2⟩,fun w0 M0 ν w hh=>?_⟩
 refine calls_of_wp hf hb ?_
 have hlen:(SV.vals ν args).length=args.length:=by rw [SV.vals_map]; simp
 refine Code.wp_mono ?_ (h w0 M0 _ w ⟨ν,⟨?_,rfl,?_⟩,⟨hh.holds,hh.nodup,hh.apart,hh.mem,hh.below,hh.le0,hh.fresh,hh.one⟩⟩)
 · rintro e a w' ⟨σ,H',M',⟨ν',hs,hh'⟩,hq⟩
   have key:(match rsvs P σ H' M' fn.results.toList with | some (ss,C)=>C∧R (one? ss) H' M' | none=>False)→a.defers=[] ∧ ∃ v,(results fn a.tmps).run P w' = .ok v w' ∧
     ((∃ s H' M' ν',Ending.returned v = .returned (s.val ν')∧Heap ⟨P,0,w0,M0⟩ ν' H' M' w'∧R s H' M')∨(∃ ch ν' H' M',Ending.returned v = .panicked ch∧Heap ⟨P,0,w0,M0⟩ ν' H' M' w'∧X ch H' M')):=by
    intro hq
    split at hq
    · rename_i ss C hr
      exact ⟨hs.2.1,_,results_sound hs hh' hr hq.1,.inl ⟨_,_,_,ν',rfl,⟨hh'.holds,hh'.nodup,hh'.apart,hh'.mem,hh'.below,hh'.le0,hh'.fresh,hh'.one⟩,hq.2⟩⟩
    · exact hq.elim
   cases e with
   | normal=>exact key hq
   | ret=>exact key hq
   | panic ch=>exact ⟨hs.2.1,.inr ⟨ch,ν',H',M',rfl,⟨hh'.holds,hh'.nodup,hh'.apart,hh'.mem,hh'.below,hh'.le0,hh'.fresh,hh'.one⟩,hq⟩⟩
   | _=>exact hq.elim
 · simp only [Array.size_append,List.size_toArray,Array.size_replicate,hlen]; omega
 · intro k g s hk
   obtain ⟨i,rfl,hg,hi⟩:=lk_params hk
   simp only at hg hi
   subst hg
   have hlt:i < args.length:=(List.getElem?_eq_some_iff.1 hi).1
   rw [Array.getElem?_append_left (by simp only [List.size_toArray,hlen]; omega),List.getElem?_toArray,SV.vals_map,List.getElem?_map,Nat.zero_add,hi]
   rfl
section
variable {E:Env} {σ:Sig} {H:HS} {M:Mem} {a:Act} {w:World} {ν:Nat→Value} {K:KP} {Q Q':QP}
theorem hget_some_blk {k:Nat} {cs:List SV} {t:Option Value} (hh:Heap E ν H M w) (hk:hget H k=some (.box cs t)) : ∃ b T,ν k = .pointer (some ⟨b,0,none⟩)∧w.heap[b]? = some (.cells (SV.vals ν cs).toArray T (0,0))∧tieB t (ν k)∧b ∈ fp ν H:=by
 obtain ⟨⟨b,T,e1,e2⟩,e3⟩:=hh.holds _ (hget_mem hk)
 exact ⟨b,T,e1,e2,e3,List.mem_filterMap.2 ⟨_,hget_mem hk,by simp only [e1,blk?]⟩⟩
/-- a box alone changes, and what is new -/
theorem Heap.reboxed (hh:Heap E ν H M w) {k b:Nat} {cs cs':List SV} {t:Option Value} (hk:hget H k=some (.box cs t)) (hb:ν k = .pointer (some ⟨b,0,none⟩)) {w':World} {T:TypeId} (hnew:w'.heap[b]? = some (.cells (SV.vals ν cs').toArray T (0,0)))
  (hrest : ∀ j ∈ fp ν H,j≠b→w'.heap[j]? = w.heap[j]?) (hM:M.on w') (hB:Below E.w0.heap.size E.w0 w'):Heap E ν (hset k (.box cs' t) H) M w':=by
 obtain ⟨b',T',e1,e2,e3,hbf⟩:=hget_some_blk hh hk
 rw [hb] at e1
 obtain rfl:b=b':=by cases e1; rfl
 have hbl:b < w.heap.size:=(Array.getElem?_eq_some_iff.1 e2).1
 let w1:World:={ w with heap:=w.heap.setIfInBounds b (.cells (SV.vals ν cs').toArray T (0,0)) }
 have h1:Heap E ν (hset k (.box cs' t) H) M w1:=by
  refine hh.upd hk (p:=.box cs' t) (b:=b) (by rw [hb]; rfl) (fun j hj=>?_) (by simp [w1]) ⟨rfl,rfl,rfl⟩ ⟨⟨b,T,hb,?_⟩,e3⟩
  · simp only [w1,Array.getElem?_setIfInBounds]
    rw [if_neg (fun e=>hj e.symm)]
  · simp [w1,hbl]
 refine h1.moved (fun j hj=>?_) hM hB
 rw [hset_fp] at hj
 by_cases hjb:j=b
 · subst hjb
   rw [hnew]
   simp [w1,hbl]
 · rw [hrest j hj hjb]
   simp only [w1,Array.getElem?_setIfInBounds]
   rw [if_neg (fun e=>hjb e.symm)]
/-- a call that is lent one box, and hands back nothing that lies in memory -/
theorem CallX.box1 {f d:Nat} {A:SV→List SV} {cs:List SV} {t:Option Value} {R:SV→List SV→Prop} {X0:List PanicEntry→List SV→Prop} {X:XP} (k:Nat) (hA:Ctxs A) (hd:decide (d < E.N)=true) (hk:hget H k=some (.box cs t)) (hcs:SV.concs cs=true)
  (h : ∀ q M',M.le M'→MeetsX E.P f (A (.ptr 8000 0 0 0)) [(8000,.box cs q)] M' (fun s H' _=>∃ cs',(s.conc=true∧SV.concs cs'=true)∧hget H' 8000=some (.box cs' q)∧R s cs') (fun ch H' _=>∃ cs',SV.concs cs'=true∧hget H' 8000=some (.box cs' q)∧X0 ch cs'))
  (hK : ∀ s cs',R s cs'→K ((d,true,s) :: σ) (hset k (.box cs' t) H) M) (hX : ∀ ch cs',X0 ch cs'→X ch (hset k (.box cs' t) H) M):CallX E f (A (.ptr k 0 0 0)) d K X σ H M:=by
 classical
 intro ν a w hs hh
 obtain ⟨b,T,e1,e2,e3,hbf⟩:=hget_some_blk hh hk
 let Mp:Mem:=fun j=>if j ∈ fp ν H∧j≠b then w.heap[j]? else M j
 have hle:M.le Mp:=fun j o hj=>by
  have hn:j ∉ fp ν H:=fun hf=>by rw [(hh.apart j hf).1] at hj; cases hj
  simp only [Mp]
  rw [if_neg (fun e=>hn e.1)]
  exact hj
 have hon:Mp.on w:=fun j o hj=>by
  simp only [Mp] at hj
  split at hj
  · exact hj
  · exact hh.mem j o hj
 let ν1:Nat→Value:=fun j=>if j=8000 then ν k else .bool false
 have hν1:ν1 8000=ν k:=by simp [ν1]
 have hMb:Mp b=none:=by
  simp only [Mp]
  rw [if_neg (fun e=>e.2 rfl)]
  exact (hh.apart b hbf).1
 have hh1:Heap ⟨E.P,0,E.w0,Mp⟩ ν1 [(8000,.box cs (some (ν k)))] Mp w:=by
  refine ⟨fun p hp=>?_,?_,fun j hj=>?_,hon,hh.below,Mem.le.refl _,fun j hj=>.inl hj,fun j=>?_⟩
  · simp only [List.mem_singleton] at hp
    subst hp
    exact ⟨⟨b,T,by rw [hν1]; exact e1,by rw [e2,SV.concs_vals (ν:=ν) (ν':=ν1) cs hcs]⟩,fun v hv=>by cases hv; exact hν1⟩
  · simp [fp,hν1,e1,blk?]
  · simp only [fp,List.filterMap_cons,List.filterMap_nil,hν1,e1,blk?,List.mem_singleton] at hj
    rw [hj]
    exact ⟨hMb,(hh.apart b hbf).2⟩
  · by_cases hj:j=8000
    · simp only [ν1,hj,if_true]; exact hh.one k
    · simp only [ν1,hj,if_false]; rfl
 have hc:=(h (some (ν k)) Mp hle).2 E.w0 Mp ν1 w hh1
 rw [hA (.ptr 8000 0 0 0) (.ptr k 0 0 0) ν1 ν (by simp only [SV.val,hν1])] at hc
 have key : ∀ (w':World) (ν':Nat→Value) (H':HS) (M':Mem) (cs':List SV),Heap ⟨E.P,0,E.w0,Mp⟩ ν' H' M' w'→SV.concs cs'=true→hget H' 8000=some (.box cs' (some (ν k)))→Heap E ν (hset k (.box cs' t) H) M w':=by
  intro w' ν' H' M' cs' hh' hc' hg
  obtain ⟨b2,T2,q1,q2,q3,_⟩:=hget_some_blk hh' hg
  have hbb:b2=b:=by
   have:=q3 _ rfl
   rw [q1,e1] at this
   cases this; rfl
  rw [hbb] at q2
  rw [SV.concs_vals (ν:=ν) (ν':=ν') cs' hc'] at q2
  refine hh.reboxed hk e1 q2 (fun j hj hjb=>?_) (fun j o hj=>hh'.mem j o (hh'.le0 j o (hle j o hj))) hh'.below
  have hlt:=hh.fp_lt hj
  have hj1:w.heap[j]? = some (w.heap[j]'hlt):=Array.getElem?_eq_getElem hlt
  have hj2:Mp j=some (w.heap[j]'hlt):=by
   simp only [Mp]
   rw [if_pos ⟨hj,hjb⟩]
   exact hj1
  rw [hh'.mem j _ (hh'.le0 j _ hj2),hj1]
 refine ⟨(h (some (ν k)) Mp hle).1,hc.mono fun e w' hx=>?_⟩
 rcases hx with ⟨s,H',M',ν',rfl,hh',cs',⟨c1,c2⟩,hg,hr⟩ | ⟨ch,ν',H',M',rfl,hh',cs',c2,hg,hx⟩
 · exact .inl ⟨_,rfl,_,_,M,⟨ν,hs.put (of_decide_eq_true hd) (by rw [cond_true]; exact SV.conc_val s c1),key w' ν' H' M' cs' hh' c2 hg⟩,hK s cs' hr⟩
 · exact .inr ⟨ch,rfl,ν,_,M,key w' ν' H' M' cs' hh' c2 hg,hX ch cs' hx⟩
end
end Go.X

